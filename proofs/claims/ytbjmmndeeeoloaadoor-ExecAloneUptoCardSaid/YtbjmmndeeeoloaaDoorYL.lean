/- The law ExecTells, the walk. No condition. -/
import Derived.Test.YtbjmmndeeeoloaaDoorYG
import Derived.Test.YtbjmmndeeeoloaaDoorYK
import Derived.Test.YtbjmmndeeeoloaaDoorXL
namespace Go.Am
set_option linter.all false
open Go Go.RowKit Go.Proofs
set_option maxRecDepth 100000
set_option linter.all false
theorem szOL_map{α:Type}(f:α→Out)(w:α→Nat):∀l:List α,(∀x∈l,(f x).sz+1≤2*w x)→szOL (l.map f)+l.length≤2*(l.map w).sum
 | [],_=>by simp[szOL]
 | x::r,h=>by
  have h1:=szOL_map f w r fun y hy=>h y (List.mem_cons_of_mem _ hy)
  have h2:=h x (List.mem_cons_self ..)
  simp only[List.map_cons,szOL,List.length_cons,List.sum_cons]
  omega
theorem sz_thO{s:Sta}{kids:List Sel}(h:∀u,szOL (oL s kids u)+kids.length≤2*wL s kids u)(kd y:Int):(thO s (kids.map called) (oL s kids) kd y).sz+1≤2*thW s (wL s kids) kd y:=by
 unfold thO thW
 cases thA s kd y with
 | none=>simp[oNone,Out.sz,szOL]
 | some u =>
  have:=h u
  simp only[oMap,Out.sz,List.length_map]
  omega
theorem sz_oS(s:Sta):∀(m:Nat) (x:Sel) (t:Tg),x.sz<m→(oS s x t).sz+1≤2*wS s x t
 | 0,x,t,h=>by omega
 | m+1,x,t,h=>by
  have hz:=sz_eq x
  have hk:∀u,szOL (oL s x.kids u)+x.kids.length≤2*wL s x.kids u:=fun u=>by
   rw[oL_map,wL_map]
   exact szOL_map _ _ _ fun z hz'=>sz_oS s m z u (by have:=szL_mem hz'; omega)
  rw[oS_eq',wS_eq]
  split
  ·simp[oNum,Out.sz,szOL]
  cases hfc:fcOf s t x.name with
  | none=>simp[oNone,Out.sz,szOL]
  | some fc =>
  obtain⟨f,c⟩:=fc
  simp only
  by_cases h1:f.kind=1
  ·rw[if_pos h1,if_pos (.inl h1)]; simp[oNum,Out.sz,szOL]
  rw[if_neg h1]
  by_cases h2:f.kind=2
  ·rw[if_pos h2,if_pos (.inr h2)]; simp[oText,Out.sz,szOL]
  have h12:¬(f.kind=1∨f.kind=2):=by omega
  rw[if_neg h2,if_neg h12]
  split
  ·have:=szOL_map (thO s (x.kids.map called) (oL s x.kids) (kindOf s.types f.of)) (thW s (wL s x.kids) (kindOf s.types f.of)) (takeA x.args c.ids) fun y _=>sz_thO hk _ _
   simp only[oList,Out.sz,List.length_nil]
   omega
  cases hci:c.ids with
  | nil=>simp[oNone,Out.sz,szOL]
  | cons y r=>exact sz_thO hk _ _
theorem sz_oL(s:Sta)(l:List Sel)(u:Tg):szOL (oL s l u)+l.length≤2*wL s l u:=by
 rw[oL_map,wL_map]
 exact szOL_map _ _ _ fun z hz'=>sz_oS s (z.sz+1) z u (Nat.lt_succ_self _)
theorem sz_rtO(s:Sta)(x:Sel):(rtO s x).sz+1≤2*rtW s x:=by
 unfold rtO rtW
 cases x.args with
 | nil =>
  have:=szOL_map (thO s (x.kids.map called) (oL s x.kids) (kindOf s.types x.name)) (thW s (wL s x.kids) (kindOf s.types x.name)) (idsOf s (kindOf s.types x.name) s.things) fun y _=>sz_thO (sz_oL s x.kids) _ _
  simp only[oList,Out.sz,List.length_nil]
  omega
 | cons a r=>exact sz_thO (sz_oL s x.kids) _ _
theorem sz_qO(s:Sta)(q:List Sel):(qO s q).sz+1≤2*qW s q:=by
 have:=szOL_map (rtO s) (fun x=>rtW s x) q fun x _=>sz_rtO s x
 unfold qO qW rtWs
 simp only[oMap,Out.sz,List.length_map] at *
 omega
end Go.Am
