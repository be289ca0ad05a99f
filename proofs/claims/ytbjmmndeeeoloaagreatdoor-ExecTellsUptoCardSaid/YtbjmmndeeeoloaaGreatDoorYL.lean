/- The law ExecTells, the walk. No condition. -/
import Derived.Test.YtbjmmndeeeoloaaGreatDoorYG
import Derived.Test.YtbjmmndeeeoloaaGreatDoorYK
import Derived.Test.YtbjmmndeeeoloaaGreatDoorXL
namespace Go.Am
set_option linter.all false
open Go Go.RowKit Go.Proofs
set_option maxRecDepth 100000
set_option linter.all false
theorem szOL_map{α:Type}(f:α→Out)(w:α→Nat):∀l:List α,(∀x∈l,(f x).sz+1≤2*w x)→szOL (l.map f)+l.length≤2*(l.map w).sum
 | [],_=>by simp[szOL]
 | x::r,h=>by
  have h1:=szOL_map f w r fun y hy=>h y (List.mem_cons_of_mem _ hy)
  have h2:=h x (List.mem_cons_self ..)
  simp only[List.map_cons,szOL,List.length_cons,List.sum_cons]
  omega
theorem sz_thO{s:Sta}{kids:List Sel}(h:∀u,szOL (oL s kids u)+kids.length≤2*wL s kids u)(kd y:Int):(thO s (kids.map called) (oL s kids) kd y).sz+1≤2*thW s (wL s kids) kd y:=by
 unfold thO thW
 cases thA s kd y with
 | none=>simp[oNone,Out.sz,szOL]
 | some u =>
  have:=h u
  simp only[oMap,Out.sz,List.length_map]
  omega
theorem sz_oS(s:Sta):∀(m:Nat) (x:Sel) (t:Tg),x.sz<m→(oS s x t).sz+1≤2*wS s x t
 | 0,x,t,h=>by omega
 | m+1,x,t,h=>by
  have hz:=sz_eq x
  have hk:∀u,szOL (oL s x.kids u)+x.kids.length≤2*wL s x.kids u:=fun u=>by
   rw[oL_map,wL_map]
   exact szOL_map _ _ _ fun z hz'=>sz_oS s m z u (by have:=szL_mem hz'; omega)
  rw[oS_eq',wS_eq]
  split
  ·simp[oNum,Out.sz,szOL]
  cases hfc:fcOf s t x.name with
  | none=>simp[oNone,Out.sz,szOL]
  | some fc =>
  obtain⟨f,c⟩:=fc
  simp only
  by_cases h1:f.kind=1
  ·rw[if_pos h1,if_pos (.inl h1)]; simp[oNum,Out.sz,szOL]
  rw[if_neg h1]
  by_cases h2:f.kind=2
  ·rw[if_pos h2,if_pos (.inr h2)]; simp[oText,Out.sz,szOL]
  have h12:¬(f.kind=1∨f.kind=2):=by omega
  rw[if_neg h2,if_neg h12]
  split
  ·have:=szOL_map (thO s (x.kids.map called) (oL s x.kids) (kindOf s.types f.of)) (thW s (wL s x.kids) (kindOf s.types f.of)) (takeA x.args c.ids) fun y _=>sz_thO hk _ _
   simp only[oList,Out.sz,List.length_nil]
   omega
  cases hci:c.ids with
  | nil=>simp[oNone,Out.sz,szOL]
  | cons y r=>exact sz_thO hk _ _
theorem sz_oL(s:Sta)(l:List Sel)(u:Tg):szOL (oL s l u)+l.length≤2*wL s l u:=by
 rw[oL_map,wL_map]
 exact szOL_map _ _ _ fun z hz'=>sz_oS s (z.sz+1) z u (Nat.lt_succ_self _)
theorem sz_rtO(s:Sta)(x:Sel):(rtO s x).sz+1≤2*rtW s x:=by
 unfold rtO rtW
 cases x.args with
 | nil =>
  have:=szOL_map (thO s (x.kids.map called) (oL s x.kids) (kindOf s.types x.name)) (thW s (wL s x.kids) (kindOf s.types x.name)) (idsOf s (kindOf s.types x.name) s.things) fun y _=>sz_thO (sz_oL s x.kids) _ _
  simp only[oList,Out.sz,List.length_nil]
  omega
 | cons a r=>exact sz_thO (sz_oL s x.kids) _ _
theorem sz_qO(s:Sta)(q:List Sel):(qO s q).sz+1≤2*qW s q:=by
 have:=szOL_map (rtO s) (fun x=>rtW s x) q fun x _=>sz_rtO s x
 unfold qO qW rtWs
 simp only[oMap,Out.sz,List.length_map] at *
 omega
def oZ:Out:=.mk 0 0 [] [] []
theorem Same0_ok(id:Nat):FnOk Tryz.prog 11 [zOut.nrm,.agg [.int .i64 0,.int .i64 0,.str [],.nils,.nils]] [] id (.bool true) []:=by
 have h:=Same_ok 100 oZ oZ id (by decide) (by decide)
 rw[decide_eq_true rfl] at h
 refine FnOk.nrmA ?_
 exact h
set_option maxHeartbeats 4000000 in
theorem ExecTells_ok(s:Sta)(q:List Sel)(o:Out)(id:Nat)(hI:IdsE s)(hq8:szL q≤1099511627776)(ho8:o.sz≤1099511627776)(hok:okO o):FnOk Tryz.prog 4 [eSta s,.sl (q.map eSel),eO o] [] id (.bool true) []:=by
 have hQ:=fun id=>Query_ok s q id hq8
 have hSt:=fun id=>CheckState_ok s id hI
 have hFi:=fun id=>CheckFits_ok s.types q id hq8
 have hC:=fun id=>oCheck_ok o id ho8 hok
 have hC2:=fun id=>rCheckOut_ok o id ho8
 have hS0:=fun id=>Same0_ok id
 have hz:zOut.nrm = .agg [.int .i64 0,.int .i64 0,.str [],.sl [],.sl []]:=rfl
 have hSe:eSta s = .agg [.sl (s.types.map eTy),.sl (s.things.map eTg)]:=rfl
 rw[hz] at hS0
 rw[hSe] at hQ hSt ⊢
 rw[eO_of o] at hC hC2 ⊢
 by_cases h1:fSt s≠0
 ·have he:fExec s q=fSt s:=by unfold fExec; rw[if_pos h1]
  have hx:execO s q=zOut.nrm:=by unfold execO; rw[if_neg (by rw[he]; exact h1)]
  rw[he,hx,hz] at hQ
  refine fn_okc Tryz.func4 hcc4 (by decide) hcr4 (by simp[Tryz.ntmps4]) fun E hP hR hl hid=>?_
  simp only[cr4] at hR
  refine w_go 4000 ?_
  simp[cc4]
  (refine w_call hP rfl (hQ _) (by simp) (by simp<;>rfl) ?_; refine w_go 4000 ?_; simp)
  (refine w_call hP rfl (hSt _) (by simp) (by simp<;>rfl) ?_; refine w_go 4000 ?_; simp)
  refine goc_false (by simpa using h1) ?_
  simp
  refine goc_false (by simpa using h1) ?_
  simp
  (refine w_call hP rfl (execBegun_ok _) (by simp) (by simp<;>rfl) ?_; refine w_go 4000 ?_; simp)
  (refine w_callg hP (by simp) rfl (fun hc=>⟨hC _,by revert hc; simp; try grind,by simp⟩) ?_; refine w_go 4000 ?_; simp)
  (refine w_callg hP (by simp) rfl (fun hc=>⟨hC2 _,by revert hc; simp; try grind,by simp⟩) ?_; refine w_go 4000 ?_; simp)
  (refine w_callg hP (by simp) rfl (fun hc=>⟨hS0 _,by revert hc; simp; try grind,by simp⟩) ?_; refine w_go 4000 ?_; simp)
  rw[hR]; exact rt_end (by simp<;>rfl) [] trivial (end_pure (by simp) (by simp) (by simp))
 have h1:fSt s=0:=Classical.byContradiction h1
 rw[h1] at hSt
 by_cases h2:fValid s.types q≠0
 ·have he:fExec s q=fValid s.types q:=by unfold fExec; rw[if_neg (by simp[h1]),if_pos h2]
  have hx:execO s q=zOut.nrm:=by unfold execO; rw[if_neg (by rw[he]; exact h2)]
  rw[he,hx,hz] at hQ
  refine fn_okc Tryz.func4 hcc4 (by decide) hcr4 (by simp[Tryz.ntmps4]) fun E hP hR hl hid=>?_
  simp only[cr4] at hR
  refine w_go 4000 ?_
  simp[cc4]
  (refine w_call hP rfl (hQ _) (by simp) (by simp<;>rfl) ?_; refine w_go 4000 ?_; simp)
  (refine w_call hP rfl (hSt _) (by simp) (by simp<;>rfl) ?_; refine w_go 4000 ?_; simp)
  (refine w_call hP rfl (hFi _) (by simp) (by simp<;>rfl) ?_; refine w_go 4000 ?_; simp)
  refine goc_false (by simpa using h2) ?_
  simp
  (refine w_call hP rfl (execBegun_ok _) (by simp) (by simp<;>rfl) ?_; refine w_go 4000 ?_; simp)
  (refine w_callg hP (by simp) rfl (fun hc=>⟨hC _,by revert hc; simp; try grind,by simp⟩) ?_; refine w_go 4000 ?_; simp)
  (refine w_callg hP (by simp) rfl (fun hc=>⟨hC2 _,by revert hc; simp; try grind,by simp⟩) ?_; refine w_go 4000 ?_; simp)
  (refine w_callg hP (by simp) rfl (fun hc=>⟨hS0 _,by revert hc; simp; try grind,by simp⟩) ?_; refine w_go 4000 ?_; simp)
  rw[hR]; exact rt_end (by simp<;>rfl) [] trivial (end_pure (by simp) (by simp) (by simp))
 have h2:fValid s.types q=0:=Classical.byContradiction h2
 rw[h2] at hFi
 obtain⟨v,hV1,hV⟩:=ExecOf_ok (rtL_of h1) hI q (fValid_fits h2).2.2 (by have:=sz_query (fValid_fits h2).2.1; omega)
 rw[hSe] at hV
 by_cases h3:qW s q≤2000
 ·have he:fExec s q=0:=by unfold fExec; rw[if_neg (by simp[h1]),if_neg (by simp[h2]),if_pos h3]
  have hx:execO s q=eO (qO s q):=by unfold execO; rw[if_pos he]
  have hsz:=sz_qO s q
  have hS:=fun id=>Same_ok ((qO s q).sz+1) (qO s q) (qO s q) id (by omega) (by omega)
  rw[decide_eq_true rfl] at hS
  rw[he,hx] at hQ
  rw[hV1 h3,decide_eq_true h3] at hV
  rw[eO_of (qO s q)] at hQ hV hS
  generalize (qO s q).keys=ks at *
  generalize (qO s q).kids=ls at *
  refine fn_okc Tryz.func4 hcc4 (by decide) hcr4 (by simp[Tryz.ntmps4]) fun E hP hR hl hid=>?_
  simp only[cr4] at hR
  refine w_go 4000 ?_
  simp[cc4]
  (refine w_call hP rfl (hQ _) (by simp) (by simp<;>rfl) ?_; refine w_go 4000 ?_; simp)
  (refine w_call hP rfl (hSt _) (by simp) (by simp<;>rfl) ?_; refine w_go 4000 ?_; simp)
  (refine w_call hP rfl (hFi _) (by simp) (by simp<;>rfl) ?_; refine w_go 4000 ?_; simp)
  (refine w_call hP rfl (hV _) (by simp) (by simp<;>rfl) ?_; refine w_go 4000 ?_; simp)
  (refine w_call hP rfl (execBegun_ok _) (by simp) (by simp<;>rfl) ?_; refine w_go 4000 ?_; simp)
  (refine w_callg hP (by simp) rfl (fun hc=>⟨hC _,by revert hc; simp; try grind,by simp⟩) ?_; refine w_go 4000 ?_; simp)
  (refine w_callg hP (by simp) rfl (fun hc=>⟨hC2 _,by revert hc; simp; try grind,by simp⟩) ?_; refine w_go 4000 ?_; simp)
  (refine w_callg hP (by simp) rfl (fun hc=>⟨hS _,by revert hc; simp; try grind,by simp⟩) ?_; refine w_go 4000 ?_; simp)
  rw[hR]; exact rt_end (by simp<;>rfl) [] trivial (end_pure (by simp) (by simp) (by simp))
 ·have he:fExec s q=2:=by unfold fExec; rw[if_neg (by simp[h1]),if_neg (by simp[h2]),if_neg h3]
  have hx:execO s q=zOut.nrm:=by unfold execO; rw[if_neg (by rw[he]; decide)]
  rw[he,hx,hz] at hQ
  rw[decide_eq_false h3] at hV
  rw[eO_of v] at hV
  refine fn_okc Tryz.func4 hcc4 (by decide) hcr4 (by simp[Tryz.ntmps4]) fun E hP hR hl hid=>?_
  simp only[cr4] at hR
  refine w_go 4000 ?_
  simp[cc4]
  (refine w_call hP rfl (hQ _) (by simp) (by simp<;>rfl) ?_; refine w_go 4000 ?_; simp)
  (refine w_call hP rfl (hSt _) (by simp) (by simp<;>rfl) ?_; refine w_go 4000 ?_; simp)
  (refine w_call hP rfl (hFi _) (by simp) (by simp<;>rfl) ?_; refine w_go 4000 ?_; simp)
  (refine w_call hP rfl (hV _) (by simp) (by simp<;>rfl) ?_; refine w_go 4000 ?_; simp)
  (refine w_call hP rfl (execBegun_ok _) (by simp) (by simp<;>rfl) ?_; refine w_go 4000 ?_; simp)
  (refine w_callg hP (by simp) rfl (fun hc=>⟨hC _,by revert hc; simp; try grind,by simp⟩) ?_; refine w_go 4000 ?_; simp)
  (refine w_callg hP (by simp) rfl (fun hc=>⟨hC2 _,by revert hc; simp; try grind,by simp⟩) ?_; refine w_go 4000 ?_; simp)
  (refine w_callg hP (by simp) rfl (fun hc=>⟨hS0 _,by revert hc; simp; try grind,by simp⟩) ?_; refine w_go 4000 ?_; simp)
  rw[hR]; exact rt_end (by simp<;>rfl) [] trivial (end_pure (by simp) (by simp) (by simp))
end Go.Am
