/- Parts of the proof: an abstract machine for Go functions, and what functions of the program give back (Sx2, Qx1, Qx2). No condition. -/
import Derived.Test.YtgfmjhmjnnpcgaaGreatDoorYH
import Derived.Test.YtgfmjhmjnnpcgaaGreatDoorXI
namespace Go.Am
set_option linter.all false
open Go Go.RowKit Go.Proofs
set_option maxRecDepth 100000
set_option linter.all false
theorem once_iff{α:Type}(nm:α→List UInt8)(l:List α):(∀(i:Nat) (x:α),l[i]?=some x→∀y∈l.take i,nm y≠nm x)↔(l.map nm).Nodup:=by
 constructor
 ·intro h
  rw[List.nodup_iff_pairwise_ne,List.pairwise_map,List.pairwise_iff_getElem]
  intro i j hi hj hij
  refine h j l[j] (List.getElem?_eq_getElem hj) l[i] ?_
  rw[List.mem_take_iff_getElem]
  exact⟨i,by omega,rfl⟩
 ·intro h i x hx y hy
  rw[List.nodup_iff_pairwise_ne,List.pairwise_map,List.pairwise_iff_getElem] at h
  obtain⟨j,hj,e⟩:=List.mem_take_iff_getElem.1 hy
  have hi:i<l.length:=by
   apply Classical.byContradiction
   intro q
   rw[List.getElem?_eq_none (by omega)] at hx; cases hx
  rw[List.getElem?_eq_getElem hi] at hx
  injection hx with hx
  rw[←e,←hx]
  exact h j i (by omega) hi (by omega)
theorem once_rev{α:Type}{nm:α→List UInt8}{l:List α}(h:∀(i:Nat) (x:α),l[i]?=some x→∀y∈l.take i,nm y≠nm x):∀(i:Nat) (x:α),l.reverse[i]?=some x→∀y∈l.reverse.take i,nm y≠nm x:=by
 rw[once_iff] at h ⊢
 rw[List.map_reverse]
 exact List.Pairwise.imp (fun q=>Ne.symm q) (List.pairwise_reverse.2 (List.Pairwise.imp (fun q=>Ne.symm q) h)) |>.imp fun q=>Ne.symm q
theorem any_no{α:Type}{nm:α→List UInt8}{l:List α}{n:List UInt8}:(l.any fun x=>nm x==n)=false↔∀y∈l,nm y≠n:=by simp
end Go.Am
namespace Go.Am
set_option linter.all false
open Go Go.RowKit Go.Proofs
set_option maxRecDepth 100000
set_option linter.all false
def isV(l:List Tk):Bool:=match l with
 | t::_=>t.kind==2||t.kind==3
 | []=>false
def agOf(nm:List UInt8)(l:List Tk):Ag:=match l with
 | t::_=>⟨nm,t.kind==3,t.text,t.n⟩
 | []=>⟨nm,false,[],0⟩
def pAg(l:List Tk):Option (Ag×List Tk):=if isW l=true∧isS (l.drop 1) 58=true∧isV (l.drop 2)=true then some (agOf (txt l) (l.drop 2),l.drop 3) else none
def pAgs:Nat→List Ag→List Tk→Option (List Ag×List Tk)
 | 0,_,_=>none
 | n+1,acc,l=>match pAg l with
  | none=>none
  | some p=>if isS p.2 41=true then some (acc++[p.1],p.2.drop 1) else pAgs n (acc++[p.1]) p.2
def pArgs(l:List Tk):Option (List Ag×List Tk):=if isS l 40=true then pAgs (l.length+1) [] (l.drop 1) else some ([],l)
def pHd(l:List Tk):Option (List UInt8×List UInt8×List Tk) :=
 if isW l=true then (if isS (l.drop 1) 58=true then (if isW (l.drop 2)=true then some (txt l,txt (l.drop 2),l.drop 3) else none) else some ([],txt l,l.drop 1)) else none
mutual
def pSel:Nat→List Tk→Option (Sel×List Tk)
 | 0,_=>none
 | n+1,l=>match pHd l with
  | none=>none
  | some (a,nm,u)=>match pArgs u with
   | none=>none
   | some (xs,v)=>if isS v 123=true then (match pSome n v with
     | none=>none
     | some (k,w)=>some (.mk a nm xs k,w)) else some (.mk a nm xs [],v)
def pSome:Nat→List Tk→Option (List Sel×List Tk)
 | 0,_=>none
 | n+1,l=>if isS l 123=true then pSels n [] (l.drop 1) else none
def pSels:Nat→List Sel→List Tk→Option (List Sel×List Tk)
 | 0,_,_=>none
 | n+1,acc,l=>match pSel n l with
  | none=>none
  | some (s,u)=>if isS u 125=true then some (acc++[s],u.drop 1) else pSels n (acc++[s]) u
end
def selsOf(l:List Tk):Option (List Sel):=match pSome (3*l.length+3) l with
 | none=>none
 | some (q,u)=>if u=[] then some q else none
def fQryT(o:Option (List Sel)):Except Int (List Sel):=match o with
 | none=>.error 1
 | some q=>if fQuery q=0 then .ok q else .error (fQuery q)
def fQry(s:List UInt8):Except Int (List Sel):=match fLex s with
 | .error e=>.error e
 | .ok l=>fQryT (selsOf l)
def tkV(a:Ag):Tk:=if a.isText=true then ⟨3,a.text,0⟩ else ⟨2,[],a.n⟩
def tkAg(a:Ag):List Tk:=[tkW a.name,tkS 58,tkV a]
def tkHd(a nm:List UInt8):List Tk:=if a≠[] then [tkW a,tkS 58,tkW nm] else [tkW nm]
def tkArgs(x:List Ag):List Tk:=if x≠[] then tkS 40::(x.flatMap tkAg++[tkS 41]) else []
mutual
def tkSel:Sel→List Tk
 | .mk a n x k=>tkHd a n++tkArgs x++tkKids k
def tkKids:List Sel→List Tk
 | []=>[]
 | s::r=>tkS 123::(tkSel s++tkL r++[tkS 125])
def tkL:List Sel→List Tk
 | []=>[]
 | s::r=>tkSel s++tkL r
end
def tkSels(l:List Sel):List Tk:=tkS 123::(tkL l++[tkS 125])
theorem tkKids_eq(k:List Sel):tkKids k=if k≠[] then tkSels k else []:=by
 cases k with
 | nil=>rfl
 | cons s r=>simp[tkKids,tkSels,tkL]
def AgP(a:Ag):Prop:=fName a.name=0∧fArg a=0
mutual
def SelP:Sel→Prop
 | .mk a n x k=>(a≠[]→fName a=0)∧fName n=0∧(∀y∈x,AgP y)∧SelsP k
def SelsP:List Sel→Prop
 | []=>True
 | s::r=>SelP s∧SelsP r
end
theorem arg_ok{a:Ag}(h:fArg a=0):(a.isText=true∧a.n=0∧a.text.length≤40)∨(a.isText=false∧a.text=[]∧-999999999≤a.n∧a.n≤999999999):=by
 unfold fArg at h
 obtain⟨h1,h⟩:=ite0 h (by decide)
 obtain⟨h2,h⟩:=ite0 h (by decide)
 obtain⟨h3,_⟩:=ite0 h (by decide)
 have h3:=Classical.byContradiction h3
 cases ht:a.isText with
 | true =>
  refine .inl ⟨rfl,?_,by omega⟩
  apply Classical.byContradiction
  intro q
  exact h1 (.inl ⟨ht,q⟩)
 | false =>
  refine .inr ⟨rfl,?_,h3⟩
  apply Classical.byContradiction
  intro q
  exact h1 (.inr ⟨ht,q⟩)
end Go.Am
namespace Go.Am
set_option linter.all false
open Go Go.RowKit Go.Proofs
set_option maxRecDepth 100000
set_option linter.all false
theorem fChkL_zero:∀(l ah:List Sel),fChkL l ah=0↔∀(i:Nat) (s:Sel),l[i]?=some s→fSel1 s (ah++l.take i)=0∧fChkK s=0
 | [],ah=>by simp[fChkL]
 | s::r,ah=>by
  have ih:=fChkL_zero r (ah++[s])
  constructor
  ·intro h
   simp only[fChkL] at h
   obtain⟨h1,h⟩:=iteS h
   obtain⟨h2,h⟩:=iteS h
   intro i x hx
   cases i with
   | zero=>injection hx with hx; rw[←hx]; simpa using⟨h1,h2⟩
   | succ i =>
    have:=ih.1 h i x hx
    simpa using this
  ·intro h
   have h0:=h 0 s rfl
   rw[List.take_zero,List.append_nil] at h0
   simp only[fChkL]
   rw[if_neg (by simpa using h0.1),if_neg (by simpa using h0.2)]
   refine ih.2 fun i x hx=>?_
   have:=h (i+1) x hx
   simpa using this
structure SelOk(s:Sel)(ah:List Sel):Prop where
 name:fName s.name=0
 al:s.alias≠[]→fName s.alias=0
 args:fArgs s.args=0
 once:(ah.any fun x=>called x==called s)=false
theorem fSel1_zero{s:Sel}{ah:List Sel}:fSel1 s ah=0↔SelOk s ah:=by
 constructor
 ·intro h
  unfold fSel1 at h
  obtain⟨h1,h⟩:=iteS h
  split at h
  ·rename_i q; exact (q.2 h).elim
  rename_i h2
  obtain⟨h3,h⟩:=iteS h
  obtain⟨h4,_⟩:=ite0 h (by decide)
  refine⟨h1,fun q=>Classical.byContradiction fun q2=>h2 ⟨q,q2⟩,h3,by simpa using h4⟩
 ·rintro⟨h1,h2,h3,h4⟩
  unfold fSel1
  rw[if_neg (by simpa using h1),if_neg (by rintro⟨q1,q2⟩; exact q2 (h2 q1)),if_neg (by simpa using h3),if_neg (by rw[h4]; simp)]
theorem fArgs_all{l:List Ag}(h:fArgs l=0):l.length≤5∧∀a∈l,AgP a:=by
 unfold fArgs at h
 obtain⟨h1,h⟩:=ite0 h (by decide)
 refine⟨by omega,fun a ha=>?_⟩
 obtain⟨i,hi⟩:=mem_ix ha
 have:=(fIx_zero _ _ _).1 h i a hi
 rw[Nat.zero_add] at this
 unfold fArg1 at this
 obtain⟨h2,h3⟩:=iteS this
 obtain⟨_,h4⟩:=ite0 h3 (by decide)
 exact⟨h2,h4⟩
mutual
theorem selP_of:∀(s:Sel) (ah:List Sel),fSel1 s ah=0→fChkK s=0→SelP s
 | .mk a n x k,ah,h1,h2=>by
  have h:=fSel1_zero.1 h1
  exact⟨h.al,h.name,(fArgs_all h.args).2,selsP_of k [] h2⟩
theorem selsP_of:∀(l ah:List Sel),fChkL l ah=0→SelsP l
 | [],_,_=>trivial
 | s::r,ah,h=>by
  simp only[fChkL] at h
  obtain⟨h1,h⟩:=iteS h
  obtain⟨h2,h⟩:=iteS h
  exact⟨selP_of s ah h1 h2,selsP_of r _ h⟩
end
theorem tkV_ok{a:Ag}(h:fArg a=0):fTk (tkV a)=0:=by
 rcases arg_ok h with⟨h1,h2,h3⟩|⟨h1,h2,h3⟩
 ·unfold tkV; rw[if_pos h1]; simp[fTk]; omega
 ·unfold tkV; rw[if_neg (by simp[h1])]; simp[fTk]; omega
theorem tkS_ok{c:UInt8}(h:sgC c=true):fTk (tkS c)=0:=by simp[fTk,tkS,h]
def AllT(l:List Tk):Prop:=∀t∈l,fTk t=0
theorem AllT.app{a b:List Tk}(h1:AllT a)(h2:AllT b):AllT (a++b):=fun t ht=>by
 rcases List.mem_append.1 ht with h|h
 ·exact h1 t h
 ·exact h2 t h
theorem AllT.cons{a:Tk}{b:List Tk}(h1:fTk a=0)(h2:AllT b):AllT (a::b):=fun t ht=>by
 rcases List.mem_cons.1 ht with rfl|h
 ·exact h1
 ·exact h2 t h
theorem AllT.nil:AllT []:=fun t ht=>by cases ht
theorem argsT_ok{x:List Ag}(h:∀y∈x,AgP y):AllT (tkArgs x):=by
 unfold tkArgs
 split
 ·refine .cons (tkS_ok (by decide)) (.app ?_ (.cons (tkS_ok (by decide)) .nil))
  intro t ht
  obtain⟨a,ha,hm⟩:=List.mem_flatMap.1 ht
  exact (AllT.cons (tkW_ok (h a ha).1) (.cons (tkS_ok (by decide)) (.cons (tkV_ok (h a ha).2) .nil))) t hm
 ·exact .nil
mutual
theorem sel_tok:∀s:Sel,SelP s→AllT (tkSel s)
 | .mk a n x k,h=>by
  have h1:AllT (tkHd a n):=by
   unfold tkHd
   split
   ·rename_i ha; exact .cons (tkW_ok (h.1 ha)) (.cons (tkS_ok (by decide)) (.cons (tkW_ok h.2.1) .nil))
   ·exact .cons (tkW_ok h.2.1) .nil
  unfold tkSel
  exact (h1.app (argsT_ok h.2.2.1)).app (kids_tok k h.2.2.2)
theorem kids_tok:∀k:List Sel,SelsP k→AllT (tkKids k)
 | [],_=>.nil
 | s::r,h=>by
  unfold tkKids
  exact .cons (tkS_ok (by decide)) (((sel_tok s h.1).app (l_tok r h.2)).app (.cons (tkS_ok (by decide)) .nil))
theorem l_tok:∀k:List Sel,SelsP k→AllT (tkL k)
 | [],_=>.nil
 | s::r,h=>by
  unfold tkL
  exact (sel_tok s h.1).app (l_tok r h.2)
end
theorem fQuery_zero{l:List Sel}:fQuery l=0↔l≠[]∧manyL 5 l≤40∧deepL 5 l≤5∧fChkL l []=0:=by
 unfold fQuery
 constructor
 ·intro h
  obtain⟨h1,h⟩:=ite0 h (by decide)
  obtain⟨h2,h⟩:=ite0 h (by decide)
  exact⟨h1,by omega,by omega,h⟩
 ·rintro⟨h1,h2,h3,h4⟩
  rw[if_neg h1,if_neg (by omega),h4]
theorem qry_tok{l:List Sel}(h:fQuery l=0):AllT (tkSels l) :=
 .cons (tkS_ok (by decide)) ((l_tok l (selsP_of l [] (fQuery_zero.1 h).2.2.2)).app (.cons (tkS_ok (by decide)) .nil))
theorem fold_le{f:Sel→Nat}{k:Nat}:∀(l:List Sel) (a:Nat),l.foldl (fun d s=>max d (f s)) a≤k↔a≤k∧∀s∈l,f s≤k
 | [],a=>by simp
 | s::r,a=>by
  have:=fold_le (f:=f) (k:=k) r (max a (f s))
  rw[List.foldl_cons,this]
  simp only[List.mem_cons,forall_eq_or_imp]
  constructor
  ·rintro⟨h1,h2⟩; exact⟨by omega,by omega,h2⟩
  ·rintro⟨h1,h2,h3⟩; exact⟨by omega,h3⟩
theorem deep_leK{m k:Nat}{l:List Sel}:deepL (m+1) l≤k↔min l.length 1≤k∧∀s∈l,deepL m s.kids+1≤k:=fold_le (f:=fun s=>deepL m s.kids+1) l _
theorem deep_minK(m:Nat)(l:List Sel):min l.length 1≤deepL m l:=by
 cases m with
 | zero=>exact Nat.le_refl _
 | succ m=>exact (deep_leK.1 (Nat.le_refl _)).1
theorem deep_kidK{m:Nat}{l:List Sel}{s:Sel}(h:s∈l):deepL m s.kids+1≤deepL (m+1) l:=(deep_leK.1 (Nat.le_refl _)).2 s h
theorem deep_upK:∀(m:Nat) (l:List Sel),deepL m l≤m→deepL (m+1) l=deepL m l∧manyL (m+1) l=manyL m l
 | 0,l,h=>by
  have:l=[]:=by
   have:min l.length 1≤0:=h
   exact List.eq_nil_of_length_eq_zero (by omega)
  subst this
  exact⟨rfl,rfl⟩
 | m+1,l,h=>by
  have ih:∀s∈l,deepL (m+1) s.kids=deepL m s.kids∧manyL (m+1) s.kids=manyL m s.kids:=fun s hs=>deep_upK m s.kids (by have:=deep_kidK (m:=m) hs; omega)
  constructor
  ·apply Nat.le_antisymm
   ·refine deep_leK.2 ⟨deep_minK _ _,fun s hs=>?_⟩
    rw[(ih s hs).1]; exact deep_kidK hs
   ·refine deep_leK.2 ⟨deep_minK _ _,fun s hs=>?_⟩
    rw[←(ih s hs).1]; exact deep_kidK hs
  ·show l.length+(l.map fun s=>manyL (m+1) s.kids).sum=l.length+(l.map fun s=>manyL m s.kids).sum
   rw[List.map_congr_left fun s hs=>(ih s hs).2]
theorem sum_memK{f:Sel→Nat}:∀{l:List Sel} {s:Sel},s∈l→f s≤(l.map f).sum
 | x::l,s,h=>by
  rw[List.map_cons,List.sum_cons]
  rcases List.mem_cons.1 h with rfl|h
  ·omega
  ·have:=sum_memK (f:=f) h; omega
theorem chk_memK{l:List Sel}(h:fChkL l []=0){s:Sel}(hs:s∈l):(∃ah,fSel1 s ah=0)∧fChkK s=0:=by
 obtain⟨i,hi⟩:=mem_ix hs
 have:=(fChkL_zero l []).1 h i s hi
 exact⟨⟨_,this.1⟩,this.2⟩
theorem qry_one{l:List Sel}(h:fQuery l=0){s:Sel}(hs:s∈l):fQuery [s]=0:=by
 obtain⟨h1,h2,h3,h4⟩:=fQuery_zero.1 h
 obtain⟨⟨ah,c1⟩,c2⟩:=chk_memK h4 hs
 have m1:l.length+(l.map fun s=>manyL 4 s.kids).sum≤40:=h2
 have m2:manyL 4 s.kids≤(l.map fun s=>manyL 4 s.kids).sum:=sum_memK (f:=fun s=>manyL 4 s.kids) hs
 have m3:=szL_len l
 have m4:1≤l.length:=by cases l with|nil=>cases hs|cons x r=>simp
 have d1:deepL 4 s.kids+1≤deepL 5 l:=deep_kidK hs
 refine fQuery_zero.2 ⟨by simp,?_,?_,?_⟩
 ·show 1+(manyL 4 s.kids+0)≤40
  omega
 ·refine deep_leK.2 ⟨by simp,fun x hx=>?_⟩
  obtain rfl:=List.mem_singleton.1 hx
  omega
 ·refine (fChkL_zero _ _).2 fun i x hx=>?_
  cases i with
  | zero =>
   injection hx with hx
   subst hx
   have hk:=fSel1_zero.1 c1
   exact⟨fSel1_zero.2 ⟨hk.name,hk.al,hk.args,rfl⟩,c2⟩
  | succ i=>simp at hx
theorem qry_kids{l:List Sel}(h:fQuery l=0){s:Sel}(hs:s∈l)(hk:s.kids≠[]):fQuery s.kids=0:=by
 obtain⟨h1,h2,h3,h4⟩:=fQuery_zero.1 h
 obtain⟨_,c2⟩:=chk_memK h4 hs
 have m1:l.length+(l.map fun s=>manyL 4 s.kids).sum≤40:=h2
 have m2:manyL 4 s.kids≤(l.map fun s=>manyL 4 s.kids).sum:=sum_memK (f:=fun s=>manyL 4 s.kids) hs
 have d1:deepL 4 s.kids+1≤deepL 5 l:=deep_kidK hs
 have u0:=deep_upK 4 s.kids (by omega)
 have u1:deepL 5 s.kids=deepL 4 s.kids:=u0.1
 have u2:manyL 5 s.kids=manyL 4 s.kids:=u0.2
 rw[fChkK_eq] at c2
 exact fQuery_zero.2 ⟨hk,by rw[u2]; omega,by rw[u1]; omega,c2⟩
theorem qry_turn{l:List Sel}(h:fQuery l=0):fQuery l.reverse=0:=by
 obtain⟨h1,h2,h3,h4⟩:=fQuery_zero.1 h
 refine fQuery_zero.2 ⟨by simpa using h1,?_,?_,?_⟩
 ·show l.reverse.length+(l.reverse.map fun s=>manyL 4 s.kids).sum≤40
  rw[List.length_reverse,List.map_reverse,List.sum_reverse]
  exact h2
 ·have:=deep_leK.1 h3
  exact deep_leK.2 ⟨by simpa using this.1,fun s hs=>this.2 s (List.mem_reverse.1 hs)⟩
 ·have hz:=(fChkL_zero l []).1 h4
  have ho:∀(i:Nat) (x:Sel),l[i]?=some x→∀y∈l.take i,called y≠called x:=fun i x hx=>any_no.1 (fSel1_zero.1 (hz i x hx).1).once
  refine (fChkL_zero _ _).2 fun i x hx=>?_
  obtain⟨j,hj⟩:=mem_ix (List.mem_reverse.1 (List.mem_of_getElem? hx))
  obtain⟨q1,q2⟩:=hz j x hj
  have hk:=fSel1_zero.1 q1
  exact⟨fSel1_zero.2 ⟨hk.name,hk.al,hk.args,any_no.2 (once_rev ho i x hx)⟩,q2⟩
end Go.Am
