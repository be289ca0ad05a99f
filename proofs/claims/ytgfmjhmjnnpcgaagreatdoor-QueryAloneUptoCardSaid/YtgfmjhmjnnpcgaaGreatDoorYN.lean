/- Readers of tokens: query.Read. No condition. -/
import Derived.Test.YtgfmjhmjnnpcgaaGreatDoorYM
import Derived.Test.YtgfmjhmjnnpcgaaGreatDoorYI
namespace Go.Am
set_option linter.all false
open Go Go.RowKit Go.Proofs
set_option maxRecDepth 100000
set_option linter.all false
theorem szL_snoc(l:List Sel)(s:Sel):szL (l++[s])=szL l+s.sz:=by
 induction l with
 | nil=>simp[szL]
 | cons x r ih=>simp only[List.cons_append,szL,ih]; omega
theorem pAgs_sz:∀(n:Nat) (acc:List Ag) (t u:List Tk) (l:List Ag),pAgs n acc t=some (l,u)→l.length+u.length≤acc.length+t.length
 | 0,_,_,_,_,h=>by cases h
 | n+1,acc,t,u,l,h=>by
  simp only[pAgs] at h
  split at h
  ·cases h
  rename_i p hp
  have h1:=pAg_lt (a:=p.1) (u:=p.2) hp
  split at h
  ·simp only[Option.some.injEq,Prod.mk.injEq] at h
   rw[←h.1,←h.2,List.length_drop]; simp; omega
  ·have:=pAgs_sz n _ _ _ _ h
   simp at this; omega
theorem pArgs_sz{t u:List Tk}{l:List Ag}(h:pArgs t=some (l,u)):l.length+u.length≤t.length:=by
 unfold pArgs at h
 split at h
 ·have:=pAgs_sz _ _ _ _ _ h
  rw[List.length_drop] at this; simp at this; omega
 ·simp only[Option.some.injEq,Prod.mk.injEq] at h
  rw[←h.1,h.2]; simp
theorem pSel_szs:∀n:Nat,(∀t s u,pSel n t=some (s,u)→s.sz+u.length≤t.length)∧(∀t s u,pSome n t=some (s,u)→szL s+u.length≤t.length)∧(∀acc t s u,pSels n acc t=some (s,u)→szL s+u.length≤szL acc+t.length)
 | 0=>⟨fun _ _ _ h=>by simp[pSel] at h,fun _ _ _ h=>by simp[pSome] at h,fun _ _ _ _ h=>by simp[pSels] at h⟩
 | n+1=>by
  obtain⟨h1,h2,h3⟩:=pSel_szs n
  refine⟨fun t s u h=>?_,fun t s u h=>?_,fun acc t s u h=>?_⟩
  ·simp only[pSel] at h
   split at h
   ·cases h
   rename_i a nm v hv
   have e1:=pHd_lt hv
   split at h
   ·cases h
   rename_i xs w hw
   have e2:=pArgs_sz hw
   split at h
   ·split at h
    ·cases h
    rename_i k y hy
    have:=h2 _ _ _ hy
    simp only[Option.some.injEq,Prod.mk.injEq] at h
    rw[←h.1,←h.2]; simp only[Sel.sz]; omega
   ·simp only[Option.some.injEq,Prod.mk.injEq] at h
    rw[←h.1,←h.2]; simp only[Sel.sz,szL]; omega
  ·simp only[pSome] at h
   split at h
   ·have:=h3 _ _ _ _ h
    rw[List.length_drop] at this; simp only[szL] at this; omega
   ·cases h
  ·simp only[pSels] at h
   split at h
   ·cases h
   rename_i s' v hv
   have e1:=h1 _ _ _ hv
   split at h
   ·simp only[Option.some.injEq,Prod.mk.injEq] at h
    rw[←h.1,←h.2,List.length_drop,szL_snoc]; omega
   ·have:=h3 _ _ _ _ h
    rw[szL_snoc] at this; omega
def prQ(z:List Tk):Option (AV×List Tk):=selsR (pSome (3*z.length+3) z)
theorem prQ_pure(z:List Tk)(v:AV)(u:List Tk)(h:prQ z=some (v,u)):v.pureB=true:=by
 unfold prQ selsR at h
 obtain⟨p,hp,h2⟩:=Option.map_eq_some_iff.1 h
 simp only[Prod.mk.injEq] at h2
 rw[←h2.1]; simp[AV.pureB]
theorem qdo_ok(z:List Tk)(J K id:Nat)(d:J≠K)(h8:z.length≤300):FnE Tryz.prog 66 [.ptr J 0 0,.ptr K 0 0] [(J,tB z z),(K,lK .nils)] id (doR J K z (prQ z)):=by
 have hS:=fun id=>(one_is (3*z.length+3)).2 z z J id (by omega) (by omega)
 unfold prQ
 cases hp:pSome (3*z.length+3) z with
 | none =>
  rw[hp] at hS
  change ∀id,FnE _ _ _ _ _ (.error (erV 1)) at hS
  show FnE _ _ _ _ _ (.error (erV 1))
  rw[tB_eq] at *
  rw[lK_eq]
  refine fn_okE Tryz.func66 hcc66 (by decide) hcr66 (by simp[Tryz.ntmps66]) fun E hP hR hPn hl hid hB hu=>?_
  simp only[cr66] at hR
  refine w_go 4000 ?_
  simp[cc66]
  have hJ:=hl (J,_) (List.mem_cons_self ..)
  simp only at hJ
  have J1:=lf hJ
  have hK:=hl (K,_) (List.mem_cons_of_mem _ (List.mem_cons_self ..))
  simp only at hK
  have K1:=lf hK
  refine w_callE hP rfl (hS _) (by simp[J1,K1,d,Ne.symm d]) (by simp[J1,K1,d,Ne.symm d]<;>rfl) (fun pv hpv=>⟨by simp[J1,K1,d,Ne.symm d],by injection hpv with hpv; subst hpv; exact hPn _ _ (rfl) rfl (by simp[J1,K1,d,Ne.symm d])⟩) (fun v wr h=>by cases h)
 | some q =>
  obtain⟨ss,u⟩:=q
  rw[hp] at hS
  have hS:∀id,FnOk Tryz.prog 67 [.ptr J 0 0] [(J,tB z z)] id (.sl (ss.map eSel)) [(J,some (tB z u))]:=hS
  show FnOk _ _ _ _ _ (.tup []) [(J,some (tB z u)),(K,some (lK (.sl (ss.map eSel))))]
  rw[tB_eq,tB_eq] at hS
  rw[tB_eq,tB_eq,lK_eq,lK_eq]
  refine fn_okc Tryz.func66 hcc66 (by decide) hcr66 (by simp[Tryz.ntmps66]) fun E hP hR hl hid=>?_
  simp only[cr66] at hR
  refine w_go 4000 ?_
  simp[cc66]
  have hJ:=hl (J,_) (List.mem_cons_self ..)
  simp only at hJ
  have J1:=lf hJ
  have hK:=hl (K,_) (List.mem_cons_of_mem _ (List.mem_cons_self ..))
  simp only at hK
  have K1:=lf hK
  (refine w_call hP rfl (hS _) (by simp[J1,K1,d,Ne.symm d]) (by simp[J1,K1,d,Ne.symm d]<;>rfl) ?_; refine w_go 4000 ?_; simp[J1,K1,d,Ne.symm d])
  have hrn:rnOk []:=by simp[J1,K1,d,Ne.symm d,idO hid]
  rw[hR]
  refine rt_end (by simp<;>rfl) [] hrn ⟨?_,?_,?_,?_,?_,?_⟩<;>(try simp[J1,K1,d,Ne.symm d,idO hid])
def qryV:Except Int (List Sel)→AV
 | .ok q=>.tup [.sl (q.map eSel),.int .i64 0]
 | .error e=>.tup [.nils,.int .i64 e]
set_option maxHeartbeats 8000000 in
theorem qRead_ok(s:List UInt8)(id:Nat):FnOk Tryz.prog 31 [.str s] [] id (qryV (fQry s)) []:=by
 have hRun:=fun K id=>run_ok 66 K id s prQ (fun z J id hd h8=>qdo_ok z J K id hd h8) prQ_pure
 unfold fQry
 cases hx:fLex s with
 | error e =>
  have hne:=fLex_ne hx
  have e1:runE prQ s=e:=by unfold runE; rw[hx]
  have e2:runX prQ s=some (lK .nils):=by unfold runX; rw[hx]
  rw[e1,e2] at hRun
  show FnOk _ _ _ _ _ (.tup [.nils,.int .i64 e]) _
  simp only[lK_eq] at hRun
  refine fn_okc Tryz.func31 hcc31 (by decide) hcr31 (by simp[Tryz.ntmps31]) fun E hP hR hl hid=>?_
  simp only[cr31] at hR
  refine w_go 4000 ?_
  simp[cc31]
  (refine w_call hP rfl (hRun _ _) (by simp) (by simp<;>rfl) ?_; refine w_go 4000 ?_; simp)
  refine goc_false (by simpa using hne) ?_
  simp
  refine goc_true (by simpa using hne) ?_
  simp
  rw[hR]; exact rt_end (by simp<;>rfl) [] trivial (end_pure (by simp) (by simp) (by simp))
 | ok l =>
  have h300:l.length≤300:=((fLex_ok s l).1 hx).2.2
  show FnOk _ _ _ _ _ (qryV (fQryT (selsOf l))) _
  unfold selsOf
  cases hp:pSome (3*l.length+3) l with
  | none =>
   have e1:runE prQ s=1:=by unfold runE prQ; rw[hx]; simp only; rw[hp]; rfl
   have e2:runX prQ s=none:=by unfold runX prQ; rw[hx]; simp only; rw[hp]; rfl
   rw[e1,e2] at hRun
   show FnOk _ _ _ _ _ (.tup [.nils,.int .i64 1]) _
   simp only[lK_eq] at hRun
   refine fn_okc Tryz.func31 hcc31 (by decide) hcr31 (by simp[Tryz.ntmps31]) fun E hP hR hl hid=>?_
   simp only[cr31] at hR
   refine w_go 4000 ?_
   simp[cc31]
   (refine w_call hP rfl (hRun _ _) (by simp) (by simp<;>rfl) ?_; refine w_go 4000 ?_; simp)
   rw[hR]; exact rt_end (by simp<;>rfl) [] trivial (end_pure (by simp) (by simp) (by simp))
  | some w =>
   obtain⟨q,u⟩:=w
   have e2:runX prQ s=some (lK (.sl (q.map eSel))):=by unfold runX prQ; rw[hx]; simp only; rw[hp]; rfl
   by_cases hu:u=[]
   ·have e1:runE prQ s=0:=by unfold runE prQ; rw[hx]; simp only; rw[hp]; simp[selsR,hu]
    have hsz:=(pSel_szs _).2.1 _ _ _ hp
    have hC:=fun id=>qCheck_ok q id (by omega)
    rw[e1,e2] at hRun
    show FnOk _ _ _ _ _ (qryV (fQryT (if u=[] then some q else none))) _
    rw[if_pos hu]
    by_cases h0:fQuery q=0
    ·have e:qryV (fQryT (some q)) = .tup [.sl (q.map eSel),.int .i64 0]:=by unfold fQryT; simp only; rw[if_pos h0]; rfl
     rw[e]
     rw[h0] at hC
     simp only[lK_eq] at hRun
     refine fn_okc Tryz.func31 hcc31 (by decide) hcr31 (by simp[Tryz.ntmps31]) fun E hP hR hl hid=>?_
     simp only[cr31] at hR
     refine w_go 4000 ?_
     simp[cc31]
     (refine w_call hP rfl (hRun _ _) (by simp) (by simp<;>rfl) ?_; refine w_go 4000 ?_; simp)
     (refine w_call hP rfl (hC _) (by simp) (by simp<;>rfl) ?_; refine w_go 4000 ?_; simp)
     rw[hR]; exact rt_end (by simp<;>rfl) [] trivial (end_pure (by simp) (by simp) (by simp))
    ·have e:qryV (fQryT (some q)) = .tup [.nils,.int .i64 (fQuery q)]:=by unfold fQryT; simp only; rw[if_neg h0]; rfl
     rw[e]
     simp only[lK_eq] at hRun
     refine fn_okc Tryz.func31 hcc31 (by decide) hcr31 (by simp[Tryz.ntmps31]) fun E hP hR hl hid=>?_
     simp only[cr31] at hR
     refine w_go 4000 ?_
     simp[cc31]
     (refine w_call hP rfl (hRun _ _) (by simp) (by simp<;>rfl) ?_; refine w_go 4000 ?_; simp)
     (refine w_call hP rfl (hC _) (by simp) (by simp<;>rfl) ?_; refine w_go 4000 ?_; simp)
     refine goc_true (by simpa using h0) ?_
     simp
     rw[hR]; exact rt_end (by simp<;>rfl) [] trivial (end_pure (by simp) (by simp) (by simp))
   ·have e1:runE prQ s=1:=by unfold runE prQ; rw[hx]; simp only; rw[hp]; simp[selsR,hu]
    rw[e1,e2] at hRun
    show FnOk _ _ _ _ _ (qryV (fQryT (if u=[] then some q else none))) _
    rw[if_neg hu]
    show FnOk _ _ _ _ _ (.tup [.nils,.int .i64 1]) _
    simp only[lK_eq] at hRun
    refine fn_okc Tryz.func31 hcc31 (by decide) hcr31 (by simp[Tryz.ntmps31]) fun E hP hR hl hid=>?_
    simp only[cr31] at hR
    refine w_go 4000 ?_
    simp[cc31]
    (refine w_call hP rfl (hRun _ _) (by simp) (by simp<;>rfl) ?_; refine w_go 4000 ?_; simp)
    rw[hR]; exact rt_end (by simp<;>rfl) [] trivial (end_pure (by simp) (by simp) (by simp))
end Go.Am
