/- The law JsonApart, the walk. No condition. -/
import Derived.Test.YthghjjancoopoaaDoorYU
import Derived.Test.YthghjjancoopoaaDoorYN
namespace Go.Am
set_option linter.all false
open Go Go.RowKit Go.Proofs
set_option maxRecDepth 100000
set_option linter.all false
theorem chk_of{o:Out}(h:fOut o=0):fChkO o=0:=by
 unfold fOut at h
 split at h
 ·cases h
 ·exact h
theorem fPrint_of{o:Out}(h:fOut o=0):fPrint o=jS o:=by unfold fPrint; rw[if_pos h]
theorem fPrint_no{o:Out}(h:fOut o≠0):fPrint o=[]:=by unfold fPrint; rw[if_neg h]
theorem fPrint_len(o:Out):(fPrint o).length≤400*o.sz:=by
 by_cases h:fOut o=0
 ·rw[fPrint_of h]
  have:=jS_len (o.sz+1) o (Nat.lt_succ_self _) (chk_of h)
  omega
 ·rw[fPrint_no h]; simp
theorem eO_two(a b:Out):nrmL [.agg [.int .i64 4,.int .i64 0,.str [],.nils,.sl [eO a,eO b]]]=[eO (oList [a,b])]:=by
 have h1:=nrm_eO a
 have h2:=nrm_eO b
 unfold oList
 rw[eO_eq]
 simp[nrmL,AV.nrm,h1,h2]
set_option maxHeartbeats 8000000 in
theorem JsonApart_ok(a b:Out)(id:Nat)(ha:a.sz≤1048577)(hb:b.sz≤1048577)(hka:okO a)(hkb:okO b):FnOk Tryd.prog 3 [eO a,eO b] [] id (.bool true) []:=by
 have hA:=fun id=>jPrint_ok a id (by omega) hka
 have hB:=fun id=>jPrint_ok b id (by omega) hkb
 have hT:∀id,FnOk Tryd.prog 7 [.agg [.int .i64 4,.int .i64 0,.str [],.nils,.sl [eO a,eO b]]] [] id (.tup [.str (fPrint (oList [a,b])),.int .i64 (fOut (oList [a,b]))]) []:=fun id=>by
  refine FnOk.nrmA ?_
  rw[eO_two]
  exact jPrint_ok (oList [a,b]) id (by rw[szO_eq]; simp[oList,Out.keys,Out.kids,szOL]; omega) (by rw[okO_eq]; exact⟨fun s hs=>by simp[oList,Out.keys] at hs,hka,hkb,trivial⟩)
 have hS:=fun id=>Same_ok (a.sz+1) a b id (Nat.lt_succ_self _) (by omega)
 have la:=fPrint_len a
 have lb:=fPrint_len b
 have hpair:fOut a=0→fOut b=0→((fPrint a==fPrint b) != decide (a=b))=false:=fun h1 h2=>by
  rw[fPrint_of h1,fPrint_of h2]
  have:=jS_inj (chk_of h1) (chk_of h2)
  by_cases h:a=b
  ·subst h; simp
  ·have h':¬jS a=jS b:=fun q=>h (this.1 q)
   simp[h,h']
 have htwo:fOut (oList [a,b])=0→fOut a=0∧fOut b=0∧fPrint (oList [a,b])=[91]++fPrint a++[44]++fPrint b++[93]:=fun h=>by
  obtain⟨h1,h2⟩:=fOut_two h
  rw[fPrint_of h,fPrint_of h1,fPrint_of h2,jS_two]
  exact⟨h1,h2,rfl⟩
 obtain⟨ak,an,at1,aks,als,hae⟩:=eO_agg a
 obtain⟨bk1,bn,bt,bks,bls,hbe⟩:=eO_agg b
 rw[hae] at hA hT hS ⊢
 rw[hbe] at hB hT hS ⊢
 generalize fPrint a=pa at *
 generalize fPrint b=pb at *
 generalize fPrint (oList [a,b])=pt at *
 generalize fOut a=ea at *
 generalize fOut b=eb at *
 generalize fOut (oList [a,b])=et at *
 generalize decide (a=b)=sm at *
 refine fn_okc Tryd.func3 hcc3 (by decide) hcr3 (by simp[Tryd.ntmps3]) fun E hP hR hl hid=>?_
 simp only[cr3] at hR
 refine w_go 4000 ?_
 simp[cc3]
 (refine w_call hP rfl (hA _) (by simp) (by simp<;>rfl) ?_; refine w_go 4000 ?_; simp)
 (refine w_call hP rfl (hB _) (by simp) (by simp<;>rfl) ?_; refine w_go 4000 ?_; simp)
 (refine w_call hP rfl (jsonBegun_ok _) (by simp) (by simp<;>rfl) ?_; refine w_go 4000 ?_; simp)
 (refine w_callg hP (by simp) rfl (fun hc=>⟨hS _,by revert hc; simp; try grind,by simp⟩) ?_; refine w_go 4000 ?_; simp)
 refine goc_false (by cases h1:ea==0<;>cases h2:eb==0<;>simp at h1 h2 ⊢; simpa using hpair h1 h2) ?_
 simp
 (refine w_callR hP rfl (hT _) (by simp<;>rfl) (by simp) (by simp<;>rfl) (by simp) ?_; refine w_go 4000 ?_; simp)
 refine⟨fun h=>⟨h,fun k=>⟨h,k⟩⟩,fun h1 h2 h3=>⟨⟨h1,h2,h3⟩,by omega⟩,fun h1 h2 h3=>⟨⟨h1,h2,h3⟩,by omega⟩,fun h1 h2 h3=>⟨⟨h1,h2,h3⟩,by omega⟩,fun h1 h2 h3=>⟨⟨h1,h2,h3⟩,by omega⟩,fun h=>⟨h,fun k1 k2=>⟨h,k1,k2⟩⟩,?_⟩
 have hfin:(et != 0||ea==0&&eb==0&&pt==91::(pa++44::(pb++[93])))=true:=by
  by_cases h:et=0
  ·obtain⟨h1,h2,h3⟩:=htwo h
   rw[h,h1,h2,h3]
   simp
  ·simp[h]
 rw[hfin]
 rw[hR]; exact rt_end (by simp<;>rfl) [] trivial (end_pure (by simp) (by simp) (by simp))
end Go.Am
