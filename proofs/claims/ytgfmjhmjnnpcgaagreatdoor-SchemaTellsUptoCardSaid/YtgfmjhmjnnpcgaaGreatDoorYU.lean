/- The law SchemaTells. No condition. -/
import Derived.Test.YtgfmjhmjnnpcgaaGreatDoorYQ
import Derived.Test.YtgfmjhmjnnpcgaaGreatDoorYT
namespace Go.Am
set_option linter.all false
open Go Go.RowKit Go.Proofs
set_option maxRecDepth 100000
set_option linter.all false
theorem same_any(v:AV)(m:List Ty)(hv:(v = .sl (m.map eTy)∧fCheckT m=0)∨(v = .nils∧m=[]))(id:Nat):FnOk Tryz.prog 28 [v,v] [] id (.bool true) []:=by
 rcases hv with⟨rfl,h⟩|⟨rfl,rfl⟩
 ·obtain⟨h1,h2,h3⟩:=fCheckT_zero.1 h
  have:=SameTypes_ok m m id (by omega) (fun t ht=>by have:=(tyP_of h t ht).le; omega)
  rwa [decide_eq_true rfl] at this
 ·have:=SameTypes_ok [] [] id (by simp) (by simp)
  rw[decide_eq_true rfl] at this
  exact FnOk.nrmA this
set_option maxHeartbeats 8000000 in
theorem SchemaTells_ok(s:List UInt8)(l:List Ty)(id:Nat):FnOk Tryz.prog 8 [.str s,.sl (l.map eTy)] [] id (.bool true) []:=by
 have hB:=fun id=>schemaBegun_ok id
 have hPr:=fun id=>sPrint_ok l id
 have hR1:=fun id=>sRead_ok s id
 have hR2:=fun id=>rSchOf_ok s id fun id=>rToks_ok s id
 have hC1:=fun id=>sCheck_ok l id
 have hC2:=fun id=>CheckSchema_ok l id
 obtain⟨v,e,m,hv,hm⟩:∃(v:AV) (e:Int) (m:List Ty),schV (fSchema s) = .tup [v,.int .i64 e]∧((v = .sl (m.map eTy)∧fCheckT m=0)∨(v = .nils∧m=[])):=by
  cases hs:fSchema s with
  | error e=>exact⟨.nils,e,[],rfl,.inr ⟨rfl,rfl⟩⟩
  | ok m=>exact⟨.sl (m.map eTy),0,m,rfl,.inl ⟨rfl,sch_ok hs⟩⟩
 have hS:=fun id=>same_any v m hm id
 rw[hv] at hR1 hR2
 by_cases hc:fCheckT l=0
 ·have hBy:=fun id=>rSchB_ok l id hc
  rw[show sPr l=(tkB (tkSch l),0) from by unfold sPr; rw[if_pos hc]] at hPr
  rw[hc] at hC1 hC2
  refine fn_okc Tryz.func8 hcc8 (by decide) hcr8 (by simp[Tryz.ntmps8]) fun E hP hR hl hid=>?_
  simp only[cr8] at hR
  refine w_go 4000 ?_
  simp[cc8]
  (refine w_call hP rfl (hR1 _) (by simp) (by simp<;>rfl) ?_; refine w_go 4000 ?_; simp)
  (refine w_call hP rfl (hPr _) (by simp) (by simp<;>rfl) ?_; refine w_go 4000 ?_; simp)
  (refine w_call hP rfl (hR2 _) (by simp) (by simp<;>rfl) ?_; refine w_go 4000 ?_; simp)
  (refine w_call hP rfl (hC2 _) (by simp) (by simp<;>rfl) ?_; refine w_go 4000 ?_; simp)
  (refine w_call hP rfl (hBy _) (by simp) (by simp<;>rfl) ?_; refine w_go 4000 ?_; simp)
  (refine w_call hP rfl (hB _) (by simp) (by simp<;>rfl) ?_; refine w_go 4000 ?_; simp)
  (refine w_callg hP (by simp) rfl (fun hc=>⟨hC1 _,by revert hc; simp; try grind,by simp⟩) ?_; refine w_go 4000 ?_; simp)
  (refine w_callg hP (by simp) rfl (fun hc=>⟨hS _,by revert hc; simp; try grind,by simp⟩) ?_; refine w_go 4000 ?_; simp)
  rw[hR]; exact rt_end (by simp<;>rfl) [] trivial (end_pure (by simp) (by simp) (by simp))
 ·rw[show sPr l=([],fCheckT l) from by unfold sPr; rw[if_neg hc]] at hPr
  refine fn_okc Tryz.func8 hcc8 (by decide) hcr8 (by simp[Tryz.ntmps8]) fun E hP hR hl hid=>?_
  simp only[cr8] at hR
  refine w_go 4000 ?_
  simp[cc8]
  (refine w_call hP rfl (hR1 _) (by simp) (by simp<;>rfl) ?_; refine w_go 4000 ?_; simp)
  (refine w_call hP rfl (hPr _) (by simp) (by simp<;>rfl) ?_; refine w_go 4000 ?_; simp)
  (refine w_call hP rfl (hR2 _) (by simp) (by simp<;>rfl) ?_; refine w_go 4000 ?_; simp)
  (refine w_call hP rfl (hC2 _) (by simp) (by simp<;>rfl) ?_; refine w_go 4000 ?_; simp)
  refine goc_false (by simpa using hc) ?_
  simp
  (refine w_call hP rfl (hB _) (by simp) (by simp<;>rfl) ?_; refine w_go 4000 ?_; simp)
  (refine w_callg hP (by simp) rfl (fun hc=>⟨hC1 _,by revert hc; simp; try grind,by simp⟩) ?_; refine w_go 4000 ?_; simp)
  (refine w_callg hP (by simp) rfl (fun hc=>⟨hS _,by revert hc; simp; try grind,by simp⟩) ?_; refine w_go 4000 ?_; simp)
  rw[hR]; exact rt_end (by simp<;>rfl) [] trivial (end_pure (by simp) (by simp) (by simp))
end Go.Am
