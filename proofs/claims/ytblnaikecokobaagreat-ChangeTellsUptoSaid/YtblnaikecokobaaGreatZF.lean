/- Changes: the law that Events and Do answer as the verifier does. No condition. -/
import Derived.Test.YtblnaikecokobaaGreatZD
import Derived.Test.YtblnaikecokobaaGreatZC
import Derived.Test.YtblnaikecokobaaGreatZE
import Derived.Test.YtblnaikecokobaaGreatXJ
namespace Go.Am
set_option linter.all false
open Go Go.RowKit Go.Proofs
set_option maxRecDepth 100000
set_option linter.all false
theorem REvents_rd{s:Sta}{q:List Sel}(h:rdE s q=0)(id:Nat):FnOk Tryz.prog 10 [.sl (s.types.map eTy),.sl (q.map eSel)] [] id (.tup [evV (ofE s.types q) (evsOf s.types q),.int .i64 (ofE s.types q)]) []:=by
 have hS:=schOk (fSt_types (rdE_zero h).1)
 have hq:=fQuery_zero (rdE_zero h).2
 exact EventsOf_ok s.types q id hq.2.2.2 (by have:=hS.len; omega) (fun t ht=>by have:=hS.fields t ht; omega) (by omega)
set_option maxHeartbeats 8000000 in
theorem ChangeTells_ok(s:Sta)(q:List Sel)(id:Nat)(hI:IdsI s)(hq8:szL q≤1099511627776):FnOk Tryz.prog 3 [eSta s,.sl (q.map eSel)] [] id (.bool true) []:=by
 have hb:=fun id=>changeBegun_ok id
 have hE:=fun id=>Events_ok s q id hq8
 have hD:=fun id=>cDo_ok s q id hI hq8
 have hC:=fun id=>CheckState_ok s id hI
 have hQ:=fun id=>CheckQuery_ok q id hq8
 have hN:=fun id=>Evs_nil id
 by_cases h0:cvE s q=0
 rotate_left
 ·have hcd:cdE s q=cvE s q:=by unfold cdE; rw[if_pos h0]
  have hT:=fun id=>stateIs_ok (cvE s q) s id fun h=>(h0 h).elim
  rw[show staA (cvE s q) s = .nils by unfold staA; rw[if_neg h0],show staB (cvE s q) s = .nils by unfold staB; rw[if_neg h0]] at hT
  rw[evV_bad h0] at hE
  rw[hcd,staV_bad0 h0,evV_bad h0] at hD
  have hcv:cvE s q=if rdE s q≠0 then rdE s q else ofE s.types q:=rfl
  have hrd:rdE s q=if fSt s≠0 then fSt s else fQuery q:=rfl
  by_cases h1:fSt s=0
  ·rw[if_neg (by simpa using h1)] at hrd
   rw[h1] at hC
   by_cases h2:fQuery q=0
   ·rw[h2] at hrd hQ
    have hO:=fun id=>REvents_rd hrd id
    rw[if_neg (by simpa using hrd)] at hcv
    rw[←hcv,evV_bad h0] at hO
    unfold eSta at *
    refine fn_okc Tryz.func3 hcc3 (by decide) hcr3 (by simp[Tryz.ntmps3]) fun E hP hR hl hid=>?_
    simp only[cr3] at hR
    refine w_go 4000 ?_
    simp[cc3]
    (refine w_call hP rfl (hE _) (by simp) (by simp<;>rfl) ?_; refine w_go 4000 ?_; simp)
    (refine w_call hP rfl (hD _) (by simp) (by simp<;>rfl) ?_; refine w_go 4000 ?_; simp)
    (refine w_call hP rfl (hC _) (by simp) (by simp<;>rfl) ?_; refine w_go 4000 ?_; simp)
    (refine w_call hP rfl (hQ _) (by simp) (by simp<;>rfl) ?_; refine w_go 4000 ?_; simp)
    (refine w_call hP rfl (hO _) (by simp) (by simp<;>rfl) ?_; refine w_go 4000 ?_; simp)
    refine goc_false (by simpa using h0) ?_
    simp
    refine goc_true (by simpa using h0) ?_
    simp
    (refine w_call hP rfl (hb _) (by simp) (by simp<;>rfl) ?_; refine w_go 4000 ?_; simp)
    (refine w_callg hP (by simp) rfl (fun hc=>⟨hN _,by revert hc; simp; try grind,by simp⟩) ?_; refine w_go 4000 ?_; simp)
    (refine w_callg hP (by simp) rfl (fun hc=>⟨hT _,by revert hc; simp; try grind,by simp⟩) ?_; refine w_go 4000 ?_; simp)
    (refine w_callg hP (by simp) rfl (fun hc=>⟨hN _,by revert hc; simp; try grind,by simp⟩) ?_; refine w_go 4000 ?_; simp)
    rw[hR]; exact rt_end (by simp<;>rfl) [] trivial (end_pure (by simp) (by simp) (by simp))
   ·rw[if_pos (by rw[hrd]; exact h2),hrd] at hcv
    rw[←hcv] at hQ
    unfold eSta at *
    refine fn_okc Tryz.func3 hcc3 (by decide) hcr3 (by simp[Tryz.ntmps3]) fun E hP hR hl hid=>?_
    simp only[cr3] at hR
    refine w_go 4000 ?_
    simp[cc3]
    (refine w_call hP rfl (hE _) (by simp) (by simp<;>rfl) ?_; refine w_go 4000 ?_; simp)
    (refine w_call hP rfl (hD _) (by simp) (by simp<;>rfl) ?_; refine w_go 4000 ?_; simp)
    (refine w_call hP rfl (hC _) (by simp) (by simp<;>rfl) ?_; refine w_go 4000 ?_; simp)
    (refine w_call hP rfl (hQ _) (by simp) (by simp<;>rfl) ?_; refine w_go 4000 ?_; simp)
    refine goc_false (by simpa using h0) ?_
    simp
    refine goc_false (by simpa using h0) ?_
    simp
    refine goc_true (by simpa using h0) ?_
    simp
    (refine w_call hP rfl (hb _) (by simp) (by simp<;>rfl) ?_; refine w_go 4000 ?_; simp)
    (refine w_callg hP (by simp) rfl (fun hc=>⟨hN _,by revert hc; simp; try grind,by simp⟩) ?_; refine w_go 4000 ?_; simp)
    (refine w_callg hP (by simp) rfl (fun hc=>⟨hT _,by revert hc; simp; try grind,by simp⟩) ?_; refine w_go 4000 ?_; simp)
    (refine w_callg hP (by simp) rfl (fun hc=>⟨hN _,by revert hc; simp; try grind,by simp⟩) ?_; refine w_go 4000 ?_; simp)
    rw[hR]; exact rt_end (by simp<;>rfl) [] trivial (end_pure (by simp) (by simp) (by simp))
  ·rw[if_pos h1] at hrd
   rw[if_pos (by rw[hrd]; exact h1),hrd] at hcv
   rw[←hcv] at hC
   unfold eSta at *
   refine fn_okc Tryz.func3 hcc3 (by decide) hcr3 (by simp[Tryz.ntmps3]) fun E hP hR hl hid=>?_
   simp only[cr3] at hR
   refine w_go 4000 ?_
   simp[cc3]
   (refine w_call hP rfl (hE _) (by simp) (by simp<;>rfl) ?_; refine w_go 4000 ?_; simp)
   (refine w_call hP rfl (hD _) (by simp) (by simp<;>rfl) ?_; refine w_go 4000 ?_; simp)
   (refine w_call hP rfl (hC _) (by simp) (by simp<;>rfl) ?_; refine w_go 4000 ?_; simp)
   refine goc_false (by simpa using h0) ?_
   simp
   refine goc_false (by simpa using h0) ?_
   simp
   refine goc_false (by simpa using h0) ?_
   simp
   refine goc_true (by simpa using h0) ?_
   simp
   (refine w_call hP rfl (hb _) (by simp) (by simp<;>rfl) ?_; refine w_go 4000 ?_; simp)
   (refine w_callg hP (by simp) rfl (fun hc=>⟨hN _,by revert hc; simp; try grind,by simp⟩) ?_; refine w_go 4000 ?_; simp)
   (refine w_callg hP (by simp) rfl (fun hc=>⟨hT _,by revert hc; simp; try grind,by simp⟩) ?_; refine w_go 4000 ?_; simp)
   (refine w_callg hP (by simp) rfl (fun hc=>⟨hN _,by revert hc; simp; try grind,by simp⟩) ?_; refine w_go 4000 ?_; simp)
   rw[hR]; exact rt_end (by simp<;>rfl) [] trivial (end_pure (by simp) (by simp) (by simp))
 ·obtain⟨h1,h2⟩:=cvE_zero h0
  have hcd:cdE s q=allE s (evsOf s.types q):=by unfold cdE; rw[if_neg (by simpa using h0)]
  have hO:=fun id=>REvents_rd h1 id
  have hR0:=rt_of (rdE_zero h1).1 hI
  have hlen:(evsOf s.types q).length≤1000000000000000:=by have:=(ofE_zero h2).2; simp[evsOf]; omega
  have hA:=fun id=>AllOf_ok s (evsOf s.types q) id hR0 (evsOf_n h1) hlen
  have hS:=fun id=>Evs_self (evsOf s.types q) id hlen
  have hT:=fun id=>stateIs_ok (allE s (evsOf s.types q)) (allS s (evsOf s.types q)) id fun h=>rt_all _ _ hR0 (evsOf_n h1) h
  rw[(rdE_zero h1).1] at hC
  rw[(rdE_zero h1).2] at hQ
  rw[h2,show evV 0 (evsOf s.types q) = .sl ((evsOf s.types q).map eEv) from rfl] at hO
  rw[h0,show evV 0 (evsOf s.types q) = .sl ((evsOf s.types q).map eEv) from rfl] at hE
  rw[hcd] at hD
  have hpE:pureL ((evsOf s.types q).map eEv)=true:=pure_evs _
  by_cases h3:allE s (evsOf s.types q)=0
  ·rw[h3] at hD hA hT
   rw[show evV 0 (evsOf s.types q) = .sl ((evsOf s.types q).map eEv) from rfl] at hD
   rw[staV_eq,if_pos rfl] at hD hA
   rw[show staA 0 (allS s (evsOf s.types q)) = .sl ((allS s (evsOf s.types q)).types.map eTy) from rfl,show staB 0 (allS s (evsOf s.types q)) = .sl ((allS s (evsOf s.types q)).things.map eTg) from rfl] at hT
   unfold eSta at *
   generalize (evsOf s.types q).map eEv=EV at *
   refine fn_okc Tryz.func3 hcc3 (by decide) hcr3 (by simp[Tryz.ntmps3]) fun E hP hR hl hid=>?_
   simp only[cr3] at hR
   refine w_go 4000 ?_
   simp[cc3]
   (refine w_call hP rfl (hE _) (by simp) (by simp<;>rfl) ?_; refine w_go 4000 ?_; simp)
   (refine w_call hP rfl (hD _) (by simp) (by simp<;>rfl) ?_; refine w_go 4000 ?_; simp)
   (refine w_call hP rfl (hC _) (by simp) (by simp<;>rfl) ?_; refine w_go 4000 ?_; simp)
   (refine w_call hP rfl (hQ _) (by simp) (by simp<;>rfl) ?_; refine w_go 4000 ?_; simp)
   (refine w_call hP rfl (hO _) (by simp) (by simp<;>rfl) ?_; refine w_go 4000 ?_; simp)
   (refine w_call hP rfl (hA _) (by simp) (by simp<;>rfl) ?_; refine w_go 4000 ?_; simp)
   (refine w_call hP rfl (hb _) (by simp) (by simp<;>rfl) ?_; refine w_go 4000 ?_; simp)
   (refine w_callg hP (by simp) rfl (fun hc=>⟨hS _,by revert hc; simp; try grind,by simp⟩) ?_; refine w_go 4000 ?_; simp)
   (refine w_callg hP (by simp) rfl (fun hc=>⟨hT _,by revert hc; simp; try grind,by simp⟩) ?_; refine w_go 4000 ?_; simp)
   (refine w_callg hP (by simp) rfl (fun hc=>⟨hS _,by revert hc; simp; try grind,by simp⟩) ?_; refine w_go 4000 ?_; simp)
   rw[hR]; exact rt_end (by simp<;>rfl) [] trivial (end_pure (by simp) (by simp) (by simp))
  ·rw[evV_bad h3] at hD
   unfold staV eSta at *
   generalize (evsOf s.types q).map eEv=EV at *
   refine fn_okc Tryz.func3 hcc3 (by decide) hcr3 (by simp[Tryz.ntmps3]) fun E hP hR hl hid=>?_
   simp only[cr3] at hR
   refine w_go 4000 ?_
   simp[cc3]
   (refine w_call hP rfl (hE _) (by simp) (by simp<;>rfl) ?_; refine w_go 4000 ?_; simp)
   (refine w_call hP rfl (hD _) (by simp) (by simp<;>rfl) ?_; refine w_go 4000 ?_; simp)
   refine⟨⟨one_staA _ _,one_staB _ _⟩,?_⟩
   (refine w_call hP rfl (hC _) (by simp) (by simp<;>rfl) ?_; refine w_go 4000 ?_; simp)
   (refine w_call hP rfl (hQ _) (by simp) (by simp<;>rfl) ?_; refine w_go 4000 ?_; simp)
   (refine w_call hP rfl (hO _) (by simp) (by simp<;>rfl) ?_; refine w_go 4000 ?_; simp)
   (refine w_call hP rfl (hA _) (by simp) (by simp<;>rfl) ?_; refine w_go 4000 ?_; simp)
   refine⟨⟨one_staA _ _,one_staB _ _⟩,?_⟩
   refine goc_true (by simpa using h3) ?_
   simp
   (refine w_call hP rfl (hb _) (by simp) (by simp<;>rfl) ?_; refine w_go 4000 ?_; simp)
   (refine w_callg hP (by simp) rfl (fun hc=>⟨hS _,by revert hc; simp; try grind,by simp⟩) ?_; refine w_go 4000 ?_; simp)
   (refine w_callg hP (by simp) rfl (fun hc=>⟨hT _,by revert hc; simp; try grind,by simp⟩) ?_; refine w_go 4000 ?_; simp)
   (refine w_callg hP (by simp) rfl (fun hc=>⟨hN _,by revert hc; simp; try grind,by simp⟩) ?_; refine w_go 4000 ?_; simp)
   rw[hR]; exact rt_end (by simp<;>rfl) [] trivial (end_pure (by simp) (by simp) (by simp))
end Go.Am
