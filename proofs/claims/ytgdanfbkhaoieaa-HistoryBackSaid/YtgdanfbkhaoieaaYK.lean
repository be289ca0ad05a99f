/- States: the law that Check, Do and Undo answer as the verifier does. No condition. -/
import Derived.Test.YtgdanfbkhaoieaaYJ
namespace Go.Am
set_option linter.all false
open Go Go.RowKit Go.Proofs
set_option maxRecDepth 100000
set_option linter.all false
theorem Do_st (s:Sta) (e:Ev) (id:Nat):FnOk Try.prog 44 [eSta s,eEv e] [] id (.tup [staV (fDoE s e) (rawS s e),.int .i64 (fDoE s e)]) []:=DoG_ok s e id
set_option maxHeartbeats 4000000 in
theorem StateTells_ok (s:Sta) (x:Ev) (id:Nat) (hI:IdsI s) (hn:I64 x.n):FnOk Try.prog 11 [eSta s,eEv x] [] id (.bool true) []:=by
  have hb:=fun id=>stateBegun_ok id
  have hD:=fun id=>Do_st s x id
  have hU:=fun id=>Undo_ok s x id hI
  have hC:=fun id=>CheckState_ok s id hI
  have hK:=fun id=>stCheck_ok s id
  by_cases h0:fSt s=0
  · have hR:=rt_of h0 hI
    have hd:fDoE s x=rawE s x:=fDoE_of h0
    have hO:=fun id=>DoOf_st s x id hR hn
    have hV:=fun id=>UndoOf_ok s x id hR hn
    have hS:=fun id=>stateIs_ok (rawE s x) (rawS s x) id fun h=>(rt_raw hR hn h).1
    rw [hd] at hD
    rw [h0] at hC hK
    generalize undX s x=u at *
    generalize undE s x=v at *
    unfold staV eSta at *
    simp only [eEv_eq x,eEv_eq u] at *
    refine fn_okc Try.func11 hcc11 (by decide) hcr11 (by simp [Try.ntmps11]) fun E hP hR hl hid=>?_
    simp only [cr11] at hR
    refine w_go 4000 ?_
    simp [cc11]
    (refine w_call hP rfl (hD _) (by simp) (by simp <;> rfl) ?_; refine w_go 4000 ?_; simp)
    refine ⟨⟨one_staA _ _,one_staB _ _⟩,?_⟩
    (refine w_call hP rfl (hU _) (by simp) (by simp <;> rfl) ?_; refine w_go 4000 ?_; simp)
    (refine w_call hP rfl (hC _) (by simp) (by simp <;> rfl) ?_; refine w_go 4000 ?_; simp)
    (refine w_call hP rfl (hO _) (by simp) (by simp <;> rfl) ?_; refine w_go 4000 ?_; simp)
    refine ⟨⟨one_staA _ _,one_staB _ _⟩,?_⟩
    (refine w_call hP rfl (hV _) (by simp) (by simp <;> rfl) ?_; refine w_go 4000 ?_; simp)
    (refine w_call hP rfl (hb _) (by simp) (by simp <;> rfl) ?_; refine w_go 4000 ?_; simp)
    (refine w_callg hP (by simp) rfl (fun hc=>⟨hK _,by revert hc; simp; try grind,by simp⟩) ?_; refine w_go 4000 ?_; simp)
    (refine w_callg hP (by simp) rfl (fun hc=>⟨hC _,by revert hc; simp; try grind,by simp⟩) ?_; refine w_go 4000 ?_; simp)
    (refine w_callg hP (by simp [eqAll,eqOne]) rfl (fun hc=>⟨hS _,by revert hc; simp [eqAll,eqOne]; try grind,by simp [eqAll,eqOne]⟩) ?_; refine w_go 4000 ?_; simp [eqAll,eqOne])
    rw [hR]; exact rt_end (by simp <;> rfl) [] trivial (end_pure (by simp) (by simp) (by simp))
  · have hd:fDoE s x=fSt s:=by unfold fDoE; rw [if_pos h0]
    have e1:staV (fSt s) (rawS s x)=.agg [.nils,.nils]:=by rw [staV_eq,if_neg h0]; rfl
    have e2:undX s x=ev0:=by unfold undX; rw [hd,if_pos h0]
    have e3:undE s x=fSt s:=by unfold undE; rw [hd,if_pos h0]
    have hS:=fun id=>stateIs_ok (fSt s) s id fun h=>(h0 h).elim
    have e4:staA (fSt s) s=.nils:=by unfold staA; rw [if_neg h0]
    have e5:staB (fSt s) s=.nils:=by unfold staB; rw [if_neg h0]
    rw [hd,e1] at hD
    rw [e2,e3] at hU
    rw [e4,e5] at hS
    unfold ev0 at hU
    unfold eSta at *
    simp only [eEv_eq x,eEv] at *
    refine fn_okc Try.func11 hcc11 (by decide) hcr11 (by simp [Try.ntmps11]) fun E hP hR hl hid=>?_
    simp only [cr11] at hR
    refine w_go 4000 ?_
    simp [cc11]
    (refine w_call hP rfl (hD _) (by simp) (by simp <;> rfl) ?_; refine w_go 4000 ?_; simp)
    (refine w_call hP rfl (hU _) (by simp) (by simp <;> rfl) ?_; refine w_go 4000 ?_; simp)
    (refine w_call hP rfl (hC _) (by simp) (by simp <;> rfl) ?_; refine w_go 4000 ?_; simp)
    refine goc_false (by simpa using h0) ?_
    simp
    (refine w_call hP rfl (hb _) (by simp) (by simp <;> rfl) ?_; refine w_go 4000 ?_; simp)
    (refine w_callg hP (by simp) rfl (fun hc=>⟨hK _,by revert hc; simp; try grind,by simp⟩) ?_; refine w_go 4000 ?_; simp)
    (refine w_callg hP (by simp) rfl (fun hc=>⟨hC _,by revert hc; simp; try grind,by simp⟩) ?_; refine w_go 4000 ?_; simp)
    (refine w_callg hP (by simp [eqAll,eqOne]) rfl (fun hc=>⟨hS _,by revert hc; simp [eqAll,eqOne]; try grind,by simp [eqAll,eqOne]⟩) ?_; refine w_go 4000 ?_; simp [eqAll,eqOne])
    rw [hR]; exact rt_end (by simp <;> rfl) [] trivial (end_pure (by simp) (by simp) (by simp))
end Go.Am
