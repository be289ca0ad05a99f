/- Parts of the proof: an abstract machine for Go functions, and what functions of the program give back (Rh1, Hl1). No condition. -/
import Derived.Test.YtgdanfbkhaoieaaYI
import Derived.Test.YtgdanfbkhaoieaaYG
import Derived.Test.YtgdanfbkhaoieaaXY
import Derived.Test.YtgdanfbkhaoieaaXF
namespace Go.Am
set_option linter.all false
open Go Go.RowKit Go.Proofs
set_option maxRecDepth 100000
set_option linter.all false
theorem DoOf_st (s:Sta) (e:Ev) (id:Nat) (h:Rt s) (hn:I64 e.n):FnOk Try.prog 47 [eSta s,eEv e] [] id (.tup [staV (rawE s e) (rawS s e),.int .i64 (rawE s e)]) []:=by
  rw [staV_eq]; exact DoOf_ok s e id h hn
end Go.Am
namespace Go.Am
set_option linter.all false
open Go Go.RowKit Go.Proofs
set_option maxRecDepth 100000
set_option linter.all false
theorem Same_zero (id:Nat):FnOk Try.prog 53 [.agg [.nils,.nils],.agg [.nils,.nils]] [] id (.bool true) []:=by
  refine FnOk.nrmA ?_
  have:=SameStateG (.sl []) (.sl []) true rfl rfl (fun id=>by
    have:=SameTypes_ok [] [] id (by simp) (fun t ht=>by cases ht)
    simpa using this) [] [] id (by simp) (fun t ht=>by cases ht)
  simpa [nrmL,AV.nrm] using this
theorem stateIs_ok (w:Int) (s:Sta) (id:Nat) (h:w=0→Rt s):FnOk Try.prog 51 [.agg [staA w s,staB w s],.int .i64 w,.int .i64 w,.agg [staA w s,staB w s]] [] id (.bool true) []:=by
  by_cases h0:w=0
  · subst h0
    have hS:=fun id=>Same_self (h rfl) id
    have e1:staA 0 s=.sl (s.types.map eTy):=rfl
    have e2:staB 0 s=.sl (s.things.map eTg):=rfl
    rw [e1,e2]
    unfold eSta at hS
    refine fn_okc Try.func51 hcc51 (by decide) hcr51 (by simp [Try.ntmps51]) fun E hP hR hl hid=>?_
    simp only [cr51] at hR
    refine w_go 4000 ?_
    simp [cc51]
    (refine w_callg hP (by simp) rfl (fun hc=>⟨hS _,by revert hc; simp; try grind,by simp⟩) ?_; refine w_go 4000 ?_; simp)
    rw [hR]; exact rt_end (by simp <;> rfl) [] trivial (end_pure (by simp) (by simp) (by simp))
  · have hS:=fun id=>Same_zero id
    have e1:staA w s=.nils:=by unfold staA; rw [if_neg h0]
    have e2:staB w s=.nils:=by unfold staB; rw [if_neg h0]
    rw [e1,e2]
    refine fn_okc Try.func51 hcc51 (by decide) hcr51 (by simp [Try.ntmps51]) fun E hP hR hl hid=>?_
    simp only [cr51] at hR
    refine w_go 4000 ?_
    simp [cc51]
    refine goc_true (by simpa using h0) ?_
    simp
    (refine w_callg hP (by simp) rfl (fun hc=>⟨hS _,by revert hc; simp; try grind,by simp⟩) ?_; refine w_go 4000 ?_; simp)
    rw [hR]; exact rt_end (by simp <;> rfl) [] trivial (end_pure (by simp) (by simp) (by simp))
end Go.Am
