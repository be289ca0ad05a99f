/- Parts of the proof: an abstract machine for Go functions, and what functions of the program give back (Rf1, Rf2). No condition. -/
import Derived.Test.YtgdanfbkhaoieaaXT
namespace Go.Am
set_option linter.all false
set_option linter.all false
open Go Go.RowKit Go.Proofs
set_option maxRecDepth 100000
theorem between_ok (n a b:Int) (id:Nat):FnOk Try.prog 68 [.int .i64 n,.int .i64 a,.int .i64 b] [] id (.bool (decide (a≤n) && decide (n≤b))) []:=by
  refine fn_okc Try.func68 hcc68 (by decide) hcr68 (by simp [Try.ntmps68]) fun E hP hR hl hid=>?_
  simp only [cr68] at hR
  refine w_go 4000 ?_
  simp [cc68]
  rw [hR]; exact rt_end (by simp <;> rfl) [] trivial (end_pure (by simp) (by simp) (by simp))
theorem rIsInt_ok (n:Int) (id:Nat):FnOk Try.prog 70 [.int .i64 n] [] id (.bool (decide (-999999999≤n) && decide (n≤999999999))) []:=by
  refine fn_okc Try.func70 hcc70 (by decide) hcr70 (by simp [Try.ntmps70]) fun E hP hR hl hid=>?_
  simp only [cr70] at hR
  refine w_go 4000 ?_
  simp [cc70]
  (refine w_call hP rfl (between_ok _ _ _ _) (by simp) (by simp <;> rfl) ?_; refine w_go 4000 ?_; simp)
  rw [hR]; exact rt_end (by simp <;> rfl) [] trivial (end_pure (by simp) (by simp) (by simp))
theorem rCheckEvent_ok (e:Ev) (id:Nat):FnOk Try.prog 69 [eEv e] [] id (.int .i64 (fForm e)) []:=by
  unfold eEv
  refine fn_okc Try.func69 hcc69 (by decide) hcr69 (by simp [Try.ntmps69]) fun E hP hR hl hid=>?_
  simp only [cr69] at hR
  refine w_go 4000 ?_
  simp [cc69]
  repeat' first
    | (refine And.intro ?_ ?_)
    | (refine goc (fun h=>?_) (fun h=>?_) <;> simp)
    | (refine w_call hP rfl (between_ok _ _ _ _) (by simp) (by simp <;> rfl) ?_; refine w_go 4000 ?_; simp)
  all_goals first
    | (rw [hR]; refine rt_end (by simp <;> rfl) [] trivial (end_pure ?_ (by simp) (by simp)); simp; done)
    | (rw [hR]; refine rt_end (by simp <;> rfl) [] trivial (end_pure ?_ (by simp) (by simp)); (try simp); simp [fForm] at *; grind; done)
    | omega
    | (simp_all; done)
    | grind
end Go.Am
namespace Go.Am
set_option linter.all false
set_option linter.all false
open Go Go.RowKit Go.Proofs
set_option maxRecDepth 100000
end Go.Am
