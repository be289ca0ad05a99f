/- Whatever state and event are handed in, the law StateUndone returns true, and what was handed in reads as it did. No condition. -/
import Derived.Test.YtgdanfbkhaoieaaXY
import Derived.Test.YtgdanfbkhaoieaaXN
import Derived.Test.YtgdanfbkhaoieaaRows
namespace Go.Proofs.Ytgdanfbkhaoieaa
open Go Go.RowKit Go.Am
set_option maxRecDepth 100000

theorem stateUndone_lifted (os : Os) (started : os.Started) (H : Type) (enc : TypeId × Value → H) :
    ReturnsInHanded Rows.stateUndoneRow.assume Try.checked os 12 .any (Rows.stateUndoneSpec.pre6 enc Try.prog Try.f12 Rows.stateUndoneRow.domain Rows.stateUndoneRow.apart) (Rows.stateUndoneSpec.post enc Try.prog Try.f12 Rows.stateUndoneRow.apart Rows.stateUndoneRow.fresh Rows.stateUndoneRow.handsOn Rows.stateUndoneRow.again) := by
  refine returnsInHanded_of_change_sized (C := Try.checked) Try.own started (by kernel_rfl) Try.func12
    (ChangeSpec.witness6 (enc := enc) (C := Try.checked) false ⟨#[], #[.agg #[.slice none 0 0, .slice none 0 0], .agg #[.int .i64 0, .int .i64 0, .int .i64 0, .int .i64 0, .int .i64 0, .string ⟨#[]⟩]], []⟩ 8 (by kernel_rfl) (by kernel_rfl) (by kernel_rfl) (by kernel_rfl)) ?_
  intro W base args ds gs before hval hW _ hsz _
  refine law_post (l := tys Try.f12) (tb := 4) (by kernel_rfl) Try.laidOut (by kernel_rfl) (by kernel_rfl) Try.underlying4 rfl (fun ds hds => ?_) (fun xs hf _ => ?_) hsz hval hW
  · match ds, hds with
    | [s, e], _ => rfl
  · rw [Try.params12] at hf
    obtain ⟨s, ys, rfl, ⟨_, hs⟩, hf⟩ := fitsL_cons hf
    obtain ⟨e, ys, rfl, ⟨_, he⟩, hf⟩ := fitsL_cons hf
    obtain rfl := fitsL_nil hf
    obtain ⟨s, rfl, hI⟩ := fits_sta hs
    obtain ⟨e, rfl, he1, he2, he3⟩ := fits_evI he
    exact StateUndone_ok s e 0 hI he3

theorem stateUndone_holds : Rows.StateUndoneSaid :=
  OpenClaim.holds_of_wide 12 Try.f12 rfl rfl rfl rfl rfl rfl rfl ⟨rfl, rfl, rfl, rfl, rfl⟩ rfl rfl rfl rfl rfl (by kernel_rfl) Try.func12 (by kernel_rfl)
    (of_decide_eq_true (by kernel_rfl)) (by unfold Func.isWrapper; first | (rw [if_pos (by decide +kernel)]; kernel_rfl) | (rw [if_neg (by decide +kernel)]; exact ⟨rfl, rfl⟩))
    (fun os started H enc _ => stateUndone_lifted os started H enc)

#print axioms stateUndone_holds
end Go.Proofs.Ytgdanfbkhaoieaa
