/- Whatever state and events are handed in, the law StateApart returns true, and what was handed in reads as it did. No condition. -/
import Derived.Test.YtgdanfbkhaoieaaXZ
import Derived.Test.YtgdanfbkhaoieaaXN
import Derived.Test.YtgdanfbkhaoieaaRows
namespace Go.Proofs.Ytgdanfbkhaoieaa
open Go Go.RowKit Go.Am
set_option maxRecDepth 100000

theorem stateApart_lifted (os : Os) (started : os.Started) (H : Type) (enc : TypeId × Value → H) :
    ReturnsInHanded Rows.stateApartRow.assume Try.checked os 13 .any (Rows.stateApartSpec.pre6 enc Try.prog Try.f13 Rows.stateApartRow.domain Rows.stateApartRow.apart) (Rows.stateApartSpec.post enc Try.prog Try.f13 Rows.stateApartRow.apart Rows.stateApartRow.fresh Rows.stateApartRow.handsOn Rows.stateApartRow.again) := by
  refine returnsInHanded_of_change_sized (C := Try.checked) Try.own started (by kernel_rfl) Try.func13
    (ChangeSpec.witness6 (enc := enc) (C := Try.checked) false ⟨#[], #[.agg #[.slice none 0 0, .slice none 0 0], .agg #[.int .i64 0, .int .i64 0, .int .i64 0, .int .i64 0, .int .i64 0, .string ⟨#[]⟩], .agg #[.int .i64 0, .int .i64 0, .int .i64 0, .int .i64 0, .int .i64 0, .string ⟨#[]⟩]], []⟩ 8 (by kernel_rfl) (by kernel_rfl) (by kernel_rfl) (by kernel_rfl)) ?_
  intro W base args ds gs before hval hW _ hsz _
  refine law_post (l := tys Try.f13) (tb := 4) (by kernel_rfl) Try.laidOut (by kernel_rfl) (by kernel_rfl) Try.underlying4 rfl (fun ds hds => ?_) (fun xs hf _ => ?_) hsz hval hW
  · match ds, hds with
    | [s, x, y], _ => rfl
  · rw [Try.params13] at hf
    obtain ⟨s, ys, rfl, ⟨_, hs⟩, hf⟩ := fitsL_cons hf
    obtain ⟨x, ys, rfl, ⟨_, hx⟩, hf⟩ := fitsL_cons hf
    obtain ⟨y, ys, rfl, ⟨_, hy⟩, hf⟩ := fitsL_cons hf
    obtain rfl := fitsL_nil hf
    obtain ⟨s, rfl, hI⟩ := fits_sta hs
    obtain ⟨x, rfl, hx1, hx2, hx3⟩ := fits_evI hx
    obtain ⟨y, rfl, hy1, hy2, hy3⟩ := fits_evI hy
    exact StateApart_ok s x y 0 hI hx3 hy3

theorem stateApart_holds : Rows.StateApartSaid :=
  OpenClaim.holds_of_wide 13 Try.f13 rfl rfl rfl rfl rfl rfl rfl ⟨rfl, rfl, rfl, rfl, rfl⟩ rfl rfl rfl rfl rfl (by kernel_rfl) Try.func13 (by kernel_rfl)
    (of_decide_eq_true (by kernel_rfl)) (by unfold Func.isWrapper; first | (rw [if_pos (by decide +kernel)]; kernel_rfl) | (rw [if_neg (by decide +kernel)]; exact ⟨rfl, rfl⟩))
    (fun os started H enc _ => stateApart_lifted os started H enc)

#print axioms stateApart_holds
end Go.Proofs.Ytgdanfbkhaoieaa
