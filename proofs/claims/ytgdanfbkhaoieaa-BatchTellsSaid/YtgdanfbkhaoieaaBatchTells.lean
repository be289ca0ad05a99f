/- Whatever batch and text are handed in, the law BatchTells returns true, and what was handed in reads as it did. No condition. -/
import Derived.Test.YtgdanfbkhaoieaaXF
import Derived.Test.YtgdanfbkhaoieaaXG
import Derived.Test.YtgdanfbkhaoieaaRows
namespace Go.Proofs.Ytgdanfbkhaoieaa
open Go Go.RowKit Go.Am
set_option maxRecDepth 100000

theorem batchTells_lifted (os : Os) (started : os.Started) (H : Type) (enc : TypeId × Value → H) :
    ReturnsInHanded Rows.batchTellsRow.assume Try.checked os 3 .any (Rows.batchTellsSpec.pre6 enc Try.prog Try.f3 Rows.batchTellsRow.domain Rows.batchTellsRow.apart) (Rows.batchTellsSpec.post enc Try.prog Try.f3 Rows.batchTellsRow.apart Rows.batchTellsRow.fresh Rows.batchTellsRow.handsOn Rows.batchTellsRow.again) := by
  refine returnsInHanded_of_change_sized (C := Try.checked) Try.own started (by kernel_rfl) Try.func3
    (ChangeSpec.witness6 (enc := enc) (C := Try.checked) false ⟨#[], #[.agg #[.int .i64 0, .slice none 0 0], .string ⟨#[]⟩], []⟩ 8 (by kernel_rfl) (by kernel_rfl) (by kernel_rfl) (by kernel_rfl)) ?_
  intro W base args ds gs before hval hW _ hsz _
  refine law_post (l := tys Try.f3) (tb := 4) (by kernel_rfl) Try.laidOut (by kernel_rfl) (by kernel_rfl) Try.underlying4 rfl (fun ds hds => ?_) (fun xs hf _ => ?_) hsz hval hW
  · match ds, hds with
    | [a, b], _ => rfl
  · rw [Try.params3] at hf
    obtain ⟨a, ys, rfl, ⟨_, ha⟩, hf⟩ := fitsL_cons hf
    obtain ⟨b, ys, rfl, ⟨_, hb⟩, hf⟩ := fitsL_cons hf
    obtain rfl := fitsL_nil hf
    obtain ⟨a, rfl, hal⟩ := fits_bt ha
    obtain ⟨b, rfl, hbl⟩ := fits_str Try.underlying9 hb
    unfold reachBytes at hal hbl
    exact BatchTells_ok a b 0 (by omega) (by omega)

theorem batchTells_holds : Rows.BatchTellsSaid :=
  OpenClaim.holds_of_wide 3 Try.f3 rfl rfl rfl rfl rfl rfl rfl ⟨rfl, rfl, rfl, rfl, rfl⟩ rfl rfl rfl rfl rfl (by kernel_rfl) Try.func3 (by kernel_rfl)
    (of_decide_eq_true (by kernel_rfl)) (by unfold Func.isWrapper; first | (rw [if_pos (by decide +kernel)]; kernel_rfl) | (rw [if_neg (by decide +kernel)]; exact ⟨rfl, rfl⟩))
    (fun os started H enc _ => batchTells_lifted os started H enc)

#print axioms batchTells_holds
end Go.Proofs.Ytgdanfbkhaoieaa
