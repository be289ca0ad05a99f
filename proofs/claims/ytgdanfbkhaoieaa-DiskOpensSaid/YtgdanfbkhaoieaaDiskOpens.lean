/- Whatever disk and batch are handed in, the law DiskOpens returns true, and what was handed in reads as it did. No condition. -/
import Derived.Test.YtgdanfbkhaoieaaXO
import Derived.Test.YtgdanfbkhaoieaaXN
import Derived.Test.YtgdanfbkhaoieaaRows
namespace Go.Proofs.Ytgdanfbkhaoieaa
open Go Go.RowKit Go.Am
set_option maxRecDepth 100000

theorem diskOpens_lifted (os : Os) (started : os.Started) (H : Type) (enc : TypeId × Value → H) :
    ReturnsInHanded Rows.diskOpensRow.assume Try.checked os 9 .any (Rows.diskOpensSpec.pre6 enc Try.prog Try.f9 Rows.diskOpensRow.domain Rows.diskOpensRow.apart) (Rows.diskOpensSpec.post enc Try.prog Try.f9 Rows.diskOpensRow.apart Rows.diskOpensRow.fresh Rows.diskOpensRow.handsOn Rows.diskOpensRow.again) := by
  refine returnsInHanded_of_change_sized (C := Try.checked) Try.own started (by kernel_rfl) Try.func9
    (ChangeSpec.witness6 (enc := enc) (C := Try.checked) false ⟨#[], #[.agg #[.slice none 0 0, .int .i64 0], .agg #[.int .i64 0, .slice none 0 0]], []⟩ 8 (by kernel_rfl) (by kernel_rfl) (by kernel_rfl) (by kernel_rfl)) ?_
  intro W base args ds gs before hval hW _ hsz _
  refine law_post (l := tys Try.f9) (tb := 4) (by kernel_rfl) Try.laidOut (by kernel_rfl) (by kernel_rfl) Try.underlying4 rfl (fun ds hds => ?_) (fun xs hf _ => ?_) hsz hval hW
  · match ds, hds with
    | [a, b], _ => rfl
  · rw [Try.params9] at hf
    obtain ⟨a, ys, rfl, ⟨_, ha⟩, hf⟩ := fitsL_cons hf
    obtain ⟨b, ys, rfl, ⟨_, hb⟩, hf⟩ := fitsL_cons hf
    obtain rfl := fitsL_nil hf
    obtain ⟨a, rfl, hal⟩ := fits_dk ha
    obtain ⟨b, rfl, hbl⟩ := fits_bt hb
    exact DiskOpens_ok a b 0

theorem diskOpens_holds : Rows.DiskOpensSaid :=
  OpenClaim.holds_of_wide 9 Try.f9 rfl rfl rfl rfl rfl rfl rfl ⟨rfl, rfl, rfl, rfl, rfl⟩ rfl rfl rfl rfl rfl (by kernel_rfl) Try.func9 (by kernel_rfl)
    (of_decide_eq_true (by kernel_rfl)) (by unfold Func.isWrapper; first | (rw [if_pos (by decide +kernel)]; kernel_rfl) | (rw [if_neg (by decide +kernel)]; exact ⟨rfl, rfl⟩))
    (fun os started H enc _ => diskOpens_lifted os started H enc)

#print axioms diskOpens_holds
end Go.Proofs.Ytgdanfbkhaoieaa
