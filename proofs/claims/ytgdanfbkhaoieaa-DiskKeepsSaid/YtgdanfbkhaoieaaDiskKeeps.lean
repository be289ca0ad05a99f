/- Whatever disk and numbers are handed in, the law DiskKeeps returns true, and what was handed in reads as it did. No condition. -/
import Derived.Test.YtgdanfbkhaoieaaXP
import Derived.Test.YtgdanfbkhaoieaaXN
import Derived.Test.YtgdanfbkhaoieaaRows
namespace Go.Proofs.Ytgdanfbkhaoieaa
open Go Go.RowKit Go.Am
set_option maxRecDepth 100000

theorem diskKeeps_lifted (os : Os) (started : os.Started) (H : Type) (enc : TypeId × Value → H) :
    ReturnsInHanded Rows.diskKeepsRow.assume Try.checked os 10 .any (Rows.diskKeepsSpec.pre6 enc Try.prog Try.f10 Rows.diskKeepsRow.domain Rows.diskKeepsRow.apart) (Rows.diskKeepsSpec.post enc Try.prog Try.f10 Rows.diskKeepsRow.apart Rows.diskKeepsRow.fresh Rows.diskKeepsRow.handsOn Rows.diskKeepsRow.again) := by
  refine returnsInHanded_of_change_sized (C := Try.checked) Try.own started (by kernel_rfl) Try.func10
    (ChangeSpec.witness6 (enc := enc) (C := Try.checked) false ⟨#[], #[.agg #[.slice none 0 0, .int .i64 0], .int .i64 0, .int .i64 0], []⟩ 8 (by kernel_rfl) (by kernel_rfl) (by kernel_rfl) (by kernel_rfl)) ?_
  intro W base args ds gs before hval hW _ hsz _
  refine law_post (l := tys Try.f10) (tb := 4) (by kernel_rfl) Try.laidOut (by kernel_rfl) (by kernel_rfl) Try.underlying4 rfl (fun ds hds => ?_) (fun xs hf _ => ?_) hsz hval hW
  · match ds, hds with
    | [a, b, c], _ => rfl
  · rw [Try.params10] at hf
    obtain ⟨a, ys, rfl, ⟨_, ha⟩, hf⟩ := fitsL_cons hf
    obtain ⟨b, ys, rfl, ⟨_, hb⟩, hf⟩ := fitsL_cons hf
    obtain ⟨c, ys, rfl, ⟨_, hc⟩, hf⟩ := fitsL_cons hf
    obtain rfl := fitsL_nil hf
    obtain ⟨a, rfl, hal⟩ := fits_dk ha
    obtain ⟨b, rfl, hbl⟩ := fits_int Try.underlying3 hb
    obtain ⟨c, rfl, hcl⟩ := fits_int Try.underlying3 hc
    exact DiskKeeps_ok a b c 0

theorem diskKeeps_holds : Rows.DiskKeepsSaid :=
  OpenClaim.holds_of_wide 10 Try.f10 rfl rfl rfl rfl rfl rfl rfl ⟨rfl, rfl, rfl, rfl, rfl⟩ rfl rfl rfl rfl rfl (by kernel_rfl) Try.func10 (by kernel_rfl)
    (of_decide_eq_true (by kernel_rfl)) (by unfold Func.isWrapper; first | (rw [if_pos (by decide +kernel)]; kernel_rfl) | (rw [if_neg (by decide +kernel)]; exact ⟨rfl, rfl⟩))
    (fun os started H enc _ => diskKeeps_lifted os started H enc)

#print axioms diskKeeps_holds
end Go.Proofs.Ytgdanfbkhaoieaa
