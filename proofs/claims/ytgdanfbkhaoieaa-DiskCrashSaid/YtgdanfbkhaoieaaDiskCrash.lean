/- Whatever disk, batch and numbers are handed in, the law DiskCrash returns true, and what was handed in reads as it did. No condition. -/
import Derived.Test.YtgdanfbkhaoieaaXQ
import Derived.Test.YtgdanfbkhaoieaaXN
import Derived.Test.YtgdanfbkhaoieaaRows
namespace Go.Proofs.Ytgdanfbkhaoieaa
open Go Go.RowKit Go.Am
set_option maxRecDepth 100000

theorem diskCrash_lifted (os : Os) (started : os.Started) (H : Type) (enc : TypeId × Value → H) :
    ReturnsInHanded Rows.diskCrashRow.assume Try.checked os 8 .any (Rows.diskCrashSpec.pre6 enc Try.prog Try.f8 Rows.diskCrashRow.domain Rows.diskCrashRow.apart) (Rows.diskCrashSpec.post enc Try.prog Try.f8 Rows.diskCrashRow.apart Rows.diskCrashRow.fresh Rows.diskCrashRow.handsOn Rows.diskCrashRow.again) := by
  refine returnsInHanded_of_change_sized (C := Try.checked) Try.own started (by kernel_rfl) Try.func8
    (ChangeSpec.witness6 (enc := enc) (C := Try.checked) false ⟨#[], #[.agg #[.slice none 0 0, .int .i64 0], .agg #[.int .i64 0, .slice none 0 0], .int .i64 0, .int .i64 0], []⟩ 8 (by kernel_rfl) (by kernel_rfl) (by kernel_rfl) (by kernel_rfl)) ?_
  intro W base args ds gs before hval hW _ hsz _
  refine law_post (l := tys Try.f8) (tb := 4) (by kernel_rfl) Try.laidOut (by kernel_rfl) (by kernel_rfl) Try.underlying4 rfl (fun ds hds => ?_) (fun xs hf _ => ?_) hsz hval hW
  · match ds, hds with
    | [a, b, c, d], _ => rfl
  · rw [Try.params8] at hf
    obtain ⟨a, ys, rfl, ⟨_, ha⟩, hf⟩ := fitsL_cons hf
    obtain ⟨b, ys, rfl, ⟨_, hb⟩, hf⟩ := fitsL_cons hf
    obtain ⟨c, ys, rfl, ⟨_, hc⟩, hf⟩ := fitsL_cons hf
    obtain ⟨d, ys, rfl, ⟨_, hd⟩, hf⟩ := fitsL_cons hf
    obtain rfl := fitsL_nil hf
    obtain ⟨a, rfl, hal⟩ := fits_dk ha
    obtain ⟨b, rfl, hbl⟩ := fits_bt hb
    obtain ⟨c, rfl, hcl⟩ := fits_int Try.underlying3 hc
    obtain ⟨d, rfl, hdl⟩ := fits_int Try.underlying3 hd
    exact DiskCrash_ok a b c d 0

theorem diskCrash_holds : Rows.DiskCrashSaid :=
  OpenClaim.holds_of_wide 8 Try.f8 rfl rfl rfl rfl rfl rfl rfl ⟨rfl, rfl, rfl, rfl, rfl⟩ rfl rfl rfl rfl rfl (by kernel_rfl) Try.func8 (by kernel_rfl)
    (of_decide_eq_true (by kernel_rfl)) (by unfold Func.isWrapper; first | (rw [if_pos (by decide +kernel)]; kernel_rfl) | (rw [if_neg (by decide +kernel)]; exact ⟨rfl, rfl⟩))
    (fun os started H enc _ => diskCrash_lifted os started H enc)

#print axioms diskCrash_holds
end Go.Proofs.Ytgdanfbkhaoieaa
