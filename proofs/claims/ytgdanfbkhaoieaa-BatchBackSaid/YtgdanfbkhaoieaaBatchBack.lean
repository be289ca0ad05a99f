/- Whatever two batches and text are handed in, the law BatchBack returns true, and what was handed in reads as it did. No condition. -/
import Derived.Test.YtgdanfbkhaoieaaXH
import Derived.Test.YtgdanfbkhaoieaaXG
import Derived.Test.YtgdanfbkhaoieaaRows
namespace Go.Proofs.Ytgdanfbkhaoieaa
open Go Go.RowKit Go.Am
set_option maxRecDepth 100000

theorem batchBack_lifted (os : Os) (started : os.Started) (H : Type) (enc : TypeId × Value → H) :
    ReturnsInHanded Rows.batchBackRow.assume Try.checked os 4 .any (Rows.batchBackSpec.pre6 enc Try.prog Try.f4 Rows.batchBackRow.domain Rows.batchBackRow.apart) (Rows.batchBackSpec.post enc Try.prog Try.f4 Rows.batchBackRow.apart Rows.batchBackRow.fresh Rows.batchBackRow.handsOn Rows.batchBackRow.again) := by
  refine returnsInHanded_of_change_sized (C := Try.checked) Try.own started (by kernel_rfl) Try.func4
    (ChangeSpec.witness6 (enc := enc) (C := Try.checked) false ⟨#[], #[.agg #[.int .i64 0, .slice none 0 0], .agg #[.int .i64 0, .slice none 0 0], .string ⟨#[]⟩], []⟩ 8 (by kernel_rfl) (by kernel_rfl) (by kernel_rfl) (by kernel_rfl)) ?_
  intro W base args ds gs before hval hW _ hsz _
  refine law_post (l := tys Try.f4) (tb := 4) (by kernel_rfl) Try.laidOut (by kernel_rfl) (by kernel_rfl) Try.underlying4 rfl (fun ds hds => ?_) (fun xs hf _ => ?_) hsz hval hW
  · match ds, hds with
    | [a, b, c], _ => rfl
  · rw [Try.params4] at hf
    obtain ⟨a, ys, rfl, ⟨_, ha⟩, hf⟩ := fitsL_cons hf
    obtain ⟨b, ys, rfl, ⟨_, hb⟩, hf⟩ := fitsL_cons hf
    obtain ⟨c, ys, rfl, ⟨_, hc⟩, hf⟩ := fitsL_cons hf
    obtain rfl := fitsL_nil hf
    obtain ⟨a, rfl, hal⟩ := fits_bt ha
    obtain ⟨b, rfl, hbl⟩ := fits_bt hb
    obtain ⟨c, rfl, hcl⟩ := fits_str Try.underlying9 hc
    unfold reachBytes at hcl
    exact BatchBack_ok a b c 0 (by omega)

theorem batchBack_holds : Rows.BatchBackSaid :=
  OpenClaim.holds_of_wide 4 Try.f4 rfl rfl rfl rfl rfl rfl rfl ⟨rfl, rfl, rfl, rfl, rfl⟩ rfl rfl rfl rfl rfl (by kernel_rfl) Try.func4 (by kernel_rfl)
    (of_decide_eq_true (by kernel_rfl)) (by unfold Func.isWrapper; first | (rw [if_pos (by decide +kernel)]; kernel_rfl) | (rw [if_neg (by decide +kernel)]; exact ⟨rfl, rfl⟩))
    (fun os started H enc _ => batchBack_lifted os started H enc)

#print axioms batchBack_holds
end Go.Proofs.Ytgdanfbkhaoieaa
