/- Whatever types and selects are handed in, the law ValidOnce returns true, and what was handed in reads as it did. Condition: the bulk of what is handed in is at most 1,048,576. -/
import Derived.Test.YtgdanfbkhaoieaaXJ
import Derived.Test.YtgdanfbkhaoieaaXN
import Derived.Test.YtgdanfbkhaoieaaRows
namespace Go.Proofs.Ytgdanfbkhaoieaa
open Go Go.RowKit Go.Am
set_option maxRecDepth 100000

theorem validOnce_lifted (os : Os) (started : os.Started) (H : Type) (enc : TypeId × Value → H) (F : Stop.Interp) :
    ReturnsInHanded Rows.validOnceUptoRow.assume Try.checked os 6 .any ((Rows.OpenSpec.upto Rows.validOnceSpec).pre6 enc Try.prog Try.f6 Rows.validOnceUptoRow.domain Rows.validOnceUptoRow.apart) (((Rows.OpenSpec.upto Rows.validOnceSpec).at F).post enc Try.prog Try.f6 Rows.validOnceUptoRow.apart Rows.validOnceUptoRow.fresh Rows.validOnceUptoRow.handsOn Rows.validOnceUptoRow.again) := by
  refine returnsInHanded_of_cond_sized (C := Try.checked) (s := Rows.OpenSpec.upto Rows.validOnceSpec) (k := Rows.uptoSmall) rfl Try.own started (by kernel_rfl) Try.func6
    (OpenSpec.witness (enc := enc) (C := Try.checked) (s := Rows.OpenSpec.upto Rows.validOnceSpec) (k := Rows.uptoSmall) rfl false ⟨#[], #[.slice none 0 0, .slice none 0 0], []⟩ 8 (by kernel_rfl) (by kernel_rfl) (by kernel_rfl)
      (x := ([.nil, .nil], [], [])) (by kernel_rfl) rfl (by kernel_rfl)) ?_
  intro W base args ds gs before hval hW _ hk hsz _
  refine law_post (s := Rows.validOnceSpec) (l := tys Try.f6) (tb := 4) (by kernel_rfl) Try.laidOut (by kernel_rfl) (by kernel_rfl) Try.underlying4 rfl (fun ds hds => ?_) (fun xs hf he => ?_) hsz hval hW
  · match ds, hds with
    | [l, q], _ => rfl
  · rw [Try.params6] at hf
    obtain ⟨l, ys, rfl, ⟨_, hl⟩, hf⟩ := fitsL_cons hf
    obtain ⟨q, ys, rfl, ⟨_, hq⟩, hf⟩ := fitsL_cons hf
    obtain rfl := fitsL_nil hf
    obtain ⟨l, rfl⟩ := fits_tys hl
    obtain ⟨q, rfl⟩ := fits_sels hq
    have hq : szL q ≤ 1048576 := by
      have hb : Rows.uptoBulkAll (ds ++ gs) ≤ 1048576 := of_decide_eq_true hk
      have hm : AV.sl (q.map eSel) ∈ ds.map avOf := by rw [← he]; simp
      obtain ⟨d, hd, hde⟩ := List.mem_map.1 hm
      exact sz_le (List.mem_append_left _ hd) hde hb
    exact ValidOnce_ok l q 0 (by omega)

theorem validOnce_holds : Rows.ValidOnceUptoSaid :=
  OpenClaim.holds_of_cond 6 Try.f6 rfl rfl rfl rfl rfl rfl rfl ⟨rfl, rfl, rfl, rfl, rfl⟩ rfl rfl rfl rfl rfl (by kernel_rfl) Try.func6 (by kernel_rfl)
    (of_decide_eq_true (by kernel_rfl)) (by unfold Func.isWrapper; first | (rw [if_pos (by decide +kernel)]; kernel_rfl) | (rw [if_neg (by decide +kernel)]; exact ⟨rfl, rfl⟩))
    (fun os started H enc _ F => validOnce_lifted os started H enc F)

#print axioms validOnce_holds
end Go.Proofs.Ytgdanfbkhaoieaa
