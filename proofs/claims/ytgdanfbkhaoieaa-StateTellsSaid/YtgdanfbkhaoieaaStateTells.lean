/- Whatever state and event are handed in, the law StateTells returns true, and what was handed in reads as it did. No condition. -/
import Derived.Test.YtgdanfbkhaoieaaYK
import Derived.Test.YtgdanfbkhaoieaaXN
import Derived.Test.YtgdanfbkhaoieaaRows
namespace Go.Proofs.Ytgdanfbkhaoieaa
open Go Go.RowKit Go.Am
set_option maxRecDepth 100000
theorem stateTells_lifted (os:Os) (started:os.Started) (H:Type) (enc:TypeId × Value→H) :
    ReturnsInHanded Rows.stateTellsRow.assume Try.checked os 11 .any (Rows.stateTellsSpec.pre6 enc Try.prog Try.f11 Rows.stateTellsRow.domain Rows.stateTellsRow.apart) (Rows.stateTellsSpec.post enc Try.prog Try.f11 Rows.stateTellsRow.apart Rows.stateTellsRow.fresh Rows.stateTellsRow.handsOn Rows.stateTellsRow.again):=by
  refine returnsInHanded_of_change_sized (C:=Try.checked) Try.own started (by kernel_rfl) Try.func11
    (ChangeSpec.witness6 (enc:=enc) (C:=Try.checked) false ⟨#[],#[.agg #[.slice none 0 0,.slice none 0 0],.agg #[.int .i64 0,.int .i64 0,.int .i64 0,.int .i64 0,.int .i64 0,.string ⟨#[]⟩]],[]⟩ 8 (by kernel_rfl) (by kernel_rfl) (by kernel_rfl) (by kernel_rfl)) ?_
  intro W base args ds gs before hval hW _ hsz _
  refine law_post (l:=tys Try.f11) (tb:=4) (by kernel_rfl) Try.laidOut (by kernel_rfl) (by kernel_rfl) Try.underlying4 rfl (fun ds hds=>?_) (fun xs hf _=>?_) hsz hval hW
  · match ds,hds with
    | [s,e],_=>rfl
  · rw [Try.params11] at hf
    obtain ⟨s,ys,rfl,⟨_,hs⟩,hf⟩:=fitsL_cons hf
    obtain ⟨e,ys,rfl,⟨_,he⟩,hf⟩:=fitsL_cons hf
    obtain rfl:=fitsL_nil hf
    obtain ⟨s,rfl,hI⟩:=fits_sta hs
    obtain ⟨e,rfl,he1,he2,he3⟩:=fits_evI he
    exact StateTells_ok s e 0 hI he3
theorem stateTells_holds:Rows.StateTellsSaid :=
  OpenClaim.holds_of_wide 11 Try.f11 rfl rfl rfl rfl rfl rfl rfl ⟨rfl,rfl,rfl,rfl,rfl⟩ rfl rfl rfl rfl rfl (by kernel_rfl) Try.func11 (by kernel_rfl)
    (of_decide_eq_true (by kernel_rfl)) (by unfold Func.isWrapper; first | (rw [if_pos (by decide +kernel)]; kernel_rfl) | (rw [if_neg (by decide +kernel)]; exact ⟨rfl,rfl⟩))
    (fun os started H enc _=>stateTells_lifted os started H enc)
#print axioms stateTells_holds
end Go.Proofs.Ytgdanfbkhaoieaa
