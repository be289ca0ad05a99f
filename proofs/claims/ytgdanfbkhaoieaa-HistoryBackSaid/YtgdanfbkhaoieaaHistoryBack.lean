/- Whatever state and events are handed in, the law HistoryBack returns true, and what was handed in reads as it did. No condition. -/
import Derived.Test.YtgdanfbkhaoieaaYM
import Derived.Test.YtgdanfbkhaoieaaXN
import Derived.Test.YtgdanfbkhaoieaaRows
namespace Go.Proofs.Ytgdanfbkhaoieaa
open Go Go.RowKit Go.Am
set_option maxRecDepth 100000
theorem historyBack_lifted (os:Os) (started:os.Started) (H:Type) (enc:TypeId × Value→H) :
    ReturnsInHanded Rows.historyBackRow.assume Try.checked os 16 .any (Rows.historyBackSpec.pre6 enc Try.prog Try.f16 Rows.historyBackRow.domain Rows.historyBackRow.apart) (Rows.historyBackSpec.post enc Try.prog Try.f16 Rows.historyBackRow.apart Rows.historyBackRow.fresh Rows.historyBackRow.handsOn Rows.historyBackRow.again):=by
  refine returnsInHanded_of_change_sized (C:=Try.checked) Try.own started (by kernel_rfl) Try.func16
    (ChangeSpec.witness6 (enc:=enc) (C:=Try.checked) false ⟨#[],#[.agg #[.slice none 0 0,.slice none 0 0],.slice none 0 0],[]⟩ 8 (by kernel_rfl) (by kernel_rfl) (by kernel_rfl) (by kernel_rfl)) ?_
  intro W base args ds gs before hval hW _ hsz _
  refine law_post (l:=tys Try.f16) (tb:=4) (by kernel_rfl) Try.laidOut (by kernel_rfl) (by kernel_rfl) Try.underlying4 rfl (fun ds hds=>?_) (fun xs hf _=>?_) hsz hval hW
  · match ds,hds with
    | [s,e],_=>rfl
  · rw [Try.params16] at hf
    obtain ⟨s,ys,rfl,⟨_,hs⟩,hf⟩:=fitsL_cons hf
    obtain ⟨e,ys,rfl,⟨_,he⟩,hf⟩:=fitsL_cons hf
    obtain rfl:=fitsL_nil hf
    obtain ⟨s,rfl,hI⟩:=fits_sta hs
    obtain ⟨e,rfl,he3,_⟩:=fits_evs he
    exact HistoryBack_ok s e 0 hI he3
theorem historyBack_holds:Rows.HistoryBackSaid :=
  OpenClaim.holds_of_wide 16 Try.f16 rfl rfl rfl rfl rfl rfl rfl ⟨rfl,rfl,rfl,rfl,rfl⟩ rfl rfl rfl rfl rfl (by kernel_rfl) Try.func16 (by kernel_rfl)
    (of_decide_eq_true (by kernel_rfl)) (by unfold Func.isWrapper; first | (rw [if_pos (by decide +kernel)]; kernel_rfl) | (rw [if_neg (by decide +kernel)]; exact ⟨rfl,rfl⟩))
    (fun os started H enc _=>historyBack_lifted os started H enc)
#print axioms historyBack_holds
end Go.Proofs.Ytgdanfbkhaoieaa
