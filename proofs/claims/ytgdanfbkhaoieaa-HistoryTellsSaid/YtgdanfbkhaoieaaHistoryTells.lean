/- Whatever types, events, number, state and group are handed in, the law HistoryTells returns true, and what was handed in reads as it did. No condition. -/
import Derived.Test.YtgdanfbkhaoieaaYN
import Derived.Test.YtgdanfbkhaoieaaXN
import Derived.Test.YtgdanfbkhaoieaaRows
namespace Go.Proofs.Ytgdanfbkhaoieaa
open Go Go.RowKit Go.Am
set_option maxRecDepth 100000
theorem historyTells_lifted (os:Os) (started:os.Started) (H:Type) (enc:TypeId × Value→H) :
    ReturnsInHanded Rows.historyTellsRow.assume Try.checked os 14 .any (Rows.historyTellsSpec.pre6 enc Try.prog Try.f14 Rows.historyTellsRow.domain Rows.historyTellsRow.apart) (Rows.historyTellsSpec.post enc Try.prog Try.f14 Rows.historyTellsRow.apart Rows.historyTellsRow.fresh Rows.historyTellsRow.handsOn Rows.historyTellsRow.again):=by
  refine returnsInHanded_of_change_sized (C:=Try.checked) Try.own started (by kernel_rfl) Try.func14
    (ChangeSpec.witness6 (enc:=enc) (C:=Try.checked) false ⟨#[],#[.slice none 0 0,.slice none 0 0,.int .i64 0,.agg #[.slice none 0 0,.slice none 0 0],.slice none 0 0],[]⟩ 8 (by kernel_rfl) (by kernel_rfl) (by kernel_rfl) (by kernel_rfl)) ?_
  intro W base args ds gs before hval hW _ hsz _
  refine law_post (l:=tys Try.f14) (tb:=4) (by kernel_rfl) Try.laidOut (by kernel_rfl) (by kernel_rfl) Try.underlying4 rfl (fun ds hds=>?_) (fun xs hf _=>?_) hsz hval hW
  · match ds,hds with
    | [a,b,c,d,e],_=>rfl
  · rw [Try.params14] at hf
    obtain ⟨l,ys,rfl,⟨_,hl⟩,hf⟩:=fitsL_cons hf
    obtain ⟨ev,ys,rfl,⟨_,hev⟩,hf⟩:=fitsL_cons hf
    obtain ⟨n,ys,rfl,⟨_,hn⟩,hf⟩:=fitsL_cons hf
    obtain ⟨s,ys,rfl,⟨_,hs⟩,hf⟩:=fitsL_cons hf
    obtain ⟨g,ys,rfl,⟨_,hg⟩,hf⟩:=fitsL_cons hf
    obtain rfl:=fitsL_nil hf
    obtain ⟨l,rfl⟩:=fits_tys hl
    obtain ⟨ev,rfl,he1,he2⟩:=fits_evs hev
    obtain ⟨n,rfl,_⟩:=fits_i64 hn
    obtain ⟨s,rfl,hI⟩:=fits_sta hs
    obtain ⟨g,rfl,hg1,hg2⟩:=fits_evs hg
    exact HistoryTells_ok l ev n s g 0 he1 hI hg1 (by omega) (by omega)
theorem historyTells_holds:Rows.HistoryTellsSaid :=
  OpenClaim.holds_of_wide 14 Try.f14 rfl rfl rfl rfl rfl rfl rfl ⟨rfl,rfl,rfl,rfl,rfl⟩ rfl rfl rfl rfl rfl (by kernel_rfl) Try.func14 (by kernel_rfl)
    (of_decide_eq_true (by kernel_rfl)) (by unfold Func.isWrapper; first | (rw [if_pos (by decide +kernel)]; kernel_rfl) | (rw [if_neg (by decide +kernel)]; exact ⟨rfl,rfl⟩))
    (fun os started H enc _=>historyTells_lifted os started H enc)
#print axioms historyTells_holds
end Go.Proofs.Ytgdanfbkhaoieaa
