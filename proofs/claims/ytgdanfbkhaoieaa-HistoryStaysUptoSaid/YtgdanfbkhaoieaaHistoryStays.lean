/- Whatever types, events and number are handed in, the law HistoryStays returns true, and what was handed in reads as it did. Condition: the bulk of what is handed in is at most 1,048,576. -/
import Derived.Test.YtgdanfbkhaoieaaYO
import Derived.Test.YtgdanfbkhaoieaaXN
import Derived.Deep.CondSized
import Derived.Test.YtgdanfbkhaoieaaRows
namespace Go.Proofs.Ytgdanfbkhaoieaa
open Go Go.RowKit Go.Am
set_option maxRecDepth 100000
theorem historyStays_lifted (os:Os) (started:os.Started) (H:Type) (enc:TypeId × Value→H) (F:Stop.Interp) :
    ReturnsInHanded Rows.historyStaysUptoRow.assume Try.checked os 15 .any ((Rows.OpenSpec.upto Rows.historyStaysSpec).pre6 enc Try.prog Try.f15 Rows.historyStaysUptoRow.domain Rows.historyStaysUptoRow.apart) (((Rows.OpenSpec.upto Rows.historyStaysSpec).at F).post enc Try.prog Try.f15 Rows.historyStaysUptoRow.apart Rows.historyStaysUptoRow.fresh Rows.historyStaysUptoRow.handsOn Rows.historyStaysUptoRow.again):=by
  refine returnsInHanded_of_cond_sized (C:=Try.checked) (s:=Rows.OpenSpec.upto Rows.historyStaysSpec) (k:=Rows.uptoSmall) rfl Try.own started (by kernel_rfl) Try.func15
    (OpenSpec.witness (enc:=enc) (C:=Try.checked) (s:=Rows.OpenSpec.upto Rows.historyStaysSpec) (k:=Rows.uptoSmall) rfl false ⟨#[],#[.slice none 0 0,.slice none 0 0,.slice none 0 0,.int .i64 0],[]⟩ 8 (by kernel_rfl) (by kernel_rfl) (by kernel_rfl)
      (x:=([.nil,.nil,.nil,.lit (.int .i64 0)],[],[])) (by kernel_rfl) rfl (by kernel_rfl)) ?_
  intro W base args ds gs before hval hW _ hk hsz _
  refine law_post (s:=Rows.historyStaysSpec) (l:=tys Try.f15) (tb:=4) (by kernel_rfl) Try.laidOut (by kernel_rfl) (by kernel_rfl) Try.underlying4 rfl (fun ds hds=>?_) (fun xs hf he=>?_) hsz hval hW
  · match ds,hds with
    | [a,b,c,d],_=>rfl
  · rw [Try.params15] at hf
    obtain ⟨l,ys,rfl,⟨_,hl⟩,hf⟩:=fitsL_cons hf
    obtain ⟨ev,ys,rfl,⟨_,hev⟩,hf⟩:=fitsL_cons hf
    obtain ⟨mo,ys,rfl,⟨_,hmo⟩,hf⟩:=fitsL_cons hf
    obtain ⟨n,ys,rfl,⟨_,hn⟩,hf⟩:=fitsL_cons hf
    obtain rfl:=fitsL_nil hf
    obtain ⟨l,rfl⟩:=fits_tys hl
    obtain ⟨ev,rfl,he1,_⟩:=fits_evs hev
    obtain ⟨mo,rfl,hm1,_⟩:=fits_evs hmo
    obtain ⟨n,rfl,_⟩:=fits_i64 hn
    have hb:Rows.uptoBulkAll (ds++gs)≤1048576:=of_decide_eq_true hk
    have hlen:∀ l:List Ev,AV.sl (l.map eEv)∈ds.map avOf→l.length≤1048576:=fun l hm=>by
      obtain ⟨d,hd,hde⟩:=List.mem_map.1 hm
      have:=len_le (List.mem_append_left gs hd) hde hb
      simpa using this
    exact HistoryStays_ok l ev mo n 0 he1 hm1 (hlen ev (by rw [← he]; simp)) (hlen mo (by rw [← he]; simp))
theorem historyStays_holds:Rows.HistoryStaysUptoSaid :=
  OpenClaim.holds_of_cond 15 Try.f15 rfl rfl rfl rfl rfl rfl rfl ⟨rfl,rfl,rfl,rfl,rfl⟩ rfl rfl rfl rfl rfl (by kernel_rfl) Try.func15 (by kernel_rfl)
    (of_decide_eq_true (by kernel_rfl)) (by unfold Func.isWrapper; first | (rw [if_pos (by decide +kernel)]; kernel_rfl) | (rw [if_neg (by decide +kernel)]; exact ⟨rfl,rfl⟩))
    (fun os started H enc _ F=>historyStays_lifted os started H enc F)
#print axioms historyStays_holds
end Go.Proofs.Ytgdanfbkhaoieaa
