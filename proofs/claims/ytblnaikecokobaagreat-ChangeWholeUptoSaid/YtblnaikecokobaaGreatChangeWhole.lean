/- Whatever state and selects are handed in, the law ChangeWhole returns true, and what was handed in reads as it did. Condition: the bulk of what is handed in is at most 1,048,576. -/
import Derived.Test.YtblnaikecokobaaGreatZH
import Derived.Test.YtblnaikecokobaaGreatXN
import Derived.Test.YtblnaikecokobaaGreatRows
namespace Go.Proofs.YtblnaikecokobaaGreat
open Go Go.RowKit Go.Am
set_option maxRecDepth 100000
theorem changeWhole_lifted(os:Os)(started:os.Started)(H:Type)(enc:TypeId×Value→H)(F:Stop.Interp):
  ReturnsInHanded Rows.changeWholeUptoRow.assume Tryz.checked os 5 .any ((Rows.OpenSpec.upto Rows.changeWholeSpec).pre6 enc Tryz.prog Tryz.f5 Rows.changeWholeUptoRow.domain Rows.changeWholeUptoRow.apart) (((Rows.OpenSpec.upto Rows.changeWholeSpec).at F).post enc Tryz.prog Tryz.f5 Rows.changeWholeUptoRow.apart Rows.changeWholeUptoRow.fresh Rows.changeWholeUptoRow.handsOn Rows.changeWholeUptoRow.again):=by
 refine returnsInHanded_of_cond_sized (C:=Tryz.checked) (s:=Rows.OpenSpec.upto Rows.changeWholeSpec) (k:=Rows.uptoSmall) rfl Tryz.own started (by kernel_rfl) Tryz.func5
  (OpenSpec.witness (enc:=enc) (C:=Tryz.checked) (s:=Rows.OpenSpec.upto Rows.changeWholeSpec) (k:=Rows.uptoSmall) rfl false ⟨#[],#[.agg #[.slice none 0 0,.slice none 0 0],.slice none 0 0],[]⟩ 8 (by kernel_rfl) (by kernel_rfl) (by kernel_rfl)
   (x:=([.agg [.nil,.nil],.nil],[],[])) (by kernel_rfl) rfl (by kernel_rfl)) ?_
 intro W base args ds gs before hval hW _ hk hsz _
 refine law_post (s:=Rows.changeWholeSpec) (l:=tys Tryz.f5) (tb:=4) (by kernel_rfl) Tryz.laidOut (by kernel_rfl) (by kernel_rfl) Tryz.underlying4 rfl (fun ds hds=>?_) (fun xs hf he=>?_) hsz hval hW
 ·match ds,hds with
  | [l,q],_=>rfl
 ·rw[Tryz.params5] at hf
  obtain⟨l,ys,rfl,⟨_,hl⟩,hf⟩:=fitsL_cons hf
  obtain⟨q,ys,rfl,⟨_,hq⟩,hf⟩:=fitsL_cons hf
  obtain rfl:=fitsL_nil hf
  obtain⟨s,rfl,hI⟩:=fits_sta hl
  obtain⟨q,rfl⟩:=fits_sels hq
  have hq:szL q≤1048576:=by
   have hb:Rows.uptoBulkAll (ds++gs)≤1048576:=of_decide_eq_true hk
   have hm:AV.sl (q.map eSel)∈ds.map avOf:=by rw[←he]; simp
   obtain⟨d,hd,hde⟩:=List.mem_map.1 hm
   exact sz_le (List.mem_append_left _ hd) hde hb
  exact ChangeWhole_ok s q 0 hI (by omega)
theorem changeWhole_holds:Rows.ChangeWholeUptoSaid :=
 OpenClaim.holds_of_cond 5 Tryz.f5 rfl rfl rfl rfl rfl rfl rfl ⟨rfl,rfl,rfl,rfl,rfl⟩ rfl rfl rfl rfl rfl (by kernel_rfl) Tryz.func5 (by kernel_rfl)
  (of_decide_eq_true (by kernel_rfl)) (by unfold Func.isWrapper; first|(rw[if_pos (by decide +kernel)]; kernel_rfl)|(rw[if_neg (by decide +kernel)]; exact⟨rfl,rfl⟩))
  (fun os started H enc _ F=>changeWhole_lifted os started H enc F)
#print axioms changeWhole_holds
end Go.Proofs.YtblnaikecokobaaGreat
