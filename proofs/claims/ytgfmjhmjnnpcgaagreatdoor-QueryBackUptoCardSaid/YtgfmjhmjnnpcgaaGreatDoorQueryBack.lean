/- Whatever text and selects are handed in, the law QueryBack returns true, and what was handed in reads as it did. Condition: the bulk of what is handed in is at most 1,048,576; the tables of the library hold what the program's text lays. -/
import Derived.Test.YtgfmjhmjnnpcgaaGreatDoorXQ
namespace Go.Proofs.YtgfmjhmjnnpcgaaGreatDoor
open Go Go.RowKit Go.Am Go.ChangeAt
set_option maxRecDepth 100000
theorem queryBack_met(os:Os):laidMet Tryz.prog Rows.queryBackUptoRow.laid ((laidWorld os).forCall (fun _ _=>0) ⟨#[],#[.string ⟨#[]⟩,.slice none 0 0],[]⟩).memory :=
 laidMet_of_run' 8 (by kernel_rfl) (by kernel_rfl)
theorem queryBack_reads(os:Os){H:Type}(enc:TypeId×Value→H):∃places,DataW.whole enc Tryz.prog ((laidWorld os).forCall (fun _ _=>0) ⟨#[],#[.string ⟨#[]⟩,.slice none 0 0],[]⟩).memory Tryz.f12.params.toList Rows.queryBackSpec.vars false
  (#[.string ⟨#[]⟩,.slice none 0 0]:Array Value).toList 8=some ([.lit (.string []),.nil],[],places) :=
 ⟨[],by kernel_rfl⟩
theorem queryBack_lifted(os:Os)(started:os.Started)(H:Type)(enc:TypeId×Value→H)(F:Stop.Interp):
  ReturnsInHanded Rows.queryBackUptoRow.assume Tryz.checked os 12 .any ((Rows.OpenSpec.upto Rows.queryBackSpec).preRow enc Tryz.prog Tryz.f12 Rows.queryBackUptoRow.domain Rows.queryBackUptoRow.apart Rows.queryBackUptoRow.laid) (((Rows.OpenSpec.upto Rows.queryBackSpec).at F).post enc Tryz.prog Tryz.f12 Rows.queryBackUptoRow.apart Rows.queryBackUptoRow.fresh Rows.queryBackUptoRow.handsOn Rows.queryBackUptoRow.again):=by
 obtain⟨places,hx⟩:=queryBack_reads os enc
 refine returnsInHanded_of_row (C:=Tryz.checked) (s:=Rows.OpenSpec.upto Rows.queryBackSpec) Tryz.own started (by kernel_rfl) Tryz.func12
  (witness_row_at (enc:=enc) (C:=Tryz.checked) false (laidWorld os) #[.string ⟨#[]⟩,.slice none 0 0] rfl (by kernel_rfl) (by kernel_rfl) (by kernel_rfl)
   (OpenSpec.preRow_of_cond 8 hx (by kernel_rfl) (fun k hk=>by cases hk; kernel_rfl) (by kernel_rfl) (queryBack_met os))) ?_
 intro W base args ds gs before hval hW _ hcond hsz hL _ _
 have hk:Rows.uptoSmall H (ds++gs)=true:=hcond _ rfl
 refine law_post (s:=Rows.queryBackSpec) (l:=tys Tryz.f12) (tb:=4) (by kernel_rfl) Tryz.laidOut (by kernel_rfl) (by kernel_rfl) Tryz.underlying4 rfl (fun ds hds=>?_) (fun xs hf he=>?_) hsz hval hW (tabs_laid hL)
 ·match ds,hds with
  | [s,l],_=>rfl
 ·rw[Tryz.params12] at hf
  obtain⟨s,ys,rfl,⟨_,hs⟩,hf⟩:=fitsL_cons hf
  obtain⟨l,ys,rfl,⟨_,hl⟩,hf⟩:=fitsL_cons hf
  obtain rfl:=fitsL_nil hf
  obtain⟨s,rfl,hsl⟩:=fits_str Tryz.underlying9 hs
  obtain⟨l,rfl⟩:=fits_sels hl
  have hb:Rows.uptoBulkAll (ds++gs)≤1048576:=of_decide_eq_true hk
  have hlz:szL l≤1048576:=by
   have hm:AV.sl (l.map eSel)∈ds.map avOf:=by rw[←he]; simp
   obtain⟨d,hd,hde⟩:=List.mem_map.1 hm
   exact sz_le (List.mem_append_left _ hd) hde hb
  exact QueryBack_ok s l 0 hlz
theorem queryBack_said:Rows.QueryBackUptoSaid :=
 OpenClaim.holds_of_cond 12 Tryz.f12 rfl rfl rfl rfl rfl rfl rfl ⟨rfl,rfl,rfl,rfl,rfl⟩ rfl rfl rfl rfl rfl (by kernel_rfl) Tryz.func12 (by kernel_rfl)
  (of_decide_eq_true (by kernel_rfl)) (by unfold Func.isWrapper; first|(rw[if_pos (by decide +kernel)]; kernel_rfl)|(rw[if_neg (by decide +kernel)]; exact⟨rfl,rfl⟩))
  (fun os started H enc _ F=>by rw[OpenClaim.pre_eq_preRow]; exact queryBack_lifted os started H enc F)
theorem queryBack_plain(f:FuncId)(fn:Func)(hf:Tryz.pinned.checked.prog.funcNamed Rows.queryBackUptoRow.func=some f)(hfn:Tryz.pinned.checked.prog.funcs[f]?=some fn):
  true=Tryz.pinned.checked.prog.looks []∧∀(j:Nat) t,fn.params[j]?=some t→Tryz.pinned.checked.prog.wantsStandIn t=false:=by
 obtain rfl:f=12:=Option.some.inj ((show Tryz.prog.funcNamed Rows.queryBackUptoRow.func=some 12 by kernel_rfl).symm.trans hf) |>.symm
 obtain rfl:fn=Tryz.f12:=(Option.some.inj (Tryz.func12.symm.trans hfn)).symm
 refine⟨by kernel_rfl,fun j t ht=>?_⟩
 have h:(Tryz.f12.params.toList.all fun t=>Tryz.prog.wantsStandIn t==false)=true:=by kernel_rfl
 have:=List.all_eq_true.1 h t (by simpa using Array.mem_of_getElem? ht)
 exact (show Tryz.prog.wantsStandIn t=false by simpa using this)
theorem queryBack_holds:Rows.QueryBackUptoCardSaid :=
 Claim7.holds_tied_plain_at .later [] _ _ _ _ queryBack_said (fun _ h=>by cases h) (by kernel_rfl) (fun _ h=>by cases h) queryBackUpto_row_tie rfl ⟨rfl,rfl⟩ (by kernel_rfl) rfl queryBack_plain (by kernel_rfl)
#print axioms queryBack_holds
end Go.Proofs.YtgfmjhmjnnpcgaaGreatDoor
