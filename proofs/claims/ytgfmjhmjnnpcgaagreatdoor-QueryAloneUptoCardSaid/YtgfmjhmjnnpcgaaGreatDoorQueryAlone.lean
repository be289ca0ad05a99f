/- Whatever selects are handed in, the law QueryAlone returns true, and what was handed in reads as it did. Condition: the bulk of what is handed in is at most 1,048,576; the tables of the library hold what the program's text lays. -/
import Derived.Test.YtgfmjhmjnnpcgaaGreatDoorYV
import Derived.Test.YtgfmjhmjnnpcgaaGreatDoorZA
import Derived.Test.YtgfmjhmjnnpcgaaGreatDoorZB
namespace Go.Proofs.YtgfmjhmjnnpcgaaGreatDoor
open Go Go.RowKit Go.Am Go.ChangeAt
set_option maxRecDepth 100000
theorem queryAlone_met(os:Os):laidMet Tryz.prog Rows.queryAloneUptoRow.laid ((laidWorld os).forCall (fun _ _=>0) ⟨#[],#[.slice none 0 0],[]⟩).memory :=
 laidMet_of_run' 8 (by kernel_rfl) (by kernel_rfl)
theorem queryAlone_reads(os:Os){H:Type}(enc:TypeId×Value→H):∃places,DataW.whole enc Tryz.prog ((laidWorld os).forCall (fun _ _=>0) ⟨#[],#[.slice none 0 0],[]⟩).memory Tryz.f10.params.toList Rows.queryAloneSpec.vars false
  (#[.slice none 0 0]:Array Value).toList 8=some ([.nil],[],places) :=
 ⟨[],by kernel_rfl⟩
theorem queryAlone_lifted(os:Os)(started:os.Started)(H:Type)(enc:TypeId×Value→H)(F:Stop.Interp):
  ReturnsInHanded Rows.queryAloneUptoRow.assume Tryz.checked os 10 .any ((Rows.OpenSpec.upto Rows.queryAloneSpec).preRow enc Tryz.prog Tryz.f10 Rows.queryAloneUptoRow.domain Rows.queryAloneUptoRow.apart Rows.queryAloneUptoRow.laid) (((Rows.OpenSpec.upto Rows.queryAloneSpec).at F).post enc Tryz.prog Tryz.f10 Rows.queryAloneUptoRow.apart Rows.queryAloneUptoRow.fresh Rows.queryAloneUptoRow.handsOn Rows.queryAloneUptoRow.again):=by
 obtain⟨places,hx⟩:=queryAlone_reads os enc
 refine returnsInHanded_of_row (C:=Tryz.checked) (s:=Rows.OpenSpec.upto Rows.queryAloneSpec) Tryz.own started (by kernel_rfl) Tryz.func10
  (witness_row_at (enc:=enc) (C:=Tryz.checked) false (laidWorld os) #[.slice none 0 0] rfl (by kernel_rfl) (by kernel_rfl) (by kernel_rfl)
   (OpenSpec.preRow_of_cond 8 hx (by kernel_rfl) (fun k hk=>by cases hk; kernel_rfl) (by kernel_rfl) (queryAlone_met os))) ?_
 intro W base args ds gs before hval hW _ hcond hsz hL _ _
 have hk:Rows.uptoSmall H (ds++gs)=true:=hcond _ rfl
 refine law_post (s:=Rows.queryAloneSpec) (l:=tys Tryz.f10) (tb:=4) (by kernel_rfl) Tryz.laidOut (by kernel_rfl) (by kernel_rfl) Tryz.underlying4 rfl (fun ds hds=>?_) (fun xs hf he=>?_) hsz hval hW (tabs_laid hL)
 ·match ds,hds with
  | [l],_=>rfl
 ·rw[Tryz.params10] at hf
  obtain⟨l,ys,rfl,⟨_,hl⟩,hf⟩:=fitsL_cons hf
  obtain rfl:=fitsL_nil hf
  obtain⟨l,rfl⟩:=fits_sels hl
  have hb:Rows.uptoBulkAll (ds++gs)≤1048576:=of_decide_eq_true hk
  have hlz:szL l≤1048576:=by
   have hm:AV.sl (l.map eSel)∈ds.map avOf:=by rw[←he]; simp
   obtain⟨d,hd,hde⟩:=List.mem_map.1 hm
   exact sz_le (List.mem_append_left _ hd) hde hb
  exact QueryAlone_ok l 0 hlz
theorem queryAlone_said:Rows.QueryAloneUptoSaid :=
 OpenClaim.holds_of_cond 10 Tryz.f10 rfl rfl rfl rfl rfl rfl rfl ⟨rfl,rfl,rfl,rfl,rfl⟩ rfl rfl rfl rfl rfl (by kernel_rfl) Tryz.func10 (by kernel_rfl)
  (of_decide_eq_true (by kernel_rfl)) (by unfold Func.isWrapper; first|(rw[if_pos (by decide +kernel)]; kernel_rfl)|(rw[if_neg (by decide +kernel)]; exact⟨rfl,rfl⟩))
  (fun os started H enc _ F=>by rw[OpenClaim.pre_eq_preRow]; exact queryAlone_lifted os started H enc F)
theorem queryAlone_plain(f:FuncId)(fn:Func)(hf:Tryz.pinned.checked.prog.funcNamed Rows.queryAloneUptoRow.func=some f)(hfn:Tryz.pinned.checked.prog.funcs[f]?=some fn):
  true=Tryz.pinned.checked.prog.looks []∧∀(j:Nat) t,fn.params[j]?=some t→Tryz.pinned.checked.prog.wantsStandIn t=false:=by
 obtain rfl:f=10:=Option.some.inj ((show Tryz.prog.funcNamed Rows.queryAloneUptoRow.func=some 10 by kernel_rfl).symm.trans hf) |>.symm
 obtain rfl:fn=Tryz.f10:=(Option.some.inj (Tryz.func10.symm.trans hfn)).symm
 refine⟨by kernel_rfl,fun j t ht=>?_⟩
 have h:(Tryz.f10.params.toList.all fun t=>Tryz.prog.wantsStandIn t==false)=true:=by kernel_rfl
 have:=List.all_eq_true.1 h t (by simpa using Array.mem_of_getElem? ht)
 exact (show Tryz.prog.wantsStandIn t=false by simpa using this)
theorem queryAlone_holds:Rows.QueryAloneUptoCardSaid :=
 Claim7.holds_tied_plain_at .later [] _ _ _ _ queryAlone_said (fun _ h=>by cases h) (by kernel_rfl) (fun _ h=>by cases h) queryAloneUpto_row_tie rfl ⟨rfl,rfl⟩ (by kernel_rfl) rfl queryAlone_plain (by kernel_rfl)
#print axioms queryAlone_holds
end Go.Proofs.YtgfmjhmjnnpcgaaGreatDoor
