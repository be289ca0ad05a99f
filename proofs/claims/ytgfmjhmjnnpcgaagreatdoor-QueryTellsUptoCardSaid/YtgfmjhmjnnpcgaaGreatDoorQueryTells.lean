/- Whatever text and selects are handed in, the law QueryTells returns true, and what was handed in reads as it did. Condition: the bulk of what is handed in is at most 1,048,576; the tables of the library hold what the program's text lays. -/
import Derived.Test.YtgfmjhmjnnpcgaaGreatDoorXQ
namespace Go.Proofs.YtgfmjhmjnnpcgaaGreatDoor
open Go Go.RowKit Go.Am Go.ChangeAt
set_option maxRecDepth 100000
theorem queryTells_met(os:Os):laidMet Tryz.prog Rows.queryTellsUptoRow.laid ((laidWorld os).forCall (fun _ _=>0) ⟨#[],#[.string ⟨#[]⟩,.slice none 0 0],[]⟩).memory :=
 laidMet_of_run' 8 (by kernel_rfl) (by kernel_rfl)
theorem queryTells_reads(os:Os){H:Type}(enc:TypeId×Value→H):∃places,DataW.whole enc Tryz.prog ((laidWorld os).forCall (fun _ _=>0) ⟨#[],#[.string ⟨#[]⟩,.slice none 0 0],[]⟩).memory Tryz.f11.params.toList Rows.queryTellsSpec.vars false
  (#[.string ⟨#[]⟩,.slice none 0 0]:Array Value).toList 8=some ([.lit (.string []),.nil],[],places) :=
 ⟨[],by kernel_rfl⟩
theorem queryTells_lifted(os:Os)(started:os.Started)(H:Type)(enc:TypeId×Value→H)(F:Stop.Interp):
  ReturnsInHanded Rows.queryTellsUptoRow.assume Tryz.checked os 11 .any ((Rows.OpenSpec.upto Rows.queryTellsSpec).preRow enc Tryz.prog Tryz.f11 Rows.queryTellsUptoRow.domain Rows.queryTellsUptoRow.apart Rows.queryTellsUptoRow.laid) (((Rows.OpenSpec.upto Rows.queryTellsSpec).at F).post enc Tryz.prog Tryz.f11 Rows.queryTellsUptoRow.apart Rows.queryTellsUptoRow.fresh Rows.queryTellsUptoRow.handsOn Rows.queryTellsUptoRow.again):=by
 obtain⟨places,hx⟩:=queryTells_reads os enc
 refine returnsInHanded_of_row (C:=Tryz.checked) (s:=Rows.OpenSpec.upto Rows.queryTellsSpec) Tryz.own started (by kernel_rfl) Tryz.func11
  (witness_row_at (enc:=enc) (C:=Tryz.checked) false (laidWorld os) #[.string ⟨#[]⟩,.slice none 0 0] rfl (by kernel_rfl) (by kernel_rfl) (by kernel_rfl)
   (OpenSpec.preRow_of_cond 8 hx (by kernel_rfl) (fun k hk=>by cases hk; kernel_rfl) (by kernel_rfl) (queryTells_met os))) ?_
 intro W base args ds gs before hval hW _ hcond hsz hL _ _
 have hk:Rows.uptoSmall H (ds++gs)=true:=hcond _ rfl
 refine law_post (s:=Rows.queryTellsSpec) (l:=tys Tryz.f11) (tb:=4) (by kernel_rfl) Tryz.laidOut (by kernel_rfl) (by kernel_rfl) Tryz.underlying4 rfl (fun ds hds=>?_) (fun xs hf he=>?_) hsz hval hW (tabs_laid hL)
 ·match ds,hds with
  | [s,l],_=>rfl
 ·rw[Tryz.params11] at hf
  obtain⟨s,ys,rfl,⟨_,hs⟩,hf⟩:=fitsL_cons hf
  obtain⟨l,ys,rfl,⟨_,hl⟩,hf⟩:=fitsL_cons hf
  obtain rfl:=fitsL_nil hf
  obtain⟨s,rfl,hsl⟩:=fits_str Tryz.underlying9 hs
  obtain⟨l,rfl⟩:=fits_sels hl
  have hb:Rows.uptoBulkAll (ds++gs)≤1048576:=of_decide_eq_true hk
  have hlz:szL l≤1048576:=by
   have hm:AV.sl (l.map eSel)∈ds.map avOf:=by rw[←he]; simp
   obtain⟨d,hd,hde⟩:=List.mem_map.1 hm
   exact sz_le (List.mem_append_left _ hd) hde hb
  exact QueryTells_ok s l 0 hlz
theorem queryTells_said:Rows.QueryTellsUptoSaid :=
 OpenClaim.holds_of_cond 11 Tryz.f11 rfl rfl rfl rfl rfl rfl rfl ⟨rfl,rfl,rfl,rfl,rfl⟩ rfl rfl rfl rfl rfl (by kernel_rfl) Tryz.func11 (by kernel_rfl)
  (of_decide_eq_true (by kernel_rfl)) (by unfold Func.isWrapper; first|(rw[if_pos (by decide +kernel)]; kernel_rfl)|(rw[if_neg (by decide +kernel)]; exact⟨rfl,rfl⟩))
  (fun os started H enc _ F=>by rw[OpenClaim.pre_eq_preRow]; exact queryTells_lifted os started H enc F)
theorem queryTells_plain(f:FuncId)(fn:Func)(hf:Tryz.pinned.checked.prog.funcNamed Rows.queryTellsUptoRow.func=some f)(hfn:Tryz.pinned.checked.prog.funcs[f]?=some fn):
  true=Tryz.pinned.checked.prog.looks []∧∀(j:Nat) t,fn.params[j]?=some t→Tryz.pinned.checked.prog.wantsStandIn t=false:=by
 obtain rfl:f=11:=Option.some.inj ((show Tryz.prog.funcNamed Rows.queryTellsUptoRow.func=some 11 by kernel_rfl).symm.trans hf) |>.symm
 obtain rfl:fn=Tryz.f11:=(Option.some.inj (Tryz.func11.symm.trans hfn)).symm
 refine⟨by kernel_rfl,fun j t ht=>?_⟩
 have h:(Tryz.f11.params.toList.all fun t=>Tryz.prog.wantsStandIn t==false)=true:=by kernel_rfl
 have:=List.all_eq_true.1 h t (by simpa using Array.mem_of_getElem? ht)
 exact (show Tryz.prog.wantsStandIn t=false by simpa using this)
theorem queryTells_holds:Rows.QueryTellsUptoCardSaid :=
 Claim7.holds_tied_plain_at .later [] _ _ _ _ queryTells_said (fun _ h=>by cases h) (by kernel_rfl) (fun _ h=>by cases h) queryTellsUpto_row_tie rfl ⟨rfl,rfl⟩ (by kernel_rfl) rfl queryTells_plain (by kernel_rfl)
#print axioms queryTells_holds
end Go.Proofs.YtgfmjhmjnnpcgaaGreatDoor
