/- Whatever types are handed in, the law SchemaTurned returns true, and what was handed in reads as it did. Condition: the bulk of what is handed in is at most 1,048,576; the tables of the library hold what the program's text lays. -/
import Derived.Test.YtgfmjhmjnnpcgaaGreatDoorYR
import Derived.Test.YtgfmjhmjnnpcgaaGreatDoorZA
import Derived.Test.YtgfmjhmjnnpcgaaGreatDoorZB
namespace Go.Proofs.YtgfmjhmjnnpcgaaGreatDoor
open Go Go.RowKit Go.Am Go.ChangeAt
set_option maxRecDepth 100000
theorem schemaTurned_met(os:Os):laidMet Tryz.prog Rows.schemaTurnedUptoRow.laid ((laidWorld os).forCall (fun _ _=>0) ⟨#[],#[.slice none 0 0],[]⟩).memory :=
 laidMet_of_run' 8 (by kernel_rfl) (by kernel_rfl)
theorem schemaTurned_reads(os:Os){H:Type}(enc:TypeId×Value→H):∃places,DataW.whole enc Tryz.prog ((laidWorld os).forCall (fun _ _=>0) ⟨#[],#[.slice none 0 0],[]⟩).memory Tryz.f7.params.toList Rows.schemaTurnedSpec.vars false
  (#[.slice none 0 0]:Array Value).toList 8=some ([.nil],[],places) :=
 ⟨[],by kernel_rfl⟩
theorem schemaTurned_lifted(os:Os)(started:os.Started)(H:Type)(enc:TypeId×Value→H)(F:Stop.Interp):
  ReturnsInHanded Rows.schemaTurnedUptoRow.assume Tryz.checked os 7 .any ((Rows.OpenSpec.upto Rows.schemaTurnedSpec).preRow enc Tryz.prog Tryz.f7 Rows.schemaTurnedUptoRow.domain Rows.schemaTurnedUptoRow.apart Rows.schemaTurnedUptoRow.laid) (((Rows.OpenSpec.upto Rows.schemaTurnedSpec).at F).post enc Tryz.prog Tryz.f7 Rows.schemaTurnedUptoRow.apart Rows.schemaTurnedUptoRow.fresh Rows.schemaTurnedUptoRow.handsOn Rows.schemaTurnedUptoRow.again):=by
 obtain⟨places,hx⟩:=schemaTurned_reads os enc
 refine returnsInHanded_of_row (C:=Tryz.checked) (s:=Rows.OpenSpec.upto Rows.schemaTurnedSpec) Tryz.own started (by kernel_rfl) Tryz.func7
  (witness_row_at (enc:=enc) (C:=Tryz.checked) false (laidWorld os) #[.slice none 0 0] rfl (by kernel_rfl) (by kernel_rfl) (by kernel_rfl)
   (OpenSpec.preRow_of_cond 8 hx (by kernel_rfl) (fun k hk=>by cases hk; kernel_rfl) (by kernel_rfl) (schemaTurned_met os))) ?_
 intro W base args ds gs before hval hW _ hcond hsz hL _ _
 have hk:Rows.uptoSmall H (ds++gs)=true:=hcond _ rfl
 refine law_post (s:=Rows.schemaTurnedSpec) (l:=tys Tryz.f7) (tb:=4) (by kernel_rfl) Tryz.laidOut (by kernel_rfl) (by kernel_rfl) Tryz.underlying4 rfl (fun ds hds=>?_) (fun xs hf he=>?_) hsz hval hW (tabs_laid hL)
 ·match ds,hds with
  | [l],_=>rfl
 ·rw[Tryz.params7] at hf
  obtain⟨l,ys,rfl,⟨_,hl⟩,hf⟩:=fitsL_cons hf
  obtain rfl:=fitsL_nil hf
  obtain⟨l,rfl⟩:=fits_tys hl
  exact SchemaTurned_ok l 0
theorem schemaTurned_said:Rows.SchemaTurnedUptoSaid :=
 OpenClaim.holds_of_cond 7 Tryz.f7 rfl rfl rfl rfl rfl rfl rfl ⟨rfl,rfl,rfl,rfl,rfl⟩ rfl rfl rfl rfl rfl (by kernel_rfl) Tryz.func7 (by kernel_rfl)
  (of_decide_eq_true (by kernel_rfl)) (by unfold Func.isWrapper; first|(rw[if_pos (by decide +kernel)]; kernel_rfl)|(rw[if_neg (by decide +kernel)]; exact⟨rfl,rfl⟩))
  (fun os started H enc _ F=>by rw[OpenClaim.pre_eq_preRow]; exact schemaTurned_lifted os started H enc F)
theorem schemaTurned_plain(f:FuncId)(fn:Func)(hf:Tryz.pinned.checked.prog.funcNamed Rows.schemaTurnedUptoRow.func=some f)(hfn:Tryz.pinned.checked.prog.funcs[f]?=some fn):
  true=Tryz.pinned.checked.prog.looks []∧∀(j:Nat) t,fn.params[j]?=some t→Tryz.pinned.checked.prog.wantsStandIn t=false:=by
 obtain rfl:f=7:=Option.some.inj ((show Tryz.prog.funcNamed Rows.schemaTurnedUptoRow.func=some 7 by kernel_rfl).symm.trans hf) |>.symm
 obtain rfl:fn=Tryz.f7:=(Option.some.inj (Tryz.func7.symm.trans hfn)).symm
 refine⟨by kernel_rfl,fun j t ht=>?_⟩
 have h:(Tryz.f7.params.toList.all fun t=>Tryz.prog.wantsStandIn t==false)=true:=by kernel_rfl
 have:=List.all_eq_true.1 h t (by simpa using Array.mem_of_getElem? ht)
 exact (show Tryz.prog.wantsStandIn t=false by simpa using this)
theorem schemaTurned_holds:Rows.SchemaTurnedUptoCardSaid :=
 Claim7.holds_tied_plain_at .later [] _ _ _ _ schemaTurned_said (fun _ h=>by cases h) (by kernel_rfl) (fun _ h=>by cases h) schemaTurnedUpto_row_tie rfl ⟨rfl,rfl⟩ (by kernel_rfl) rfl schemaTurned_plain (by kernel_rfl)
#print axioms schemaTurned_holds
end Go.Proofs.YtgfmjhmjnnpcgaaGreatDoor
