/- Whatever text and types are handed in, the law SchemaBack returns true, and what was handed in reads as it did. Condition: the bulk of what is handed in is at most 1,048,576; the tables of the library hold what the program's text lays. -/
import Derived.Test.YtgfmjhmjnnpcgaaGreatDoorYS
import Derived.Test.YtgfmjhmjnnpcgaaGreatDoorZA
import Derived.Test.YtgfmjhmjnnpcgaaGreatDoorZB
namespace Go.Proofs.YtgfmjhmjnnpcgaaGreatDoor
open Go Go.RowKit Go.Am Go.ChangeAt
set_option maxRecDepth 100000
theorem schemaBack_met(os:Os):laidMet Tryz.prog Rows.schemaBackUptoRow.laid ((laidWorld os).forCall (fun _ _=>0) ⟨#[],#[.string ⟨#[]⟩,.slice none 0 0],[]⟩).memory :=
 laidMet_of_run' 8 (by kernel_rfl) (by kernel_rfl)
theorem schemaBack_reads(os:Os){H:Type}(enc:TypeId×Value→H):∃places,DataW.whole enc Tryz.prog ((laidWorld os).forCall (fun _ _=>0) ⟨#[],#[.string ⟨#[]⟩,.slice none 0 0],[]⟩).memory Tryz.f9.params.toList Rows.schemaBackSpec.vars false
  (#[.string ⟨#[]⟩,.slice none 0 0]:Array Value).toList 8=some ([.lit (.string []),.nil],[],places) :=
 ⟨[],by kernel_rfl⟩
theorem schemaBack_lifted(os:Os)(started:os.Started)(H:Type)(enc:TypeId×Value→H)(F:Stop.Interp):
  ReturnsInHanded Rows.schemaBackUptoRow.assume Tryz.checked os 9 .any ((Rows.OpenSpec.upto Rows.schemaBackSpec).preRow enc Tryz.prog Tryz.f9 Rows.schemaBackUptoRow.domain Rows.schemaBackUptoRow.apart Rows.schemaBackUptoRow.laid) (((Rows.OpenSpec.upto Rows.schemaBackSpec).at F).post enc Tryz.prog Tryz.f9 Rows.schemaBackUptoRow.apart Rows.schemaBackUptoRow.fresh Rows.schemaBackUptoRow.handsOn Rows.schemaBackUptoRow.again):=by
 obtain⟨places,hx⟩:=schemaBack_reads os enc
 refine returnsInHanded_of_row (C:=Tryz.checked) (s:=Rows.OpenSpec.upto Rows.schemaBackSpec) Tryz.own started (by kernel_rfl) Tryz.func9
  (witness_row_at (enc:=enc) (C:=Tryz.checked) false (laidWorld os) #[.string ⟨#[]⟩,.slice none 0 0] rfl (by kernel_rfl) (by kernel_rfl) (by kernel_rfl)
   (OpenSpec.preRow_of_cond 8 hx (by kernel_rfl) (fun k hk=>by cases hk; kernel_rfl) (by kernel_rfl) (schemaBack_met os))) ?_
 intro W base args ds gs before hval hW _ hcond hsz hL _ _
 have hk:Rows.uptoSmall H (ds++gs)=true:=hcond _ rfl
 refine law_post (s:=Rows.schemaBackSpec) (l:=tys Tryz.f9) (tb:=4) (by kernel_rfl) Tryz.laidOut (by kernel_rfl) (by kernel_rfl) Tryz.underlying4 rfl (fun ds hds=>?_) (fun xs hf he=>?_) hsz hval hW (tabs_laid hL)
 ·match ds,hds with
  | [s,l],_=>rfl
 ·rw[Tryz.params9] at hf
  obtain⟨s,ys,rfl,⟨_,hs⟩,hf⟩:=fitsL_cons hf
  obtain⟨l,ys,rfl,⟨_,hl⟩,hf⟩:=fitsL_cons hf
  obtain rfl:=fitsL_nil hf
  obtain⟨s,rfl,hsl⟩:=fits_str Tryz.underlying9 hs
  obtain⟨l,rfl⟩:=fits_tys hl
  exact SchemaBack_ok s l 0
theorem schemaBack_said:Rows.SchemaBackUptoSaid :=
 OpenClaim.holds_of_cond 9 Tryz.f9 rfl rfl rfl rfl rfl rfl rfl ⟨rfl,rfl,rfl,rfl,rfl⟩ rfl rfl rfl rfl rfl (by kernel_rfl) Tryz.func9 (by kernel_rfl)
  (of_decide_eq_true (by kernel_rfl)) (by unfold Func.isWrapper; first|(rw[if_pos (by decide +kernel)]; kernel_rfl)|(rw[if_neg (by decide +kernel)]; exact⟨rfl,rfl⟩))
  (fun os started H enc _ F=>by rw[OpenClaim.pre_eq_preRow]; exact schemaBack_lifted os started H enc F)
theorem schemaBack_plain(f:FuncId)(fn:Func)(hf:Tryz.pinned.checked.prog.funcNamed Rows.schemaBackUptoRow.func=some f)(hfn:Tryz.pinned.checked.prog.funcs[f]?=some fn):
  true=Tryz.pinned.checked.prog.looks []∧∀(j:Nat) t,fn.params[j]?=some t→Tryz.pinned.checked.prog.wantsStandIn t=false:=by
 obtain rfl:f=9:=Option.some.inj ((show Tryz.prog.funcNamed Rows.schemaBackUptoRow.func=some 9 by kernel_rfl).symm.trans hf) |>.symm
 obtain rfl:fn=Tryz.f9:=(Option.some.inj (Tryz.func9.symm.trans hfn)).symm
 refine⟨by kernel_rfl,fun j t ht=>?_⟩
 have h:(Tryz.f9.params.toList.all fun t=>Tryz.prog.wantsStandIn t==false)=true:=by kernel_rfl
 have:=List.all_eq_true.1 h t (by simpa using Array.mem_of_getElem? ht)
 exact (show Tryz.prog.wantsStandIn t=false by simpa using this)
theorem schemaBack_holds:Rows.SchemaBackUptoCardSaid :=
 Claim7.holds_tied_plain_at .later [] _ _ _ _ schemaBack_said (fun _ h=>by cases h) (by kernel_rfl) (fun _ h=>by cases h) schemaBackUpto_row_tie rfl ⟨rfl,rfl⟩ (by kernel_rfl) rfl schemaBack_plain (by kernel_rfl)
#print axioms schemaBack_holds
end Go.Proofs.YtgfmjhmjnnpcgaaGreatDoor
