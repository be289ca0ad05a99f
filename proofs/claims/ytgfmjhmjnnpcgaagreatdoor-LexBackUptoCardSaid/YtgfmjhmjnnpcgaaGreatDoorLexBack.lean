/- Whatever text and tokens are handed in, the law LexBack returns true, and what was handed in reads as it did. Condition: the bulk of what is handed in is at most 1,048,576; the tables of the library hold what the program's text lays. -/
import Derived.Test.YtgfmjhmjnnpcgaaGreatDoorXO
namespace Go.Proofs.YtgfmjhmjnnpcgaaGreatDoor
open Go Go.RowKit Go.Am Go.ChangeAt
set_option maxRecDepth 100000
theorem lexBack_met(os:Os):laidMet Tryz.prog Rows.lexBackUptoRow.laid ((laidWorld os).forCall (fun _ _=>0) ⟨#[],#[.string ⟨#[]⟩,.slice none 0 0],[]⟩).memory :=
 laidMet_of_run' 8 (by kernel_rfl) (by kernel_rfl)
theorem lexBack_reads(os:Os){H:Type}(enc:TypeId×Value→H):∃places,DataW.whole enc Tryz.prog ((laidWorld os).forCall (fun _ _=>0) ⟨#[],#[.string ⟨#[]⟩,.slice none 0 0],[]⟩).memory Tryz.f5.params.toList Rows.lexBackSpec.vars false
  (#[.string ⟨#[]⟩,.slice none 0 0]:Array Value).toList 8=some ([.lit (.string []),.nil],[],places) :=
 ⟨[],by kernel_rfl⟩
theorem lexBack_lifted(os:Os)(started:os.Started)(H:Type)(enc:TypeId×Value→H)(F:Stop.Interp):
  ReturnsInHanded Rows.lexBackUptoRow.assume Tryz.checked os 5 .any ((Rows.OpenSpec.upto Rows.lexBackSpec).preRow enc Tryz.prog Tryz.f5 Rows.lexBackUptoRow.domain Rows.lexBackUptoRow.apart Rows.lexBackUptoRow.laid) (((Rows.OpenSpec.upto Rows.lexBackSpec).at F).post enc Tryz.prog Tryz.f5 Rows.lexBackUptoRow.apart Rows.lexBackUptoRow.fresh Rows.lexBackUptoRow.handsOn Rows.lexBackUptoRow.again):=by
 obtain⟨places,hx⟩:=lexBack_reads os enc
 refine returnsInHanded_of_row (C:=Tryz.checked) (s:=Rows.OpenSpec.upto Rows.lexBackSpec) Tryz.own started (by kernel_rfl) Tryz.func5
  (witness_row_at (enc:=enc) (C:=Tryz.checked) false (laidWorld os) #[.string ⟨#[]⟩,.slice none 0 0] rfl (by kernel_rfl) (by kernel_rfl) (by kernel_rfl)
   (OpenSpec.preRow_of_cond 8 hx (by kernel_rfl) (fun k hk=>by cases hk; kernel_rfl) (by kernel_rfl) (lexBack_met os))) ?_
 intro W base args ds gs before hval hW _ hcond hsz hL _ _
 have hk:Rows.uptoSmall H (ds++gs)=true:=hcond _ rfl
 refine law_post (s:=Rows.lexBackSpec) (l:=tys Tryz.f5) (tb:=4) (by kernel_rfl) Tryz.laidOut (by kernel_rfl) (by kernel_rfl) Tryz.underlying4 rfl (fun ds hds=>?_) (fun xs hf he=>?_) hsz hval hW (tabs_laid hL)
 ·match ds,hds with
  | [s,l],_=>rfl
 ·rw[Tryz.params5] at hf
  obtain⟨s,ys,rfl,⟨_,hs⟩,hf⟩:=fitsL_cons hf
  obtain⟨l,ys,rfl,⟨_,hl⟩,hf⟩:=fitsL_cons hf
  obtain rfl:=fitsL_nil hf
  obtain⟨s,rfl,hsl⟩:=fits_str Tryz.underlying9 hs
  obtain⟨l,rfl⟩:=fits_tks hl
  exact LexBack_ok s l 0
theorem lexBack_said:Rows.LexBackUptoSaid :=
 OpenClaim.holds_of_cond 5 Tryz.f5 rfl rfl rfl rfl rfl rfl rfl ⟨rfl,rfl,rfl,rfl,rfl⟩ rfl rfl rfl rfl rfl (by kernel_rfl) Tryz.func5 (by kernel_rfl)
  (of_decide_eq_true (by kernel_rfl)) (by unfold Func.isWrapper; first|(rw[if_pos (by decide +kernel)]; kernel_rfl)|(rw[if_neg (by decide +kernel)]; exact⟨rfl,rfl⟩))
  (fun os started H enc _ F=>by rw[OpenClaim.pre_eq_preRow]; exact lexBack_lifted os started H enc F)
theorem lexBack_plain(f:FuncId)(fn:Func)(hf:Tryz.pinned.checked.prog.funcNamed Rows.lexBackUptoRow.func=some f)(hfn:Tryz.pinned.checked.prog.funcs[f]?=some fn):
  true=Tryz.pinned.checked.prog.looks []∧∀(j:Nat) t,fn.params[j]?=some t→Tryz.pinned.checked.prog.wantsStandIn t=false:=by
 obtain rfl:f=5:=Option.some.inj ((show Tryz.prog.funcNamed Rows.lexBackUptoRow.func=some 5 by kernel_rfl).symm.trans hf) |>.symm
 obtain rfl:fn=Tryz.f5:=(Option.some.inj (Tryz.func5.symm.trans hfn)).symm
 refine⟨by kernel_rfl,fun j t ht=>?_⟩
 have h:(Tryz.f5.params.toList.all fun t=>Tryz.prog.wantsStandIn t==false)=true:=by kernel_rfl
 have:=List.all_eq_true.1 h t (by simpa using Array.mem_of_getElem? ht)
 exact (show Tryz.prog.wantsStandIn t=false by simpa using this)
theorem lexBack_holds:Rows.LexBackUptoCardSaid :=
 Claim7.holds_tied_plain_at .later [] _ _ _ _ lexBack_said (fun _ h=>by cases h) (by kernel_rfl) (fun _ h=>by cases h) lexBackUpto_row_tie rfl ⟨rfl,rfl⟩ (by kernel_rfl) rfl lexBack_plain (by kernel_rfl)
#print axioms lexBack_holds
end Go.Proofs.YtgfmjhmjnnpcgaaGreatDoor
