/- The card of the law DeskNow, its parts. No condition. -/
import Derived.Test.YtphjabjjnncebaaGreatDoorXW
set_option maxRecDepth 100000
set_option linter.all false
namespace Go.Proofs.YtphjabjjnncebaaGreatDoor
open Go Go.Am Go.ChangeAt Go.RowKit
theorem B4C(os:Os):laidMet Tryz.prog Rows.deskNowUptoRow.laid ((A6n os).forCall (fun _ _=>0) ⟨#[],#[.slice none 0 0,.agg #[.slice none 0 0,.int .i64 0],.string ⟨#[]⟩],[]⟩).memory :=
 laidMet_of_run' 8 (by kernel_rfl) (by kernel_rfl)
theorem A9W(os:Os){H:Type}(enc:TypeId×Value->H):∃places,DataW.whole enc Tryz.prog ((A6n os).forCall (fun _ _=>0) ⟨#[],#[.slice none 0 0,.agg #[.slice none 0 0,.int .i64 0],.string ⟨#[]⟩],[]⟩).memory Tryz.f4.params.toList Rows.deskNowSpec.vars false
  (#[.slice none 0 0,.agg #[.slice none 0 0,.int .i64 0],.string ⟨#[]⟩]:Array Value).toList 8=some ([.nil,.agg [.nil,.lit (.int .i64 0)],.lit (.string [])],[],places) :=
 ⟨[],by kernel_rfl⟩
theorem A9G(os:Os)(started:os.Started)(H:Type)(enc:TypeId×Value->H)(F:Stop.Interp):
  ReturnsInHanded Rows.deskNowUptoRow.assume Tryz.checked os 4 .any ((Rows.OpenSpec.upto Rows.deskNowSpec).preRow enc Tryz.prog Tryz.f4 Rows.deskNowUptoRow.domain Rows.deskNowUptoRow.apart Rows.deskNowUptoRow.laid) (((Rows.OpenSpec.upto Rows.deskNowSpec).at F).post enc Tryz.prog Tryz.f4 Rows.deskNowUptoRow.apart Rows.deskNowUptoRow.fresh Rows.deskNowUptoRow.handsOn Rows.deskNowUptoRow.again):=by
 obtain⟨places,hx⟩:=A9W os enc;refine returnsInHanded_of_row (C:=Tryz.checked) (s:=Rows.OpenSpec.upto Rows.deskNowSpec) Tryz.own started (by kernel_rfl) Tryz.func4
  (witness_row_at (enc:=enc) (C:=Tryz.checked) false (A6n os) #[.slice none 0 0,.agg #[.slice none 0 0,.int .i64 0],.string ⟨#[]⟩] rfl (by kernel_rfl) (by kernel_rfl) (by kernel_rfl)
   (OpenSpec.preRow_of_cond 8 hx (by kernel_rfl) (fun k hk=>by cases hk; kernel_rfl) (by kernel_rfl) (B4C os))) ?_
 intro W base args ds gs before hval hW _ hcond hsz hL _ _;have hk:Rows.uptoSmall H (ds++gs)=true:=hcond _ rfl;refine B9g (s:=Rows.deskNowSpec) (l:=tys Tryz.f4) (tb:=4) (by kernel_rfl) Tryz.laidOut (by kernel_rfl) (by kernel_rfl) Tryz.underlying4 rfl (fun ds hds=>?_) (fun xs hf he=>?_) hsz hval hW (B8y hL)
 ·match ds,hds with
  | [l,d,text],_=>rfl
 ·rw[Tryz.params4] at hf;obtain⟨l,ys,rfl,⟨_,hl⟩,hf⟩:=R7 hf;obtain⟨d,ys,rfl,⟨_,hd⟩,hf⟩:=R7 hf;obtain⟨text,ys,rfl,⟨_,htext⟩,hf⟩:=R7 hf;obtain rfl:=A3z hf;obtain⟨l,rfl⟩:=C2T hl;obtain⟨d,rfl,hdr⟩:=C4S hd;obtain⟨text,rfl,htextl⟩:=A3H Tryz.underlying9 htext;exact B5X l d text 0
theorem B5a:(Rows.deskNowUptoRow.inPlace==Tryz.pinned.checked.prog.inPlace 4)=true:=by kernel_rfl
theorem B5b:(Rows.deskNowUptoRow.unfollowed==Tryz.pinned.checked.prog.unfollowed 4)=true:=by kernel_rfl
theorem B5c:(Rows.deskNowUptoRow.recurses==Tryz.pinned.checked.prog.recurses 4)=true:=by kernel_rfl
theorem B5d:(Rows.deskNowUptoRow.named==Tryz.pinned.checked.prog.varsNamed 4)=true:=by kernel_rfl
theorem B5e:(Rows.deskNowUptoRow.plainKeys==Tryz.pinned.checked.prog.plainKeys)=true:=by kernel_rfl
theorem B5f:(Rows.deskNowUptoRow.wf (OpenSpec.ofChange (Rows.OpenSpec.upto Rows.deskNowSpec).bare)&&laidOutB Tryz.pinned.checked.prog&&mapsRowed Tryz.pinned.checked.prog&&Tryz.f4.params.all (Tryz.pinned.checked.prog.readableRec ·)&&namedTie Tryz.pinned.checked.prog Rows.deskNowUptoRow.named (Rows.OpenSpec.upto Rows.deskNowSpec).bare.vars&&(Rows.deskNowUptoRow.stops==[])&&(Tryz.pinned.checked.prog.stops==[])&&(Rows.deskNowUptoRow.knobs==[])&&(Tryz.pinned.checked.prog.stopKnobs==[]))=true:=by kernel_rfl
theorem B8z:joinedFacts Tryz.pinned.checked.prog 4 Tryz.f4 (Rows.OpenSpec.upto Rows.deskNowSpec).bare Rows.deskNowUptoRow=true:=B2E B5f B5a B5b B5c B5d (by kernel_rfl) B5e (by kernel_rfl)
theorem B2F:Rows.DeskNowUptoSaid :=
 OpenClaim.holds_of_cond 4 Tryz.f4 rfl rfl rfl rfl rfl rfl rfl ⟨rfl,rfl,rfl,rfl,rfl⟩ rfl rfl rfl rfl rfl (by kernel_rfl) Tryz.func4 B8z
  (zr (by kernel_rfl)) (by unfold Func.isWrapper; first|(rw[zj (by decide +kernel)]; kernel_rfl)|(rw[zf (by decide +kernel)]; exact⟨rfl,rfl⟩))
  (fun os started H enc _ F=>by rw[OpenClaim.pre_eq_preRow]; exact A9G os started H enc F)
theorem A9X(f:FuncId)(fn:Func)(hf:Tryz.pinned.checked.prog.funcNamed Rows.deskNowUptoRow.func=some f)(hfn:Tryz.pinned.checked.prog.funcs[f]?=some fn):
  true=Tryz.pinned.checked.prog.looks []/\∀(j:Nat) t,fn.params[j]?=some t->Tryz.pinned.checked.prog.wantsStandIn t=false:=by
 obtain rfl:f=4:=ws ((show Tryz.prog.funcNamed Rows.deskNowUptoRow.func=some 4 by kernel_rfl).symm.trans hf) |>.symm;obtain rfl:fn=Tryz.f4:=(ws (Tryz.func4.symm.trans hfn)).symm;refine⟨by kernel_rfl,fun j t ht=>?_⟩;have h:(Tryz.f4.params.toList.all fun t=>Tryz.prog.wantsStandIn t==false)=true:=by kernel_rfl
 have:=xi.1 h t (by simpa using Array.mem_of_getElem? ht);exact (show Tryz.prog.wantsStandIn t=false by simpa using this)
end Go.Proofs.YtphjabjjnncebaaGreatDoor
