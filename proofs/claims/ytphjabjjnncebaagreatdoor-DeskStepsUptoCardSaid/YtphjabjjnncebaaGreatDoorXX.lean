/- The card of the law DeskSteps, its parts. No condition. -/
import Derived.Test.YtphjabjjnncebaaGreatDoorXW
set_option maxRecDepth 100000
set_option linter.all false
namespace Go.Proofs.YtphjabjjnncebaaGreatDoor
open Go Go.Am Go.ChangeAt Go.RowKit
theorem A9q(os:Os):laidMet Tryz.prog Rows.deskStepsUptoRow.laid ((A70 os).forCall (fun _ _=>0) ⟨#[],#[.slice none 0 0,.agg #[.slice none 0 0,.int .i64 0],.string ⟨#[]⟩,.string ⟨#[]⟩,.int .i64 0],[]⟩).memory :=
 laidMet_of_run' 8 (by kernel_rfl) (by kernel_rfl)
theorem A7Z(os:Os){H:Type}(enc:TypeId×Value->H):∃places,DataW.whole enc Tryz.prog ((A70 os).forCall (fun _ _=>0) ⟨#[],#[.slice none 0 0,.agg #[.slice none 0 0,.int .i64 0],.string ⟨#[]⟩,.string ⟨#[]⟩,.int .i64 0],[]⟩).memory Tryz.f3.params.toList Rows.deskStepsSpec.vars false
  (#[.slice none 0 0,.agg #[.slice none 0 0,.int .i64 0],.string ⟨#[]⟩,.string ⟨#[]⟩,.int .i64 0]:Array Value).toList 8=some ([.nil,.agg [.nil,.lit (.int .i64 0)],.lit (.string []),.lit (.string []),.lit (.int .i64 0)],[],places) :=
 ⟨[],by kernel_rfl⟩
theorem A71(os:Os)(started:os.Started)(H:Type)(enc:TypeId×Value->H)(F:Stop.Interp):
  ReturnsInHanded Rows.deskStepsUptoRow.assume Tryz.checked os 3 .any ((Rows.OpenSpec.upto Rows.deskStepsSpec).preRow enc Tryz.prog Tryz.f3 Rows.deskStepsUptoRow.domain Rows.deskStepsUptoRow.apart Rows.deskStepsUptoRow.laid) (((Rows.OpenSpec.upto Rows.deskStepsSpec).at F).post enc Tryz.prog Tryz.f3 Rows.deskStepsUptoRow.apart Rows.deskStepsUptoRow.fresh Rows.deskStepsUptoRow.handsOn Rows.deskStepsUptoRow.again):=by
 obtain⟨places,hx⟩:=A7Z os enc;refine returnsInHanded_of_row (C:=Tryz.checked) (s:=Rows.OpenSpec.upto Rows.deskStepsSpec) Tryz.own started (by kernel_rfl) Tryz.func3
  (witness_row_at (enc:=enc) (C:=Tryz.checked) false (A70 os) #[.slice none 0 0,.agg #[.slice none 0 0,.int .i64 0],.string ⟨#[]⟩,.string ⟨#[]⟩,.int .i64 0] rfl (by kernel_rfl) (by kernel_rfl) (by kernel_rfl)
   (OpenSpec.preRow_of_cond 8 hx (by kernel_rfl) (fun k hk=>by cases hk; kernel_rfl) (by kernel_rfl) (A9q os))) ?_
 intro W base args ds gs before hval hW _ hcond hsz hL _ _;have hk:Rows.uptoSmall H (ds++gs)=true:=hcond _ rfl;refine C0S (s:=Rows.deskStepsSpec) (l:=tys Tryz.f3) (tb:=4) (by kernel_rfl) Tryz.laidOut (by kernel_rfl) (by kernel_rfl) Tryz.underlying4 rfl (fun ds hds=>?_) (fun xs hf he=>?_) hsz hval hW (B9l hL)
 ·match ds,hds with
  | [l,d,text,A2F,n],_=>rfl
 ·rw[Tryz.params3] at hf;obtain⟨l,ys,rfl,⟨_,hl⟩,hf⟩:=O4 hf;obtain⟨d,ys,rfl,⟨_,hd⟩,hf⟩:=O4 hf;obtain⟨text,ys,rfl,⟨_,htext⟩,hf⟩:=O4 hf;obtain⟨A2F,ys,rfl,⟨_,hlook⟩,hf⟩:=O4 hf;obtain⟨n,ys,rfl,⟨_,hn⟩,hf⟩:=O4 hf;obtain rfl:=A4D hf;obtain⟨l,rfl⟩:=C3R hl;obtain⟨d,rfl,hdr⟩:=C5U hd;obtain⟨text,rfl,htextl⟩:=A2N Tryz.underlying9 htext;obtain⟨A2F,rfl,hlookl⟩:=A2N Tryz.underlying9 hlook;obtain⟨n,rfl,_⟩:=A8O Tryz.underlying3 hn;exact B2j l d text A2F n 0
theorem B2l:(Rows.deskStepsUptoRow.inPlace==Tryz.pinned.checked.prog.inPlace 3)=true:=by kernel_rfl
theorem B2m:(Rows.deskStepsUptoRow.unfollowed==Tryz.pinned.checked.prog.unfollowed 3)=true:=by kernel_rfl
theorem B2n:(Rows.deskStepsUptoRow.recurses==Tryz.pinned.checked.prog.recurses 3)=true:=by kernel_rfl
theorem B2o:(Rows.deskStepsUptoRow.named==Tryz.pinned.checked.prog.varsNamed 3)=true:=by kernel_rfl
theorem B2p:(Rows.deskStepsUptoRow.plainKeys==Tryz.pinned.checked.prog.plainKeys)=true:=by kernel_rfl
theorem B2q:(Rows.deskStepsUptoRow.wf (OpenSpec.ofChange (Rows.OpenSpec.upto Rows.deskStepsSpec).bare)&&laidOutB Tryz.pinned.checked.prog&&mapsRowed Tryz.pinned.checked.prog&&Tryz.f3.params.all (Tryz.pinned.checked.prog.readableRec ·)&&namedTie Tryz.pinned.checked.prog Rows.deskStepsUptoRow.named (Rows.OpenSpec.upto Rows.deskStepsSpec).bare.vars&&(Rows.deskStepsUptoRow.stops==[])&&(Tryz.pinned.checked.prog.stops==[])&&(Rows.deskStepsUptoRow.knobs==[])&&(Tryz.pinned.checked.prog.stopKnobs==[]))=true:=by kernel_rfl
theorem B4t:joinedFacts Tryz.pinned.checked.prog 3 Tryz.f3 (Rows.OpenSpec.upto Rows.deskStepsSpec).bare Rows.deskStepsUptoRow=true:=B2k B2q B2l B2m B2n B2o (by kernel_rfl) B2p (by kernel_rfl)
theorem A9Z:Rows.DeskStepsUptoSaid :=
 OpenClaim.holds_of_cond 3 Tryz.f3 rfl rfl rfl rfl rfl rfl rfl ⟨rfl,rfl,rfl,rfl,rfl⟩ rfl rfl rfl rfl rfl (by kernel_rfl) Tryz.func3 B4t
  (zq (by kernel_rfl)) (by unfold Func.isWrapper; first|(rw[zj (by decide +kernel)]; kernel_rfl)|(rw[zf (by decide +kernel)]; exact⟨rfl,rfl⟩))
  (fun os started H enc _ F=>by rw[OpenClaim.pre_eq_preRow]; exact A71 os started H enc F)
theorem A7a(f:FuncId)(fn:Func)(hf:Tryz.pinned.checked.prog.funcNamed Rows.deskStepsUptoRow.func=some f)(hfn:Tryz.pinned.checked.prog.funcs[f]?=some fn):
  true=Tryz.pinned.checked.prog.looks []/\∀(j:Nat) t,fn.params[j]?=some t->Tryz.pinned.checked.prog.wantsStandIn t=false:=by
 obtain rfl:f=3:=wn ((show Tryz.prog.funcNamed Rows.deskStepsUptoRow.func=some 3 by kernel_rfl).symm.trans hf) |>.symm;obtain rfl:fn=Tryz.f3:=(wn (Tryz.func3.symm.trans hfn)).symm;refine⟨by kernel_rfl,fun j t ht=>?_⟩;have h:(Tryz.f3.params.toList.all fun t=>Tryz.prog.wantsStandIn t==false)=true:=by kernel_rfl
 have:=xe.1 h t (by simpa using Array.mem_of_getElem? ht);exact (show Tryz.prog.wantsStandIn t=false by simpa using this)
end Go.Proofs.YtphjabjjnncebaaGreatDoor
