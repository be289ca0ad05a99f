/- Whatever state and number of a type are handed in, the law ExecCalled returns true, and what was handed in reads as it did. Condition: the bulk of what is handed in is at most 1,048,576; the tables of the library hold what the program's text lays. -/
import Derived.Test.YtphjabjjnncebaaGreatDoorXQ
set_option maxRecDepth 100000
set_option linter.all false
namespace Go.Proofs.YtphjabjjnncebaaGreatDoor
open Go Go.Am Go.ChangeAt Go.RowKit
theorem A4N(os:Os):laidMet Tryz.prog Rows.execCalledUptoRow.laid ((A2T os).forCall (fun _ _=>0) ⟨#[],#[.agg #[.slice none 0 0,.slice none 0 0],.int .i64 0],[]⟩).memory :=
 laidMet_of_run' 8 (by kernel_rfl) (by kernel_rfl)
theorem A2U(os:Os){H:Type}(enc:TypeId×Value->H):∃places,DataW.whole enc Tryz.prog ((A2T os).forCall (fun _ _=>0) ⟨#[],#[.agg #[.slice none 0 0,.slice none 0 0],.int .i64 0],[]⟩).memory Tryz.f5.params.toList Rows.execCalledSpec.vars false
  (#[.agg #[.slice none 0 0,.slice none 0 0],.int .i64 0]:Array Value).toList 8=some ([.agg [.nil,.nil],.lit (.int .i64 0)],[],places) :=
 ⟨[],by kernel_rfl⟩
theorem A1w(os:Os)(started:os.Started)(H:Type)(enc:TypeId×Value->H)(F:Stop.Interp):
  ReturnsInHanded Rows.execCalledUptoRow.assume Tryz.checked os 5 .any ((Rows.OpenSpec.upto Rows.execCalledSpec).preRow enc Tryz.prog Tryz.f5 Rows.execCalledUptoRow.domain Rows.execCalledUptoRow.apart Rows.execCalledUptoRow.laid) (((Rows.OpenSpec.upto Rows.execCalledSpec).at F).post enc Tryz.prog Tryz.f5 Rows.execCalledUptoRow.apart Rows.execCalledUptoRow.fresh Rows.execCalledUptoRow.handsOn Rows.execCalledUptoRow.again):=by
 obtain⟨places,hx⟩:=A2U os enc;refine returnsInHanded_of_row (C:=Tryz.checked) (s:=Rows.OpenSpec.upto Rows.execCalledSpec) Tryz.own started (by kernel_rfl) Tryz.func5
  (witness_row_at (enc:=enc) (C:=Tryz.checked) false (A2T os) #[.agg #[.slice none 0 0,.slice none 0 0],.int .i64 0] rfl (by kernel_rfl) (by kernel_rfl) (by kernel_rfl)
   (OpenSpec.preRow_of_cond 8 hx (by kernel_rfl) (fun k hk=>by cases hk; kernel_rfl) (by kernel_rfl) (A4N os))) ?_
 intro W base args ds gs before hval hW _ hcond hsz hL _ _;have hk:Rows.uptoSmall H (ds++gs)=true:=hcond _ rfl;refine B1Z (s:=Rows.execCalledSpec) (l:=tys Tryz.f5) (tb:=4) (by kernel_rfl) Tryz.laidOut (by kernel_rfl) (by kernel_rfl) Tryz.underlying4 rfl (fun ds hds=>?_) (fun xs hf he=>?_) hsz hval hW (B0r hL)
 ·match ds,hds with
  | [s,kind],_=>rfl
 ·rw[Tryz.params5] at hf;obtain⟨s,ys,rfl,⟨_,hs⟩,hf⟩:=H1 hf;obtain⟨kind,ys,rfl,⟨_,hkind⟩,hf⟩:=H1 hf;obtain rfl:=c6 hf;obtain⟨s,rfl,hsI⟩:=B3E hs;obtain⟨kind,rfl,_⟩:=A3j Tryz.underlying3 hkind;exact A4f s kind 0
theorem A4g:(Rows.execCalledUptoRow.inPlace==Tryz.pinned.checked.prog.inPlace 5)=true:=by kernel_rfl
theorem A4h:(Rows.execCalledUptoRow.unfollowed==Tryz.pinned.checked.prog.unfollowed 5)=true:=by kernel_rfl
theorem A4i:(Rows.execCalledUptoRow.recurses==Tryz.pinned.checked.prog.recurses 5)=true:=by kernel_rfl
theorem A4j:(Rows.execCalledUptoRow.named==Tryz.pinned.checked.prog.varsNamed 5)=true:=by kernel_rfl
theorem A4k:(Rows.execCalledUptoRow.plainKeys==Tryz.pinned.checked.prog.plainKeys)=true:=by kernel_rfl
theorem A4l:(Rows.execCalledUptoRow.wf (OpenSpec.ofChange (Rows.OpenSpec.upto Rows.execCalledSpec).bare)&&laidOutB Tryz.pinned.checked.prog&&mapsRowed Tryz.pinned.checked.prog&&Tryz.f5.params.all (Tryz.pinned.checked.prog.readableRec ·)&&namedTie Tryz.pinned.checked.prog Rows.execCalledUptoRow.named (Rows.OpenSpec.upto Rows.execCalledSpec).bare.vars&&(Rows.execCalledUptoRow.stops==[])&&(Tryz.pinned.checked.prog.stops==[])&&(Rows.execCalledUptoRow.knobs==[])&&(Tryz.pinned.checked.prog.stopKnobs==[]))=true:=by kernel_rfl
theorem A6d:joinedFacts Tryz.pinned.checked.prog 5 Tryz.f5 (Rows.OpenSpec.upto Rows.execCalledSpec).bare Rows.execCalledUptoRow=true:=A6c A4l A4g A4h A4i A4j (by kernel_rfl) A4k (by kernel_rfl)
theorem A32:Rows.ExecCalledUptoSaid :=
 OpenClaim.holds_of_cond 5 Tryz.f5 rfl rfl rfl rfl rfl rfl rfl ⟨rfl,rfl,rfl,rfl,rfl⟩ rfl rfl rfl rfl rfl (by kernel_rfl) Tryz.func5 A6d
  (zp (by kernel_rfl)) (by unfold Func.isWrapper; first|(rw[zk (by decide +kernel)]; kernel_rfl)|(rw[zh (by decide +kernel)]; exact⟨rfl,rfl⟩))
  (fun os started H enc _ F=>by rw[OpenClaim.pre_eq_preRow]; exact A1w os started H enc F)
theorem A2V(f:FuncId)(fn:Func)(hf:Tryz.pinned.checked.prog.funcNamed Rows.execCalledUptoRow.func=some f)(hfn:Tryz.pinned.checked.prog.funcs[f]?=some fn):
  true=Tryz.pinned.checked.prog.looks []/\∀(j:Nat) t,fn.params[j]?=some t->Tryz.pinned.checked.prog.wantsStandIn t=false:=by
 obtain rfl:f=5:=vj ((show Tryz.prog.funcNamed Rows.execCalledUptoRow.func=some 5 by kernel_rfl).symm.trans hf) |>.symm;obtain rfl:fn=Tryz.f5:=(vj (Tryz.func5.symm.trans hfn)).symm;refine⟨by kernel_rfl,fun j t ht=>?_⟩;have h:(Tryz.f5.params.toList.all fun t=>Tryz.prog.wantsStandIn t==false)=true:=by kernel_rfl
 have:=yq.1 h t (by simpa using Array.mem_of_getElem? ht);exact (show Tryz.prog.wantsStandIn t=false by simpa using this)
theorem execCalled_holds:Rows.ExecCalledUptoCardSaid :=
 Claim7.holds_tied_plain_at .later [] _ _ _ _ A32 (fun _ h=>by cases h) (by kernel_rfl) (fun _ h=>by cases h) execCalledUpto_row_tie rfl ⟨rfl,rfl⟩ (by kernel_rfl) rfl A2V (by kernel_rfl)
#print axioms execCalled_holds
end Go.Proofs.YtphjabjjnncebaaGreatDoor
