/- Whatever types, disk, texts and numbers are handed in, the law DeskForever returns true, and what was handed in reads as it did. Condition: the bulk of what is handed in is at most 1,048,576; the tables of the library hold what the program's text lays. -/
import Derived.Test.YtphjabjjnncebaaGreatDoorXV
set_option maxRecDepth 100000
set_option linter.all false
namespace Go.Proofs.YtphjabjjnncebaaGreatDoor
open Go Go.Am Go.ChangeAt Go.RowKit
theorem A6b(os:Os):laidMet Tryz.prog Rows.deskForeverUptoRow.laid ((A60 os).forCall (fun _ _=>0) ⟨#[],#[.slice none 0 0,.agg #[.slice none 0 0,.int .i64 0],.string ⟨#[]⟩,.string ⟨#[]⟩,.int .i64 0,.int .i64 0,.int .i64 0],[]⟩).memory :=
 laidMet_of_run' 8 (by kernel_rfl) (by kernel_rfl)
theorem A5G(os:Os){H:Type}(enc:TypeId×Value->H):∃places,DataW.whole enc Tryz.prog ((A60 os).forCall (fun _ _=>0) ⟨#[],#[.slice none 0 0,.agg #[.slice none 0 0,.int .i64 0],.string ⟨#[]⟩,.string ⟨#[]⟩,.int .i64 0,.int .i64 0,.int .i64 0],[]⟩).memory Tryz.f7.params.toList Rows.deskForeverSpec.vars false
  (#[.slice none 0 0,.agg #[.slice none 0 0,.int .i64 0],.string ⟨#[]⟩,.string ⟨#[]⟩,.int .i64 0,.int .i64 0,.int .i64 0]:Array Value).toList 8=some ([.nil,.agg [.nil,.lit (.int .i64 0)],.lit (.string []),.lit (.string []),.lit (.int .i64 0),.lit (.int .i64 0),.lit (.int .i64 0)],[],places) :=
 ⟨[],by kernel_rfl⟩
theorem A4N(os:Os)(started:os.Started)(H:Type)(enc:TypeId×Value->H)(F:Stop.Interp):
  ReturnsInHanded Rows.deskForeverUptoRow.assume Tryz.checked os 7 .any ((Rows.OpenSpec.upto Rows.deskForeverSpec).preRow enc Tryz.prog Tryz.f7 Rows.deskForeverUptoRow.domain Rows.deskForeverUptoRow.apart Rows.deskForeverUptoRow.laid) (((Rows.OpenSpec.upto Rows.deskForeverSpec).at F).post enc Tryz.prog Tryz.f7 Rows.deskForeverUptoRow.apart Rows.deskForeverUptoRow.fresh Rows.deskForeverUptoRow.handsOn Rows.deskForeverUptoRow.again):=by
 obtain⟨places,hx⟩:=A5G os enc;refine returnsInHanded_of_row (C:=Tryz.checked) (s:=Rows.OpenSpec.upto Rows.deskForeverSpec) Tryz.own started (by kernel_rfl) Tryz.func7
  (witness_row_at (enc:=enc) (C:=Tryz.checked) false (A60 os) #[.slice none 0 0,.agg #[.slice none 0 0,.int .i64 0],.string ⟨#[]⟩,.string ⟨#[]⟩,.int .i64 0,.int .i64 0,.int .i64 0] rfl (by kernel_rfl) (by kernel_rfl) (by kernel_rfl)
   (OpenSpec.preRow_of_cond 8 hx (by kernel_rfl) (fun k hk=>by cases hk; kernel_rfl) (by kernel_rfl) (A6b os))) ?_
 intro W base args ds gs before hval hW _ hcond hsz hL _ _;have hk:Rows.uptoSmall H (ds++gs)=true:=hcond _ rfl;refine B8L (s:=Rows.deskForeverSpec) (l:=tys Tryz.f7) (tb:=4) (by kernel_rfl) Tryz.laidOut (by kernel_rfl) (by kernel_rfl) Tryz.underlying4 rfl (fun ds hds=>?_) (fun xs hf he=>?_) hsz hval hW (B7f hL)
 ·match ds,hds with
  | [l,d,text,other,n,number,keep],_=>rfl
 ·rw[Tryz.params7] at hf;obtain⟨l,ys,rfl,⟨_,hl⟩,hf⟩:=M2 hf;obtain⟨d,ys,rfl,⟨_,hd⟩,hf⟩:=M2 hf;obtain⟨text,ys,rfl,⟨_,htext⟩,hf⟩:=M2 hf;obtain⟨other,ys,rfl,⟨_,hother⟩,hf⟩:=M2 hf;obtain⟨n,ys,rfl,⟨_,hn⟩,hf⟩:=M2 hf;obtain⟨number,ys,rfl,⟨_,hnumber⟩,hf⟩:=M2 hf;obtain⟨keep,ys,rfl,⟨_,hkeep⟩,hf⟩:=M2 hf;obtain rfl:=A3a hf;obtain⟨l,rfl⟩:=C0s hl;obtain⟨d,rfl,hdr⟩:=C2N hd;obtain⟨text,rfl,htextl⟩:=A1q Tryz.underlying9 htext;obtain⟨other,rfl,hotherl⟩:=A1q Tryz.underlying9 hother;obtain⟨n,rfl,_⟩:=A2y Tryz.underlying3 hn;obtain⟨number,rfl,_⟩:=A2y Tryz.underlying3 hnumber;obtain⟨keep,rfl,_⟩:=A2y Tryz.underlying3 hkeep;exact A8a l d text other n number keep 0
theorem A8b:(Rows.deskForeverUptoRow.inPlace==Tryz.pinned.checked.prog.inPlace 7)=true:=by kernel_rfl
theorem A8c:(Rows.deskForeverUptoRow.unfollowed==Tryz.pinned.checked.prog.unfollowed 7)=true:=by kernel_rfl
theorem A8d:(Rows.deskForeverUptoRow.recurses==Tryz.pinned.checked.prog.recurses 7)=true:=by kernel_rfl
theorem A8e:(Rows.deskForeverUptoRow.named==Tryz.pinned.checked.prog.varsNamed 7)=true:=by kernel_rfl
theorem A8f:(Rows.deskForeverUptoRow.plainKeys==Tryz.pinned.checked.prog.plainKeys)=true:=by kernel_rfl
theorem A8g:(Rows.deskForeverUptoRow.wf (OpenSpec.ofChange (Rows.OpenSpec.upto Rows.deskForeverSpec).bare)&&laidOutB Tryz.pinned.checked.prog&&mapsRowed Tryz.pinned.checked.prog&&Tryz.f7.params.all (Tryz.pinned.checked.prog.readableRec ·)&&namedTie Tryz.pinned.checked.prog Rows.deskForeverUptoRow.named (Rows.OpenSpec.upto Rows.deskForeverSpec).bare.vars&&(Rows.deskForeverUptoRow.stops==[])&&(Tryz.pinned.checked.prog.stops==[])&&(Rows.deskForeverUptoRow.knobs==[])&&(Tryz.pinned.checked.prog.stopKnobs==[]))=true:=by kernel_rfl
theorem A8t:joinedFacts Tryz.pinned.checked.prog 7 Tryz.f7 (Rows.OpenSpec.upto Rows.deskForeverSpec).bare Rows.deskForeverUptoRow=true:=B1Z A8g A8b A8c A8d A8e (by kernel_rfl) A8f (by kernel_rfl)
theorem A61:Rows.DeskForeverUptoSaid :=
 OpenClaim.holds_of_cond 7 Tryz.f7 rfl rfl rfl rfl rfl rfl rfl ⟨rfl,rfl,rfl,rfl,rfl⟩ rfl rfl rfl rfl rfl (by kernel_rfl) Tryz.func7 A8t
  (of_decide_eq_true (by kernel_rfl)) (by unfold Func.isWrapper; first|(rw[if_pos (by decide +kernel)]; kernel_rfl)|(rw[if_neg (by decide +kernel)]; exact⟨rfl,rfl⟩))
  (fun os started H enc _ F=>by rw[OpenClaim.pre_eq_preRow]; exact A4N os started H enc F)
theorem A5H(f:FuncId)(fn:Func)(hf:Tryz.pinned.checked.prog.funcNamed Rows.deskForeverUptoRow.func=some f)(hfn:Tryz.pinned.checked.prog.funcs[f]?=some fn):
  true=Tryz.pinned.checked.prog.looks []/\∀(j:Nat) t,fn.params[j]?=some t->Tryz.pinned.checked.prog.wantsStandIn t=false:=by
 obtain rfl:f=7:=Option.some.inj ((show Tryz.prog.funcNamed Rows.deskForeverUptoRow.func=some 7 by kernel_rfl).symm.trans hf) |>.symm;obtain rfl:fn=Tryz.f7:=(Option.some.inj (Tryz.func7.symm.trans hfn)).symm;refine⟨by kernel_rfl,fun j t ht=>?_⟩;have h:(Tryz.f7.params.toList.all fun t=>Tryz.prog.wantsStandIn t==false)=true:=by kernel_rfl
 have:=List.all_eq_true.1 h t (by simpa using Array.mem_of_getElem? ht);exact (show Tryz.prog.wantsStandIn t=false by simpa using this)
theorem deskForever_holds:Rows.DeskForeverUptoCardSaid :=
 Claim7.holds_tied_plain_at .later [] _ _ _ _ A61 (fun _ h=>by cases h) (by kernel_rfl) (fun _ h=>by cases h) deskForeverUpto_row_tie rfl ⟨rfl,rfl⟩ (by kernel_rfl) rfl A5H (by kernel_rfl)
#print axioms deskForever_holds
end Go.Proofs.YtphjabjjnncebaaGreatDoor
