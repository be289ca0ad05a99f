/- Whatever types, disk, texts and number are handed in, the law DeskOnce returns true, and what was handed in reads as it did. Condition: the bulk of what is handed in is at most 1,048,576; the tables of the library hold what the program's text lays. -/
import Derived.Test.YtphjabjjnncebaaGreatDoorXV
set_option maxRecDepth 100000
set_option linter.all false
namespace Go.Proofs.YtphjabjjnncebaaGreatDoor
open Go Go.Am Go.ChangeAt Go.RowKit
theorem B1k(os:Os):laidMet Tryz.prog Rows.deskOnceUptoRow.laid ((A68 os).forCall (fun _ _=>0) ⟨#[],#[.slice none 0 0,.agg #[.slice none 0 0,.int .i64 0],.string ⟨#[]⟩,.string ⟨#[]⟩,.int .i64 0],[]⟩).memory :=
 laidMet_of_run' 8 (by kernel_rfl) (by kernel_rfl)
theorem A8k(os:Os){H:Type}(enc:TypeId×Value->H):∃places,DataW.whole enc Tryz.prog ((A68 os).forCall (fun _ _=>0) ⟨#[],#[.slice none 0 0,.agg #[.slice none 0 0,.int .i64 0],.string ⟨#[]⟩,.string ⟨#[]⟩,.int .i64 0],[]⟩).memory Tryz.f8.params.toList Rows.deskOnceSpec.vars false
  (#[.slice none 0 0,.agg #[.slice none 0 0,.int .i64 0],.string ⟨#[]⟩,.string ⟨#[]⟩,.int .i64 0]:Array Value).toList 8=some ([.nil,.agg [.nil,.lit (.int .i64 0)],.lit (.string []),.lit (.string []),.lit (.int .i64 0)],[],places) :=
 ⟨[],by kernel_rfl⟩
theorem A6i(os:Os)(started:os.Started)(H:Type)(enc:TypeId×Value->H)(F:Stop.Interp):
  ReturnsInHanded Rows.deskOnceUptoRow.assume Tryz.checked os 8 .any ((Rows.OpenSpec.upto Rows.deskOnceSpec).preRow enc Tryz.prog Tryz.f8 Rows.deskOnceUptoRow.domain Rows.deskOnceUptoRow.apart Rows.deskOnceUptoRow.laid) (((Rows.OpenSpec.upto Rows.deskOnceSpec).at F).post enc Tryz.prog Tryz.f8 Rows.deskOnceUptoRow.apart Rows.deskOnceUptoRow.fresh Rows.deskOnceUptoRow.handsOn Rows.deskOnceUptoRow.again):=by
 obtain⟨places,hx⟩:=A8k os enc;refine returnsInHanded_of_row (C:=Tryz.checked) (s:=Rows.OpenSpec.upto Rows.deskOnceSpec) Tryz.own started (by kernel_rfl) Tryz.func8
  (witness_row_at (enc:=enc) (C:=Tryz.checked) false (A68 os) #[.slice none 0 0,.agg #[.slice none 0 0,.int .i64 0],.string ⟨#[]⟩,.string ⟨#[]⟩,.int .i64 0] rfl (by kernel_rfl) (by kernel_rfl) (by kernel_rfl)
   (OpenSpec.preRow_of_cond 8 hx (by kernel_rfl) (fun k hk=>by cases hk; kernel_rfl) (by kernel_rfl) (B1k os))) ?_
 intro W base args ds gs before hval hW _ hcond hsz hL _ _;have hk:Rows.uptoSmall H (ds++gs)=true:=hcond _ rfl;refine B8d (s:=Rows.deskOnceSpec) (l:=tys Tryz.f8) (tb:=4) (by kernel_rfl) Tryz.laidOut (by kernel_rfl) (by kernel_rfl) Tryz.underlying4 rfl (fun ds hds=>?_) (fun xs hf he=>?_) hsz hval hW (B7x hL)
 ·match ds,hds with
  | [l,d,text,other,number],_=>rfl
 ·rw[Tryz.params8] at hf;obtain⟨l,ys,rfl,⟨_,hl⟩,hf⟩:=O3 hf;obtain⟨d,ys,rfl,⟨_,hd⟩,hf⟩:=O3 hf;obtain⟨text,ys,rfl,⟨_,htext⟩,hf⟩:=O3 hf;obtain⟨other,ys,rfl,⟨_,hother⟩,hf⟩:=O3 hf;obtain⟨number,ys,rfl,⟨_,hnumber⟩,hf⟩:=O3 hf;obtain rfl:=A3i hf;obtain⟨l,rfl⟩:=C17 hl;obtain⟨d,rfl,hdr⟩:=C2n hd;obtain⟨text,rfl,htextl⟩:=A26 Tryz.underlying9 htext;obtain⟨other,rfl,hotherl⟩:=A26 Tryz.underlying9 hother;obtain⟨number,rfl,_⟩:=A7a Tryz.underlying3 hnumber;exact B3X l d text other number 0
theorem B3Z:(Rows.deskOnceUptoRow.inPlace==Tryz.pinned.checked.prog.inPlace 8)=true:=by kernel_rfl
theorem B3a:(Rows.deskOnceUptoRow.unfollowed==Tryz.pinned.checked.prog.unfollowed 8)=true:=by kernel_rfl
theorem B3b:(Rows.deskOnceUptoRow.recurses==Tryz.pinned.checked.prog.recurses 8)=true:=by kernel_rfl
theorem B3c:(Rows.deskOnceUptoRow.named==Tryz.pinned.checked.prog.varsNamed 8)=true:=by kernel_rfl
theorem B3d:(Rows.deskOnceUptoRow.plainKeys==Tryz.pinned.checked.prog.plainKeys)=true:=by kernel_rfl
theorem B3e:(Rows.deskOnceUptoRow.wf (OpenSpec.ofChange (Rows.OpenSpec.upto Rows.deskOnceSpec).bare)&&laidOutB Tryz.pinned.checked.prog&&mapsRowed Tryz.pinned.checked.prog&&Tryz.f8.params.all (Tryz.pinned.checked.prog.readableRec ·)&&namedTie Tryz.pinned.checked.prog Rows.deskOnceUptoRow.named (Rows.OpenSpec.upto Rows.deskOnceSpec).bare.vars&&(Rows.deskOnceUptoRow.stops==[])&&(Tryz.pinned.checked.prog.stops==[])&&(Rows.deskOnceUptoRow.knobs==[])&&(Tryz.pinned.checked.prog.stopKnobs==[]))=true:=by kernel_rfl
theorem B4z:joinedFacts Tryz.pinned.checked.prog 8 Tryz.f8 (Rows.OpenSpec.upto Rows.deskOnceSpec).bare Rows.deskOnceUptoRow=true:=B1j B3e B3Z B3a B3b B3c (by kernel_rfl) B3d (by kernel_rfl)
theorem A92:Rows.DeskOnceUptoSaid :=
 OpenClaim.holds_of_cond 8 Tryz.f8 rfl rfl rfl rfl rfl rfl rfl ⟨rfl,rfl,rfl,rfl,rfl⟩ rfl rfl rfl rfl rfl (by kernel_rfl) Tryz.func8 B4z
  (zr (by kernel_rfl)) (by unfold Func.isWrapper; first|(rw[zj (by decide +kernel)]; kernel_rfl)|(rw[zf (by decide +kernel)]; exact⟨rfl,rfl⟩))
  (fun os started H enc _ F=>by rw[OpenClaim.pre_eq_preRow]; exact A6i os started H enc F)
theorem A8l(f:FuncId)(fn:Func)(hf:Tryz.pinned.checked.prog.funcNamed Rows.deskOnceUptoRow.func=some f)(hfn:Tryz.pinned.checked.prog.funcs[f]?=some fn):
  true=Tryz.pinned.checked.prog.looks []/\∀(j:Nat) t,fn.params[j]?=some t->Tryz.pinned.checked.prog.wantsStandIn t=false:=by
 obtain rfl:f=8:=wg ((show Tryz.prog.funcNamed Rows.deskOnceUptoRow.func=some 8 by kernel_rfl).symm.trans hf) |>.symm;obtain rfl:fn=Tryz.f8:=(wg (Tryz.func8.symm.trans hfn)).symm;refine⟨by kernel_rfl,fun j t ht=>?_⟩;have h:(Tryz.f8.params.toList.all fun t=>Tryz.prog.wantsStandIn t==false)=true:=by kernel_rfl
 have:=xd.1 h t (by simpa using Array.mem_of_getElem? ht);exact (show Tryz.prog.wantsStandIn t=false by simpa using this)
theorem deskOnce_holds:Rows.DeskOnceUptoCardSaid :=
 Claim7.holds_tied_plain_at .later [] _ _ _ _ A92 (fun _ h=>by cases h) (by kernel_rfl) (fun _ h=>by cases h) deskOnceUpto_row_tie rfl ⟨rfl,rfl⟩ (by kernel_rfl) rfl A8l (by kernel_rfl)
#print axioms deskOnce_holds
end Go.Proofs.YtphjabjjnncebaaGreatDoor
