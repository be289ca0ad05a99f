/- Whatever state and numbers are handed in, the law ExecFirst returns true, and what was handed in reads as it did. Condition: the bulk of what is handed in is at most 1,048,576; the tables of the library hold what the program's text lays. -/
import Derived.Test.YtbjmmndeeeoloaaGreatDoorYP
import Derived.Test.YtbjmmndeeeoloaaGreatDoorZA
import Derived.Test.YtbjmmndeeeoloaaGreatDoorZB
namespace Go.Proofs.YtbjmmndeeeoloaaGreatDoor
open Go Go.RowKit Go.Am Go.ChangeAt
set_option maxRecDepth 100000
theorem execFirst_met(os:Os):laidMet Tryz.prog Rows.execFirstUptoRow.laid ((laidWorld os).forCall (fun _ _=>0) ⟨#[],#[.agg #[.slice none 0 0,.slice none 0 0],.int .i64 0,.int .i64 0,.int .i64 0,.int .i64 0],[]⟩).memory :=
 laidMet_of_run' 8 (by kernel_rfl) (by kernel_rfl)
theorem execFirst_reads(os:Os){H:Type}(enc:TypeId×Value→H):∃places,DataW.whole enc Tryz.prog ((laidWorld os).forCall (fun _ _=>0) ⟨#[],#[.agg #[.slice none 0 0,.slice none 0 0],.int .i64 0,.int .i64 0,.int .i64 0,.int .i64 0],[]⟩).memory Tryz.f3.params.toList Rows.execFirstSpec.vars false
  (#[.agg #[.slice none 0 0,.slice none 0 0],.int .i64 0,.int .i64 0,.int .i64 0,.int .i64 0]:Array Value).toList 8=some ([.agg [.nil,.nil],.lit (.int .i64 0),.lit (.int .i64 0),.lit (.int .i64 0),.lit (.int .i64 0)],[],places) :=
 ⟨[],by kernel_rfl⟩
theorem execFirst_lifted(os:Os)(started:os.Started)(H:Type)(enc:TypeId×Value→H)(F:Stop.Interp):
  ReturnsInHanded Rows.execFirstUptoRow.assume Tryz.checked os 3 .any ((Rows.OpenSpec.upto Rows.execFirstSpec).preRow enc Tryz.prog Tryz.f3 Rows.execFirstUptoRow.domain Rows.execFirstUptoRow.apart Rows.execFirstUptoRow.laid) (((Rows.OpenSpec.upto Rows.execFirstSpec).at F).post enc Tryz.prog Tryz.f3 Rows.execFirstUptoRow.apart Rows.execFirstUptoRow.fresh Rows.execFirstUptoRow.handsOn Rows.execFirstUptoRow.again):=by
 obtain⟨places,hx⟩:=execFirst_reads os enc
 refine returnsInHanded_of_row (C:=Tryz.checked) (s:=Rows.OpenSpec.upto Rows.execFirstSpec) Tryz.own started (by kernel_rfl) Tryz.func3
  (witness_row_at (enc:=enc) (C:=Tryz.checked) false (laidWorld os) #[.agg #[.slice none 0 0,.slice none 0 0],.int .i64 0,.int .i64 0,.int .i64 0,.int .i64 0] rfl (by kernel_rfl) (by kernel_rfl) (by kernel_rfl)
   (OpenSpec.preRow_of_cond 8 hx (by kernel_rfl) (fun k hk=>by cases hk; kernel_rfl) (by kernel_rfl) (execFirst_met os))) ?_
 intro W base args ds gs before hval hW _ hcond hsz hL _ _
 have hk:Rows.uptoSmall H (ds++gs)=true:=hcond _ rfl
 refine law_post (s:=Rows.execFirstSpec) (l:=tys Tryz.f3) (tb:=4) (by kernel_rfl) Tryz.laidOut (by kernel_rfl) (by kernel_rfl) Tryz.underlying4 rfl (fun ds hds=>?_) (fun xs hf he=>?_) hsz hval hW (tabs_laid hL)
 ·match ds,hds with
  | [s,kd,i,fd,n],_=>rfl
 ·rw[Tryz.params3] at hf
  obtain⟨s,ys,rfl,⟨_,hs⟩,hf⟩:=fitsL_cons hf
  obtain⟨kd,ys,rfl,⟨_,hkd⟩,hf⟩:=fitsL_cons hf
  obtain⟨i,ys,rfl,⟨_,hi⟩,hf⟩:=fitsL_cons hf
  obtain⟨fd,ys,rfl,⟨_,hfd⟩,hf⟩:=fitsL_cons hf
  obtain⟨n,ys,rfl,⟨_,hn⟩,hf⟩:=fitsL_cons hf
  obtain rfl:=fitsL_nil hf
  obtain⟨s,rfl,hsI⟩:=fits_sta hs
  obtain⟨kd,rfl,hkdI⟩:=fits_i64 hkd
  obtain⟨i,rfl,hiI⟩:=fits_i64 hi
  obtain⟨fd,rfl,hfdI⟩:=fits_i64 hfd
  obtain⟨n,rfl,hnI⟩:=fits_i64 hn
  exact ExecFirst_ok s kd i fd n 0 hsI
theorem execFirst_said:Rows.ExecFirstUptoSaid :=
 OpenClaim.holds_of_cond 3 Tryz.f3 rfl rfl rfl rfl rfl rfl rfl ⟨rfl,rfl,rfl,rfl,rfl⟩ rfl rfl rfl rfl rfl (by kernel_rfl) Tryz.func3 (by kernel_rfl)
  (of_decide_eq_true (by kernel_rfl)) (by unfold Func.isWrapper; first|(rw[if_pos (by decide +kernel)]; kernel_rfl)|(rw[if_neg (by decide +kernel)]; exact⟨rfl,rfl⟩))
  (fun os started H enc _ F=>by rw[OpenClaim.pre_eq_preRow]; exact execFirst_lifted os started H enc F)
theorem execFirst_plain(f:FuncId)(fn:Func)(hf:Tryz.pinned.checked.prog.funcNamed Rows.execFirstUptoRow.func=some f)(hfn:Tryz.pinned.checked.prog.funcs[f]?=some fn):
  true=Tryz.pinned.checked.prog.looks []∧∀(j:Nat) t,fn.params[j]?=some t→Tryz.pinned.checked.prog.wantsStandIn t=false:=by
 obtain rfl:f=3:=Option.some.inj ((show Tryz.prog.funcNamed Rows.execFirstUptoRow.func=some 3 by kernel_rfl).symm.trans hf) |>.symm
 obtain rfl:fn=Tryz.f3:=(Option.some.inj (Tryz.func3.symm.trans hfn)).symm
 refine⟨by kernel_rfl,fun j t ht=>?_⟩
 have h:(Tryz.f3.params.toList.all fun t=>Tryz.prog.wantsStandIn t==false)=true:=by kernel_rfl
 have:=List.all_eq_true.1 h t (by simpa using Array.mem_of_getElem? ht)
 exact (show Tryz.prog.wantsStandIn t=false by simpa using this)
theorem execFirst_holds:Rows.ExecFirstUptoCardSaid :=
 Claim7.holds_tied_plain_at .later [] _ _ _ _ execFirst_said (fun _ h=>by cases h) (by kernel_rfl) (fun _ h=>by cases h) execFirstUpto_row_tie rfl ⟨rfl,rfl⟩ (by kernel_rfl) rfl execFirst_plain (by kernel_rfl)
#print axioms execFirst_holds
end Go.Proofs.YtbjmmndeeeoloaaGreatDoor
