/- Whatever state and selects are handed in, the law ExecFits returns true, and what was handed in reads as it did. Condition: the bulk of what is handed in is at most 1,048,576; the tables of the library hold what the program's text lays. -/
import Derived.Test.YtbjmmndeeeoloaaGreatDoorYN
import Derived.Test.YtbjmmndeeeoloaaGreatDoorZA
import Derived.Test.YtbjmmndeeeoloaaGreatDoorZB
namespace Go.Proofs.YtbjmmndeeeoloaaGreatDoor
open Go Go.RowKit Go.Am Go.ChangeAt
set_option maxRecDepth 100000
theorem execFits_met(os:Os):laidMet Tryz.prog Rows.execFitsUptoRow.laid ((laidWorld os).forCall (fun _ _=>0) ⟨#[],#[.agg #[.slice none 0 0,.slice none 0 0],.slice none 0 0],[]⟩).memory :=
 laidMet_of_run' 8 (by kernel_rfl) (by kernel_rfl)
theorem execFits_reads(os:Os){H:Type}(enc:TypeId×Value→H):∃places,DataW.whole enc Tryz.prog ((laidWorld os).forCall (fun _ _=>0) ⟨#[],#[.agg #[.slice none 0 0,.slice none 0 0],.slice none 0 0],[]⟩).memory Tryz.f5.params.toList Rows.execFitsSpec.vars false
  (#[.agg #[.slice none 0 0,.slice none 0 0],.slice none 0 0]:Array Value).toList 8=some ([.agg [.nil,.nil],.nil],[],places) :=
 ⟨[],by kernel_rfl⟩
theorem execFits_lifted(os:Os)(started:os.Started)(H:Type)(enc:TypeId×Value→H)(F:Stop.Interp):
  ReturnsInHanded Rows.execFitsUptoRow.assume Tryz.checked os 5 .any ((Rows.OpenSpec.upto Rows.execFitsSpec).preRow enc Tryz.prog Tryz.f5 Rows.execFitsUptoRow.domain Rows.execFitsUptoRow.apart Rows.execFitsUptoRow.laid) (((Rows.OpenSpec.upto Rows.execFitsSpec).at F).post enc Tryz.prog Tryz.f5 Rows.execFitsUptoRow.apart Rows.execFitsUptoRow.fresh Rows.execFitsUptoRow.handsOn Rows.execFitsUptoRow.again):=by
 obtain⟨places,hx⟩:=execFits_reads os enc
 refine returnsInHanded_of_row (C:=Tryz.checked) (s:=Rows.OpenSpec.upto Rows.execFitsSpec) Tryz.own started (by kernel_rfl) Tryz.func5
  (witness_row_at (enc:=enc) (C:=Tryz.checked) false (laidWorld os) #[.agg #[.slice none 0 0,.slice none 0 0],.slice none 0 0] rfl (by kernel_rfl) (by kernel_rfl) (by kernel_rfl)
   (OpenSpec.preRow_of_cond 8 hx (by kernel_rfl) (fun k hk=>by cases hk; kernel_rfl) (by kernel_rfl) (execFits_met os))) ?_
 intro W base args ds gs before hval hW _ hcond hsz hL _ _
 have hk:Rows.uptoSmall H (ds++gs)=true:=hcond _ rfl
 refine law_post (s:=Rows.execFitsSpec) (l:=tys Tryz.f5) (tb:=4) (by kernel_rfl) Tryz.laidOut (by kernel_rfl) (by kernel_rfl) Tryz.underlying4 rfl (fun ds hds=>?_) (fun xs hf he=>?_) hsz hval hW (tabs_laid hL)
 ·match ds,hds with
  | [s,q],_=>rfl
 ·rw[Tryz.params5] at hf
  obtain⟨s,ys,rfl,⟨_,hs⟩,hf⟩:=fitsL_cons hf
  obtain⟨q,ys,rfl,⟨_,hq⟩,hf⟩:=fitsL_cons hf
  obtain rfl:=fitsL_nil hf
  obtain⟨s,rfl,hsI⟩:=fits_sta hs
  obtain⟨q,rfl⟩:=fits_sels hq
  have hb:Rows.uptoBulkAll (ds++gs)≤1048576:=of_decide_eq_true hk
  have hqz:szL q≤1048576:=by
   have hm:AV.sl (q.map eSel)∈ds.map avOf:=by rw[←he]; simp
   obtain⟨d,hd,hde⟩:=List.mem_map.1 hm
   exact sz_le (List.mem_append_left _ hd) hde hb
  exact ExecFits_ok s q 0 hsI (by omega)
theorem execFits_said:Rows.ExecFitsUptoSaid :=
 OpenClaim.holds_of_cond 5 Tryz.f5 rfl rfl rfl rfl rfl rfl rfl ⟨rfl,rfl,rfl,rfl,rfl⟩ rfl rfl rfl rfl rfl (by kernel_rfl) Tryz.func5 (by kernel_rfl)
  (of_decide_eq_true (by kernel_rfl)) (by unfold Func.isWrapper; first|(rw[if_pos (by decide +kernel)]; kernel_rfl)|(rw[if_neg (by decide +kernel)]; exact⟨rfl,rfl⟩))
  (fun os started H enc _ F=>by rw[OpenClaim.pre_eq_preRow]; exact execFits_lifted os started H enc F)
theorem execFits_plain(f:FuncId)(fn:Func)(hf:Tryz.pinned.checked.prog.funcNamed Rows.execFitsUptoRow.func=some f)(hfn:Tryz.pinned.checked.prog.funcs[f]?=some fn):
  true=Tryz.pinned.checked.prog.looks []∧∀(j:Nat) t,fn.params[j]?=some t→Tryz.pinned.checked.prog.wantsStandIn t=false:=by
 obtain rfl:f=5:=Option.some.inj ((show Tryz.prog.funcNamed Rows.execFitsUptoRow.func=some 5 by kernel_rfl).symm.trans hf) |>.symm
 obtain rfl:fn=Tryz.f5:=(Option.some.inj (Tryz.func5.symm.trans hfn)).symm
 refine⟨by kernel_rfl,fun j t ht=>?_⟩
 have h:(Tryz.f5.params.toList.all fun t=>Tryz.prog.wantsStandIn t==false)=true:=by kernel_rfl
 have:=List.all_eq_true.1 h t (by simpa using Array.mem_of_getElem? ht)
 exact (show Tryz.prog.wantsStandIn t=false by simpa using this)
theorem execFits_holds:Rows.ExecFitsUptoCardSaid :=
 Claim7.holds_tied_plain_at .later [] _ _ _ _ execFits_said (fun _ h=>by cases h) (by kernel_rfl) (fun _ h=>by cases h) execFitsUpto_row_tie rfl ⟨rfl,rfl⟩ (by kernel_rfl) rfl execFits_plain (by kernel_rfl)
#print axioms execFits_holds
end Go.Proofs.YtbjmmndeeeoloaaGreatDoor
