/- Whatever state and selects are handed in, the law ExecAlone returns true, and what was handed in reads as it did. Condition: the bulk of what is handed in is at most 1,048,576; the tables of the library hold what the program's text lays. -/
import Derived.Test.YtbjmmndeeeoloaaDoorYN
import Derived.Test.YtbjmmndeeeoloaaDoorZA
import Derived.Test.YtbjmmndeeeoloaaDoorZB
namespace Go.Proofs.YtbjmmndeeeoloaaDoor
open Go Go.RowKit Go.Am Go.ChangeAt
set_option maxRecDepth 100000
theorem execAlone_met(os:Os):laidMet Tryd.prog Rows.execAloneUptoRow.laid ((laidWorld os).forCall (fun _ _=>0) ⟨#[],#[.agg #[.slice none 0 0,.slice none 0 0],.slice none 0 0],[]⟩).memory :=
 laidMet_of_run' 8 (by kernel_rfl) (by kernel_rfl)
theorem execAlone_reads(os:Os){H:Type}(enc:TypeId×Value→H):∃places,DataW.whole enc Tryd.prog ((laidWorld os).forCall (fun _ _=>0) ⟨#[],#[.agg #[.slice none 0 0,.slice none 0 0],.slice none 0 0],[]⟩).memory Tryd.f6.params.toList Rows.execAloneSpec.vars false
  (#[.agg #[.slice none 0 0,.slice none 0 0],.slice none 0 0]:Array Value).toList 8=some ([.agg [.nil,.nil],.nil],[],places) :=
 ⟨[],by kernel_rfl⟩
theorem execAlone_lifted(os:Os)(started:os.Started)(H:Type)(enc:TypeId×Value→H)(F:Stop.Interp):
  ReturnsInHanded Rows.execAloneUptoRow.assume Tryd.checked os 6 .any ((Rows.OpenSpec.upto Rows.execAloneSpec).preRow enc Tryd.prog Tryd.f6 Rows.execAloneUptoRow.domain Rows.execAloneUptoRow.apart Rows.execAloneUptoRow.laid) (((Rows.OpenSpec.upto Rows.execAloneSpec).at F).post enc Tryd.prog Tryd.f6 Rows.execAloneUptoRow.apart Rows.execAloneUptoRow.fresh Rows.execAloneUptoRow.handsOn Rows.execAloneUptoRow.again):=by
 obtain⟨places,hx⟩:=execAlone_reads os enc
 refine returnsInHanded_of_row (C:=Tryd.checked) (s:=Rows.OpenSpec.upto Rows.execAloneSpec) Tryd.own started (by kernel_rfl) Tryd.func6
  (witness_row_at (enc:=enc) (C:=Tryd.checked) false (laidWorld os) #[.agg #[.slice none 0 0,.slice none 0 0],.slice none 0 0] rfl (by kernel_rfl) (by kernel_rfl) (by kernel_rfl)
   (OpenSpec.preRow_of_cond 8 hx (by kernel_rfl) (fun k hk=>by cases hk; kernel_rfl) (by kernel_rfl) (execAlone_met os))) ?_
 intro W base args ds gs before hval hW _ hcond hsz hL _ _
 have hk:Rows.uptoSmall H (ds++gs)=true:=hcond _ rfl
 refine law_post (s:=Rows.execAloneSpec) (l:=tys Tryd.f6) (tb:=4) (by kernel_rfl) Tryd.laidOut (by kernel_rfl) (by kernel_rfl) Tryd.underlying4 rfl (fun ds hds=>?_) (fun xs hf he=>?_) hsz hval hW (tabs_laid hL)
 ·match ds,hds with
  | [s,q],_=>rfl
 ·rw[Tryd.params6] at hf
  obtain⟨s,ys,rfl,⟨_,hs⟩,hf⟩:=fitsL_cons hf
  obtain⟨q,ys,rfl,⟨_,hq⟩,hf⟩:=fitsL_cons hf
  obtain rfl:=fitsL_nil hf
  obtain⟨s,rfl,hsI⟩:=fits_sta hs
  obtain⟨q,rfl⟩:=fits_sels hq
  have hb:Rows.uptoBulkAll (ds++gs)≤1048576:=of_decide_eq_true hk
  have hqz:szL q≤1048576:=by
   have hm:AV.sl (q.map eSel)∈ds.map avOf:=by rw[←he]; simp
   obtain⟨d,hd,hde⟩:=List.mem_map.1 hm
   exact sz_le (List.mem_append_left _ hd) hde hb
  exact ExecAlone_ok s q 0 hsI (by omega)
theorem execAlone_said:Rows.ExecAloneUptoSaid :=
 OpenClaim.holds_of_cond 6 Tryd.f6 rfl rfl rfl rfl rfl rfl rfl ⟨rfl,rfl,rfl,rfl,rfl⟩ rfl rfl rfl rfl rfl (by kernel_rfl) Tryd.func6 (by kernel_rfl)
  (of_decide_eq_true (by kernel_rfl)) (by unfold Func.isWrapper; first|(rw[if_pos (by decide +kernel)]; kernel_rfl)|(rw[if_neg (by decide +kernel)]; exact⟨rfl,rfl⟩))
  (fun os started H enc _ F=>by rw[OpenClaim.pre_eq_preRow]; exact execAlone_lifted os started H enc F)
theorem execAlone_plain(f:FuncId)(fn:Func)(hf:Tryd.pinned.checked.prog.funcNamed Rows.execAloneUptoRow.func=some f)(hfn:Tryd.pinned.checked.prog.funcs[f]?=some fn):
  true=Tryd.pinned.checked.prog.looks []∧∀(j:Nat) t,fn.params[j]?=some t→Tryd.pinned.checked.prog.wantsStandIn t=false:=by
 obtain rfl:f=6:=Option.some.inj ((show Tryd.prog.funcNamed Rows.execAloneUptoRow.func=some 6 by kernel_rfl).symm.trans hf) |>.symm
 obtain rfl:fn=Tryd.f6:=(Option.some.inj (Tryd.func6.symm.trans hfn)).symm
 refine⟨by kernel_rfl,fun j t ht=>?_⟩
 have h:(Tryd.f6.params.toList.all fun t=>Tryd.prog.wantsStandIn t==false)=true:=by kernel_rfl
 have:=List.all_eq_true.1 h t (by simpa using Array.mem_of_getElem? ht)
 exact (show Tryd.prog.wantsStandIn t=false by simpa using this)
theorem execAlone_holds:Rows.ExecAloneUptoCardSaid :=
 Claim7.holds_tied_plain_at .later [] _ _ _ _ execAlone_said (fun _ h=>by cases h) (by kernel_rfl) (fun _ h=>by cases h) execAloneUpto_row_tie rfl ⟨rfl,rfl⟩ (by kernel_rfl) rfl execAlone_plain (by kernel_rfl)
#print axioms execAlone_holds
end Go.Proofs.YtbjmmndeeeoloaaDoor
