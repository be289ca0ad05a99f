/- Whatever an out and a text are handed in, the law JsonTells returns true, and what was handed in reads as it did. Condition: the bulk of what is handed in is at most 1,048,576; the tables of the library hold what the program's text lays. -/
import Derived.Test.YthghjjancoopoaaDoorZK
import Derived.Test.YthghjjancoopoaaDoorZA
import Derived.Test.YthghjjancoopoaaDoorZB
namespace Go.Proofs.YthghjjancoopoaaDoor
open Go Go.RowKit Go.Am Go.ChangeAt
set_option maxRecDepth 100000
theorem jsonTells_met(os:Os):laidMet Tryd.prog Rows.jsonTellsUptoRow.laid ((laidWorld os).forCall (fun _ _=>0) ⟨#[],#[.agg #[.int .i64 0,.int .i64 0,.string ⟨#[]⟩,.slice none 0 0,.slice none 0 0],.string ⟨#[]⟩],[]⟩).memory :=
 laidMet_of_run' 8 (by kernel_rfl) (by kernel_rfl)
theorem jsonTells_reads(os:Os){H:Type}(enc:TypeId×Value→H):∃places,DataW.whole enc Tryd.prog ((laidWorld os).forCall (fun _ _=>0) ⟨#[],#[.agg #[.int .i64 0,.int .i64 0,.string ⟨#[]⟩,.slice none 0 0,.slice none 0 0],.string ⟨#[]⟩],[]⟩).memory Tryd.f4.params.toList Rows.jsonTellsSpec.vars false
  (#[.agg #[.int .i64 0,.int .i64 0,.string ⟨#[]⟩,.slice none 0 0,.slice none 0 0],.string ⟨#[]⟩]:Array Value).toList 8=some ([.agg [.lit (.int .i64 0),.lit (.int .i64 0),.lit (.string []),.nil,.nil],.lit (.string [])],[],places) :=
 ⟨[],by kernel_rfl⟩
theorem jsonTells_lifted(os:Os)(started:os.Started)(H:Type)(enc:TypeId×Value→H)(F:Stop.Interp):
  ReturnsInHanded Rows.jsonTellsUptoRow.assume Tryd.checked os 4 .any ((Rows.OpenSpec.upto Rows.jsonTellsSpec).preRow enc Tryd.prog Tryd.f4 Rows.jsonTellsUptoRow.domain Rows.jsonTellsUptoRow.apart Rows.jsonTellsUptoRow.laid) (((Rows.OpenSpec.upto Rows.jsonTellsSpec).at F).post enc Tryd.prog Tryd.f4 Rows.jsonTellsUptoRow.apart Rows.jsonTellsUptoRow.fresh Rows.jsonTellsUptoRow.handsOn Rows.jsonTellsUptoRow.again):=by
 obtain⟨places,hx⟩:=jsonTells_reads os enc
 refine returnsInHanded_of_row (C:=Tryd.checked) (s:=Rows.OpenSpec.upto Rows.jsonTellsSpec) Tryd.own started (by kernel_rfl) Tryd.func4
  (witness_row_at (enc:=enc) (C:=Tryd.checked) false (laidWorld os) #[.agg #[.int .i64 0,.int .i64 0,.string ⟨#[]⟩,.slice none 0 0,.slice none 0 0],.string ⟨#[]⟩] rfl (by kernel_rfl) (by kernel_rfl) (by kernel_rfl)
   (OpenSpec.preRow_of_cond 8 hx (by kernel_rfl) (fun k hk=>by cases hk; kernel_rfl) (by kernel_rfl) (jsonTells_met os))) ?_
 intro W base args ds gs before hval hW _ hcond hsz hL _ _
 have hk:Rows.uptoSmall H (ds++gs)=true:=hcond _ rfl
 refine law_post (s:=Rows.jsonTellsSpec) (l:=tys Tryd.f4) (tb:=4) (by kernel_rfl) Tryd.laidOut (by kernel_rfl) (by kernel_rfl) Tryd.underlying4 rfl (fun ds hds=>?_) (fun xs hf he=>?_) hsz hval hW (tabs_laid hL)
 ·match ds,hds with
  | [o,s],_=>rfl
 ·rw[Tryd.params4] at hf
  obtain⟨o,ys,rfl,⟨_,ho⟩,hf⟩:=fitsL_cons hf
  obtain⟨s,ys,rfl,⟨_,hs⟩,hf⟩:=fitsL_cons hf
  obtain rfl:=fitsL_nil hf
  obtain⟨o,rfl,hok⟩:=fits_out _ ho
  obtain⟨s,rfl,hsl⟩:=fits_str Tryd.underlying9 hs
  have hb:Rows.uptoBulkAll (ds++gs)≤1048576:=of_decide_eq_true hk
  have hoz:o.sz≤1048577:=by
   have hm:eO o∈ds.map avOf:=by rw[←he]; simp
   obtain⟨d,hd,hde⟩:=List.mem_map.1 hm
   exact szO_le (List.mem_append_left _ hd) hde hb
  exact JsonTells_ok o s 0 hoz hok
theorem jsonTells_said:Rows.JsonTellsUptoSaid :=
 OpenClaim.holds_of_cond 4 Tryd.f4 rfl rfl rfl rfl rfl rfl rfl ⟨rfl,rfl,rfl,rfl,rfl⟩ rfl rfl rfl rfl rfl (by kernel_rfl) Tryd.func4 (by kernel_rfl)
  (of_decide_eq_true (by kernel_rfl)) (by unfold Func.isWrapper; first|(rw[if_pos (by decide +kernel)]; kernel_rfl)|(rw[if_neg (by decide +kernel)]; exact⟨rfl,rfl⟩))
  (fun os started H enc _ F=>by rw[OpenClaim.pre_eq_preRow]; exact jsonTells_lifted os started H enc F)
theorem jsonTells_plain(f:FuncId)(fn:Func)(hf:Tryd.pinned.checked.prog.funcNamed Rows.jsonTellsUptoRow.func=some f)(hfn:Tryd.pinned.checked.prog.funcs[f]?=some fn):
  true=Tryd.pinned.checked.prog.looks []∧∀(j:Nat) t,fn.params[j]?=some t→Tryd.pinned.checked.prog.wantsStandIn t=false:=by
 obtain rfl:f=4:=Option.some.inj ((show Tryd.prog.funcNamed Rows.jsonTellsUptoRow.func=some 4 by kernel_rfl).symm.trans hf) |>.symm
 obtain rfl:fn=Tryd.f4:=(Option.some.inj (Tryd.func4.symm.trans hfn)).symm
 refine⟨by kernel_rfl,fun j t ht=>?_⟩
 have h:(Tryd.f4.params.toList.all fun t=>Tryd.prog.wantsStandIn t==false)=true:=by kernel_rfl
 have:=List.all_eq_true.1 h t (by simpa using Array.mem_of_getElem? ht)
 exact (show Tryd.prog.wantsStandIn t=false by simpa using this)
theorem jsonTells_holds:Rows.JsonTellsUptoCardSaid :=
 Claim7.holds_tied_plain_at .later [] _ _ _ _ jsonTells_said (fun _ h=>by cases h) (by kernel_rfl) (fun _ h=>by cases h) jsonTellsUpto_row_tie rfl ⟨rfl,rfl⟩ (by kernel_rfl) rfl jsonTells_plain (by kernel_rfl)
#print axioms jsonTells_holds
end Go.Proofs.YthghjjancoopoaaDoor
