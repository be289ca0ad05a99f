/- Whatever two outs are handed in, the law JsonApart returns true, and what was handed in reads as it did. Condition: the bulk of what is handed in is at most 1,048,576; the tables of the library hold what the program's text lays. -/
import Derived.Test.YthghjjancoopoaaDoorZC
import Derived.Test.YthghjjancoopoaaDoorZA
import Derived.Test.YthghjjancoopoaaDoorZB
namespace Go.Proofs.YthghjjancoopoaaDoor
open Go Go.RowKit Go.Am Go.ChangeAt
set_option maxRecDepth 100000
theorem jsonApart_met(os:Os):laidMet Tryd.prog Rows.jsonApartUptoRow.laid ((laidWorld os).forCall (fun _ _=>0) ⟨#[],#[.agg #[.int .i64 0,.int .i64 0,.string ⟨#[]⟩,.slice none 0 0,.slice none 0 0],.agg #[.int .i64 0,.int .i64 0,.string ⟨#[]⟩,.slice none 0 0,.slice none 0 0]],[]⟩).memory :=
 laidMet_of_run' 8 (by kernel_rfl) (by kernel_rfl)
theorem jsonApart_reads(os:Os){H:Type}(enc:TypeId×Value→H):∃places,DataW.whole enc Tryd.prog ((laidWorld os).forCall (fun _ _=>0) ⟨#[],#[.agg #[.int .i64 0,.int .i64 0,.string ⟨#[]⟩,.slice none 0 0,.slice none 0 0],.agg #[.int .i64 0,.int .i64 0,.string ⟨#[]⟩,.slice none 0 0,.slice none 0 0]],[]⟩).memory Tryd.f3.params.toList Rows.jsonApartSpec.vars false
  (#[.agg #[.int .i64 0,.int .i64 0,.string ⟨#[]⟩,.slice none 0 0,.slice none 0 0],.agg #[.int .i64 0,.int .i64 0,.string ⟨#[]⟩,.slice none 0 0,.slice none 0 0]]:Array Value).toList 8=some ([.agg [.lit (.int .i64 0),.lit (.int .i64 0),.lit (.string []),.nil,.nil],.agg [.lit (.int .i64 0),.lit (.int .i64 0),.lit (.string []),.nil,.nil]],[],places) :=
 ⟨[],by kernel_rfl⟩
theorem jsonApart_lifted(os:Os)(started:os.Started)(H:Type)(enc:TypeId×Value→H)(F:Stop.Interp):
  ReturnsInHanded Rows.jsonApartUptoRow.assume Tryd.checked os 3 .any ((Rows.OpenSpec.upto Rows.jsonApartSpec).preRow enc Tryd.prog Tryd.f3 Rows.jsonApartUptoRow.domain Rows.jsonApartUptoRow.apart Rows.jsonApartUptoRow.laid) (((Rows.OpenSpec.upto Rows.jsonApartSpec).at F).post enc Tryd.prog Tryd.f3 Rows.jsonApartUptoRow.apart Rows.jsonApartUptoRow.fresh Rows.jsonApartUptoRow.handsOn Rows.jsonApartUptoRow.again):=by
 obtain⟨places,hx⟩:=jsonApart_reads os enc
 refine returnsInHanded_of_row (C:=Tryd.checked) (s:=Rows.OpenSpec.upto Rows.jsonApartSpec) Tryd.own started (by kernel_rfl) Tryd.func3
  (witness_row_at (enc:=enc) (C:=Tryd.checked) false (laidWorld os) #[.agg #[.int .i64 0,.int .i64 0,.string ⟨#[]⟩,.slice none 0 0,.slice none 0 0],.agg #[.int .i64 0,.int .i64 0,.string ⟨#[]⟩,.slice none 0 0,.slice none 0 0]] rfl (by kernel_rfl) (by kernel_rfl) (by kernel_rfl)
   (OpenSpec.preRow_of_cond 8 hx (by kernel_rfl) (fun k hk=>by cases hk; kernel_rfl) (by kernel_rfl) (jsonApart_met os))) ?_
 intro W base args ds gs before hval hW _ hcond hsz hL _ _
 have hk:Rows.uptoSmall H (ds++gs)=true:=hcond _ rfl
 refine law_post (s:=Rows.jsonApartSpec) (l:=tys Tryd.f3) (tb:=4) (by kernel_rfl) Tryd.laidOut (by kernel_rfl) (by kernel_rfl) Tryd.underlying4 rfl (fun ds hds=>?_) (fun xs hf he=>?_) hsz hval hW (tabs_laid hL)
 ·match ds,hds with
  | [a,b],_=>rfl
 ·rw[Tryd.params3] at hf
  obtain⟨a,ys,rfl,⟨_,ha⟩,hf⟩:=fitsL_cons hf
  obtain⟨b,ys,rfl,⟨_,hb⟩,hf⟩:=fitsL_cons hf
  obtain rfl:=fitsL_nil hf
  obtain⟨a,rfl,hak⟩:=fits_out _ ha
  obtain⟨b,rfl,hbk⟩:=fits_out _ hb
  have hb:Rows.uptoBulkAll (ds++gs)≤1048576:=of_decide_eq_true hk
  have haz:a.sz≤1048577:=by
   have hm:eO a∈ds.map avOf:=by rw[←he]; simp
   obtain⟨d,hd,hde⟩:=List.mem_map.1 hm
   exact szO_le (List.mem_append_left _ hd) hde hb
  have hbz:b.sz≤1048577:=by
   have hm:eO b∈ds.map avOf:=by rw[←he]; simp
   obtain⟨d,hd,hde⟩:=List.mem_map.1 hm
   exact szO_le (List.mem_append_left _ hd) hde hb
  exact JsonApart_ok a b 0 haz hbz hak hbk
theorem jsonApart_said:Rows.JsonApartUptoSaid :=
 OpenClaim.holds_of_cond 3 Tryd.f3 rfl rfl rfl rfl rfl rfl rfl ⟨rfl,rfl,rfl,rfl,rfl⟩ rfl rfl rfl rfl rfl (by kernel_rfl) Tryd.func3 (by kernel_rfl)
  (of_decide_eq_true (by kernel_rfl)) (by unfold Func.isWrapper; first|(rw[if_pos (by decide +kernel)]; kernel_rfl)|(rw[if_neg (by decide +kernel)]; exact⟨rfl,rfl⟩))
  (fun os started H enc _ F=>by rw[OpenClaim.pre_eq_preRow]; exact jsonApart_lifted os started H enc F)
theorem jsonApart_plain(f:FuncId)(fn:Func)(hf:Tryd.pinned.checked.prog.funcNamed Rows.jsonApartUptoRow.func=some f)(hfn:Tryd.pinned.checked.prog.funcs[f]?=some fn):
  true=Tryd.pinned.checked.prog.looks []∧∀(j:Nat) t,fn.params[j]?=some t→Tryd.pinned.checked.prog.wantsStandIn t=false:=by
 obtain rfl:f=3:=Option.some.inj ((show Tryd.prog.funcNamed Rows.jsonApartUptoRow.func=some 3 by kernel_rfl).symm.trans hf) |>.symm
 obtain rfl:fn=Tryd.f3:=(Option.some.inj (Tryd.func3.symm.trans hfn)).symm
 refine⟨by kernel_rfl,fun j t ht=>?_⟩
 have h:(Tryd.f3.params.toList.all fun t=>Tryd.prog.wantsStandIn t==false)=true:=by kernel_rfl
 have:=List.all_eq_true.1 h t (by simpa using Array.mem_of_getElem? ht)
 exact (show Tryd.prog.wantsStandIn t=false by simpa using this)
theorem jsonApart_holds:Rows.JsonApartUptoCardSaid :=
 Claim7.holds_tied_plain_at .later [] _ _ _ _ jsonApart_said (fun _ h=>by cases h) (by kernel_rfl) (fun _ h=>by cases h) jsonApartUpto_row_tie rfl ⟨rfl,rfl⟩ (by kernel_rfl) rfl jsonApart_plain (by kernel_rfl)
#print axioms jsonApart_holds
end Go.Proofs.YthghjjancoopoaaDoor
