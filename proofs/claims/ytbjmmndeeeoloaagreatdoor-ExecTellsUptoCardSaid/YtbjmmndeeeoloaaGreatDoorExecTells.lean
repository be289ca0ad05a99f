/- Whatever state, selects and out are handed in, the law ExecTells returns true, and what was handed in reads as it did. Condition: the bulk of what is handed in is at most 1,048,576; the tables of the library hold what the program's text lays. -/
import Derived.Test.YtbjmmndeeeoloaaGreatDoorYL
import Derived.Test.YtbjmmndeeeoloaaGreatDoorZA
import Derived.Test.YtbjmmndeeeoloaaGreatDoorZB
namespace Go.Proofs.YtbjmmndeeeoloaaGreatDoor
open Go Go.RowKit Go.Am Go.ChangeAt
set_option maxRecDepth 100000
theorem execTells_met(os:Os):laidMet Tryz.prog Rows.execTellsUptoRow.laid ((laidWorld os).forCall (fun _ _=>0) ⟨#[],#[.agg #[.slice none 0 0,.slice none 0 0],.slice none 0 0,.agg #[.int .i64 0,.int .i64 0,.string ⟨#[]⟩,.slice none 0 0,.slice none 0 0]],[]⟩).memory :=
 laidMet_of_run' 8 (by kernel_rfl) (by kernel_rfl)
theorem execTells_reads(os:Os){H:Type}(enc:TypeId×Value→H):∃places,DataW.whole enc Tryz.prog ((laidWorld os).forCall (fun _ _=>0) ⟨#[],#[.agg #[.slice none 0 0,.slice none 0 0],.slice none 0 0,.agg #[.int .i64 0,.int .i64 0,.string ⟨#[]⟩,.slice none 0 0,.slice none 0 0]],[]⟩).memory Tryz.f4.params.toList Rows.execTellsSpec.vars false
  #[Value.agg #[.slice none 0 0,.slice none 0 0],.slice none 0 0,.agg #[.int .i64 0,.int .i64 0,.string ⟨#[]⟩,.slice none 0 0,.slice none 0 0]].toList 8=some ([.agg [.nil,.nil],.nil,.agg [.lit (.int .i64 0),.lit (.int .i64 0),.lit (.string []),.nil,.nil]],[],places) :=
 ⟨[],by kernel_rfl⟩
theorem execTells_lifted(os:Os)(started:os.Started)(H:Type)(enc:TypeId×Value→H)(F:Stop.Interp):
  ReturnsInHanded Rows.execTellsUptoRow.assume Tryz.checked os 4 .any ((Rows.OpenSpec.upto Rows.execTellsSpec).preRow enc Tryz.prog Tryz.f4 Rows.execTellsUptoRow.domain Rows.execTellsUptoRow.apart Rows.execTellsUptoRow.laid) (((Rows.OpenSpec.upto Rows.execTellsSpec).at F).post enc Tryz.prog Tryz.f4 Rows.execTellsUptoRow.apart Rows.execTellsUptoRow.fresh Rows.execTellsUptoRow.handsOn Rows.execTellsUptoRow.again):=by
 obtain⟨places,hx⟩:=execTells_reads os enc
 refine returnsInHanded_of_row (C:=Tryz.checked) (s:=Rows.OpenSpec.upto Rows.execTellsSpec) Tryz.own started (by kernel_rfl) Tryz.func4
  (witness_row_at (enc:=enc) (C:=Tryz.checked) false (laidWorld os) #[.agg #[.slice none 0 0,.slice none 0 0],.slice none 0 0,.agg #[.int .i64 0,.int .i64 0,.string ⟨#[]⟩,.slice none 0 0,.slice none 0 0]] rfl (by kernel_rfl) (by kernel_rfl) (by kernel_rfl)
   (OpenSpec.preRow_of_cond 8 hx (by kernel_rfl) (fun k hk=>by cases hk; kernel_rfl) (by kernel_rfl) (execTells_met os))) ?_
 intro W base args ds gs before hval hW _ hcond hsz hL _ _
 have hk:Rows.uptoSmall H (ds++gs)=true:=hcond _ rfl
 refine law_post (s:=Rows.execTellsSpec) (l:=tys Tryz.f4) (tb:=4) (by kernel_rfl) Tryz.laidOut (by kernel_rfl) (by kernel_rfl) Tryz.underlying4 rfl (fun ds hds=>?_) (fun xs hf he=>?_) hsz hval hW (tabs_laid hL)
 ·match ds,hds with
  | [l,q,o],_=>rfl
 ·rw[Tryz.params4] at hf
  obtain⟨l,ys,rfl,⟨_,hl⟩,hf⟩:=fitsL_cons hf
  obtain⟨q,ys,rfl,⟨_,hq⟩,hf⟩:=fitsL_cons hf
  obtain⟨o,ys,rfl,⟨_,ho⟩,hf⟩:=fitsL_cons hf
  obtain rfl:=fitsL_nil hf
  obtain⟨s,rfl,hI⟩:=fits_sta hl
  obtain⟨q,rfl⟩:=fits_sels hq
  obtain⟨o,rfl,hok⟩:=fits_out _ ho
  have hb:Rows.uptoBulkAll (ds++gs)≤1048576:=of_decide_eq_true hk
  have hq:szL q≤1048576:=by
   have hm:AV.sl (q.map eSel)∈ds.map avOf:=by rw[←he]; simp
   obtain⟨d,hd,hde⟩:=List.mem_map.1 hm
   exact sz_le (List.mem_append_left _ hd) hde hb
  have ho:o.sz≤1048577:=by
   have hm:eO o∈ds.map avOf:=by rw[←he]; simp
   obtain⟨d,hd,hde⟩:=List.mem_map.1 hm
   exact szO_le (List.mem_append_left _ hd) hde hb
  exact ExecTells_ok s q o 0 hI (by omega) (by omega) hok
theorem execTells_said:Rows.ExecTellsUptoSaid :=
 OpenClaim.holds_of_cond 4 Tryz.f4 rfl rfl rfl rfl rfl rfl rfl ⟨rfl,rfl,rfl,rfl,rfl⟩ rfl rfl rfl rfl rfl (by kernel_rfl) Tryz.func4 (by kernel_rfl)
  (of_decide_eq_true (by kernel_rfl)) (by unfold Func.isWrapper; first|(rw[if_pos (by decide +kernel)]; kernel_rfl)|(rw[if_neg (by decide +kernel)]; exact⟨rfl,rfl⟩))
  (fun os started H enc _ F=>by rw[OpenClaim.pre_eq_preRow]; exact execTells_lifted os started H enc F)
theorem execTells_plain(f:FuncId)(fn:Func)(hf:Tryz.pinned.checked.prog.funcNamed Rows.execTellsUptoRow.func=some f)(hfn:Tryz.pinned.checked.prog.funcs[f]?=some fn):
  true=Tryz.pinned.checked.prog.looks []∧∀(j:Nat) t,fn.params[j]?=some t→Tryz.pinned.checked.prog.wantsStandIn t=false:=by
 obtain rfl:f=4:=Option.some.inj ((show Tryz.prog.funcNamed Rows.execTellsUptoRow.func=some 4 by kernel_rfl).symm.trans hf) |>.symm
 obtain rfl:fn=Tryz.f4:=(Option.some.inj (Tryz.func4.symm.trans hfn)).symm
 refine⟨by kernel_rfl,fun j t ht=>?_⟩
 have h:(Tryz.f4.params.toList.all fun t=>Tryz.prog.wantsStandIn t==false)=true:=by kernel_rfl
 have:=List.all_eq_true.1 h t (by simpa using Array.mem_of_getElem? ht)
 exact (show Tryz.prog.wantsStandIn t=false by simpa using this)
theorem execTells_holds:Rows.ExecTellsUptoCardSaid :=
 Claim7.holds_tied_plain_at .later [] _ _ _ _ execTells_said (fun _ h=>by cases h) (by kernel_rfl) (fun _ h=>by cases h) execTellsUpto_row_tie rfl ⟨rfl,rfl⟩ (by kernel_rfl) rfl execTells_plain (by kernel_rfl)
#print axioms execTells_holds
end Go.Proofs.YtbjmmndeeeoloaaGreatDoor
