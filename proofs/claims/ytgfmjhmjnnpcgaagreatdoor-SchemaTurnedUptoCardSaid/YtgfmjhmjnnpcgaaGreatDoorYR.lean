/- The law SchemaTurned. No condition. -/
import Derived.Test.YtgfmjhmjnnpcgaaGreatDoorYQ
import Derived.Test.YtgfmjhmjnnpcgaaGreatDoorYI
namespace Go.Am
set_option linter.all false
open Go Go.RowKit Go.Proofs
set_option maxRecDepth 100000
set_option linter.all false
def tnS(E:Env)(l:List Ty)(i:Nat)(T:List Ty):St :=
 ⟨[(0,true,.sl (l.map eTy)),(3,true,.bsl E.n0 0 T.length),(4,true,.int .i64 i)],[(E.n0,some (tyB T))],1⟩
def tnF(E:Env)(l:List Ty)(i:Nat)(T:List Ty)(nm:List UInt8)(acc:List Fd)(kk:Int):St :=
 ⟨[(0,true,.sl (l.map eTy)),(3,true,.bsl E.n0 0 T.length),(4,true,.int .i64 i),(5,true,.ptr (E.n0+1) 0 0),(6,true,.int .i64 kk)],[(E.n0,some (tyB T)),(E.n0+1,some (yK nm (.bsl (E.n0+2) 0 acc.length))),(E.n0+2,some (fB acc))],3⟩
theorem rev_at{α:Type}{l:List α}{m:Nat}{f:α}(h:m<l.length)(hf:l[l.length - 1 - m]?=some f):l.reverse[m]?=some f:=by
 rw[List.getElem?_reverse h]; exact hf
set_option maxHeartbeats 16000000 in
theorem SchemaTurned_ok(l:List Ty)(id:Nat):FnOk Tryz.prog 7 [.sl (l.map eTy)] [] id (.bool true) []:=by
 have hB:=fun id=>schemaBegun_ok id
 have hC:=fun id=>sCheck_ok l id
 by_cases hc:fCheckT l=0
 rotate_left
 ·refine fn_okc Tryz.func7 hcc7 (by decide) hcr7 (by simp[Tryz.ntmps7]) fun E hP hR hl hid=>?_
  simp only[cr7] at hR
  refine w_go 4000 ?_
  simp[cc7]
  (refine w_call hP rfl (hB _) (by simp) (by simp<;>rfl) ?_; refine w_go 4000 ?_; simp)
  (refine w_call hP rfl (hC _) (by simp) (by simp<;>rfl) ?_; refine w_go 4000 ?_; simp)
  refine goc_true (by simpa using hc) ?_
  simp
  rw[hR]; exact rt_end (by simp<;>rfl) [] trivial (end_pure (by simp) (by simp) (by simp))
 obtain⟨hne,hl5,hall⟩:=fCheckT_zero.1 hc
 rw[hc] at hC
 have hC2:=fun id=>sCheck_ok (turnS l) id
 rw[sch_turn hc] at hC2
 refine fn_okc Tryz.func7 hcc7 (by decide) hcr7 (by simp[Tryz.ntmps7]) fun E hP hR hl hid=>?_
 simp only[cr7] at hR
 refine w_go 4000 ?_
 simp[cc7]
 (refine w_call hP rfl (hB _) (by simp) (by simp<;>rfl) ?_; refine w_go 4000 ?_; simp)
 (refine w_call hP rfl (hC _) (by simp) (by simp<;>rfl) ?_; refine w_go 4000 ?_; simp)
 refine w_loop (X:=Nat×List Ty) (fun q=>tnS E l q.1 q.2) (fun q=>q.1≤l.length∧q.2=((l.take q.1).map turnT).reverse) (fun q=>l.length - q.1) (0,[]) ?_ ⟨by simp,by simp⟩ ?_
 ·refine Conv.trans (Conv.voidSlot 3 (x:=.nils) (by simp) .nils (.agg [.str [],.nils])) ?_
  unfold tnS
  have hrn:rnOk [(E.n0,E.n0+8192)]:=by simp[tyB]
  refine Conv.sub [(E.n0,E.n0+8192)] hrn ?_ ?_ ?_ ?_ ?_<;>(try simp[tyB])
 rintro⟨i,T⟩ ⟨hi,hT⟩ p hp
 simp only at hi hT
 have hTl:T.length=i:=by rw[hT]; simp; omega
 rcases Nat.lt_or_ge i l.length with h|h
 rotate_left
 ·have hTt:T=turnS l:=by rw[hT,List.take_of_length_le h]; rfl
  have hTm:(turnS l).map eTy=T.map eTy:=by rw[hTt]
  rw[hTm] at hC2
  unfold tnS
  refine w_go 4000 ?_
  simp[tyB,Nat.not_lt.2 h]
  (refine w_callR hP rfl (hC2 _) (by simp<;>rfl) (by simp) (by simp<;>rfl) (by simp) ?_; refine w_go 4000 ?_; simp)
  rw[hR]; exact rt_end (by simp<;>rfl) [] trivial (end_pure (by simp) (by simp) (by simp))
 obtain⟨t,ht,hd⟩:=drop_cons h
 have hli:l[i]=t:=by
  rw[List.getElem?_eq_getElem h] at ht
  injection ht
 have hi1:IntKind.i64.wrap ((i:Int)+1)=((i+1:Nat):Int):=wrap64 (by omega)
 have hOk:=hall i t ht
 have hle:=hOk.le
 have hfpos:0<t.fields.length:=List.length_pos_iff.2 hOk.ne
 have hn1:IntKind.i64.wrap ((t.fields.length:Int) - 1)=(t.fields.length:Int) - 1:=by
  rw[show (t.fields.length:Int) - 1=((t.fields.length - 1:Nat):Int) by omega]; exact wrap64 (by omega)
 unfold tnS
 refine w_go 4000 ?_
 simp[tyB,h,hli,ty_agg,hn1]
 refine w_loop (X:=Nat×Int) (fun q=>tnF E l i T t.name (t.fields.reverse.take q.1) q.2) (fun q=>q.1≤t.fields.length∧q.2=(t.fields.length:Int) - 1 - q.1) (fun q=>t.fields.length - q.1) (0,(t.fields.length:Int) - 1) ?_ ⟨by simp,by simp⟩ ?_
 ·refine Conv.trans (Conv.voidBox (E.n0+10241) (by simp; rfl) rfl (void_ty _ _) (.agg [.str [],.int .i64 0,.str []])) ?_
  unfold tnF
  have hrn:rnOk [(E.n0,E.n0),(E.n0+1,E.n0+10241),(E.n0+2,E.n0+20481)]:=by simp[yK,fB,tyB]
  refine Conv.sub [(E.n0,E.n0),(E.n0+1,E.n0+10241),(E.n0+2,E.n0+20481)] hrn ?_ ?_ ?_ ?_ ?_<;>(try simp[yK,fB,tyB])
 rintro⟨m,kk⟩ ⟨hm,hkk⟩ p2 hp2
 simp only at hm hkk
 have hacl:(t.fields.reverse.take m).length=m:=by rw[List.length_take,List.length_reverse]; omega
 rcases Nat.lt_or_ge m t.fields.length with h2|h2
 rotate_left
 ·have hml:m=t.fields.length:=by omega
  have hkn:kk = -1:=by rw[hkk,hml]; omega
  subst hkn
  have hall2:t.fields.reverse.take m=t.fields.reverse:=List.take_of_length_le (by rw[List.length_reverse]; omega)
  have hTn:turnT t::T=((l.take (i+1)).map turnT).reverse:=by
   rw[take_snoc ht,hT]; simp
  have htt:eTy (turnT t) = .agg [.str t.name,.sl (t.fields.reverse.map eFd)]:=rfl
  rw[hall2]
  have hDE:Conv E (tnF E l i T t.name t.fields.reverse (-1)) ⟨[(0,true,.sl (l.map eTy)),(3,true,.bsl E.n0 0 T.length),(4,true,.int .i64 i),(5,true,.ptr (E.n0+1) 0 0),(6,true,.int .i64 (-1))],[(E.n0+1,some (yK t.name (.sl (t.fields.reverse.map eFd)))),(E.n0,some (tyB T))],3⟩:=by
   refine Conv.deepBox (σ:=tnF E l i T t.name t.fields.reverse (-1)) (E.n0+1) [(E.n0+2,fB t.fields.reverse)] [(E.n0,some (tyB T))] (b:=yK t.name (.bsl (E.n0+2) 0 t.fields.reverse.length)) (x:=.agg [.str t.name,.bsl (E.n0+2) 0 t.fields.reverse.length]) (y:=.agg [.str t.name,.sl (t.fields.reverse.map eFd)]) ?_ rfl rfl ?_ ?_ ⟨?_,?_⟩ ?_
   ·simp[tnF]
   ·intro m c e h1 h2
    match m,h1,h2 with
    | 0,h1,h2=>injection h1 with h1; injection h2 with h2; subst h1 h2; exact .same _
    | 1,h1,h2 =>
     injection h1 with h1; injection h2 with h2; subst h1 h2
     have:=rd_self (E.n0+2) (fB t.fields.reverse)
     simpa [fB] using this
    | m+2,h1,h2=>simp[AV.cells] at h1
   ·intro q hq
    obtain rfl:=List.mem_singleton.1 hq
    exact⟨by simp[tnF],rfl⟩
   ·intro y b hy
    simp only[bk] at hy
    split at hy
    ·rename_i hyJ
     subst hyJ
     injection hy with hy
     subst hy
     refine⟨by simp[tnF],fun q hq=>?_⟩
     obtain rfl:=List.mem_singleton.1 hq
     show E.n0+2≠E.n0
     omega
    ·cases hy
   ·intro q hq
    simp[tnF] at hq
    rcases hq with rfl|rfl|rfl<;>exact .inl (by simp)
   ·intro q hq
    obtain rfl:=List.mem_singleton.1 hq
    show E.n0+2≠E.n0+1
    omega
  refine w_conv hDE ?_
  refine w_go 4000 ?_
  simp[yK,tyB]
  refine⟨⟨fun a _=>by simp[eTy],by omega,by omega⟩,?_⟩
  refine hp _ (i+1,turnT t::T) ⟨h,hTn⟩ (by simp; omega) ?_
  unfold tnS
  have hrn:rnOk [(E.n0,E.n0+5123)]:=by simp[tyB,htt,hi1,Nat.add_comm 1 T.length]
  refine Conv.sub [(E.n0,E.n0+5123)] hrn ?_ ?_ ?_ ?_ ?_<;>(try simp[tyB,htt,hi1,Nat.add_comm 1 T.length])
  all_goals (rw[←List.map_reverse]; exact namesL_pure _ (pure_fds _))
 obtain⟨q,hq⟩:∃q,q=t.fields.length - 1 - m:=⟨_,rfl⟩
 have hqlt:q<t.fields.length:=by omega
 obtain⟨f,hf⟩:∃f,t.fields[q]?=some f:=⟨_,List.getElem?_eq_getElem hqlt⟩
 have hlf:t.fields[q]=f:=by
  rw[List.getElem?_eq_getElem hqlt] at hf
  injection hf
 have hsn:t.fields.reverse.take (m+1)=t.fields.reverse.take m++[f]:=take_snoc (rev_at h2 (by rw[←hq]; exact hf))
 have hkq:kk=(q:Int):=by rw[hkk]; omega
 have hk1:IntKind.i64.wrap ((q:Int) - 1)=(t.fields.length:Int) - 1 - (m+1:Nat):=by
  rw[show (q:Int) - 1=(t.fields.length:Int) - 1 - (m+1:Nat) by omega]
  simp[IntKind.wrap,IntKind.signed,IntKind.bits]; omega
 subst hkq
 have hfn:eFd f = .agg [.str f.name,.int .i64 f.kind,.str f.of]:=rfl
 have hx:∀r:Int,tnF E l i T t.name (t.fields.reverse.take (m+1)) r=tnF E l i T t.name (t.fields.reverse.take m++[f]) r:=fun r=>by rw[hsn]
 have hp2':=fun σ' h=>hp2 σ' (m+1,(t.fields.length:Int) - 1 - (m+1:Nat)) ⟨h2,rfl⟩ (by simp; omega) h
 rw[hx] at hp2'
 clear hx hp2
 have hacl:(t.fields.reverse.take m).length≤6:=by omega
 generalize t.fields.reverse.take m=ac at *
 unfold tnF
 refine w_go 4000 ?_
 simp[yK,fB,tyB,h,hli,ty_agg,hqlt,hlf,hfn]
 refine⟨⟨by omega,by omega⟩,?_⟩
 refine hp2' _ ?_
 unfold tnF
 have hrn:rnOk [(E.n0,E.n0),(E.n0+1,E.n0+1),(E.n0+2,E.n0+13315)]:=by simp[yK,fB,tyB,hfn,hk1]
 refine Conv.sub [(E.n0,E.n0),(E.n0+1,E.n0+1),(E.n0+2,E.n0+13315)] hrn ?_ ?_ ?_ ?_ ?_<;>(try simp[yK,fB,tyB,hfn,hk1])
 all_goals exact renL_pure rfl (pureL_append (pure_fds _) rfl)
end Go.Am
