/- The law QueryAlone. No condition. -/
import Derived.Test.YtgfmjhmjnnpcgaaGreatDoorYU
namespace Go.Am
set_option linter.all false
open Go Go.RowKit Go.Proofs
set_option maxRecDepth 100000
set_option linter.all false
def qnS(E:Env)(l:List Sel)(i:Nat)(T:List Sel):St :=
 ⟨[(0,true,.sl (l.map eSel)),(3,true,.bsl E.n0 0 T.length),(4,true,.int .i64 i)],[(E.n0,some (qB T))],1⟩
theorem szL_rev(l:List Sel):szL l.reverse=szL l:=by
 induction l with
 | nil=>rfl
 | cons s r ih=>rw[List.reverse_cons,szL_snoc,ih]; simp only[szL]; omega
set_option maxHeartbeats 16000000 in
theorem QueryAlone_ok(l:List Sel)(id:Nat)(h8:szL l≤1048576):FnOk Tryz.prog 10 [.sl (l.map eSel)] [] id (.bool true) []:=by
 have hB:=fun id=>queryBegun_ok id
 have hC:=fun id=>qCheck_ok l id (by omega)
 by_cases hc:fQuery l=0
 rotate_left
 ·refine fn_okc Tryz.func10 hcc10 (by decide) hcr10 (by simp[Tryz.ntmps10]) fun E hP hR hl hid=>?_
  simp only[cr10] at hR
  refine w_go 4000 ?_
  simp[cc10]
  (refine w_call hP rfl (hB _) (by simp) (by simp<;>rfl) ?_; refine w_go 4000 ?_; simp)
  (refine w_call hP rfl (hC _) (by simp) (by simp<;>rfl) ?_; refine w_go 4000 ?_; simp)
  refine goc_true (by simpa using hc) ?_
  simp
  rw[hR]; exact rt_end (by simp<;>rfl) [] trivial (end_pure (by simp) (by simp) (by simp))
 rw[hc] at hC
 have hC2:=fun id=>qCheck_ok l.reverse id (by rw[szL_rev]; omega)
 rw[qry_turn hc] at hC2
 have hll:=szL_len l
 refine fn_okc Tryz.func10 hcc10 (by decide) hcr10 (by simp[Tryz.ntmps10]) fun E hP hR hl hid=>?_
 simp only[cr10] at hR
 refine w_go 4000 ?_
 simp[cc10]
 (refine w_call hP rfl (hB _) (by simp) (by simp<;>rfl) ?_; refine w_go 4000 ?_; simp)
 (refine w_call hP rfl (hC _) (by simp) (by simp<;>rfl) ?_; refine w_go 4000 ?_; simp)
 refine w_loop (X:=Nat×List Sel) (fun q=>qnS E l q.1 q.2) (fun q=>q.1≤l.length∧q.2=(l.take q.1).reverse) (fun q=>l.length - q.1) (0,[]) ?_ ⟨by simp,by simp⟩ ?_
 ·refine Conv.trans (Conv.voidSlot 3 (x:=.nils) (by simp) .nils (.agg [.str [],.str [],.nils,.nils])) ?_
  unfold qnS
  have hrn:rnOk [(E.n0,E.n0+8192)]:=by simp[qB]
  refine Conv.sub [(E.n0,E.n0+8192)] hrn ?_ ?_ ?_ ?_ ?_<;>(try simp[qB])
 rintro⟨i,T⟩ ⟨hi,hT⟩ p hp
 simp only at hi hT
 have hTl:T.length=i:=by rw[hT]; simp; omega
 rcases Nat.lt_or_ge i l.length with h|h
 rotate_left
 ·have hTt:T=l.reverse:=by rw[hT,List.take_of_length_le h]
  have hTm:l.reverse.map eSel=T.map eSel:=by rw[hTt]
  rw[hTm] at hC2
  unfold qnS
  refine w_go 4000 ?_
  simp[qB,Nat.not_lt.2 h]
  (refine w_callR hP rfl (hC2 _) (by simp<;>rfl) (by simp) (by simp<;>rfl) (by simp) ?_; refine w_go 4000 ?_; simp)
  rw[hR]; exact rt_end (by simp<;>rfl) [] trivial (end_pure (by simp) (by simp) (by simp))
 obtain⟨s,hs,hd⟩:=drop_cons h
 have hli:l[i]=s:=by
  rw[List.getElem?_eq_getElem h] at hs
  injection hs
 have hi1:IntKind.i64.wrap ((i:Int)+1)=((i+1:Nat):Int):=wrap64 (by omega)
 have hoe:=eSel_eq s
 have hsm:=List.mem_of_getElem? hs
 have hsz:=szL_mem hsm
 have hse:=sz_eq s
 have hO:=fun id=>qCheck_ok [s] id (by simp[szL]; omega)
 rw[qry_one hc hsm] at hO
 have hsl:((l.map eSel).take (i+1)).drop i=[s].map eSel:=by
  rw[←List.map_take,take_snoc hs,←List.map_drop,List.drop_append,List.drop_of_length_le (by rw[List.length_take]; omega)]
  rw[List.length_take,show min i l.length=i by omega,Nat.sub_self]; rfl
 have hTn:s::T=(l.take (i+1)).reverse:=by rw[take_snoc hs,hT]; simp
 unfold qnS
 refine w_go 4000 ?_
 simp[qB,h,hi1]
 refine⟨⟨fun a _=>by simp[eSel_eq],⟨by omega,by omega⟩,by omega⟩,?_⟩
 rw[hsl]
 by_cases hk:s.kids=[]
 ·(refine w_call hP rfl (hO _) (by simp[h,hli,hoe,hk]) (by simp[h,hli,hoe,hk]<;>rfl) ?_; refine w_go 4000 ?_; simp[h,hli,hoe,hk])
  refine w_callg hP (by simp) rfl (v:=.int .i64 0) (rd:=[]) (fun hh=>by simp at hh) ?_
  refine w_go 4000 ?_
  simp[h,hli,hoe,hk]
  refine⟨⟨fun a _=>by simp[eSel_eq],by omega,by omega⟩,?_⟩
  refine hp _ (i+1,s::T) ⟨h,hTn⟩ (by simp; omega) ?_
  unfold qnS
  have hrn:rnOk [(E.n0,E.n0+35841)]:=by simp[qB,hoe,hk,hi1,Nat.add_comm 1 T.length]
  refine Conv.sub [(E.n0,E.n0+35841)] hrn ?_ ?_ ?_ ?_ ?_<;>(try simp[qB,hoe,hk,hi1,Nat.add_comm 1 T.length])
  all_goals exact namesL_pure _ rfl
 ·have hpos:0<s.kids.length:=List.length_pos_iff.2 hk
  have hK:=fun id=>qCheck_ok s.kids id (by omega)
  rw[qry_kids hc hsm hk] at hK
  (refine w_call hP rfl (hO _) (by simp[h,hli,hoe,hpos]) (by simp[h,hli,hoe,hpos]<;>rfl) ?_; refine w_go 4000 ?_; simp[h,hli,hoe,hpos])
  (refine w_callg hP (by simp[h,hli,hoe,hpos]) rfl (fun hc=>⟨hK _,by revert hc; simp[h,hli,hoe,hpos]; try grind,by simp[h,hli,hoe,hpos]⟩) ?_; refine w_go 4000 ?_; simp[h,hli,hoe,hpos])
  refine⟨⟨fun a _=>by simp[eSel_eq],by omega,by omega⟩,?_⟩
  refine hp _ (i+1,s::T) ⟨h,hTn⟩ (by simp; omega) ?_
  unfold qnS
  have hrn:rnOk [(E.n0,E.n0+35841)]:=by simp[qB,hoe,hi1,Nat.add_comm 1 T.length]
  refine Conv.sub [(E.n0,E.n0+35841)] hrn ?_ ?_ ?_ ?_ ?_<;>(try simp[qB,hoe,hi1,Nat.add_comm 1 T.length])
end Go.Am
