/- Parts of the proof: an abstract machine for Go functions, and what functions of the program give back (Qr19, Qr20). No condition. -/
import Derived.Test.YtgfmjhmjnnpcgaaGreatDoorYP
import Derived.Test.YtgfmjhmjnnpcgaaGreatDoorYI
namespace Go.Am
set_option linter.all false
open Go Go.RowKit Go.Proofs
set_option maxRecDepth 100000
set_option linter.all false
theorem tkL_eq(l:List Sel):tkL l=l.flatMap tkSel:=by
 induction l with
 | nil=>rfl
 | cons s r ih=>simp[tkL,ih]
def alT(a:List UInt8):List Tk:=if a≠[] then [tkW a,tkS 58] else []
theorem tkHd_eq(a n:List UInt8):tkHd a n=alT a++[tkW n]:=by
 unfold tkHd alT
 split<;>rfl
theorem tkSel_eq(s:Sel):tkSel s=alT s.alias++[tkW s.name]++tkArgs s.args++tkKids s.kids:=by
 obtain⟨a,n,x,k⟩:=s
 simp[tkSel,tkHd_eq,Sel.alias,Sel.name,Sel.args,Sel.kids]
theorem alT_len(a:List UInt8):(alT a).length≤2:=by unfold alT; split<;>simp
theorem agFm_len(x:List Ag):(x.flatMap tkAg).length=3*x.length:=by
 induction x with
 | nil=>rfl
 | cons a r ih=>rw[List.flatMap_cons,List.length_append,ih]; simp[tkAg]; omega
theorem tkArgs_len(x:List Ag):(tkArgs x).length≤3*x.length+2:=by
 have:=agFm_len x
 unfold tkArgs
 split
 ·simp only[List.length_cons,List.length_append,List.length_nil,this]; omega
 ·simp
mutual
theorem tkSel_len:∀s:Sel,(tkSel s).length≤7*s.sz
 | .mk a n x k=>by
  have h1:=alT_len a
  have h2:=tkArgs_len x
  have h3:=tkKids_len k
  simp only[tkSel,tkHd_eq,List.length_append,List.length_cons,List.length_nil,Sel.sz]; omega
theorem tkKids_len:∀l:List Sel,(tkKids l).length≤7*szL l+2
 | []=>by simp[tkKids]
 | s::r=>by
  have h1:=tkSel_len s
  have h2:=tkL_len r
  simp only[tkKids,List.length_cons,List.length_append,List.length_nil,szL]; omega
theorem tkL_len:∀l:List Sel,(tkL l).length≤7*szL l
 | []=>by simp[tkL]
 | s::r=>by
  have h1:=tkSel_len s
  have h2:=tkL_len r
  simp only[tkL,List.length_append,szL]; omega
end
theorem tkSels_len(l:List Sel):(tkSels l).length≤7*szL l+2:=by
 have:=tkL_len l
 simp only[tkSels,List.length_cons,List.length_append,List.length_nil]; omega
def qS(E:Env)(l:List Sel)(i:Nat)(acc:List Tk):St :=
 ⟨[(3,true,.ptr E.n0 0 0),(4,true,.fn 100 [.ptr E.n0 0 0]),(12,true,.sl (l.map eSel)),(13,true,.int .i64 l.length),(14,true,.int .i64 i)],
  [(E.n0,some (lK (.bsl (E.n0+1) 0 acc.length))),(E.n0+1,some (toB acc))],2⟩
def slB(s:Sel):Bx:=⟨[eSel s],.agg [.str [],.str [],.nils,.nils],false,false⟩
def qM(E:Env)(l:List Sel)(i:Nat)(s:Sel)(acc:List Tk):St :=
 ⟨[(3,true,.ptr E.n0 0 0),(4,true,.fn 100 [.ptr E.n0 0 0]),(12,true,.sl (l.map eSel)),(13,true,.int .i64 l.length),(14,true,.int .i64 i),(6,true,.ptr (E.n0+2) 0 0)],
  [(E.n0,some (lK (.bsl (E.n0+1) 0 acc.length))),(E.n0+1,some (toB acc)),(E.n0+2,some (slB s))],3⟩
def qA(E:Env)(l:List Sel)(i:Nat)(s:Sel)(j:Nat)(acc:List Tk):St :=
 ⟨[(3,true,.ptr E.n0 0 0),(4,true,.fn 100 [.ptr E.n0 0 0]),(12,true,.sl (l.map eSel)),(13,true,.int .i64 l.length),(14,true,.int .i64 i),(6,true,.ptr (E.n0+2) 0 0),(43,true,.sl (s.args.map eAg)),(44,true,.int .i64 s.args.length),(45,true,.int .i64 j)],
  [(E.n0,some (lK (.bsl (E.n0+1) 0 acc.length))),(E.n0+1,some (toB acc)),(E.n0+2,some (slB s))],3⟩
theorem eTk_v(a:Ag):eTk (tkV a)=if a.isText=true then .agg [.int .i64 3,.str a.text,.int .i64 0] else .agg [.int .i64 2,.str [],.int .i64 a.n]:=by
 unfold tkV; split<;>rfl
section
variable (E:Env) (hP:E.P=Tryz.prog) (l:List Sel) (i:Nat) (s:Sel) (acc:List Tk) (h8:acc.length≤549755813888)
include hP h8
theorem tk_al{x:CC}(hx:x = .seq (.r [.f 18 0 6,.l 19 18,.j 20 .neq 19 (.str [])]) (.cond (.t 20) (.r [.m 21 4,.f 22 0 6,.l 23 22,.c 24 92 [23],⟨some 25,none,[],.call 93 [.c (.str [58])]⟩,⟨some 26,none,[24,25],.bslice (.agg [.int .i64 0,.str [],.int .i64 0]) 2 [(0,.t 24),(1,.t 25)]⟩,⟨some 27,none,[21,26],.callv (.t 21) [.t 26]⟩]) CC.skip))
  {k:List Itm} (p:St→Prop) (hp:∀σ,Conv E σ (qM E l i s (acc++alT s.alias))→p σ):Wk E (.code x::.post p::k) (qM E l i s acc):=by
 subst hx
 have hoe:=eSel_eq s
 by_cases h:s.alias=[]
 ·have e:alT s.alias=[]:=by unfold alT; rw[if_neg (by simp[h])]
  rw[e,List.append_nil] at hp
  unfold qM slB
  refine w_go 4000 ?_
  simp[lK,toB,hoe,h]
  refine hp _ ?_
  unfold qM
  have hrn:rnOk [(E.n0,E.n0),(E.n0+1,E.n0+1),(E.n0+2,E.n0+2)]:=by simp[lK,toB,slB,hoe,h]
  refine Conv.sub [(E.n0,E.n0),(E.n0+1,E.n0+1),(E.n0+2,E.n0+2)] hrn ?_ ?_ ?_ ?_ ?_<;>(try simp[lK,toB,slB,hoe,h])
 ·have e:alT s.alias=[tkW s.alias,tkS 58]:=by unfold alT; rw[if_pos h]
  have hb:(!s.alias.isEmpty)=true:=by simpa using h
  have hw:=fun id=>Word_ok s.alias id
  have hs:=fun id=>Sign_ok [58] id
  have hput:=fun id=>qPut_ok [tkW s.alias,tkS 58] acc (E.n0+8195) E.n0 (E.n0+1) id (by simp) (by simp; omega)
  simp only[toB_eq,lK_eq] at hput
  rw[e] at hp
  unfold qM slB
  refine w_go 4000 ?_
  simp[lK,toB,hoe]
  refine goc_true hb ?_
  simp
  (refine w_call hP rfl (hw _) (by simp) (by simp<;>rfl) ?_; refine w_go 4000 ?_; simp)
  (refine w_call hP rfl (hs _) (by simp) (by simp<;>rfl) ?_; refine w_go 4000 ?_; simp)
  (refine w_callv hP (by simp<;>exact⟨rfl,rfl⟩) rfl (hput _) (by simp[eTk_w,eTk_s]) (by simp[eTk_w,eTk_s]<;>rfl) ?_; refine w_go 4000 ?_; simp[eTk_w,eTk_s])
  refine hp _ ?_
  unfold qM
  have hrn:rnOk [(E.n0,E.n0),(E.n0+1,E.n0+9219),(E.n0+2,E.n0+2)]:=by simp[lK,toB,slB,hoe,eTk_w,eTk_s]
  refine Conv.sub [(E.n0,E.n0),(E.n0+1,E.n0+9219),(E.n0+2,E.n0+2)] hrn ?_ ?_ ?_ ?_ ?_<;>(try simp[lK,toB,slB,hoe,eTk_w,eTk_s])
  all_goals exact renL_pure rfl (pureL_append (pure_tks _) rfl)
theorem tk_nm{x:CC}(hx:x = .r [.m 28 4,.f 29 1 6,.l 30 29,.c 31 92 [30],⟨some 32,none,[31],.bslice (.agg [.int .i64 0,.str [],.int .i64 0]) 1 [(0,.t 31)]⟩,⟨some 33,none,[28,32],.callv (.t 28) [.t 32]⟩])
  {k:List Itm} (p:St→Prop) (hp:∀σ,Conv E σ (qM E l i s (acc++[tkW s.name]))→p σ):Wk E (.code x::.post p::k) (qM E l i s acc):=by
 subst hx
 have hoe:=eSel_eq s
 have hw:=fun id=>Word_ok s.name id
 have hput:=fun id=>qPut_ok [tkW s.name] acc (E.n0+4099) E.n0 (E.n0+1) id (by simp) (by simp; omega)
 simp only[toB_eq,lK_eq] at hput
 unfold qM slB
 refine w_go 4000 ?_
 simp[lK,toB,hoe]
 (refine w_call hP rfl (hw _) (by simp) (by simp<;>rfl) ?_; refine w_go 4000 ?_; simp)
 (refine w_callv hP (by simp<;>exact⟨rfl,rfl⟩) rfl (hput _) (by simp[eTk_w,eTk_s]) (by simp[eTk_w,eTk_s]<;>rfl) ?_; refine w_go 4000 ?_; simp[eTk_w,eTk_s])
 refine hp _ ?_
 unfold qM
 have hrn:rnOk [(E.n0,E.n0),(E.n0+1,E.n0+5123),(E.n0+2,E.n0+2)]:=by simp[lK,toB,slB,hoe,eTk_w,eTk_s]
 refine Conv.sub [(E.n0,E.n0),(E.n0+1,E.n0+5123),(E.n0+2,E.n0+2)] hrn ?_ ?_ ?_ ?_ ?_<;>(try simp[lK,toB,slB,hoe,eTk_w,eTk_s])
 all_goals exact renL_pure rfl (pureL_append (pure_tks _) rfl)
set_option maxHeartbeats 8000000 in
theorem tk_args{x:CC}(hx:x = .seq (.r [.f 34 2 6,.l 35 34,.n 36 35,.k 37 .gtr 36 0]) (.cond (.t 37) (.seq (.r [.m 38 4,⟨some 39,none,[],.call 93 [.c (.str [40])]⟩,⟨some 40,none,[39],.bslice (.agg [.int .i64 0,.str [],.int .i64 0]) 1 [(0,.t 39)]⟩,⟨some 41,none,[38,40],.callv (.t 38) [.t 40]⟩]) (.seq (.seq (.r [.f 42 2 6,.l 43 42,.n 44 43,.i 45 0]) (.block 2 (.loop (.seq (.r [.b 46 .lss 45 44]) (.seq (.cond (.t 46) CC.skip (.exit 2)) (.seq (.block 3 (.seq (.r [.ia 47 4 .zA 43 45,.L 48 4 47,.al 8 .zA,.st 4 8 48]) (.seq (.r [.m 49 4,.f 50 0 8,.l 51 50,.c 52 92 [51],⟨some 53,none,[],.call 93 [.c (.str [58])]⟩,⟨some 54,none,[52,53],.bslice (.agg [.int .i64 0,.str [],.int .i64 0]) 2 [(0,.t 52),(1,.t 53)]⟩,⟨some 55,none,[49,54],.callv (.t 49) [.t 54]⟩]) (.seq (.r [.f 56 1 8,.l 57 56]) (.cond (.t 57) (.r [.m 58 4,.f 59 2 8,.l 60 59,⟨some 61,none,[60],.build [.int .i64 0,.str [],.int .i64 0] [(0,1,.c (.int .i64 3)),(1,1,.t 60)]⟩,⟨some 62,none,[61],.bslice (.agg [.int .i64 0,.str [],.int .i64 0]) 1 [(0,.t 61)]⟩,⟨some 63,none,[58,62],.callv (.t 58) [.t 62]⟩]) (.r [.m 64 4,.f 65 3 8,.l 66 65,⟨some 67,none,[66],.build [.int .i64 0,.str [],.int .i64 0] [(0,1,.c (.int .i64 2)),(2,1,.t 66)]⟩,⟨some 68,none,[67],.bslice (.agg [.int .i64 0,.str [],.int .i64 0]) 1 [(0,.t 67)]⟩,⟨some 69,none,[64,68],.callv (.t 64) [.t 68]⟩])))))) (.r [.k 70 .add 45 1,.m 45 70]))))))) (.r [.m 71 4,⟨some 72,none,[],.call 93 [.c (.str [41])]⟩,⟨some 73,none,[72],.bslice (.agg [.int .i64 0,.str [],.int .i64 0]) 1 [(0,.t 72)]⟩,⟨some 74,none,[71,73],.callv (.t 71) [.t 73]⟩]))) CC.skip))
  (h9:s.args.length≤137438953472) {k:List Itm} (p:St→Prop) (hp:∀σ,Conv E σ (qM E l i s (acc++tkArgs s.args))→p σ):Wk E (.code x::.post p::k) (qM E l i s acc):=by
 subst hx
 have hoe:=eSel_eq s
 by_cases h:s.args=[]
 ·have e:tkArgs s.args=[]:=by unfold tkArgs; rw[if_neg (by simp[h])]
  rw[e,List.append_nil] at hp
  unfold qM slB
  refine w_go 4000 ?_
  simp[lK,toB,hoe,h]
  refine hp _ ?_
  unfold qM
  have hrn:rnOk [(E.n0,E.n0),(E.n0+1,E.n0+1),(E.n0+2,E.n0+2)]:=by simp[lK,toB,slB,hoe,h]
  refine Conv.sub [(E.n0,E.n0),(E.n0+1,E.n0+1),(E.n0+2,E.n0+2)] hrn ?_ ?_ ?_ ?_ ?_<;>(try simp[lK,toB,slB,hoe,h])
  all_goals exact namesL_pure _ rfl
 have e:tkArgs s.args=tkS 40::(s.args.flatMap tkAg++[tkS 41]):=by unfold tkArgs; rw[if_pos h]
 have hpos:0<s.args.length:=List.length_pos_iff.2 h
 have hs1:=fun id=>Sign_ok [40] id
 have hs2:=fun id=>Sign_ok [41] id
 have hs3:=fun id=>Sign_ok [58] id
 have hput:=fun id=>qPut_ok [tkS 40] acc (E.n0+6147) E.n0 (E.n0+1) id (by simp) (by simp; omega)
 simp only[toB_eq,lK_eq] at hput
 unfold qM slB
 refine w_go 4000 ?_
 simp[lK,toB,hoe,hpos]
 (refine w_call hP rfl (hs1 _) (by simp) (by simp<;>rfl) ?_; refine w_go 4000 ?_; simp)
 (refine w_callv hP (by simp<;>exact⟨rfl,rfl⟩) rfl (hput _) (by simp[eTk_w,eTk_s]) (by simp[eTk_w,eTk_s]<;>rfl) ?_; refine w_go 4000 ?_; simp[eTk_w,eTk_s])
 refine w_loop (X:=Nat×List Tk) (fun q=>qA E l i s q.1 q.2) (fun q=>q.1≤s.args.length∧q.2=acc++[tkS 40]++(s.args.take q.1).flatMap tkAg) (fun q=>s.args.length - q.1) (0,acc++[tkS 40]) ?_ ⟨by simp,by simp⟩ ?_
 ·unfold qA
  have hrn:rnOk [(E.n0,E.n0),(E.n0+1,E.n0+7171),(E.n0+2,E.n0+2)]:=by simp[lK,toB,slB,hoe,eTk_w,eTk_s]
  refine Conv.sub [(E.n0,E.n0),(E.n0+1,E.n0+7171),(E.n0+2,E.n0+2)] hrn ?_ ?_ ?_ ?_ ?_<;>(try simp[lK,toB,slB,hoe,eTk_w,eTk_s])
  all_goals exact renL_pure rfl (pureL_append (pure_tks _) rfl)
 rintro⟨j,ac⟩ ⟨hj,hac⟩ p2 hp2
 simp only at hj hac
 have hacl:ac.length≤1099511627000:=by
  rw[hac]
  simp only[List.length_append,List.length_cons,List.length_nil,agFm_len,List.length_take]
  omega
 rcases Nat.lt_or_ge j s.args.length with h2|h2
 rotate_left
 ·have hjl:j=s.args.length:=by omega
  have hx:ac++[tkS 41]=acc++tkArgs s.args:=by rw[e,hac,List.take_of_length_le h2]; simp
  have hput2:=fun id=>qPut_ok [tkS 41] ac (E.n0+3075) E.n0 (E.n0+1) id (by simp) (by simp; omega)
  simp only[toB_eq,lK_eq] at hput2
  rw[←hx] at hp
  unfold qA slB
  refine w_go 4000 ?_
  simp[lK,toB,hoe,Nat.not_lt.2 h2]
  (refine w_call hP rfl (hs2 _) (by simp) (by simp<;>rfl) ?_; refine w_go 4000 ?_; simp)
  (refine w_callv hP (by simp<;>exact⟨rfl,rfl⟩) rfl (hput2 _) (by simp[eTk_w,eTk_s]) (by simp[eTk_w,eTk_s]<;>rfl) ?_; refine w_go 4000 ?_; simp[eTk_w,eTk_s])
  refine hp _ ?_
  unfold qM
  have hrn:rnOk [(E.n0,E.n0),(E.n0+1,E.n0+4099),(E.n0+2,E.n0+2)]:=by simp[lK,toB,slB,hoe,eTk_w,eTk_s]
  refine Conv.sub [(E.n0,E.n0),(E.n0+1,E.n0+4099),(E.n0+2,E.n0+2)] hrn ?_ ?_ ?_ ?_ ?_<;>(try simp[lK,toB,slB,hoe,eTk_w,eTk_s])
  all_goals exact renL_pure rfl (pureL_append (pure_tks _) rfl)
 obtain⟨a,hga,hda⟩:=drop_cons h2
 have hla:s.args[j]=a:=by
  rw[List.getElem?_eq_getElem h2] at hga
  injection hga
 have hj1:IntKind.i64.wrap ((j:Int)+1)=((j+1:Nat):Int):=wrap64 (by omega)
 have hsn:=fm_snoc tkAg hga
 have hag:eAg a = .agg [.str a.name,.bool a.isText,.str a.text,.int .i64 a.n]:=rfl
 have hw:=fun id=>Word_ok a.name id
 have hp4:=fun id=>qPut_ok [tkW a.name,tkS 58] ac (E.n0+10243) E.n0 (E.n0+1) id (by simp) (by simp; omega)
 have hp5:=fun id=>qPut_ok [tkV a] (ac++[tkW a.name,tkS 58]) (E.n0+18435) E.n0 (E.n0+11267) id (by simp) (by simp; omega)
 have hx:ac++[tkW a.name,tkS 58]++[tkV a]=acc++[tkS 40]++(s.args.take (j+1)).flatMap tkAg:=by
  rw[hsn,hac]; simp[tkAg]
 have hev:=eTk_v a
 simp only[toB_eq,lK_eq] at hp4 hp5
 cases ht:a.isText with
 | true =>
  rw[if_pos ht] at hev
  unfold qA slB
  refine w_go 4000 ?_
  simp[lK,toB,hoe,h2,hla,hag,ht]
  (refine w_call hP rfl (hw _) (by simp) (by simp<;>rfl) ?_; refine w_go 4000 ?_; simp)
  (refine w_call hP rfl (hs3 _) (by simp) (by simp<;>rfl) ?_; refine w_go 4000 ?_; simp)
  (refine w_callv hP (by simp<;>exact⟨rfl,rfl⟩) rfl (hp4 _) (by simp[eTk_w,eTk_s]) (by simp[eTk_w,eTk_s]<;>rfl) ?_; refine w_go 4000 ?_; simp[eTk_w,eTk_s])
  (refine w_callv hP (by simp<;>exact⟨rfl,rfl⟩) rfl (hp5 _) (by simp[eTk_w,eTk_s,hev]) (by simp[eTk_w,eTk_s,hev]<;>rfl) ?_; refine w_go 4000 ?_; simp[eTk_w,eTk_s,hev])
  refine hp2 _ (j+1,ac++[tkW a.name,tkS 58]++[tkV a]) ⟨h2,hx⟩ (by simp; omega) ?_
  unfold qA
  have hrn:rnOk [(E.n0,E.n0),(E.n0+1,E.n0+19459),(E.n0+2,E.n0+2)]:=by simp[lK,toB,slB,hoe,eTk_w,eTk_s,hev,hj1]
  refine Conv.sub [(E.n0,E.n0),(E.n0+1,E.n0+19459),(E.n0+2,E.n0+2)] hrn ?_ ?_ ?_ ?_ ?_<;>(try simp[lK,toB,slB,hoe,eTk_w,eTk_s,hev,hj1])
  all_goals exact renL_pure rfl (pureL_append (pure_tks _) rfl)
 | false =>
  rw[if_neg (by simp[ht])] at hev
  unfold qA slB
  refine w_go 4000 ?_
  simp[lK,toB,hoe,h2,hla,hag,ht]
  (refine w_call hP rfl (hw _) (by simp) (by simp<;>rfl) ?_; refine w_go 4000 ?_; simp)
  (refine w_call hP rfl (hs3 _) (by simp) (by simp<;>rfl) ?_; refine w_go 4000 ?_; simp)
  (refine w_callv hP (by simp<;>exact⟨rfl,rfl⟩) rfl (hp4 _) (by simp[eTk_w,eTk_s]) (by simp[eTk_w,eTk_s]<;>rfl) ?_; refine w_go 4000 ?_; simp[eTk_w,eTk_s])
  (refine w_callv hP (by simp<;>exact⟨rfl,rfl⟩) rfl (hp5 _) (by simp[eTk_w,eTk_s,hev]) (by simp[eTk_w,eTk_s,hev]<;>rfl) ?_; refine w_go 4000 ?_; simp[eTk_w,eTk_s,hev])
  refine hp2 _ (j+1,ac++[tkW a.name,tkS 58]++[tkV a]) ⟨h2,hx⟩ (by simp; omega) ?_
  unfold qA
  have hrn:rnOk [(E.n0,E.n0),(E.n0+1,E.n0+19459),(E.n0+2,E.n0+2)]:=by simp[lK,toB,slB,hoe,eTk_w,eTk_s,hev,hj1]
  refine Conv.sub [(E.n0,E.n0),(E.n0+1,E.n0+19459),(E.n0+2,E.n0+2)] hrn ?_ ?_ ?_ ?_ ?_<;>(try simp[lK,toB,slB,hoe,eTk_w,eTk_s,hev,hj1])
  all_goals exact renL_pure rfl (pureL_append (pure_tks _) rfl)
end
end Go.Am
namespace Go.Am
set_option linter.all false
open Go Go.RowKit Go.Proofs
set_option maxRecDepth 100000
set_option linter.all false
theorem tkKids_sels{k:List Sel}(h:k≠[]):tkKids k=tkSels k:=by rw[tkKids_eq,if_pos h]
set_option maxHeartbeats 16000000 in
theorem qTokens_ok:∀(n:Nat) (l:List Sel) (id:Nat),szL l<n→szL l≤68719476736→FnOk Tryz.prog 68 [.sl (l.map eSel)] [] id (.sl ((tkSels l).map eTk)) []:=by
 intro n
 induction n with
 | zero=>intro l id h; omega
 | succ n ih =>
  intro l id hn h8
  have htl:=tkSels_len l
  have hll:=szL_len l
  have hs0:=fun id=>Sign_ok [123] id
  have hs9:=fun id=>Sign_ok [125] id
  refine fn_okc Tryz.func68 hcc68 (by decide) hcr68 (by simp[Tryz.ntmps68]) fun E hP hR hl hid=>?_
  simp only[cr68] at hR
  refine w_go 4000 ?_
  simp[cc68]
  (refine w_call hP rfl (hs0 _) (by simp) (by simp<;>rfl) ?_; refine w_go 4000 ?_; simp)
  refine w_loop (X:=Nat×List Tk) (fun q=>qS E l q.1 q.2) (fun q=>q.1≤l.length∧q.2=tkS 123::(l.take q.1).flatMap tkSel) (fun q=>l.length - q.1) (0,[tkS 123]) ?_ ⟨by simp,by simp⟩ ?_
  ·unfold qS
   have hrn:rnOk [(E.n0,E.n0+3072),(E.n0+1,E.n0+2048)]:=by simp[lK,toB,eTk_s]
   refine Conv.sub [(E.n0,E.n0+3072),(E.n0+1,E.n0+2048)] hrn ?_ ?_ ?_ ?_ ?_<;>(try simp[lK,toB,eTk_s])
  rintro⟨i,acc⟩ ⟨hi,ha⟩ p hp
  simp only at hi ha
  have htk:tkSels l=tkS 123::(l.flatMap tkSel++[tkS 125]):=by simp[tkSels,tkL_eq]
  have hfl:=fm_len l i tkSel
  have hal:acc.length≤549755813888:=by
   rw[htk] at htl
   simp only[List.length_cons,List.length_append,List.length_nil] at htl
   rw[ha,List.length_cons]; omega
  rcases Nat.lt_or_ge i l.length with h|h
  rotate_left
  ·have hx:acc++[tkS 125]=tkSels l:=by rw[htk,ha,List.take_of_length_le h]; simp
   have hput:=fun id=>qPut_ok [tkS 125] acc (E.n0+3074) E.n0 (E.n0+1) id (by simp) (by simp; omega)
   simp only[toB_eq,lK_eq] at hput
   have hm:(tkSels l).map eTk=acc.map eTk++[eTk (tkS 125)]:=by rw[←hx]; simp
   rw[hm] at hR
   unfold qS
   refine w_go 4000 ?_
   simp[lK,toB,Nat.not_lt.2 h]
   (refine w_call hP rfl (hs9 _) (by simp) (by simp<;>rfl) ?_; refine w_go 4000 ?_; simp)
   (refine w_callv hP (by simp<;>exact⟨rfl,rfl⟩) rfl (hput _) (by simp[eTk_w,eTk_s]) (by simp[eTk_w,eTk_s]<;>rfl) ?_; refine w_go 4000 ?_; simp[eTk_w,eTk_s])
   have hrn:rnOk []:=by simp[eTk_s,idO hid]
   rw[hR]
   refine rt_endR (by simp<;>rfl) (by simp[eTk_s,idO hid]<;>exact⟨rfl,rfl⟩) [] hrn ⟨?_,?_,?_,?_,?_,?_⟩<;>(try simp[eTk_s,idO hid])
   have htk2:List.take (acc.length+1) (acc.map eTk++[.agg [.int .i64 4,.str [125],.int .i64 0]])=acc.map eTk++[.agg [.int .i64 4,.str [125],.int .i64 0]]:=List.take_of_length_le (by simp)
   rw[htk2]
   exact⟨rfl,namesL_pure _ (pureL_append (pure_tks _) rfl)⟩
  obtain⟨s,hs,hd⟩:=drop_cons h
  have hli:l[i]=s:=by
   rw[List.getElem?_eq_getElem h] at hs
   injection hs
  have hi1:IntKind.i64.wrap ((i:Int)+1)=((i+1:Nat):Int):=wrap64 (by omega)
  have hoe:=eSel_eq s
  have hsm:=List.mem_of_getElem? hs
  have hsz:=szL_mem hsm
  have hse:=sz_eq s
  have hsl:=tkSel_len s
  have hse2:=tkSel_eq s
  have hlen:=congrArg List.length hse2
  simp only[List.length_append,List.length_cons,List.length_nil] at hlen
  have hsn:=fm_snoc tkSel hs
  have hfl2:=fm_len l (i+1) tkSel
  rw[hsn,List.length_append] at hfl2
  have hbound:acc.length+(tkSel s).length≤549755813888:=by
   rw[htk] at htl
   simp only[List.length_cons,List.length_append,List.length_nil] at htl
   rw[ha,List.length_cons]; omega
  refine w_cut2 (X:=Unit) (fun _=>qS E l i acc) (fun _=>True) (fun p2 hp2=>?_) fun _ _=>?_
  ·unfold qS
   refine w_go 4000 ?_
   simp[lK,toB,h]
   refine hp2 _ () trivial ?_
   unfold qS
   have hrn:rnOk [(E.n0,E.n0),(E.n0+1,E.n0+1)]:=by simp[lK,toB]
   refine Conv.sub [(E.n0,E.n0),(E.n0+1,E.n0+1)] hrn ?_ ?_ ?_ ?_ ?_<;>(try simp[lK,toB])
  refine w_seq (w_block ?_)
  refine w_seq (w_cut (X:=Unit) (fun _=>qM E l i s acc) (fun _=>True) (fun p2 hp2=>?_) fun _ _=>?_)
  ·unfold qS
   refine w_go 4000 ?_
   simp[lK,toB,h,hli,hoe]
   refine hp2 _ () trivial ?_
   unfold qM
   have hrn:rnOk [(E.n0,E.n0),(E.n0+1,E.n0+1),(E.n0+2,E.n0+2050)]:=by simp[lK,toB,slB,hoe]
   refine Conv.sub [(E.n0,E.n0),(E.n0+1,E.n0+1),(E.n0+2,E.n0+2050)] hrn ?_ ?_ ?_ ?_ ?_<;>(try simp[lK,toB,slB,hoe])
  refine w_seq (w_cut (X:=Unit) (fun _=>qM E l i s (acc++alT s.alias)) (fun _=>True) (fun p2 hp2=>tk_al E hP l i s acc (by omega) rfl p2 fun σ hc=>hp2 σ () trivial hc) fun _ _=>?_)
  refine w_seq (w_cut (X:=Unit) (fun _=>qM E l i s (acc++alT s.alias++[tkW s.name])) (fun _=>True) (fun p2 hp2=>tk_nm E hP l i s _ (by simp only[List.length_append]; omega) rfl p2 fun σ hc=>hp2 σ () trivial hc) fun _ _=>?_)
  refine w_seq (w_cut (X:=Unit) (fun _=>qM E l i s (acc++alT s.alias++[tkW s.name]++tkArgs s.args)) (fun _=>True) (fun p2 hp2=>tk_args E hP l i s _ (by simp only[List.length_append,List.length_cons,List.length_nil]; omega) rfl (by omega) p2 fun σ hc=>hp2 σ () trivial hc) fun _ _=>?_)
  have hb3:(acc++alT s.alias++[tkW s.name]++tkArgs s.args).length+(tkKids s.kids).length≤549755813888:=by
   simp only[List.length_append,List.length_cons,List.length_nil]; omega
  have hx:acc++alT s.alias++[tkW s.name]++tkArgs s.args++tkKids s.kids=tkS 123::(l.take (i+1)).flatMap tkSel:=by
   rw[hsn,ha,hse2]; simp
  generalize acc++alT s.alias++[tkW s.name]++tkArgs s.args=ac at *
  by_cases hk:s.kids=[]
  ·have hk2:tkKids s.kids=[]:=by rw[hk]; rfl
   rw[hk2,List.append_nil] at hx
   unfold qM slB
   refine w_go 4000 ?_
   simp[lK,toB,hoe,hk]
   refine hp _ (i+1,ac) ⟨h,hx⟩ (by simp; omega) ?_
   unfold qS
   have hrn:rnOk [(E.n0,E.n0),(E.n0+1,E.n0+1)]:=by simp[lK,toB,hi1]
   refine Conv.sub [(E.n0,E.n0),(E.n0+1,E.n0+1)] hrn ?_ ?_ ?_ ?_ ?_<;>(try simp[lK,toB,hi1])
  ·have hpos:0<s.kids.length:=List.length_pos_iff.2 hk
   have hK:=fun id=>ih s.kids id (by omega) (by omega)
   rw[tkKids_sels hk] at hx hb3
   have hput:=fun id=>qPutS_ok (tkSels s.kids) ac E.n0 (E.n0+1) id (by simp) (by omega)
   simp only[toB_eq,lK_eq] at hput
   unfold qM slB
   refine w_go 4000 ?_
   simp[lK,toB,hoe,hpos]
   (refine w_call hP rfl (hK _) (by simp) (by simp<;>rfl) ?_; refine w_go 4000 ?_; simp)
   (refine w_callv hP (by simp<;>exact⟨rfl,rfl⟩) rfl (hput _) (by simp) (by simp<;>rfl) ?_; refine w_go 4000 ?_; simp)
   refine hp _ (i+1,ac++tkSels s.kids) ⟨h,hx⟩ (by simp; omega) ?_
   unfold qS
   have hrn:rnOk [(E.n0,E.n0),(E.n0+1,E.n0+8195)]:=by simp[lK,toB,hi1]
   refine Conv.sub [(E.n0,E.n0),(E.n0+1,E.n0+8195)] hrn ?_ ?_ ?_ ?_ ?_<;>(try simp[lK,toB,hi1])
   all_goals exact renL_pure rfl (pureL_append (pure_tks _) (pure_tks _))
theorem lQs_len(s:List UInt8):(lQs s).length≤2*s.length:=by
 induction s with
 | nil=>simp[lQs]
 | cons c r ih =>
  have h1:(lQ c).length≤2:=by
   unfold lQ
   repeat' split
   all_goals simp
  have e:lQs (c::r)=lQ c++lQs r:=by simp[lQs]
  rw[e,List.length_append,List.length_cons]; omega
theorem itoa_len{n:Int}(h : -999999999≤n∧n≤999999999):(Lib.itoa n).length≤10:=by
 unfold Lib.itoa
 split
 ·have:=dec_len (u:=n.natAbs) (by omega)
  simp only[List.length_cons]; omega
 ·have:=dec_len (u:=n.toNat) (by omega)
  omega
theorem wr_len{t:Tk}(h:fTk t=0):(wrTk t).length≤82:=by
 unfold fTk at h
 obtain⟨h1,h⟩:=ite0 h (by decide)
 obtain⟨h2,h⟩:=ite0 h (by decide)
 unfold wrTk
 split at h
 ·rename_i hk
  rw[if_neg (by omega),if_neg (by omega)]
  have:=fName_le h; omega
 ·split at h
  ·rename_i hk
   rw[if_pos hk]
   split at h
   ·rename_i hn
    have:=itoa_len hn; omega
   ·cases h
  ·rename_i hk2
   rw[if_neg hk2]
   split at h
   ·rename_i hk3
    rw[if_pos hk3]
    split at h
    ·cases h
    ·have:=lQs_len t.text
     simp only[List.length_cons,List.length_append,List.length_nil]; omega
   ·rename_i hk3
    rw[if_neg hk3]
    split at h
    ·rename_i hs; omega
    ·cases h
theorem wSum_le{l:List Tk}(h:AllT l):wSum l≤83*l.length:=by
 induction l with
 | nil=>simp[wSum]
 | cons t r ih =>
  have h1:=wr_len (h t (List.mem_cons_self ..))
  have h2:=ih fun x hx=>h x (List.mem_cons_of_mem _ hx)
  simp only[wSum,List.map_cons,List.sum_cons,List.length_cons] at h2 ⊢; omega
def qPr(l:List Sel):List UInt8×Int:=if fQuery l=0 then (tkB (tkSels l),0) else ([],fQuery l)
theorem qPr_ok{l:List Sel}(h:fQuery l=0):qPr l=(tkB (tkSels l),0):=by unfold qPr; rw[if_pos h]
theorem qPrint_ok(l:List Sel)(id:Nat)(h8:szL l≤1073741824)(hW:fQuery l=0→∀t∈tkSels l,Wri t):FnOk Tryz.prog 32 [.sl (l.map eSel)] [] id (.tup [.str (qPr l).1,.int .i64 (qPr l).2]) []:=by
 have hC:=fun id=>qCheck_ok l id (by omega)
 by_cases hc:fQuery l=0
 ·have hT:=fun id=>qTokens_ok (szL l+1) l id (by omega) (by omega)
  have h1:=tkSels_len l
  have h2:=wSum_le (qry_tok hc)
  have hB:=fun id=>tBytes_ok (tkSels l) id (hW hc) (by omega) (by omega)
  rw[hc] at hC
  rw[qPr_ok hc]
  refine fn_okc Tryz.func32 hcc32 (by decide) hcr32 (by simp[Tryz.ntmps32]) fun E hP hR hl hid=>?_
  simp only[cr32] at hR
  refine w_go 4000 ?_
  simp[cc32]
  (refine w_call hP rfl (hC _) (by simp) (by simp<;>rfl) ?_; refine w_go 4000 ?_; simp)
  (refine w_call hP rfl (hT _) (by simp) (by simp<;>rfl) ?_; refine w_go 4000 ?_; simp)
  (refine w_call hP rfl (hB _) (by simp) (by simp<;>rfl) ?_; refine w_go 4000 ?_; simp)
  rw[hR]; exact rt_end (by simp<;>rfl) [] trivial (end_pure (by simp) (by simp) (by simp))
 ·have e:qPr l=([],fQuery l):=by unfold qPr; rw[if_neg hc]
  rw[e]
  refine fn_okc Tryz.func32 hcc32 (by decide) hcr32 (by simp[Tryz.ntmps32]) fun E hP hR hl hid=>?_
  simp only[cr32] at hR
  refine w_go 4000 ?_
  simp[cc32]
  (refine w_call hP rfl (hC _) (by simp) (by simp<;>rfl) ?_; refine w_go 4000 ?_; simp)
  refine goc_true (by simpa using hc) ?_
  simp
  rw[hR]; exact rt_end (by simp<;>rfl) [] trivial (end_pure (by simp) (by simp) (by simp))
end Go.Am
