/- Parts of the proof: an abstract machine for Go functions, and what functions of the program give back (Qr16, Qr17, Qr18). No condition. -/
import Derived.Test.YtgfmjhmjnnpcgaaGreatDoorYO
import Derived.Test.YtgfmjhmjnnpcgaaGreatDoorYH
namespace Go.Am
set_option linter.all false
open Go Go.RowKit Go.Proofs
set_option maxRecDepth 100000
set_option linter.all false
theorem Word_ok(s:List UInt8)(id:Nat):FnOk Tryz.prog 92 [.str s] [] id (.agg [.int .i64 1,.str s,.int .i64 0]) []:=by
 refine fn_okc Tryz.func92 hcc92 (by decide) hcr92 (by simp[Tryz.ntmps92]) fun E hP hR hl hid=>?_
 simp only[cr92] at hR
 refine w_go 4000 ?_
 simp[cc92]
 have hrn:rnOk []:=by simp[idO hid]
 rw[hR]
 refine rt_end (by simp<;>rfl) [] hrn ⟨?_,?_,?_,?_,?_,?_⟩<;>(try simp[idO hid])
theorem Sign_ok(s:List UInt8)(id:Nat):FnOk Tryz.prog 93 [.str s] [] id (.agg [.int .i64 4,.str s,.int .i64 0]) []:=by
 refine fn_okc Tryz.func93 hcc93 (by decide) hcr93 (by simp[Tryz.ntmps93]) fun E hP hR hl hid=>?_
 simp only[cr93] at hR
 refine w_go 4000 ?_
 simp[cc93]
 have hrn:rnOk []:=by simp[idO hid]
 rw[hR]
 refine rt_end (by simp<;>rfl) [] hrn ⟨?_,?_,?_,?_,?_,?_⟩<;>(try simp[idO hid])
theorem apt3{a b c:Nat}(h:[a,b,c].Nodup):((a=b)=False∧(b=a)=False)∧((a=c)=False∧(c=a)=False)∧(b=c)=False∧(c=b)=False:=by
 simp at h
 obtain⟨⟨h1,h2⟩,h3⟩:=h
 exact⟨⟨eq_false h1,eq_false (Ne.symm h1)⟩,⟨eq_false h2,eq_false (Ne.symm h2)⟩,eq_false h3,eq_false (Ne.symm h3)⟩
def toB(l:List Tk):Bx:=⟨l.map eTk,.agg [.int .i64 0,.str [],.int .i64 0],false,false⟩
theorem toB_eq(l:List Tk):toB l=⟨l.map eTk,.agg [.int .i64 0,.str [],.int .i64 0],false,false⟩:=rfl
theorem tk_cells(xs:List Tk):∀a:Tk,a∈xs→(match eTk a with|AV.agg cs=>cs|v=>[v]).length=3∧∀x:AV,(x∈match eTk a with|AV.agg cs=>cs|v=>[v])→(match x with|AV.agg cs=>false|AV.tup cs=>false|x=>true)=true:=fun a _=>by
 simp[eTk]
theorem sPut_ok(xs ys:List Tk)(T K M id:Nat)(hd:[T,K,M].Nodup)(hl8:ys.length+xs.length≤1099511627776):
  FnOk Tryz.prog 91 [.bsl T 0 xs.length,.ptr K 0 0] [(T,toB xs),(K,lK (.bsl M 0 ys.length)),(M,toB ys)] id (.tup []) [(K,some (lK (.bsl id 0 (ys.length+xs.length)))),(M,none),(id,some (toB (ys++xs)))]:=by
 have d:=apt3 hd
 have hex:(ys++xs).map eTk=ys.map eTk++xs.map eTk:=by simp
 rw[toB_eq,toB_eq,toB_eq,lK_eq,lK_eq,hex]
 refine fn_okc Tryz.func91 hcc91 (by decide) hcr91 (by simp[Tryz.ntmps91]) fun E hP hR hl hid=>?_
 simp only[cr91] at hR
 refine w_go 4000 ?_
 simp[cc91]
 have hT:=hl (T,_) (List.mem_cons_self ..)
 simp only at hT
 have T1:=lf hT
 have hK:=hl (K,_) (List.mem_cons_of_mem _ (List.mem_cons_self ..))
 simp only at hK
 have K1:=lf hK
 have hM:=hl (M,_) (List.mem_cons_of_mem _ (List.mem_cons_of_mem _ (List.mem_cons_self ..)))
 simp only at hM
 have M1:=lf hM
 simp[T1,K1,M1,d]
 refine⟨⟨tk_cells xs,by omega,by omega⟩,?_⟩
 have hrn:rnOk [(id,E.n0+2048)]:=by simp[T1,K1,M1,d,idO hid]
 rw[hR]
 refine rt_end (by simp<;>rfl) [(id,E.n0+2048)] hrn ⟨?_,?_,?_,?_,?_,?_⟩<;>(try simp[T1,K1,M1,d,idO hid])
 exact renL_pure rfl (pureL_append (pure_tks _) (pure_tks _))
theorem eTk_w(s:List UInt8):eTk (tkW s) = .agg [.int .i64 1,.str s,.int .i64 0]:=rfl
theorem eTk_s(c:UInt8):eTk (tkS c) = .agg [.int .i64 4,.str [c],.int .i64 0]:=rfl
end Go.Am
namespace Go.Am
set_option linter.all false
open Go Go.RowKit Go.Proofs
set_option maxRecDepth 100000
set_option linter.all false
def sS(E:Env)(l:List Ty)(i:Nat)(acc:List Tk):St :=
 ⟨[(3,true,.ptr E.n0 0 0),(4,true,.fn 91 [.ptr E.n0 0 0]),(10,true,.sl (l.map eTy)),(11,true,.int .i64 l.length),(12,true,.int .i64 i)],
  [(E.n0,some (lK (.bsl (E.n0+1) 0 acc.length))),(E.n0+1,some (toB acc))],2⟩
def sF(E:Env)(l:List Ty)(i:Nat)(fs:List Fd)(k:Nat)(acc:List Tk):St :=
 ⟨[(3,true,.ptr E.n0 0 0),(4,true,.fn 91 [.ptr E.n0 0 0]),(10,true,.sl (l.map eTy)),(11,true,.int .i64 l.length),(12,true,.int .i64 i),(25,true,.sl (fs.map eFd)),(26,true,.int .i64 fs.length),(27,true,.int .i64 k)],
  [(E.n0,some (lK (.bsl (E.n0+1) 0 acc.length))),(E.n0+1,some (toB acc))],2⟩
theorem fm_snoc{α:Type}{l:List α}{i:Nat}{x:α}(g:α→List Tk)(h:l[i]?=some x):(l.take (i+1)).flatMap g=(l.take i).flatMap g++g x:=by
 rw[take_snoc h,List.flatMap_append]; simp
theorem fm_len{α:Type}(l:List α)(i:Nat)(g:α→List Tk):((l.take i).flatMap g).length≤(l.flatMap g).length:=by
 conv=>rhs; rw[←List.take_append_drop i l,List.flatMap_append,List.length_append]
 omega
set_option maxHeartbeats 16000000 in
theorem sTokens_ok(l:List Ty)(id:Nat)(hc:fCheckT l=0):FnOk Tryz.prog 56 [.sl (l.map eTy)] [] id (.sl ((tkSch l).map eTk)) []:=by
 have hfew:=few_sch l (tyP_of hc)
 have hl5:=(fCheckT_zero.1 hc).2.1
 have hlen:(tkSch l).length≤170:=by have:=hfew.2.1; omega
 refine fn_okc Tryz.func56 hcc56 (by decide) hcr56 (by simp[Tryz.ntmps56]) fun E hP hR hl hid=>?_
 simp only[cr56] at hR
 refine w_go 4000 ?_
 simp[cc56]
 refine w_loop (X:=Nat×List Tk) (fun q=>sS E l q.1 q.2) (fun q=>q.1≤l.length∧q.2=(l.take q.1).flatMap tkTy) (fun q=>l.length - q.1) (0,[]) ?_ ⟨by simp,by simp⟩ ?_
 ·refine Conv.trans (Conv.voidBox (E.n0+1024) (by simp; rfl) rfl .nils (.agg [.int .i64 0,.str [],.int .i64 0])) ?_
  unfold sS
  have hrn:rnOk [(E.n0,E.n0+1024),(E.n0+1,E.n0+7168)]:=by simp[lK,toB]
  refine Conv.sub [(E.n0,E.n0+1024),(E.n0+1,E.n0+7168)] hrn ?_ ?_ ?_ ?_ ?_<;>(try simp[lK,toB])
 rintro⟨i,acc⟩ ⟨hi,ha⟩ p hp
 simp only at hi ha
 have hal:acc.length≤170:=by rw[ha]; exact Nat.le_trans (fm_len l i tkTy) hlen
 rcases Nat.lt_or_ge i l.length with h|h
 rotate_left
 ·have hil:i=l.length:=by omega
  have hacc:acc=tkSch l:=by rw[ha,List.take_of_length_le h]; rfl
  subst hacc
  unfold sS
  refine w_go 4000 ?_
  simp[lK,toB,Nat.not_lt.2 h]
  have hrn:rnOk []:=by simp[lK,toB,idO hid]
  rw[hR]
  refine rt_endR (by simp<;>rfl) (by simp[lK,toB,idO hid]<;>exact⟨rfl,rfl⟩) [] hrn ⟨?_,?_,?_,?_,?_,?_⟩<;>(try simp[lK,toB,idO hid])
 obtain⟨t,ht,hd⟩:=drop_cons h
 have hli:l[i]=t:=by
  rw[List.getElem?_eq_getElem h] at ht
  injection ht
 have hi1:IntKind.i64.wrap ((i:Int)+1)=((i+1:Nat):Int):=wrap64 (by omega)
 have hT:=tyP_of hc t (List.mem_of_getElem? ht)
 have hsn:=fm_snoc tkTy ht
 have hlb:((l.take (i+1)).flatMap tkTy).length≤170:=Nat.le_trans (fm_len l (i+1) tkTy) hlen
 have hty:tkTy t=[tkW tType,tkW t.name,tkS 123]++t.fields.flatMap tkFd++[tkS 125]:=by simp[tkTy]
 rw[hsn,←ha,hty] at hlb
 simp only[List.length_append,List.length_cons,List.length_nil] at hlb
 have hp1:=fun id=>sPut_ok [tkW tType,tkW t.name,tkS 123] acc (E.n0+11266) E.n0 (E.n0+1) id (by simp) (by simp; omega)
 have hw1:=fun id=>Word_ok tType id
 have hw2:=fun id=>Word_ok t.name id
 have hs1:=fun id=>Sign_ok [123] id
 have hs2:=fun id=>Sign_ok [125] id
 simp only[toB_eq,lK_eq] at hp1
 unfold tType at hw1
 unfold sS
 refine w_go 4000 ?_
 simp[lK,toB,h,hli,ty_agg]
 (refine w_call hP rfl (hw1 _) (by simp) (by simp<;>rfl) ?_; refine w_go 4000 ?_; simp)
 (refine w_call hP rfl (hw2 _) (by simp) (by simp<;>rfl) ?_; refine w_go 4000 ?_; simp)
 (refine w_call hP rfl (hs1 _) (by simp) (by simp<;>rfl) ?_; refine w_go 4000 ?_; simp)
 (refine w_callv hP (by simp<;>exact⟨rfl,rfl⟩) rfl (hp1 _) (by simp[eTk_w,eTk_s,tType]) (by simp[eTk_w,eTk_s,tType]<;>rfl) ?_; refine w_go 4000 ?_; simp[eTk_w,eTk_s,tType])
 refine w_loop (X:=Nat×List Tk) (fun q=>sF E l i t.fields q.1 q.2) (fun q=>q.1≤t.fields.length∧q.2=acc++[tkW tType,tkW t.name,tkS 123]++(t.fields.take q.1).flatMap tkFd) (fun q=>t.fields.length - q.1) (0,acc++[tkW tType,tkW t.name,tkS 123]) ?_ ⟨by simp,by simp⟩ ?_
 ·unfold sF
  have hrn:rnOk [(E.n0,E.n0),(E.n0+1,E.n0+12290)]:=by simp[lK,toB,eTk_w,eTk_s,tType]
  refine Conv.sub [(E.n0,E.n0),(E.n0+1,E.n0+12290)] hrn ?_ ?_ ?_ ?_ ?_<;>(try simp[lK,toB,eTk_w,eTk_s,tType])
  all_goals exact renL_pure rfl (pureL_append (pure_tks _) rfl)
 rintro⟨k,ac⟩ ⟨hk,hac⟩ p2 hp2
 simp only at hk hac
 have hfl:=fm_len t.fields k tkFd
 have hacl:ac.length≤170:=by rw[hac]; simp only[List.length_append,List.length_cons,List.length_nil]; omega
 rcases Nat.lt_or_ge k t.fields.length with h2|h2
 rotate_left
 ·have hkl:k=t.fields.length:=by omega
  have hacc:ac++[tkS 125]=(l.take (i+1)).flatMap tkTy:=by
   rw[hac,hsn,←ha,hty,List.take_of_length_le h2]; simp
  have hp3:=fun id=>sPut_ok [tkS 125] ac (E.n0+3074) E.n0 (E.n0+1) id (by simp) (by simp; omega)
  simp only[toB_eq,lK_eq] at hp3
  unfold sF
  refine w_go 4000 ?_
  simp[lK,toB,Nat.not_lt.2 h2]
  (refine w_call hP rfl (hs2 _) (by simp) (by simp<;>rfl) ?_; refine w_go 4000 ?_; simp)
  (refine w_callv hP (by simp<;>exact⟨rfl,rfl⟩) rfl (hp3 _) (by simp[eTk_w,eTk_s]) (by simp[eTk_w,eTk_s]<;>rfl) ?_; refine w_go 4000 ?_; simp[eTk_w,eTk_s])
  refine hp _ (i+1,ac++[tkS 125]) ⟨h,hacc⟩ (by simp; omega) ?_
  unfold sS
  have hrn:rnOk [(E.n0,E.n0),(E.n0+1,E.n0+4098)]:=by simp[lK,toB,eTk_w,eTk_s,hi1]
  refine Conv.sub [(E.n0,E.n0),(E.n0+1,E.n0+4098)] hrn ?_ ?_ ?_ ?_ ?_<;>(try simp[lK,toB,eTk_w,eTk_s,hi1])
  all_goals exact renL_pure rfl (pureL_append (pure_tks _) rfl)
 obtain⟨f,hf,hfd⟩:=drop_cons h2
 have hlf:t.fields[k]=f:=by
  rw[List.getElem?_eq_getElem h2] at hf
  injection hf
 have hk1:IntKind.i64.wrap ((k:Int)+1)=((k+1:Nat):Int):=wrap64 (by have:=hT.le; omega)
 have hF:=hT.fd f (List.mem_of_getElem? hf)
 have hfs:=fm_snoc tkFd hf
 have hfn:eFd f = .agg [.str f.name,.int .i64 f.kind,.str f.of]:=rfl
 have hw3:=fun id=>Word_ok f.name id
 have hs3:=fun id=>Sign_ok [58] id
 have hp4:=fun id=>sPut_ok [tkW f.name,tkS 58] ac (E.n0+10242) E.n0 (E.n0+1) id (by simp) (by simp; omega)
 simp only[toB_eq,lK_eq] at hp4
 rcases hF.kind with⟨hkd,_⟩|⟨hkd,_⟩|⟨hkd,_⟩|⟨hkd,_⟩
 ·have hp5:=fun id=>sPut_ok [tkW tNumber] (ac++[tkW f.name,tkS 58]) (E.n0+18434) E.n0 (E.n0+11266) id (by simp) (by simp; omega)
  simp only[toB_eq,lK_eq] at hp5
  have hx:ac++[tkW f.name,tkS 58]++[tkW tNumber]=acc++[tkW tType,tkW t.name,tkS 123]++(t.fields.take (k+1)).flatMap tkFd:=by
   rw[hfs,hac]; simp[tkFd,tkOf,hkd]
  unfold sF
  refine w_go 4000 ?_
  simp[lK,toB,h2,hlf,hfn,hkd]
  (refine w_call hP rfl (hw3 _) (by simp) (by simp<;>rfl) ?_; refine w_go 4000 ?_; simp)
  (refine w_call hP rfl (hs3 _) (by simp) (by simp<;>rfl) ?_; refine w_go 4000 ?_; simp)
  (refine w_callv hP (by simp<;>exact⟨rfl,rfl⟩) rfl (hp4 _) (by simp[eTk_w,eTk_s]) (by simp[eTk_w,eTk_s]<;>rfl) ?_; refine w_go 4000 ?_; simp[eTk_w,eTk_s])
  have hw5:=fun id=>Word_ok tNumber id
  unfold tNumber at hw5
  (refine w_call hP rfl (hw5 _) (by simp) (by simp<;>rfl) ?_; refine w_go 4000 ?_; simp)
  (refine w_callv hP (by simp<;>exact⟨rfl,rfl⟩) rfl (hp5 _) (by simp[eTk_w,eTk_s,tNumber]) (by simp[eTk_w,eTk_s,tNumber]<;>rfl) ?_; refine w_go 4000 ?_; simp[eTk_w,eTk_s,tNumber])
  refine hp2 _ (k+1,ac++[tkW f.name,tkS 58]++[tkW tNumber]) ⟨h2,hx⟩ (by simp; omega) ?_
  unfold sF
  have hrn:rnOk [(E.n0,E.n0),(E.n0+1,E.n0+19458)]:=by simp[lK,toB,eTk_w,eTk_s,tNumber,hk1]
  refine Conv.sub [(E.n0,E.n0),(E.n0+1,E.n0+19458)] hrn ?_ ?_ ?_ ?_ ?_<;>(try simp[lK,toB,eTk_w,eTk_s,tNumber,hk1])
  all_goals exact renL_pure rfl (pureL_append (pure_tks _) rfl)
 ·have hp5:=fun id=>sPut_ok [tkW tText] (ac++[tkW f.name,tkS 58]) (E.n0+20482) E.n0 (E.n0+11266) id (by simp) (by simp; omega)
  simp only[toB_eq,lK_eq] at hp5
  have hx:ac++[tkW f.name,tkS 58]++[tkW tText]=acc++[tkW tType,tkW t.name,tkS 123]++(t.fields.take (k+1)).flatMap tkFd:=by
   rw[hfs,hac]; simp[tkFd,tkOf,hkd]
  unfold sF
  refine w_go 4000 ?_
  simp[lK,toB,h2,hlf,hfn,hkd]
  (refine w_call hP rfl (hw3 _) (by simp) (by simp<;>rfl) ?_; refine w_go 4000 ?_; simp)
  (refine w_call hP rfl (hs3 _) (by simp) (by simp<;>rfl) ?_; refine w_go 4000 ?_; simp)
  (refine w_callv hP (by simp<;>exact⟨rfl,rfl⟩) rfl (hp4 _) (by simp[eTk_w,eTk_s]) (by simp[eTk_w,eTk_s]<;>rfl) ?_; refine w_go 4000 ?_; simp[eTk_w,eTk_s])
  have hw5:=fun id=>Word_ok tText id
  unfold tText at hw5
  (refine w_call hP rfl (hw5 _) (by simp) (by simp<;>rfl) ?_; refine w_go 4000 ?_; simp)
  (refine w_callv hP (by simp<;>exact⟨rfl,rfl⟩) rfl (hp5 _) (by simp[eTk_w,eTk_s,tText]) (by simp[eTk_w,eTk_s,tText]<;>rfl) ?_; refine w_go 4000 ?_; simp[eTk_w,eTk_s,tText])
  refine hp2 _ (k+1,ac++[tkW f.name,tkS 58]++[tkW tText]) ⟨h2,hx⟩ (by simp; omega) ?_
  unfold sF
  have hrn:rnOk [(E.n0,E.n0),(E.n0+1,E.n0+21506)]:=by simp[lK,toB,eTk_w,eTk_s,tText,hk1]
  refine Conv.sub [(E.n0,E.n0),(E.n0+1,E.n0+21506)] hrn ?_ ?_ ?_ ?_ ?_<;>(try simp[lK,toB,eTk_w,eTk_s,tText,hk1])
  all_goals exact renL_pure rfl (pureL_append (pure_tks _) rfl)
 ·have hp5:=fun id=>sPut_ok [tkW f.of] (ac++[tkW f.name,tkS 58]) (E.n0+24578) E.n0 (E.n0+11266) id (by simp) (by simp; omega)
  simp only[toB_eq,lK_eq] at hp5
  have hx:ac++[tkW f.name,tkS 58]++[tkW f.of]=acc++[tkW tType,tkW t.name,tkS 123]++(t.fields.take (k+1)).flatMap tkFd:=by
   rw[hfs,hac]; simp[tkFd,tkOf,hkd]
  unfold sF
  refine w_go 4000 ?_
  simp[lK,toB,h2,hlf,hfn,hkd]
  (refine w_call hP rfl (hw3 _) (by simp) (by simp<;>rfl) ?_; refine w_go 4000 ?_; simp)
  (refine w_call hP rfl (hs3 _) (by simp) (by simp<;>rfl) ?_; refine w_go 4000 ?_; simp)
  (refine w_callv hP (by simp<;>exact⟨rfl,rfl⟩) rfl (hp4 _) (by simp[eTk_w,eTk_s]) (by simp[eTk_w,eTk_s]<;>rfl) ?_; refine w_go 4000 ?_; simp[eTk_w,eTk_s])
  have hw5:=fun id=>Word_ok f.of id
  (refine w_call hP rfl (hw5 _) (by simp) (by simp<;>rfl) ?_; refine w_go 4000 ?_; simp)
  (refine w_callv hP (by simp<;>exact⟨rfl,rfl⟩) rfl (hp5 _) (by simp[eTk_w,eTk_s,hfn]) (by simp[eTk_w,eTk_s,hfn]<;>rfl) ?_; refine w_go 4000 ?_; simp[eTk_w,eTk_s,hfn])
  refine hp2 _ (k+1,ac++[tkW f.name,tkS 58]++[tkW f.of]) ⟨h2,hx⟩ (by simp; omega) ?_
  unfold sF
  have hrn:rnOk [(E.n0,E.n0),(E.n0+1,E.n0+25602)]:=by simp[lK,toB,eTk_w,eTk_s,hfn,hk1]
  refine Conv.sub [(E.n0,E.n0),(E.n0+1,E.n0+25602)] hrn ?_ ?_ ?_ ?_ ?_<;>(try simp[lK,toB,eTk_w,eTk_s,hfn,hk1])
  all_goals exact renL_pure rfl (pureL_append (pure_tks _) rfl)
 ·have hp5:=fun id=>sPut_ok [tkS 91,tkW f.of,tkS 93] (ac++[tkW f.name,tkS 58]) (E.n0+28674) E.n0 (E.n0+11266) id (by simp) (by simp; omega)
  simp only[toB_eq,lK_eq] at hp5
  have hx:ac++[tkW f.name,tkS 58]++[tkS 91,tkW f.of,tkS 93]=acc++[tkW tType,tkW t.name,tkS 123]++(t.fields.take (k+1)).flatMap tkFd:=by
   rw[hfs,hac]; simp[tkFd,tkOf,hkd]
  unfold sF
  refine w_go 4000 ?_
  simp[lK,toB,h2,hlf,hfn,hkd]
  (refine w_call hP rfl (hw3 _) (by simp) (by simp<;>rfl) ?_; refine w_go 4000 ?_; simp)
  (refine w_call hP rfl (hs3 _) (by simp) (by simp<;>rfl) ?_; refine w_go 4000 ?_; simp)
  (refine w_callv hP (by simp<;>exact⟨rfl,rfl⟩) rfl (hp4 _) (by simp[eTk_w,eTk_s]) (by simp[eTk_w,eTk_s]<;>rfl) ?_; refine w_go 4000 ?_; simp[eTk_w,eTk_s])
  have hw5:=fun id=>Word_ok f.of id
  have hs5:=fun id=>Sign_ok [91] id
  have hs6:=fun id=>Sign_ok [93] id
  (refine w_call hP rfl (hs5 _) (by simp) (by simp<;>rfl) ?_; refine w_go 4000 ?_; simp)
  (refine w_call hP rfl (hw5 _) (by simp) (by simp<;>rfl) ?_; refine w_go 4000 ?_; simp)
  (refine w_call hP rfl (hs6 _) (by simp) (by simp<;>rfl) ?_; refine w_go 4000 ?_; simp)
  (refine w_callv hP (by simp<;>exact⟨rfl,rfl⟩) rfl (hp5 _) (by simp[eTk_w,eTk_s,hfn]) (by simp[eTk_w,eTk_s,hfn]<;>rfl) ?_; refine w_go 4000 ?_; simp[eTk_w,eTk_s,hfn])
  refine hp2 _ (k+1,ac++[tkW f.name,tkS 58]++[tkS 91,tkW f.of,tkS 93]) ⟨h2,hx⟩ (by simp; omega) ?_
  unfold sF
  have hrn:rnOk [(E.n0,E.n0),(E.n0+1,E.n0+29698)]:=by simp[lK,toB,eTk_w,eTk_s,hfn,hk1]
  refine Conv.sub [(E.n0,E.n0),(E.n0+1,E.n0+29698)] hrn ?_ ?_ ?_ ?_ ?_<;>(try simp[lK,toB,eTk_w,eTk_s,hfn,hk1])
  all_goals exact renL_pure rfl (pureL_append (pure_tks _) rfl)
end Go.Am
namespace Go.Am
set_option linter.all false
open Go Go.RowKit Go.Proofs
set_option maxRecDepth 100000
set_option linter.all false
def sPr(l:List Ty):List UInt8×Int:=if fCheckT l=0 then (tkB (tkSch l),0) else ([],fCheckT l)
theorem wri_w(s:List UInt8):Wri (tkW s):=wri_oth 1 0 s (by decide) (by decide)
theorem wri_s(c:UInt8):Wri (tkS c):=wri_oth 4 0 [c] (by decide) (by decide)
theorem tkSch_ws(l:List Ty):∀t∈tkSch l,(∃s,t=tkW s)∨∃c,t=tkS c:=by
 have hO:∀f:Fd,∀t∈tkOf f,(∃s,t=tkW s)∨∃c,t=tkS c:=fun f t ht=>by
  unfold tkOf at ht
  repeat' split at ht
  all_goals simp at ht
  ·exact .inl ⟨_,ht⟩
  ·exact .inl ⟨_,ht⟩
  ·exact .inl ⟨_,ht⟩
  ·rcases ht with h|h|h
   ·exact .inr ⟨_,h⟩
   ·exact .inl ⟨_,h⟩
   ·exact .inr ⟨_,h⟩
 have hF:∀f:Fd,∀t∈tkFd f,(∃s,t=tkW s)∨∃c,t=tkS c:=fun f t ht=>by
  unfold tkFd at ht
  rcases List.mem_cons.1 ht with h|ht
  ·exact .inl ⟨_,h⟩
  rcases List.mem_cons.1 ht with h|ht
  ·exact .inr ⟨_,h⟩
  ·exact hO f t ht
 intro t ht
 unfold tkSch at ht
 obtain⟨y,_,ht⟩:=List.mem_flatMap.1 ht
 unfold tkTy at ht
 rcases List.mem_cons.1 ht with h|ht
 ·exact .inl ⟨_,h⟩
 rcases List.mem_cons.1 ht with h|ht
 ·exact .inl ⟨_,h⟩
 rcases List.mem_cons.1 ht with h|ht
 ·exact .inr ⟨_,h⟩
 rcases List.mem_append.1 ht with ht|ht
 ·obtain⟨f,_,ht⟩:=List.mem_flatMap.1 ht
  exact hF f t ht
 ·exact .inr ⟨_,by simpa using ht⟩
theorem sPrint_ok(l:List Ty)(id:Nat):FnOk Tryz.prog 24 [.sl (l.map eTy)] [] id (.tup [.str (sPr l).1,.int .i64 (sPr l).2]) []:=by
 have hC:=fun id=>sCheck_ok l id
 by_cases hc:fCheckT l=0
 ·have e:sPr l=(tkB (tkSch l),0):=by unfold sPr; rw[if_pos hc]
  have hT:=fun id=>sTokens_ok l id hc
  have hfew:=few_sch l (tyP_of hc)
  have hl5:=(fCheckT_zero.1 hc).2.1
  have h1:=hfew.2.1
  have h2:=hfew.2.2
  have hB:=fun id=>tBytes_ok (tkSch l) id (fun t ht=>by
   rcases tkSch_ws l t ht with⟨s,rfl⟩|⟨c,rfl⟩
   ·exact wri_w s
   ·exact wri_s c) (by omega) (by omega)
  rw[hc] at hC
  rw[e]
  refine fn_okc Tryz.func24 hcc24 (by decide) hcr24 (by simp[Tryz.ntmps24]) fun E hP hR hl hid=>?_
  simp only[cr24] at hR
  refine w_go 4000 ?_
  simp[cc24]
  (refine w_call hP rfl (hC _) (by simp) (by simp<;>rfl) ?_; refine w_go 4000 ?_; simp)
  (refine w_call hP rfl (hT _) (by simp) (by simp<;>rfl) ?_; refine w_go 4000 ?_; simp)
  (refine w_call hP rfl (hB _) (by simp) (by simp<;>rfl) ?_; refine w_go 4000 ?_; simp)
  rw[hR]; exact rt_end (by simp<;>rfl) [] trivial (end_pure (by simp) (by simp) (by simp))
 ·have e:sPr l=([],fCheckT l):=by unfold sPr; rw[if_neg hc]
  rw[e]
  refine fn_okc Tryz.func24 hcc24 (by decide) hcr24 (by simp[Tryz.ntmps24]) fun E hP hR hl hid=>?_
  simp only[cr24] at hR
  refine w_go 4000 ?_
  simp[cc24]
  (refine w_call hP rfl (hC _) (by simp) (by simp<;>rfl) ?_; refine w_go 4000 ?_; simp)
  refine goc_true (by simpa using hc) ?_
  simp
  rw[hR]; exact rt_end (by simp<;>rfl) [] trivial (end_pure (by simp) (by simp) (by simp))
end Go.Am
