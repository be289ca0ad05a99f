/- Parts of the proof: an abstract machine for Go functions, and what functions of the program give back (Qr15, Qr16, Qr17, Lx14, Lx15, Qr18, St1, St2, Qr19, Qr20, Qz1). No condition. -/
import Derived.Test.YtgfmjhmjnnpcgaaGreatDoorXL
import Derived.Test.YtgfmjhmjnnpcgaaGreatDoorXJ
import Derived.Test.YtgfmjhmjnnpcgaaGreatDoorXH
import Derived.Test.YtgfmjhmjnnpcgaaGreatDoorXK
namespace Go.Am
set_option linter.all false
open Go Go.RowKit Go.Proofs
set_option maxRecDepth 100000
set_option linter.all false
theorem rd_self(M:Nat)(b:Bx):Rd [(M,b)] (.bsl M 0 b.xs.length) (.sl b.xs) :=
 .bsl M 0 b.xs.length b b.xs (List.mem_cons_self ..) (by omega) rfl (fun i x y h1 h2=>by rw[Nat.zero_add] at h1; rw[h1] at h2; injection h2 with h2; rw[h2]) fun i x y j c d h1 h2 h3 h4=>by
  rw[Nat.zero_add] at h1; rw[h1] at h2; injection h2 with h2; subst h2; rw[h3] at h4; injection h4 with h4; subst h4; exact .same _
end Go.Am
namespace Go.Am
set_option linter.all false
open Go Go.RowKit Go.Proofs
set_option maxRecDepth 100000
set_option linter.all false
theorem Word_ok(s:List UInt8)(id:Nat):FnOk Tryz.prog 92 [.str s] [] id (.agg [.int .i64 1,.str s,.int .i64 0]) []:=by
 refine fn_okc Tryz.func92 hcc92 (by decide) hcr92 (by simp[Tryz.ntmps92]) fun E hP hR hl hid=>?_
 simp only[cr92] at hR
 refine w_go 4000 ?_
 simp[cc92]
 have hrn:rnOk []:=by simp[idO hid]
 rw[hR]
 refine rt_end (by simp<;>rfl) [] hrn ⟨?_,?_,?_,?_,?_,?_⟩<;>(try simp[idO hid])
theorem Sign_ok(s:List UInt8)(id:Nat):FnOk Tryz.prog 93 [.str s] [] id (.agg [.int .i64 4,.str s,.int .i64 0]) []:=by
 refine fn_okc Tryz.func93 hcc93 (by decide) hcr93 (by simp[Tryz.ntmps93]) fun E hP hR hl hid=>?_
 simp only[cr93] at hR
 refine w_go 4000 ?_
 simp[cc93]
 have hrn:rnOk []:=by simp[idO hid]
 rw[hR]
 refine rt_end (by simp<;>rfl) [] hrn ⟨?_,?_,?_,?_,?_,?_⟩<;>(try simp[idO hid])
theorem apt3{a b c:Nat}(h:[a,b,c].Nodup):((a=b)=False∧(b=a)=False)∧((a=c)=False∧(c=a)=False)∧(b=c)=False∧(c=b)=False:=by
 simp at h
 obtain⟨⟨h1,h2⟩,h3⟩:=h
 exact⟨⟨eq_false h1,eq_false (Ne.symm h1)⟩,⟨eq_false h2,eq_false (Ne.symm h2)⟩,eq_false h3,eq_false (Ne.symm h3)⟩
def toB(l:List Tk):Bx:=⟨l.map eTk,.agg [.int .i64 0,.str [],.int .i64 0],false,false⟩
theorem toB_eq(l:List Tk):toB l=⟨l.map eTk,.agg [.int .i64 0,.str [],.int .i64 0],false,false⟩:=rfl
theorem tk_cells(xs:List Tk):∀a:Tk,a∈xs→(match eTk a with|AV.agg cs=>cs|v=>[v]).length=3∧∀x:AV,(x∈match eTk a with|AV.agg cs=>cs|v=>[v])→(match x with|AV.agg cs=>false|AV.tup cs=>false|x=>true)=true:=fun a _=>by
 simp[eTk]
theorem sPut_ok(xs ys:List Tk)(T K M id:Nat)(hd:[T,K,M].Nodup)(hl8:ys.length+xs.length≤1099511627776):
  FnOk Tryz.prog 91 [.bsl T 0 xs.length,.ptr K 0 0] [(T,toB xs),(K,lK (.bsl M 0 ys.length)),(M,toB ys)] id (.tup []) [(K,some (lK (.bsl id 0 (ys.length+xs.length)))),(M,none),(id,some (toB (ys++xs)))]:=by
 have d:=apt3 hd
 have hex:(ys++xs).map eTk=ys.map eTk++xs.map eTk:=by simp
 rw[toB_eq,toB_eq,toB_eq,lK_eq,lK_eq,hex]
 refine fn_okc Tryz.func91 hcc91 (by decide) hcr91 (by simp[Tryz.ntmps91]) fun E hP hR hl hid=>?_
 simp only[cr91] at hR
 refine w_go 4000 ?_
 simp[cc91]
 have hT:=hl (T,_) (List.mem_cons_self ..)
 simp only at hT
 have T1:=lf hT
 have hK:=hl (K,_) (List.mem_cons_of_mem _ (List.mem_cons_self ..))
 simp only at hK
 have K1:=lf hK
 have hM:=hl (M,_) (List.mem_cons_of_mem _ (List.mem_cons_of_mem _ (List.mem_cons_self ..)))
 simp only at hM
 have M1:=lf hM
 simp[T1,K1,M1,d]
 refine⟨⟨tk_cells xs,by omega,by omega⟩,?_⟩
 have hrn:rnOk [(id,E.n0+2048)]:=by simp[T1,K1,M1,d,idO hid]
 rw[hR]
 refine rt_end (by simp<;>rfl) [(id,E.n0+2048)] hrn ⟨?_,?_,?_,?_,?_,?_⟩<;>(try simp[T1,K1,M1,d,idO hid])
 exact renL_pure rfl (pureL_append (pure_tks _) (pure_tks _))
theorem qPut_ok(xs ys:List Tk)(T K M id:Nat)(hd:[T,K,M].Nodup)(hl8:ys.length+xs.length≤1099511627776):
  FnOk Tryz.prog 100 [.bsl T 0 xs.length,.ptr K 0 0] [(T,toB xs),(K,lK (.bsl M 0 ys.length)),(M,toB ys)] id (.tup []) [(K,some (lK (.bsl id 0 (ys.length+xs.length)))),(M,none),(id,some (toB (ys++xs)))]:=by
 have d:=apt3 hd
 have hex:(ys++xs).map eTk=ys.map eTk++xs.map eTk:=by simp
 rw[toB_eq,toB_eq,toB_eq,lK_eq,lK_eq,hex]
 refine fn_okc Tryz.func100 hcc100 (by decide) hcr100 (by simp[Tryz.ntmps100]) fun E hP hR hl hid=>?_
 simp only[cr100] at hR
 refine w_go 4000 ?_
 simp[cc100]
 have hT:=hl (T,_) (List.mem_cons_self ..)
 simp only at hT
 have T1:=lf hT
 have hK:=hl (K,_) (List.mem_cons_of_mem _ (List.mem_cons_self ..))
 simp only at hK
 have K1:=lf hK
 have hM:=hl (M,_) (List.mem_cons_of_mem _ (List.mem_cons_of_mem _ (List.mem_cons_self ..)))
 simp only at hM
 have M1:=lf hM
 simp[T1,K1,M1,d]
 refine⟨⟨tk_cells xs,by omega,by omega⟩,?_⟩
 have hrn:rnOk [(id,E.n0+2048)]:=by simp[T1,K1,M1,d,idO hid]
 rw[hR]
 refine rt_end (by simp<;>rfl) [(id,E.n0+2048)] hrn ⟨?_,?_,?_,?_,?_,?_⟩<;>(try simp[T1,K1,M1,d,idO hid])
 exact renL_pure rfl (pureL_append (pure_tks _) (pure_tks _))
theorem qPutS_ok(xs ys:List Tk)(K M id:Nat)(hd:K≠M)(hl8:ys.length+xs.length≤1099511627776):
  FnOk Tryz.prog 100 [.sl (xs.map eTk),.ptr K 0 0] [(K,lK (.bsl M 0 ys.length)),(M,toB ys)] id (.tup []) [(K,some (lK (.bsl id 0 (ys.length+xs.length)))),(M,none),(id,some (toB (ys++xs)))]:=by
 have hex:(ys++xs).map eTk=ys.map eTk++xs.map eTk:=by simp
 rw[toB_eq,toB_eq,lK_eq,lK_eq,hex]
 refine fn_okc Tryz.func100 hcc100 (by decide) hcr100 (by simp[Tryz.ntmps100]) fun E hP hR hl hid=>?_
 simp only[cr100] at hR
 refine w_go 4000 ?_
 simp[cc100]
 have hK:=hl (K,_) (List.mem_cons_self ..)
 simp only at hK
 have K1:=lf hK
 have hM:=hl (M,_) (List.mem_cons_of_mem _ (List.mem_cons_self ..))
 simp only at hM
 have M1:=lf hM
 simp[K1,M1,hd,Ne.symm hd]
 refine⟨⟨tk_cells xs,by omega,by omega⟩,?_⟩
 have hrn:rnOk [(id,E.n0+2048)]:=by simp[K1,M1,hd,Ne.symm hd,idO hid]
 rw[hR]
 refine rt_end (by simp<;>rfl) [(id,E.n0+2048)] hrn ⟨?_,?_,?_,?_,?_,?_⟩<;>(try simp[K1,M1,hd,Ne.symm hd,idO hid])
 exact renL_pure rfl (pureL_append (pure_tks _) (pure_tks _))
theorem eTk_w(s:List UInt8):eTk (tkW s) = .agg [.int .i64 1,.str s,.int .i64 0]:=rfl
theorem eTk_s(c:UInt8):eTk (tkS c) = .agg [.int .i64 4,.str [c],.int .i64 0]:=rfl
end Go.Am
namespace Go.Am
set_option linter.all false
open Go Go.RowKit Go.Proofs
set_option maxRecDepth 100000
set_option linter.all false
theorem fm_snoc{α:Type}{l:List α}{i:Nat}{x:α}(g:α→List Tk)(h:l[i]?=some x):(l.take (i+1)).flatMap g=(l.take i).flatMap g++g x:=by
 rw[take_snoc h,List.flatMap_append]; simp
theorem fm_len{α:Type}(l:List α)(i:Nat)(g:α→List Tk):((l.take i).flatMap g).length≤(l.flatMap g).length:=by
 conv=>rhs; rw[←List.take_append_drop i l,List.flatMap_append,List.length_append]
 omega
end Go.Am
namespace Go.Am
set_option linter.all false
open Go Go.RowKit Go.Proofs
set_option maxRecDepth 100000
set_option linter.all false
set_option maxHeartbeats 4000000 in
theorem tCheck_ok(l:List Tk)(id:Nat):FnOk Tryz.prog 20 [.sl (l.map eTk)] [] id (.int .i64 (fTks l)) []:=by
 by_cases hm:300<l.length
 ·have e:fTks l=2:=by unfold fTks; rw[if_pos hm]
  rw[e]
  refine fn_okc Tryz.func20 hcc20 (by decide) hcr20 (by simp[Tryz.ntmps20]) fun E hP hR hl hid=>?_
  simp only[cr20] at hR
  refine w_go 4000 ?_
  simp[cc20]
  refine goc_true (by simp; omega) ?_
  simp
  rw[hR]; exact rt_end (by simp<;>rfl) [] trivial (end_pure (by simp) (by simp) (by simp))
 have e:fTks l=fTkL l:=by unfold fTks; rw[if_neg hm]
 rw[e]
 refine fn_okc Tryz.func20 hcc20 (by decide) hcr20 (by simp[Tryz.ntmps20]) fun E hP hR hl hid=>?_
 simp only[cr20] at hR
 refine w_go 4000 ?_
 simp[cc20]
 refine goc_false (by simp; omega) ?_
 simp
 refine w_loop (X:=Nat) (fun i=>⟨[(9,true,.sl (l.map eTk)),(10,true,.int .i64 l.length),(11,true,.int .i64 i)],[],0⟩)
  (fun i=>i≤l.length∧fTkL (l.drop i)=fTkL l) (fun i=>l.length - i) 0 ?_ ⟨by omega,rfl⟩ ?_
 ·have hrn:rnOk []:=by simp
  refine Conv.sub [] hrn ?_ ?_ ?_ ?_ ?_<;>(try simp)
 rintro i ⟨hi,hf⟩ p hp
 rcases Nat.lt_or_ge i l.length with h|h
 ·obtain⟨t,ht,hd⟩:=drop_cons h
  have hi1:IntKind.i64.wrap ((i:Int)+1)=((i+1:Nat):Int):=wrap64 (by omega)
  have hO:=fun id=>one_ok t id
  unfold eTk at hO
  have hli:l[i]=t:=by
   rw[List.getElem?_eq_getElem h] at ht
   injection ht
  rw[hd] at hf
  simp only[fTkL] at hf
  refine w_go 4000 ?_
  simp[h,hli,eTk]
  (refine w_call hP rfl (hO _) (by simp) (by simp<;>rfl) ?_; refine w_go 4000 ?_; simp)
  by_cases h0:fTk t=0
  ·rw[if_neg (by simpa using h0)] at hf
   refine goc_false (by simp[h0]) ?_
   simp
   refine hp _ (i+1) ⟨h,hf⟩ (by omega) ?_
   have hrn:rnOk []:=by simp[hi1]
   refine Conv.sub [] hrn ?_ ?_ ?_ ?_ ?_<;>(try simp[hi1])
  ·rw[if_pos h0] at hf
   rw[←hf] at hR
   refine goc_true (by simpa using h0) ?_
   simp
   rw[hR]; exact rt_end (by simp<;>rfl) [] trivial (end_pure (by simp) (by simp) (by simp))
 ·rw[List.drop_of_length_le h] at hf
  have hf:0=fTkL l:=hf
  rw[←hf] at hR
  refine w_go 4000 ?_
  simp[Nat.not_lt.2 h]
  rw[hR]; exact rt_end (by simp<;>rfl) [] trivial (end_pure (by simp) (by simp) (by simp))
end Go.Am
namespace Go.Am
set_option linter.all false
open Go Go.RowKit Go.Proofs
set_option maxRecDepth 100000
set_option linter.all false
def Wri(t:Tk):Prop:=∀id,FnOk Tryz.prog 76 [eTk t] [] id (.str (wrTk t)) []
theorem wri_num(n:Int)(tx:List UInt8)(h : -999999999≤n∧n≤999999999):Wri ⟨2,tx,n⟩:=fun id=>by
 have hI:=fun id=>Itoa_ok n id (by unfold I64; omega)
 unfold eTk
 have e:wrTk ⟨2,tx,n⟩=Lib.itoa n:=by simp[wrTk]
 rw[e]
 refine fn_okc Tryz.func76 hcc76 (by decide) hcr76 (by simp[Tryz.ntmps76]) fun E hP hR hl hid=>?_
 simp only[cr76] at hR
 refine w_go 4000 ?_
 simp[cc76]
 (refine w_call hP rfl (hI _) (by simp) (by simp<;>rfl) ?_; refine w_go 4000 ?_; simp)
 rw[hR]; exact rt_end (by simp<;>rfl) [] trivial (end_pure (by simp) (by simp) (by simp))
theorem wri_oth(k n:Int)(tx:List UInt8)(h2:k≠2)(h3:k≠3):Wri ⟨k,tx,n⟩:=fun id=>by
 unfold eTk
 have e:wrTk ⟨k,tx,n⟩=tx:=by simp[wrTk,h2,h3]
 rw[e]
 have e2:(k==2)=false:=by simpa using h2
 have e3:(k==3)=false:=by simpa using h3
 refine fn_okc Tryz.func76 hcc76 (by decide) hcr76 (by simp[Tryz.ntmps76]) fun E hP hR hl hid=>?_
 simp only[cr76] at hR
 refine w_go 4000 ?_
 simp[cc76]
 refine goc_false e2 ?_
 simp
 refine goc_false e3 ?_
 simp
 rw[hR]; exact rt_end (by simp<;>rfl) [] trivial (end_pure (by simp) (by simp) (by simp))
theorem pure_strs(l:List (List UInt8)):pureL (l.map AV.str)=true:=pureL_map (fun _=>rfl) l
theorem pureL_tk{l:List AV}(h:pureL l=true)(n:Nat):pureL (l.take n)=true:=pureL_of fun i x hx=>by
 rw[List.getElem?_take] at hx
 split at hx
 ·exact pureL_get h hx
 ·cases hx
set_option maxHeartbeats 4000000 in
theorem tBytes_ok(l:List Tk)(id:Nat)(hW:∀t∈l,Wri t)(h8:wSum l≤1099511627776)(h9:l.length≤1099511627776):FnOk Tryz.prog 39 [.sl (l.map eTk)] [] id (.str (tkB l)) []:=by
 have hjl:(Lib.join (l.map wrTk) [32]).length≤140737488355328:=by
  have:=tkB_len l
  unfold tkB at this; omega
 have hres:(.str (tkB l):AV) = .str (Lib.join (l.map wrTk) [32]):=rfl
 rw[hres]
 have hxi:∀(i:Nat) (t:Tk),l[i]?=some t→(l.map wrTk)[i]?=some (wrTk t):=fun i t h=>by rw[List.getElem?_map,h]; rfl
 have hxl:(l.map wrTk).length=l.length:=by simp
 generalize l.map wrTk=xs at *
 refine fn_okc Tryz.func39 hcc39 (by decide) hcr39 (by simp[Tryz.ntmps39]) fun E hP hR hl hid=>?_
 simp only[cr39] at hR
 refine w_go 4000 ?_
 simp[cc39]
 refine w_loop (X:=Nat) (fun i=>⟨[(3,true,.bsl E.n0 0 i),(6,true,.sl (l.map eTk)),(7,true,.int .i64 l.length),(8,true,.int .i64 i)],[(E.n0,some ⟨(xs.map AV.str).take i,.str [],false,false⟩)],1⟩)
  (fun i=>i≤l.length) (fun i=>l.length - i) 0 ?_ (by omega) ?_
 ·refine Conv.trans (Conv.voidSlot 3 (x:=.nils) (y:=.bsl (E.n0+5120) 0 0) (by simp) .nils (.str [])) ?_
  have hrn:rnOk [(E.n0,E.n0+5120)]:=by simp
  refine Conv.sub [(E.n0,E.n0+5120)] hrn ?_ ?_ ?_ ?_ ?_<;>(try simp)
 rintro i hi p hp
 rcases Nat.lt_or_ge i l.length with h|h
 ·obtain⟨t,ht,hd⟩:=drop_cons h
  have hli:l[i]=t:=by
   rw[List.getElem?_eq_getElem h] at ht
   injection ht
  have hi1:IntKind.i64.wrap ((i:Int)+1)=((i+1:Nat):Int):=wrap64 (by omega)
  have hw:=hW t (List.mem_of_getElem? ht)
  unfold Wri eTk at hw
  have hst:(xs.map AV.str).take (i+1)=(xs.map AV.str).take i++[.str (wrTk t)]:=take_snoc (by rw[List.getElem?_map,hxi i t ht]; rfl)
  refine w_go 4000 ?_
  simp[h,hli,eTk]
  (refine w_call hP rfl (hw _) (by simp) (by simp<;>rfl) ?_; refine w_go 4000 ?_; simp)
  refine⟨⟨by omega,by omega,by omega⟩,?_⟩
  refine hp _ (i+1) h (by omega) ?_
  have hrn:rnOk [(E.n0,E.n0+9217)]:=by simp[hi1,hst]
  refine Conv.sub [(E.n0,E.n0+9217)] hrn ?_ ?_ ?_ ?_ ?_<;>(try simp[hi1,hst])
  exact renL_pure rfl (pureL_append (pureL_tk (pure_strs _) _) rfl)
 ·have hil:i=l.length:=by omega
  have hka:(xs.map AV.str).take i=xs.map AV.str:=List.take_of_length_le (by simp; omega)
  have hle:i≤xs.length:=by omega
  have hJo:=fun id=>Join_ok xs [32] id (by omega) hjl
  refine w_go 4000 ?_
  simp[Nat.not_lt.2 h,hka]
  (refine w_callR hP rfl (hJo _) (by simp[hka,hle]<;>rfl) (by simp[hka,hle]) (by simp[hka,hle]<;>rfl) (by simp[hka,hle]) ?_; refine w_go 4000 ?_; simp[hka,hle])
  rw[hR]; exact rt_end (by simp<;>rfl) [] trivial (end_pure (by simp) (by simp) (by simp))
end Go.Am
namespace Go.Am
set_option linter.all false
open Go Go.RowKit Go.Proofs
set_option maxRecDepth 100000
set_option linter.all false
theorem wri_w(s:List UInt8):Wri (tkW s):=wri_oth 1 0 s (by decide) (by decide)
theorem wri_s(c:UInt8):Wri (tkS c):=wri_oth 4 0 [c] (by decide) (by decide)
end Go.Am
namespace Go.Am
set_option linter.all false
open Go Go.RowKit Go.Proofs
set_option maxRecDepth 100000
set_option linter.all false
theorem rSign_ok(s:List UInt8)(id:Nat):FnOk Tryz.prog 43 [.str s] [] id (.bool (decide (s.length=1)&&s.all sgC)) []:=by
 have hb:∀s:List UInt8,(decide (s.length=1)&&s.all sgC)=(s==[123]||s==[125]||s==[40]||s==[41]||s==[58]||s==[91]||s==[93]):=fun s =>
  match s with
  | []=>by rfl
  | [c]=>by
   simp only[sgC,List.contains_cons,List.contains_nil,Bool.or_false,List.all_cons,List.all_nil,Bool.and_true,List.length_singleton,decide_true,Bool.true_and,List.cons_beq_cons,BEq.rfl,Bool.or_assoc]
  | c::d::r=>by simp
 refine fn_okc Tryz.func43 hcc43 (by decide) hcr43 (by simp[Tryz.ntmps43]) fun E hP hR hl hid=>?_
 simp only[cr43] at hR
 refine w_go 4000 ?_
 simp[cc43]
 refine⟨by grind,by grind,by grind,by grind,by grind,by grind,?_⟩
 rw[hR]; exact rt_end (by simp<;>rfl) [] trivial (end_pure (by simp; rw[hb,show ((s.length:Int)==1)=decide (s.length=1) from by rw[Bool.eq_iff_iff]; simp; omega]; cases hd:decide (s.length=1)<;>simp; refine⟨⟨⟨⟨⟨⟨?_,?_⟩,?_⟩,?_⟩,?_⟩,?_⟩,?_⟩<;>(rintro rfl; simp at hd)) (by simp) (by simp))
theorem rWord_ok(l:List Tk)(i:Nat)(id:Nat):FnOk Tryz.prog 57 [.sl (l.map eTk),.int .i64 i] [] id (.bool (isW (l.drop i))) []:=by
 cases hx:l[i]? with
 | none =>
  have h:l.length≤i:=List.getElem?_eq_none_iff.1 hx
  rw[List.drop_of_length_le h]
  refine fn_okc Tryz.func57 hcc57 (by decide) hcr57 (by simp[Tryz.ntmps57]) fun E hP hR hl hid=>?_
  simp only[cr57] at hR
  refine w_go 4000 ?_
  simp[cc57,hx,Nat.not_lt.2 h]
  rw[hR]; exact rt_end (by simp<;>rfl) [] trivial (end_pure (by simp; rfl) (by simp) (by simp))
 | some t =>
  have h:=(List.getElem?_eq_some_iff.1 hx).1
  rw[show l.drop i=t::l.drop (i+1) from by obtain⟨y,hy,hd⟩:=drop_cons h; rw[hx] at hy; injection hy with hy; rw[hd,hy]]
  refine fn_okc Tryz.func57 hcc57 (by decide) hcr57 (by simp[Tryz.ntmps57]) fun E hP hR hl hid=>?_
  simp only[cr57] at hR
  refine w_go 4000 ?_
  simp[cc57,hx,h,eTk]
  rw[hR]; exact rt_end (by simp<;>rfl) [] trivial (end_pure (by simp; rw[Bool.eq_iff_iff]; simp[isW,(List.getElem?_eq_some_iff.1 hx).2]) (by simp) (by simp))
theorem rTok_ok(l:List Tk)(i:Nat)(c:UInt8)(id:Nat):FnOk Tryz.prog 58 [.sl (l.map eTk),.int .i64 i,.str [c]] [] id (.bool (isS (l.drop i) c)) []:=by
 cases hx:l[i]? with
 | none =>
  have h:l.length≤i:=List.getElem?_eq_none_iff.1 hx
  rw[List.drop_of_length_le h]
  refine fn_okc Tryz.func58 hcc58 (by decide) hcr58 (by simp[Tryz.ntmps58]) fun E hP hR hl hid=>?_
  simp only[cr58] at hR
  refine w_go 4000 ?_
  simp[cc58,hx,Nat.not_lt.2 h]
  rw[hR]; exact rt_end (by simp<;>rfl) [] trivial (end_pure (by simp; rfl) (by simp) (by simp))
 | some t =>
  have h:=(List.getElem?_eq_some_iff.1 hx).1
  rw[show l.drop i=t::l.drop (i+1) from by obtain⟨y,hy,hd⟩:=drop_cons h; rw[hx] at hy; injection hy with hy; rw[hd,hy]]
  refine fn_okc Tryz.func58 hcc58 (by decide) hcr58 (by simp[Tryz.ntmps58]) fun E hP hR hl hid=>?_
  simp only[cr58] at hR
  refine w_go 4000 ?_
  simp[cc58,hx,h,eTk]
  rw[hR]; exact rt_end (by simp<;>rfl) [] trivial (end_pure (by simp; rw[Bool.eq_iff_iff]; simp[isS,(List.getElem?_eq_some_iff.1 hx).2]) (by simp) (by simp))
theorem rMkW_ok(s:List UInt8)(id:Nat):FnOk Tryz.prog 61 [.str s] [] id (eTk (tkW s)) []:=by
 refine fn_okc Tryz.func61 hcc61 (by decide) hcr61 (by simp[Tryz.ntmps61]) fun E hP hR hl hid=>?_
 simp only[cr61] at hR
 refine w_go 4000 ?_
 simp[cc61]
 have hrn:rnOk []:=by simp[eTk,tkW,idO hid]
 rw[hR]
 refine rt_end (by simp<;>rfl) [] hrn ⟨?_,?_,?_,?_,?_,?_⟩<;>(try simp[eTk,tkW,idO hid])
theorem rMkS_ok(c:UInt8)(id:Nat):FnOk Tryz.prog 62 [.str [c]] [] id (eTk (tkS c)) []:=by
 refine fn_okc Tryz.func62 hcc62 (by decide) hcr62 (by simp[Tryz.ntmps62]) fun E hP hR hl hid=>?_
 simp only[cr62] at hR
 refine w_go 4000 ?_
 simp[cc62]
 have hrn:rnOk []:=by simp[eTk,tkS,idO hid]
 rw[hR]
 refine rt_end (by simp<;>rfl) [] hrn ⟨?_,?_,?_,?_,?_,?_⟩<;>(try simp[eTk,tkS,idO hid])
end Go.Am
namespace Go.Am
set_option linter.all false
open Go Go.RowKit Go.Proofs
set_option maxRecDepth 100000
set_option linter.all false
theorem lQ_len(c:UInt8):1≤(lQ c).length∧(lQ c).length≤2:=by
 unfold lQ
 repeat' split
 all_goals simp
theorem lQs_take{s:List UInt8}{i:Nat}{c:UInt8}(h:s[i]?=some c):lQs (s.take (i+1))=lQs (s.take i)++lQ c:=by
 rw[List.take_succ,h]; simp[lQs]
theorem lQs_le(s:List UInt8):s.length≤(lQs s).length:=by
 induction s with
 | nil=>simp[lQs]
 | cons c r ih =>
  have:=(lQ_len c).1
  simp[lQs] at ih ⊢; omega
theorem lQs_ln(s:List UInt8):(lQs s).length≤2*s.length:=by
 induction s with
 | nil=>simp[lQs]
 | cons c r ih =>
  have:=(lQ_len c).2
  simp[lQs] at ih ⊢; omega
set_option maxHeartbeats 4000000 in
theorem rQuoted_ok(s:List UInt8)(id:Nat)(h8:s.length≤1099511627776):FnOk Tryz.prog 48 [.str s] [] id (.str (34::(lQs s++[34]))) []:=by
 refine fn_okc Tryz.func48 hcc48 (by decide) hcr48 (by simp[Tryz.ntmps48]) fun E hP hR hl hid=>?_
 simp only[cr48] at hR
 refine w_go 4000 ?_
 simp[cc48]
 refine w_loop (X:=Nat) (fun i=>⟨[(0,true,.str s),(3,true,.str (34::lQs (s.take i))),(4,true,.int .i64 i)],[],0⟩)
  (fun i=>i≤s.length) (fun i=>s.length - i) 0 ?_ (by omega) ?_
 ·have h1:lQs []=[]:=rfl
  have hrn:rnOk []:=by simp[h1]
  refine Conv.sub [] hrn ?_ ?_ ?_ ?_ ?_<;>(try simp[h1])
 rintro i hi p hp
 have h34:∀(c:UInt8) (n:Nat),n<256→(((c.toNat:Int)==(n:Int))=true↔c=UInt8.ofNat n):=fun c n hn=>by
  rw[beq_iff_eq]
  constructor
  ·intro h
   have h:c.toNat=n:=by omega
   rw[←h]; simp
  ·intro h
   subst h
   simp; omega
 have hql:=lQs_ln (s.take i)
 rw[List.length_take] at hql
 refine w_go 4000 ?_
 simp
 refine goc (fun h=>?_) (fun h=>?_)
 ·have h:=of_decide_eq_true h
  obtain⟨c,hc,hd⟩:=drop_cons h
  have hi1:IntKind.i64.wrap ((i:Int)+1)=((i+1:Nat):Int):=wrap64 (by omega)
  have hst:=lQs_take hc
  have hc8:=c.toNat_lt
  have hone:(s.take (i+1)).drop i=[c]:=by
   rw[List.take_succ,hc]
   rw[List.drop_append_of_le_length (by simp; omega),List.drop_of_length_le (by simp; omega)]; rfl
  simp[hc]
  refine⟨h,?_⟩
  refine goc (fun g=>?_) (fun g=>?_)<;>simp
  ·have g:c=34:=(h34 c 34 (by omega)).1 g
   have hq:lQ c=[92,34]:=by unfold lQ; rw[if_pos g]
   rw[hq] at hst
   refine⟨by omega,?_⟩
   refine hp _ (i+1) h (by omega) ?_
   have hrn:rnOk []:=by simp[hi1,hst]
   refine Conv.sub [] hrn ?_ ?_ ?_ ?_ ?_<;>(try simp[hi1,hst])
  have g:c≠34:=fun e=>absurd ((h34 c 34 (by omega)).2 e) (by rw[Bool.not_eq_true]; exact g)
  refine goc (fun g1=>?_) (fun g1=>?_)<;>simp
  ·have g1:c=92:=(h34 c 92 (by omega)).1 g1
   have hq:lQ c=[92,92]:=by unfold lQ; rw[if_neg g,if_pos g1]
   rw[hq] at hst
   refine⟨by omega,?_⟩
   refine hp _ (i+1) h (by omega) ?_
   have hrn:rnOk []:=by simp[hi1,hst]
   refine Conv.sub [] hrn ?_ ?_ ?_ ?_ ?_<;>(try simp[hi1,hst])
  have g1:c≠92:=fun e=>absurd ((h34 c 92 (by omega)).2 e) (by rw[Bool.not_eq_true]; exact g1)
  refine goc (fun g2=>?_) (fun g2=>?_)<;>simp
  ·have g2:c=10:=(h34 c 10 (by omega)).1 g2
   have hq:lQ c=[92,110]:=by unfold lQ; rw[if_neg g,if_neg g1,if_pos g2]
   rw[hq] at hst
   refine⟨by omega,?_⟩
   refine hp _ (i+1) h (by omega) ?_
   have hrn:rnOk []:=by simp[hi1,hst]
   refine Conv.sub [] hrn ?_ ?_ ?_ ?_ ?_<;>(try simp[hi1,hst])
  have g2:c≠10:=fun e=>absurd ((h34 c 10 (by omega)).2 e) (by rw[Bool.not_eq_true]; exact g2)
  have hq:lQ c=[c]:=by unfold lQ; rw[if_neg g,if_neg g1,if_neg g2]
  rw[hq] at hst
  simp[hi1,hone]
  refine⟨by omega,by omega,?_⟩
  refine hp _ (i+1) h (by omega) ?_
  have hrn:rnOk []:=by simp[hi1,hst]
  refine Conv.sub [] hrn ?_ ?_ ?_ ?_ ?_<;>(try simp[hi1,hst])
 ·have h:=of_decide_eq_false h
  have hie:i=s.length:=by omega
  subst hie
  rw[List.take_length] at hql
  simp
  refine⟨by omega,?_⟩
  rw[hR]; exact rt_end (by simp<;>rfl) [] trivial (end_pure (by simp) (by simp) (by simp))
theorem tkB_snoc(a:List Tk)(t:Tk):tkB (a++[t])=tkB a++((if a=[] then [] else [32])++wrTk t):=by
 cases a with
 | nil=>rw[List.nil_append,tkB_cons,tkB_nil]; simp
 | cons x r=>rw[List.cons_append,tkB_cons,tkB_cons]; simp
theorem wSum_take(l:List Tk)(i:Nat):wSum (l.take i)≤wSum l:=by
 have:=wSum_app (l.take i) (l.drop i)
 rw[List.take_append_drop] at this
 omega
set_option maxHeartbeats 4000000 in
theorem rBytes_ok(l:List Tk)(id:Nat)(hn:∀t∈l,t.kind=2→-999999999≤t.n∧t.n≤999999999)(h8:wSum l≤1099511627776)(h9:l.length≤1099511627776):FnOk Tryz.prog 19 [.sl (l.map eTk)] [] id (.str (tkB l)) []:=by
 refine fn_okc Tryz.func19 hcc19 (by decide) hcr19 (by simp[Tryz.ntmps19]) fun E hP hR hl hid=>?_
 simp only[cr19] at hR
 refine w_go 4000 ?_
 simp[cc19]
 refine w_loop (X:=Nat) (fun i=>⟨[(0,true,.sl (l.map eTk)),(3,true,.str (tkB (l.take i))),(4,true,.int .i64 i)],[],0⟩)
  (fun i=>i≤l.length) (fun i=>l.length - i) 0 ?_ (by omega) ?_
 ·have hrn:rnOk []:=by simp[tkB_nil]
  refine Conv.sub [] hrn ?_ ?_ ?_ ?_ ?_<;>(try simp[tkB_nil])
 rintro i hi p hp
 have hbl:=tkB_len (l.take i)
 have hbw:=wSum_take l i
 refine w_go 4000 ?_
 simp
 refine goc (fun h=>?_) (fun h=>?_)
 ·have h:=of_decide_eq_true h
  obtain⟨t,hx,hd⟩:=drop_cons h
  have htm:=List.mem_of_getElem? hx
  have hi1:IntKind.i64.wrap ((i:Int)+1)=((i+1:Nat):Int):=wrap64 (by omega)
  have hst:tkB (l.take (i+1))=tkB (l.take i)++((if i=0 then [] else [32])++wrTk t):=by
   rw[List.take_succ,hx]
   refine (tkB_snoc _ _).trans ?_
   have:(l.take i=[])↔i=0:=by
    constructor
    ·intro e
     have:=congrArg List.length e
     rw[List.length_take] at this
     simp only[List.length_nil] at this
     omega
    ·rintro rfl; rfl
   simp[this]
  have hbl2:=tkB_len (l.take (i+1))
  have hbw2:=wSum_take l (i+1)
  rw[hst] at hbl2
  simp only[List.length_append] at hbl2
  have hwr:wrTk t=if t.kind=2 then Lib.itoa t.n else if t.kind=3 then 34::lQs t.text++[34] else t.text:=rfl
  simp[hx,eTk]
  refine goc (fun g=>?_) (fun g=>?_)<;>simp[hx,eTk]
  ·have g:i≠0:=by simp at g; omega
   rw[if_neg g] at hst hbl2
   simp only[List.length_cons,List.length_nil] at hbl2
   refine⟨by omega,h,?_⟩
   refine goc (fun g1=>?_) (fun g1=>?_)<;>simp[hx,eTk]
   ·have g1:t.kind=2:=by simpa using g1
    have hD:=fun id=>Digits_all t.n id (hn t htm g1)
    rw[if_pos g1] at hwr
    rw[hwr] at hst hbl2
    refine⟨h,?_⟩
    (refine w_call hP rfl (hD _) (by simp[hx,eTk]) (by simp[hx,eTk]<;>rfl) ?_; refine w_go 4000 ?_; simp[hx,eTk])
    refine⟨by omega,?_⟩
    refine hp _ (i+1) h (by omega) ?_
    have hrn:rnOk []:=by simp[hi1,hst,g]
    refine Conv.sub [] hrn ?_ ?_ ?_ ?_ ?_<;>(try simp[hi1,hst,g])
   have g1:¬t.kind=2:=by simpa using g1
   refine goc (fun g2=>?_) (fun g2=>?_)<;>simp[hx,eTk]
   ·have g2:t.kind=3:=by simpa using g2
    rw[if_neg g1,if_pos g2] at hwr
    rw[hwr] at hst hbl2
    simp only[List.length_append,List.length_cons,List.length_nil] at hbl2
    have hQ:=fun id=>rQuoted_ok t.text id (by have:=lQs_le t.text; omega)
    refine⟨h,?_⟩
    (refine w_call hP rfl (hQ _) (by simp[hx,eTk]) (by simp[hx,eTk]<;>rfl) ?_; refine w_go 4000 ?_; simp[hx,eTk])
    refine⟨by omega,?_⟩
    refine hp _ (i+1) h (by omega) ?_
    have hrn:rnOk []:=by simp[hi1,hst,g]
    refine Conv.sub [] hrn ?_ ?_ ?_ ?_ ?_<;>(try simp[hi1,hst,g])
   have g2:¬t.kind=3:=by simpa using g2
   rw[if_neg g1,if_neg g2] at hwr
   rw[hwr] at hst hbl2
   refine⟨h,by omega,?_⟩
   refine hp _ (i+1) h (by omega) ?_
   have hrn:rnOk []:=by simp[hi1,hst,g]
   refine Conv.sub [] hrn ?_ ?_ ?_ ?_ ?_<;>(try simp[hi1,hst,g])
  ·have g:i=0:=by simp at g; omega
   rw[if_pos g] at hst hbl2
   have hw1:IntKind.i64.wrap (1:Int)=1:=wrap64 (by omega)
   subst g
   have hbw3:=wSum_take l 1
   simp only[List.take_zero,tkB_nil,List.nil_append,Nat.zero_add] at hst hbl2
   refine⟨h,?_⟩
   refine goc (fun g1=>?_) (fun g1=>?_)<;>simp[hx,eTk]
   ·have g1:t.kind=2:=by simpa using g1
    have hD:=fun id=>Digits_all t.n id (hn t htm g1)
    rw[if_pos g1] at hwr
    rw[hwr] at hst hbl2
    refine⟨h,?_⟩
    (refine w_call hP rfl (hD _) (by simp[hx,eTk]) (by simp[hx,eTk]<;>rfl) ?_; refine w_go 4000 ?_; simp[hx,eTk])
    refine⟨by simp only[tkB_nil,List.length_nil,List.length_append,List.length_cons] at hbl2 ⊢; omega,?_⟩
    refine hp _ 1 h (by omega) ?_
    have hrn:rnOk []:=by simp[hw1,hst,tkB_nil]
    refine Conv.sub [] hrn ?_ ?_ ?_ ?_ ?_<;>(try simp[hw1,hst,tkB_nil])
   have g1:¬t.kind=2:=by simpa using g1
   refine goc (fun g2=>?_) (fun g2=>?_)<;>simp[hx,eTk]
   ·have g2:t.kind=3:=by simpa using g2
    rw[if_neg g1,if_pos g2] at hwr
    rw[hwr] at hst hbl2
    simp only[List.length_append,List.length_cons,List.length_nil] at hbl2
    have hQ:=fun id=>rQuoted_ok t.text id (by have:=lQs_le t.text; omega)
    refine⟨h,?_⟩
    (refine w_call hP rfl (hQ _) (by simp[hx,eTk]) (by simp[hx,eTk]<;>rfl) ?_; refine w_go 4000 ?_; simp[hx,eTk])
    refine⟨by simp only[tkB_nil,List.length_nil,List.length_append,List.length_cons] at hbl2 ⊢; omega,?_⟩
    refine hp _ 1 h (by omega) ?_
    have hrn:rnOk []:=by simp[hw1,hst,tkB_nil]
    refine Conv.sub [] hrn ?_ ?_ ?_ ?_ ?_<;>(try simp[hw1,hst,tkB_nil])
   have g2:¬t.kind=3:=by simpa using g2
   rw[if_neg g1,if_neg g2] at hwr
   rw[hwr] at hst hbl2
   refine⟨h,by simp only[tkB_nil,List.length_nil,List.length_append,List.length_cons] at hbl2 ⊢; omega,?_⟩
   refine hp _ 1 h (by omega) ?_
   have hrn:rnOk []:=by simp[hw1,hst,tkB_nil]
   refine Conv.sub [] hrn ?_ ?_ ?_ ?_ ?_<;>(try simp[hw1,hst,tkB_nil])
 ·have h:=of_decide_eq_false h
  have hie:i=l.length:=by omega
  subst hie
  rw[List.take_length] at hbl
  simp
  rw[hR]; exact rt_end (by simp<;>rfl) [] trivial (end_pure (by simp) (by simp) (by simp))
end Go.Am
namespace Go.Am
set_option linter.all false
open Go Go.RowKit Go.Proofs
set_option maxRecDepth 100000
set_option linter.all false
theorem tkL_eq(l:List Sel):tkL l=l.flatMap tkSel:=by
 induction l with
 | nil=>rfl
 | cons s r ih=>simp[tkL,ih]
def alT(a:List UInt8):List Tk:=if a≠[] then [tkW a,tkS 58] else []
theorem tkHd_eq(a n:List UInt8):tkHd a n=alT a++[tkW n]:=by
 unfold tkHd alT
 split<;>rfl
theorem tkSel_eq(s:Sel):tkSel s=alT s.alias++[tkW s.name]++tkArgs s.args++tkKids s.kids:=by
 obtain⟨a,n,x,k⟩:=s
 simp[tkSel,tkHd_eq,Sel.alias,Sel.name,Sel.args,Sel.kids]
theorem alT_len(a:List UInt8):(alT a).length≤2:=by unfold alT; split<;>simp
theorem agFm_len(x:List Ag):(x.flatMap tkAg).length=3*x.length:=by
 induction x with
 | nil=>rfl
 | cons a r ih=>rw[List.flatMap_cons,List.length_append,ih]; simp[tkAg]; omega
theorem tkArgs_len(x:List Ag):(tkArgs x).length≤3*x.length+2:=by
 have:=agFm_len x
 unfold tkArgs
 split
 ·simp only[List.length_cons,List.length_append,List.length_nil,this]; omega
 ·simp
mutual
theorem tkSel_len:∀s:Sel,(tkSel s).length≤7*s.sz
 | .mk a n x k=>by
  have h1:=alT_len a
  have h2:=tkArgs_len x
  have h3:=tkKids_len k
  simp only[tkSel,tkHd_eq,List.length_append,List.length_cons,List.length_nil,Sel.sz]; omega
theorem tkKids_len:∀l:List Sel,(tkKids l).length≤7*szL l+2
 | []=>by simp[tkKids]
 | s::r=>by
  have h1:=tkSel_len s
  have h2:=tkL_len r
  simp only[tkKids,List.length_cons,List.length_append,List.length_nil,szL]; omega
theorem tkL_len:∀l:List Sel,(tkL l).length≤7*szL l
 | []=>by simp[tkL]
 | s::r=>by
  have h1:=tkSel_len s
  have h2:=tkL_len r
  simp only[tkL,List.length_append,szL]; omega
end
theorem tkSels_len(l:List Sel):(tkSels l).length≤7*szL l+2:=by
 have:=tkL_len l
 simp only[tkSels,List.length_cons,List.length_append,List.length_nil]; omega
def qS(E:Env)(l:List Sel)(i:Nat)(acc:List Tk):St :=
 ⟨[(3,true,.ptr E.n0 0 0),(4,true,.fn 100 [.ptr E.n0 0 0]),(12,true,.sl (l.map eSel)),(13,true,.int .i64 l.length),(14,true,.int .i64 i)],
  [(E.n0,some (lK (.bsl (E.n0+1) 0 acc.length))),(E.n0+1,some (toB acc))],2⟩
def slB(s:Sel):Bx:=⟨[eSel s],.agg [.str [],.str [],.nils,.nils],false,false⟩
def qM(E:Env)(l:List Sel)(i:Nat)(s:Sel)(acc:List Tk):St :=
 ⟨[(3,true,.ptr E.n0 0 0),(4,true,.fn 100 [.ptr E.n0 0 0]),(12,true,.sl (l.map eSel)),(13,true,.int .i64 l.length),(14,true,.int .i64 i),(6,true,.ptr (E.n0+2) 0 0)],
  [(E.n0,some (lK (.bsl (E.n0+1) 0 acc.length))),(E.n0+1,some (toB acc)),(E.n0+2,some (slB s))],3⟩
def qA(E:Env)(l:List Sel)(i:Nat)(s:Sel)(j:Nat)(acc:List Tk):St :=
 ⟨[(3,true,.ptr E.n0 0 0),(4,true,.fn 100 [.ptr E.n0 0 0]),(12,true,.sl (l.map eSel)),(13,true,.int .i64 l.length),(14,true,.int .i64 i),(6,true,.ptr (E.n0+2) 0 0),(43,true,.sl (s.args.map eAg)),(44,true,.int .i64 s.args.length),(45,true,.int .i64 j)],
  [(E.n0,some (lK (.bsl (E.n0+1) 0 acc.length))),(E.n0+1,some (toB acc)),(E.n0+2,some (slB s))],3⟩
theorem eTk_v(a:Ag):eTk (tkV a)=if a.isText=true then .agg [.int .i64 3,.str a.text,.int .i64 0] else .agg [.int .i64 2,.str [],.int .i64 a.n]:=by
 unfold tkV; split<;>rfl
section
variable (E:Env) (hP:E.P=Tryz.prog) (l:List Sel) (i:Nat) (s:Sel) (acc:List Tk) (h8:acc.length≤549755813888)
include hP h8
theorem tk_al{x:CC}(hx:x = .seq (.r [.f 18 0 6,.l 19 18,.j 20 .neq 19 (.str [])]) (.cond (.t 20) (.r [.m 21 4,.f 22 0 6,.l 23 22,.c 24 92 [23],⟨some 25,none,[],.call 93 [.c (.str [58])]⟩,⟨some 26,none,[24,25],.bslice (.agg [.int .i64 0,.str [],.int .i64 0]) 2 [(0,.t 24),(1,.t 25)]⟩,⟨some 27,none,[21,26],.callv (.t 21) [.t 26]⟩]) CC.skip))
  {k:List Itm} (p:St→Prop) (hp:∀σ,Conv E σ (qM E l i s (acc++alT s.alias))→p σ):Wk E (.code x::.post p::k) (qM E l i s acc):=by
 subst hx
 have hoe:=eSel_eq s
 by_cases h:s.alias=[]
 ·have e:alT s.alias=[]:=by unfold alT; rw[if_neg (by simp[h])]
  rw[e,List.append_nil] at hp
  unfold qM slB
  refine w_go 4000 ?_
  simp[lK,toB,hoe,h]
  refine hp _ ?_
  unfold qM
  have hrn:rnOk [(E.n0,E.n0),(E.n0+1,E.n0+1),(E.n0+2,E.n0+2)]:=by simp[lK,toB,slB,hoe,h]
  refine Conv.sub [(E.n0,E.n0),(E.n0+1,E.n0+1),(E.n0+2,E.n0+2)] hrn ?_ ?_ ?_ ?_ ?_<;>(try simp[lK,toB,slB,hoe,h])
 ·have e:alT s.alias=[tkW s.alias,tkS 58]:=by unfold alT; rw[if_pos h]
  have hb:(!s.alias.isEmpty)=true:=by simpa using h
  have hw:=fun id=>Word_ok s.alias id
  have hs:=fun id=>Sign_ok [58] id
  have hput:=fun id=>qPut_ok [tkW s.alias,tkS 58] acc (E.n0+8195) E.n0 (E.n0+1) id (by simp) (by simp; omega)
  simp only[toB_eq,lK_eq] at hput
  rw[e] at hp
  unfold qM slB
  refine w_go 4000 ?_
  simp[lK,toB,hoe]
  refine goc_true hb ?_
  simp
  (refine w_call hP rfl (hw _) (by simp) (by simp<;>rfl) ?_; refine w_go 4000 ?_; simp)
  (refine w_call hP rfl (hs _) (by simp) (by simp<;>rfl) ?_; refine w_go 4000 ?_; simp)
  (refine w_callv hP (by simp<;>exact⟨rfl,rfl⟩) rfl (hput _) (by simp[eTk_w,eTk_s]) (by simp[eTk_w,eTk_s]<;>rfl) ?_; refine w_go 4000 ?_; simp[eTk_w,eTk_s])
  refine hp _ ?_
  unfold qM
  have hrn:rnOk [(E.n0,E.n0),(E.n0+1,E.n0+9219),(E.n0+2,E.n0+2)]:=by simp[lK,toB,slB,hoe,eTk_w,eTk_s]
  refine Conv.sub [(E.n0,E.n0),(E.n0+1,E.n0+9219),(E.n0+2,E.n0+2)] hrn ?_ ?_ ?_ ?_ ?_<;>(try simp[lK,toB,slB,hoe,eTk_w,eTk_s])
  all_goals exact renL_pure rfl (pureL_append (pure_tks _) rfl)
theorem tk_nm{x:CC}(hx:x = .r [.m 28 4,.f 29 1 6,.l 30 29,.c 31 92 [30],⟨some 32,none,[31],.bslice (.agg [.int .i64 0,.str [],.int .i64 0]) 1 [(0,.t 31)]⟩,⟨some 33,none,[28,32],.callv (.t 28) [.t 32]⟩])
  {k:List Itm} (p:St→Prop) (hp:∀σ,Conv E σ (qM E l i s (acc++[tkW s.name]))→p σ):Wk E (.code x::.post p::k) (qM E l i s acc):=by
 subst hx
 have hoe:=eSel_eq s
 have hw:=fun id=>Word_ok s.name id
 have hput:=fun id=>qPut_ok [tkW s.name] acc (E.n0+4099) E.n0 (E.n0+1) id (by simp) (by simp; omega)
 simp only[toB_eq,lK_eq] at hput
 unfold qM slB
 refine w_go 4000 ?_
 simp[lK,toB,hoe]
 (refine w_call hP rfl (hw _) (by simp) (by simp<;>rfl) ?_; refine w_go 4000 ?_; simp)
 (refine w_callv hP (by simp<;>exact⟨rfl,rfl⟩) rfl (hput _) (by simp[eTk_w,eTk_s]) (by simp[eTk_w,eTk_s]<;>rfl) ?_; refine w_go 4000 ?_; simp[eTk_w,eTk_s])
 refine hp _ ?_
 unfold qM
 have hrn:rnOk [(E.n0,E.n0),(E.n0+1,E.n0+5123),(E.n0+2,E.n0+2)]:=by simp[lK,toB,slB,hoe,eTk_w,eTk_s]
 refine Conv.sub [(E.n0,E.n0),(E.n0+1,E.n0+5123),(E.n0+2,E.n0+2)] hrn ?_ ?_ ?_ ?_ ?_<;>(try simp[lK,toB,slB,hoe,eTk_w,eTk_s])
 all_goals exact renL_pure rfl (pureL_append (pure_tks _) rfl)
set_option maxHeartbeats 8000000 in
theorem tk_args{x:CC}(hx:x = .seq (.r [.f 34 2 6,.l 35 34,.n 36 35,.k 37 .gtr 36 0]) (.cond (.t 37) (.seq (.r [.m 38 4,⟨some 39,none,[],.call 93 [.c (.str [40])]⟩,⟨some 40,none,[39],.bslice (.agg [.int .i64 0,.str [],.int .i64 0]) 1 [(0,.t 39)]⟩,⟨some 41,none,[38,40],.callv (.t 38) [.t 40]⟩]) (.seq (.seq (.r [.f 42 2 6,.l 43 42,.n 44 43,.i 45 0]) (.block 2 (.loop (.seq (.r [.b 46 .lss 45 44]) (.seq (.cond (.t 46) CC.skip (.exit 2)) (.seq (.block 3 (.seq (.r [.ia 47 4 .zA 43 45,.L 48 4 47,.al 8 .zA,.st 4 8 48]) (.seq (.r [.m 49 4,.f 50 0 8,.l 51 50,.c 52 92 [51],⟨some 53,none,[],.call 93 [.c (.str [58])]⟩,⟨some 54,none,[52,53],.bslice (.agg [.int .i64 0,.str [],.int .i64 0]) 2 [(0,.t 52),(1,.t 53)]⟩,⟨some 55,none,[49,54],.callv (.t 49) [.t 54]⟩]) (.seq (.r [.f 56 1 8,.l 57 56]) (.cond (.t 57) (.r [.m 58 4,.f 59 2 8,.l 60 59,⟨some 61,none,[60],.build [.int .i64 0,.str [],.int .i64 0] [(0,1,.c (.int .i64 3)),(1,1,.t 60)]⟩,⟨some 62,none,[61],.bslice (.agg [.int .i64 0,.str [],.int .i64 0]) 1 [(0,.t 61)]⟩,⟨some 63,none,[58,62],.callv (.t 58) [.t 62]⟩]) (.r [.m 64 4,.f 65 3 8,.l 66 65,⟨some 67,none,[66],.build [.int .i64 0,.str [],.int .i64 0] [(0,1,.c (.int .i64 2)),(2,1,.t 66)]⟩,⟨some 68,none,[67],.bslice (.agg [.int .i64 0,.str [],.int .i64 0]) 1 [(0,.t 67)]⟩,⟨some 69,none,[64,68],.callv (.t 64) [.t 68]⟩])))))) (.r [.k 70 .add 45 1,.m 45 70]))))))) (.r [.m 71 4,⟨some 72,none,[],.call 93 [.c (.str [41])]⟩,⟨some 73,none,[72],.bslice (.agg [.int .i64 0,.str [],.int .i64 0]) 1 [(0,.t 72)]⟩,⟨some 74,none,[71,73],.callv (.t 71) [.t 73]⟩]))) CC.skip))
  (h9:s.args.length≤137438953472) {k:List Itm} (p:St→Prop) (hp:∀σ,Conv E σ (qM E l i s (acc++tkArgs s.args))→p σ):Wk E (.code x::.post p::k) (qM E l i s acc):=by
 subst hx
 have hoe:=eSel_eq s
 by_cases h:s.args=[]
 ·have e:tkArgs s.args=[]:=by unfold tkArgs; rw[if_neg (by simp[h])]
  rw[e,List.append_nil] at hp
  unfold qM slB
  refine w_go 4000 ?_
  simp[lK,toB,hoe,h]
  refine hp _ ?_
  unfold qM
  have hrn:rnOk [(E.n0,E.n0),(E.n0+1,E.n0+1),(E.n0+2,E.n0+2)]:=by simp[lK,toB,slB,hoe,h]
  refine Conv.sub [(E.n0,E.n0),(E.n0+1,E.n0+1),(E.n0+2,E.n0+2)] hrn ?_ ?_ ?_ ?_ ?_<;>(try simp[lK,toB,slB,hoe,h])
  all_goals exact namesL_pure _ rfl
 have e:tkArgs s.args=tkS 40::(s.args.flatMap tkAg++[tkS 41]):=by unfold tkArgs; rw[if_pos h]
 have hpos:0<s.args.length:=List.length_pos_iff.2 h
 have hs1:=fun id=>Sign_ok [40] id
 have hs2:=fun id=>Sign_ok [41] id
 have hs3:=fun id=>Sign_ok [58] id
 have hput:=fun id=>qPut_ok [tkS 40] acc (E.n0+6147) E.n0 (E.n0+1) id (by simp) (by simp; omega)
 simp only[toB_eq,lK_eq] at hput
 unfold qM slB
 refine w_go 4000 ?_
 simp[lK,toB,hoe,hpos]
 (refine w_call hP rfl (hs1 _) (by simp) (by simp<;>rfl) ?_; refine w_go 4000 ?_; simp)
 (refine w_callv hP (by simp<;>exact⟨rfl,rfl⟩) rfl (hput _) (by simp[eTk_w,eTk_s]) (by simp[eTk_w,eTk_s]<;>rfl) ?_; refine w_go 4000 ?_; simp[eTk_w,eTk_s])
 refine w_loop (X:=Nat×List Tk) (fun q=>qA E l i s q.1 q.2) (fun q=>q.1≤s.args.length∧q.2=acc++[tkS 40]++(s.args.take q.1).flatMap tkAg) (fun q=>s.args.length - q.1) (0,acc++[tkS 40]) ?_ ⟨by simp,by simp⟩ ?_
 ·unfold qA
  have hrn:rnOk [(E.n0,E.n0),(E.n0+1,E.n0+7171),(E.n0+2,E.n0+2)]:=by simp[lK,toB,slB,hoe,eTk_w,eTk_s]
  refine Conv.sub [(E.n0,E.n0),(E.n0+1,E.n0+7171),(E.n0+2,E.n0+2)] hrn ?_ ?_ ?_ ?_ ?_<;>(try simp[lK,toB,slB,hoe,eTk_w,eTk_s])
  all_goals exact renL_pure rfl (pureL_append (pure_tks _) rfl)
 rintro⟨j,ac⟩ ⟨hj,hac⟩ p2 hp2
 simp only at hj hac
 have hacl:ac.length≤1099511627000:=by
  rw[hac]
  simp only[List.length_append,List.length_cons,List.length_nil,agFm_len,List.length_take]
  omega
 rcases Nat.lt_or_ge j s.args.length with h2|h2
 rotate_left
 ·have hjl:j=s.args.length:=by omega
  have hx:ac++[tkS 41]=acc++tkArgs s.args:=by rw[e,hac,List.take_of_length_le h2]; simp
  have hput2:=fun id=>qPut_ok [tkS 41] ac (E.n0+3075) E.n0 (E.n0+1) id (by simp) (by simp; omega)
  simp only[toB_eq,lK_eq] at hput2
  rw[←hx] at hp
  unfold qA slB
  refine w_go 4000 ?_
  simp[lK,toB,hoe,Nat.not_lt.2 h2]
  (refine w_call hP rfl (hs2 _) (by simp) (by simp<;>rfl) ?_; refine w_go 4000 ?_; simp)
  (refine w_callv hP (by simp<;>exact⟨rfl,rfl⟩) rfl (hput2 _) (by simp[eTk_w,eTk_s]) (by simp[eTk_w,eTk_s]<;>rfl) ?_; refine w_go 4000 ?_; simp[eTk_w,eTk_s])
  refine hp _ ?_
  unfold qM
  have hrn:rnOk [(E.n0,E.n0),(E.n0+1,E.n0+4099),(E.n0+2,E.n0+2)]:=by simp[lK,toB,slB,hoe,eTk_w,eTk_s]
  refine Conv.sub [(E.n0,E.n0),(E.n0+1,E.n0+4099),(E.n0+2,E.n0+2)] hrn ?_ ?_ ?_ ?_ ?_<;>(try simp[lK,toB,slB,hoe,eTk_w,eTk_s])
  all_goals exact renL_pure rfl (pureL_append (pure_tks _) rfl)
 obtain⟨a,hga,hda⟩:=drop_cons h2
 have hla:s.args[j]=a:=by
  rw[List.getElem?_eq_getElem h2] at hga
  injection hga
 have hj1:IntKind.i64.wrap ((j:Int)+1)=((j+1:Nat):Int):=wrap64 (by omega)
 have hsn:=fm_snoc tkAg hga
 have hag:eAg a = .agg [.str a.name,.bool a.isText,.str a.text,.int .i64 a.n]:=rfl
 have hw:=fun id=>Word_ok a.name id
 have hp4:=fun id=>qPut_ok [tkW a.name,tkS 58] ac (E.n0+10243) E.n0 (E.n0+1) id (by simp) (by simp; omega)
 have hp5:=fun id=>qPut_ok [tkV a] (ac++[tkW a.name,tkS 58]) (E.n0+18435) E.n0 (E.n0+11267) id (by simp) (by simp; omega)
 have hx:ac++[tkW a.name,tkS 58]++[tkV a]=acc++[tkS 40]++(s.args.take (j+1)).flatMap tkAg:=by
  rw[hsn,hac]; simp[tkAg]
 have hev:=eTk_v a
 simp only[toB_eq,lK_eq] at hp4 hp5
 cases ht:a.isText with
 | true =>
  rw[if_pos ht] at hev
  unfold qA slB
  refine w_go 4000 ?_
  simp[lK,toB,hoe,h2,hla,hag,ht]
  (refine w_call hP rfl (hw _) (by simp) (by simp<;>rfl) ?_; refine w_go 4000 ?_; simp)
  (refine w_call hP rfl (hs3 _) (by simp) (by simp<;>rfl) ?_; refine w_go 4000 ?_; simp)
  (refine w_callv hP (by simp<;>exact⟨rfl,rfl⟩) rfl (hp4 _) (by simp[eTk_w,eTk_s]) (by simp[eTk_w,eTk_s]<;>rfl) ?_; refine w_go 4000 ?_; simp[eTk_w,eTk_s])
  (refine w_callv hP (by simp<;>exact⟨rfl,rfl⟩) rfl (hp5 _) (by simp[eTk_w,eTk_s,hev]) (by simp[eTk_w,eTk_s,hev]<;>rfl) ?_; refine w_go 4000 ?_; simp[eTk_w,eTk_s,hev])
  refine hp2 _ (j+1,ac++[tkW a.name,tkS 58]++[tkV a]) ⟨h2,hx⟩ (by simp; omega) ?_
  unfold qA
  have hrn:rnOk [(E.n0,E.n0),(E.n0+1,E.n0+19459),(E.n0+2,E.n0+2)]:=by simp[lK,toB,slB,hoe,eTk_w,eTk_s,hev,hj1]
  refine Conv.sub [(E.n0,E.n0),(E.n0+1,E.n0+19459),(E.n0+2,E.n0+2)] hrn ?_ ?_ ?_ ?_ ?_<;>(try simp[lK,toB,slB,hoe,eTk_w,eTk_s,hev,hj1])
  all_goals exact renL_pure rfl (pureL_append (pure_tks _) rfl)
 | false =>
  rw[if_neg (by simp[ht])] at hev
  unfold qA slB
  refine w_go 4000 ?_
  simp[lK,toB,hoe,h2,hla,hag,ht]
  (refine w_call hP rfl (hw _) (by simp) (by simp<;>rfl) ?_; refine w_go 4000 ?_; simp)
  (refine w_call hP rfl (hs3 _) (by simp) (by simp<;>rfl) ?_; refine w_go 4000 ?_; simp)
  (refine w_callv hP (by simp<;>exact⟨rfl,rfl⟩) rfl (hp4 _) (by simp[eTk_w,eTk_s]) (by simp[eTk_w,eTk_s]<;>rfl) ?_; refine w_go 4000 ?_; simp[eTk_w,eTk_s])
  (refine w_callv hP (by simp<;>exact⟨rfl,rfl⟩) rfl (hp5 _) (by simp[eTk_w,eTk_s,hev]) (by simp[eTk_w,eTk_s,hev]<;>rfl) ?_; refine w_go 4000 ?_; simp[eTk_w,eTk_s,hev])
  refine hp2 _ (j+1,ac++[tkW a.name,tkS 58]++[tkV a]) ⟨h2,hx⟩ (by simp; omega) ?_
  unfold qA
  have hrn:rnOk [(E.n0,E.n0),(E.n0+1,E.n0+19459),(E.n0+2,E.n0+2)]:=by simp[lK,toB,slB,hoe,eTk_w,eTk_s,hev,hj1]
  refine Conv.sub [(E.n0,E.n0),(E.n0+1,E.n0+19459),(E.n0+2,E.n0+2)] hrn ?_ ?_ ?_ ?_ ?_<;>(try simp[lK,toB,slB,hoe,eTk_w,eTk_s,hev,hj1])
  all_goals exact renL_pure rfl (pureL_append (pure_tks _) rfl)
end
end Go.Am
namespace Go.Am
set_option linter.all false
open Go Go.RowKit Go.Proofs
set_option maxRecDepth 100000
set_option linter.all false
theorem tkKids_sels{k:List Sel}(h:k≠[]):tkKids k=tkSels k:=by rw[tkKids_eq,if_pos h]
set_option maxHeartbeats 16000000 in
theorem qTokens_ok:∀(n:Nat) (l:List Sel) (id:Nat),szL l<n→szL l≤68719476736→FnOk Tryz.prog 68 [.sl (l.map eSel)] [] id (.sl ((tkSels l).map eTk)) []:=by
 intro n
 induction n with
 | zero=>intro l id h; omega
 | succ n ih =>
  intro l id hn h8
  have htl:=tkSels_len l
  have hll:=szL_len l
  have hs0:=fun id=>Sign_ok [123] id
  have hs9:=fun id=>Sign_ok [125] id
  refine fn_okc Tryz.func68 hcc68 (by decide) hcr68 (by simp[Tryz.ntmps68]) fun E hP hR hl hid=>?_
  simp only[cr68] at hR
  refine w_go 4000 ?_
  simp[cc68]
  (refine w_call hP rfl (hs0 _) (by simp) (by simp<;>rfl) ?_; refine w_go 4000 ?_; simp)
  refine w_loop (X:=Nat×List Tk) (fun q=>qS E l q.1 q.2) (fun q=>q.1≤l.length∧q.2=tkS 123::(l.take q.1).flatMap tkSel) (fun q=>l.length - q.1) (0,[tkS 123]) ?_ ⟨by simp,by simp⟩ ?_
  ·unfold qS
   have hrn:rnOk [(E.n0,E.n0+3072),(E.n0+1,E.n0+2048)]:=by simp[lK,toB,eTk_s]
   refine Conv.sub [(E.n0,E.n0+3072),(E.n0+1,E.n0+2048)] hrn ?_ ?_ ?_ ?_ ?_<;>(try simp[lK,toB,eTk_s])
  rintro⟨i,acc⟩ ⟨hi,ha⟩ p hp
  simp only at hi ha
  have htk:tkSels l=tkS 123::(l.flatMap tkSel++[tkS 125]):=by simp[tkSels,tkL_eq]
  have hfl:=fm_len l i tkSel
  have hal:acc.length≤549755813888:=by
   rw[htk] at htl
   simp only[List.length_cons,List.length_append,List.length_nil] at htl
   rw[ha,List.length_cons]; omega
  rcases Nat.lt_or_ge i l.length with h|h
  rotate_left
  ·have hx:acc++[tkS 125]=tkSels l:=by rw[htk,ha,List.take_of_length_le h]; simp
   have hput:=fun id=>qPut_ok [tkS 125] acc (E.n0+3074) E.n0 (E.n0+1) id (by simp) (by simp; omega)
   simp only[toB_eq,lK_eq] at hput
   have hm:(tkSels l).map eTk=acc.map eTk++[eTk (tkS 125)]:=by rw[←hx]; simp
   rw[hm] at hR
   unfold qS
   refine w_go 4000 ?_
   simp[lK,toB,Nat.not_lt.2 h]
   (refine w_call hP rfl (hs9 _) (by simp) (by simp<;>rfl) ?_; refine w_go 4000 ?_; simp)
   (refine w_callv hP (by simp<;>exact⟨rfl,rfl⟩) rfl (hput _) (by simp[eTk_w,eTk_s]) (by simp[eTk_w,eTk_s]<;>rfl) ?_; refine w_go 4000 ?_; simp[eTk_w,eTk_s])
   have hrn:rnOk []:=by simp[eTk_s,idO hid]
   rw[hR]
   refine rt_endR (by simp<;>rfl) (by simp[eTk_s,idO hid]<;>exact⟨rfl,rfl⟩) [] hrn ⟨?_,?_,?_,?_,?_,?_⟩<;>(try simp[eTk_s,idO hid])
   have htk2:List.take (acc.length+1) (acc.map eTk++[.agg [.int .i64 4,.str [125],.int .i64 0]])=acc.map eTk++[.agg [.int .i64 4,.str [125],.int .i64 0]]:=List.take_of_length_le (by simp)
   rw[htk2]
   exact⟨rfl,namesL_pure _ (pureL_append (pure_tks _) rfl)⟩
  obtain⟨s,hs,hd⟩:=drop_cons h
  have hli:l[i]=s:=by
   rw[List.getElem?_eq_getElem h] at hs
   injection hs
  have hi1:IntKind.i64.wrap ((i:Int)+1)=((i+1:Nat):Int):=wrap64 (by omega)
  have hoe:=eSel_eq s
  have hsm:=List.mem_of_getElem? hs
  have hsz:=szL_mem hsm
  have hse:=sz_eq s
  have hsl:=tkSel_len s
  have hse2:=tkSel_eq s
  have hlen:=congrArg List.length hse2
  simp only[List.length_append,List.length_cons,List.length_nil] at hlen
  have hsn:=fm_snoc tkSel hs
  have hfl2:=fm_len l (i+1) tkSel
  rw[hsn,List.length_append] at hfl2
  have hbound:acc.length+(tkSel s).length≤549755813888:=by
   rw[htk] at htl
   simp only[List.length_cons,List.length_append,List.length_nil] at htl
   rw[ha,List.length_cons]; omega
  refine w_cut2 (X:=Unit) (fun _=>qS E l i acc) (fun _=>True) (fun p2 hp2=>?_) fun _ _=>?_
  ·unfold qS
   refine w_go 4000 ?_
   simp[lK,toB,h]
   refine hp2 _ () trivial ?_
   unfold qS
   have hrn:rnOk [(E.n0,E.n0),(E.n0+1,E.n0+1)]:=by simp[lK,toB]
   refine Conv.sub [(E.n0,E.n0),(E.n0+1,E.n0+1)] hrn ?_ ?_ ?_ ?_ ?_<;>(try simp[lK,toB])
  refine w_seq (w_block ?_)
  refine w_seq (w_cut (X:=Unit) (fun _=>qM E l i s acc) (fun _=>True) (fun p2 hp2=>?_) fun _ _=>?_)
  ·unfold qS
   refine w_go 4000 ?_
   simp[lK,toB,h,hli,hoe]
   refine hp2 _ () trivial ?_
   unfold qM
   have hrn:rnOk [(E.n0,E.n0),(E.n0+1,E.n0+1),(E.n0+2,E.n0+2050)]:=by simp[lK,toB,slB,hoe]
   refine Conv.sub [(E.n0,E.n0),(E.n0+1,E.n0+1),(E.n0+2,E.n0+2050)] hrn ?_ ?_ ?_ ?_ ?_<;>(try simp[lK,toB,slB,hoe])
  refine w_seq (w_cut (X:=Unit) (fun _=>qM E l i s (acc++alT s.alias)) (fun _=>True) (fun p2 hp2=>tk_al E hP l i s acc (by omega) rfl p2 fun σ hc=>hp2 σ () trivial hc) fun _ _=>?_)
  refine w_seq (w_cut (X:=Unit) (fun _=>qM E l i s (acc++alT s.alias++[tkW s.name])) (fun _=>True) (fun p2 hp2=>tk_nm E hP l i s _ (by simp only[List.length_append]; omega) rfl p2 fun σ hc=>hp2 σ () trivial hc) fun _ _=>?_)
  refine w_seq (w_cut (X:=Unit) (fun _=>qM E l i s (acc++alT s.alias++[tkW s.name]++tkArgs s.args)) (fun _=>True) (fun p2 hp2=>tk_args E hP l i s _ (by simp only[List.length_append,List.length_cons,List.length_nil]; omega) rfl (by omega) p2 fun σ hc=>hp2 σ () trivial hc) fun _ _=>?_)
  have hb3:(acc++alT s.alias++[tkW s.name]++tkArgs s.args).length+(tkKids s.kids).length≤549755813888:=by
   simp only[List.length_append,List.length_cons,List.length_nil]; omega
  have hx:acc++alT s.alias++[tkW s.name]++tkArgs s.args++tkKids s.kids=tkS 123::(l.take (i+1)).flatMap tkSel:=by
   rw[hsn,ha,hse2]; simp
  generalize acc++alT s.alias++[tkW s.name]++tkArgs s.args=ac at *
  by_cases hk:s.kids=[]
  ·have hk2:tkKids s.kids=[]:=by rw[hk]; rfl
   rw[hk2,List.append_nil] at hx
   unfold qM slB
   refine w_go 4000 ?_
   simp[lK,toB,hoe,hk]
   refine hp _ (i+1,ac) ⟨h,hx⟩ (by simp; omega) ?_
   unfold qS
   have hrn:rnOk [(E.n0,E.n0),(E.n0+1,E.n0+1)]:=by simp[lK,toB,hi1]
   refine Conv.sub [(E.n0,E.n0),(E.n0+1,E.n0+1)] hrn ?_ ?_ ?_ ?_ ?_<;>(try simp[lK,toB,hi1])
  ·have hpos:0<s.kids.length:=List.length_pos_iff.2 hk
   have hK:=fun id=>ih s.kids id (by omega) (by omega)
   rw[tkKids_sels hk] at hx hb3
   have hput:=fun id=>qPutS_ok (tkSels s.kids) ac E.n0 (E.n0+1) id (by simp) (by omega)
   simp only[toB_eq,lK_eq] at hput
   unfold qM slB
   refine w_go 4000 ?_
   simp[lK,toB,hoe,hpos]
   (refine w_call hP rfl (hK _) (by simp) (by simp<;>rfl) ?_; refine w_go 4000 ?_; simp)
   (refine w_callv hP (by simp<;>exact⟨rfl,rfl⟩) rfl (hput _) (by simp) (by simp<;>rfl) ?_; refine w_go 4000 ?_; simp)
   refine hp _ (i+1,ac++tkSels s.kids) ⟨h,hx⟩ (by simp; omega) ?_
   unfold qS
   have hrn:rnOk [(E.n0,E.n0),(E.n0+1,E.n0+8195)]:=by simp[lK,toB,hi1]
   refine Conv.sub [(E.n0,E.n0),(E.n0+1,E.n0+8195)] hrn ?_ ?_ ?_ ?_ ?_<;>(try simp[lK,toB,hi1])
   all_goals exact renL_pure rfl (pureL_append (pure_tks _) (pure_tks _))
theorem lQs_len(s:List UInt8):(lQs s).length≤2*s.length:=by
 induction s with
 | nil=>simp[lQs]
 | cons c r ih =>
  have h1:(lQ c).length≤2:=by
   unfold lQ
   repeat' split
   all_goals simp
  have e:lQs (c::r)=lQ c++lQs r:=by simp[lQs]
  rw[e,List.length_append,List.length_cons]; omega
theorem itoa_len{n:Int}(h : -999999999≤n∧n≤999999999):(Lib.itoa n).length≤10:=by
 unfold Lib.itoa
 split
 ·have:=dec_len (u:=n.natAbs) (by omega)
  simp only[List.length_cons]; omega
 ·have:=dec_len (u:=n.toNat) (by omega)
  omega
theorem wr_len{t:Tk}(h:fTk t=0):(wrTk t).length≤82:=by
 unfold fTk at h
 obtain⟨h1,h⟩:=ite0 h (by decide)
 obtain⟨h2,h⟩:=ite0 h (by decide)
 unfold wrTk
 split at h
 ·rename_i hk
  rw[if_neg (by omega),if_neg (by omega)]
  have:=fName_le h; omega
 ·split at h
  ·rename_i hk
   rw[if_pos hk]
   split at h
   ·rename_i hn
    have:=itoa_len hn; omega
   ·cases h
  ·rename_i hk2
   rw[if_neg hk2]
   split at h
   ·rename_i hk3
    rw[if_pos hk3]
    split at h
    ·cases h
    ·have:=lQs_len t.text
     simp only[List.length_cons,List.length_append,List.length_nil]; omega
   ·rename_i hk3
    rw[if_neg hk3]
    split at h
    ·rename_i hs; omega
    ·cases h
theorem wSum_le{l:List Tk}(h:AllT l):wSum l≤83*l.length:=by
 induction l with
 | nil=>simp[wSum]
 | cons t r ih =>
  have h1:=wr_len (h t (List.mem_cons_self ..))
  have h2:=ih fun x hx=>h x (List.mem_cons_of_mem _ hx)
  simp only[wSum,List.map_cons,List.sum_cons,List.length_cons] at h2 ⊢; omega
def qPr(l:List Sel):List UInt8×Int:=if fQuery l=0 then (tkB (tkSels l),0) else ([],fQuery l)
theorem qPr_ok{l:List Sel}(h:fQuery l=0):qPr l=(tkB (tkSels l),0):=by unfold qPr; rw[if_pos h]
theorem qPrint_ok(l:List Sel)(id:Nat)(h8:szL l≤1073741824)(hW:fQuery l=0→∀t∈tkSels l,Wri t):FnOk Tryz.prog 32 [.sl (l.map eSel)] [] id (.tup [.str (qPr l).1,.int .i64 (qPr l).2]) []:=by
 have hC:=fun id=>qCheck_ok l id (by omega)
 by_cases hc:fQuery l=0
 ·have hT:=fun id=>qTokens_ok (szL l+1) l id (by omega) (by omega)
  have h1:=tkSels_len l
  have h2:=wSum_le (qry_tok hc)
  have hB:=fun id=>tBytes_ok (tkSels l) id (hW hc) (by omega) (by omega)
  rw[hc] at hC
  rw[qPr_ok hc]
  refine fn_okc Tryz.func32 hcc32 (by decide) hcr32 (by simp[Tryz.ntmps32]) fun E hP hR hl hid=>?_
  simp only[cr32] at hR
  refine w_go 4000 ?_
  simp[cc32]
  (refine w_call hP rfl (hC _) (by simp) (by simp<;>rfl) ?_; refine w_go 4000 ?_; simp)
  (refine w_call hP rfl (hT _) (by simp) (by simp<;>rfl) ?_; refine w_go 4000 ?_; simp)
  (refine w_call hP rfl (hB _) (by simp) (by simp<;>rfl) ?_; refine w_go 4000 ?_; simp)
  rw[hR]; exact rt_end (by simp<;>rfl) [] trivial (end_pure (by simp) (by simp) (by simp))
 ·have e:qPr l=([],fQuery l):=by unfold qPr; rw[if_neg hc]
  rw[e]
  refine fn_okc Tryz.func32 hcc32 (by decide) hcr32 (by simp[Tryz.ntmps32]) fun E hP hR hl hid=>?_
  simp only[cr32] at hR
  refine w_go 4000 ?_
  simp[cc32]
  (refine w_call hP rfl (hC _) (by simp) (by simp<;>rfl) ?_; refine w_go 4000 ?_; simp)
  refine goc_true (by simpa using hc) ?_
  simp
  rw[hR]; exact rt_end (by simp<;>rfl) [] trivial (end_pure (by simp) (by simp) (by simp))
end Go.Am
namespace Go.Am
set_option linter.all false
open Go Go.RowKit Go.Proofs
set_option maxRecDepth 100000
set_option linter.all false
def tsS(E:Env)(l:List Sel)(i:Nat)(acc:List Tk):St :=
 ⟨[(0,true,.sl (l.map eSel)),(3,true,.bsl E.n0 0 acc.length),(4,true,.int .i64 i)],[(E.n0,some (toB acc))],1⟩
def tsM(E:Env)(l:List Sel)(i:Nat)(s:Sel)(acc:List Tk):St :=
 ⟨[(0,true,.sl (l.map eSel)),(3,true,.bsl E.n0 0 acc.length),(4,true,.int .i64 i),(5,true,.ptr (E.n0+1) 0 0)],[(E.n0,some (toB acc)),(E.n0+1,some (slB s))],2⟩
def tsT(E:Env)(l:List Sel)(i:Nat)(s:Sel)(j:Nat)(acc:List Tk)(t:Tk):St :=
 ⟨[(0,true,.sl (l.map eSel)),(3,true,.bsl E.n0 0 acc.length),(4,true,.int .i64 i),(5,true,.ptr (E.n0+1) 0 0),(6,true,.int .i64 j),(7,true,.ptr (E.n0+2) 0 0)],[(E.n0,some (toB acc)),(E.n0+1,some (slB s)),(E.n0+2,some ⟨[eTk t],.agg [.int .i64 0,.str [],.int .i64 0],false,false⟩)],3⟩
def tsA(E:Env)(l:List Sel)(i:Nat)(s:Sel)(j:Nat)(acc:List Tk):St :=
 ⟨[(0,true,.sl (l.map eSel)),(3,true,.bsl E.n0 0 acc.length),(4,true,.int .i64 i),(5,true,.ptr (E.n0+1) 0 0),(6,true,.int .i64 j)],[(E.n0,some (toB acc)),(E.n0+1,some (slB s))],2⟩
def agT(x:List Ag)(j:Nat):List Tk:=(if j=0 then [] else [tkS 40])++((x.take j).flatMap tkAg++if j=x.length∧j≠0 then [tkS 41] else [])
theorem agT_all(x:List Ag):agT x x.length=tkArgs x:=by
 unfold agT tkArgs
 rw[List.take_of_length_le (Nat.le_refl _)]
 cases x with
 | nil=>rfl
 | cons a r=>simp
theorem agT_next{x:List Ag}{j:Nat}{a:Ag}(h:x[j]?=some a):agT x (j+1)=agT x j++((if j=0 then [tkS 40] else [])++(tkAg a++if j+1=x.length then [tkS 41] else [])):=by
 have hj:=(List.getElem?_eq_some_iff.1 h).1
 unfold agT
 rw[fm_snoc tkAg h]
 by_cases h0:j=0
 ·subst h0; simp
 ·simp[h0]
  intro h1; omega
set_option maxHeartbeats 32000000 in
theorem rSelT_ok:∀(n:Nat) (l:List Sel) (id:Nat),szL l<n→szL l≤68719476736→FnOk Tryz.prog 35 [.sl (l.map eSel)] [] id (.sl ((tkSels l).map eTk)) []:=by
 intro n
 induction n with
 | zero=>intro l id h; omega
 | succ n ih =>
  intro l id hn h8
  have htl:=tkSels_len l
  have hll:=szL_len l
  have hsg:=fun c id=>rMkS_ok c id
  have hwd:=fun s id=>rMkW_ok s id
  refine fn_okc Tryz.func35 hcc35 (by decide) hcr35 (by simp[Tryz.ntmps35]) fun E hP hR hl hid=>?_
  simp only[cr35] at hR
  refine w_go 4000 ?_
  simp[cc35]
  (refine w_call hP rfl (hsg _ _) (by simp[eTk_s]) (by simp[eTk_s]<;>rfl) ?_; refine w_go 4000 ?_; simp[eTk_s])
  refine w_loop (X:=Nat×List Tk) (fun q=>tsS E l q.1 q.2) (fun q=>q.1≤l.length∧q.2=tkS 123::(l.take q.1).flatMap tkSel) (fun q=>l.length - q.1) (0,[tkS 123]) ?_ ⟨by simp,by simp⟩ ?_
  ·unfold tsS
   have hrn:rnOk [(E.n0,E.n0+2048)]:=by simp[toB,eTk_s]
   refine Conv.sub [(E.n0,E.n0+2048)] hrn ?_ ?_ ?_ ?_ ?_<;>(try simp[toB,eTk_s])
  rintro⟨i,acc⟩ ⟨hi,ha⟩ p hp
  simp only at hi ha
  have htk:tkSels l=tkS 123::(l.flatMap tkSel++[tkS 125]):=by simp[tkSels,tkL_eq]
  have hfl:=fm_len l i tkSel
  have hal:acc.length≤549755813888:=by
   rw[htk] at htl
   simp only[List.length_cons,List.length_append,List.length_nil] at htl
   rw[ha,List.length_cons]; omega
  rcases Nat.lt_or_ge i l.length with h|h
  rotate_left
  ·have hx:acc++[tkS 125]=tkSels l:=by rw[htk,ha,List.take_of_length_le h]; simp
   have hm:(tkSels l).map eTk=acc.map eTk++[eTk (tkS 125)]:=by rw[←hx]; simp
   rw[hm] at hR
   unfold tsS
   refine w_go 4000 ?_
   simp[toB,Nat.not_lt.2 h]
   (refine w_call hP rfl (hsg _ _) (by simp[eTk_s]) (by simp[eTk_s]<;>rfl) ?_; refine w_go 4000 ?_; simp[eTk_s])
   refine⟨⟨by omega,by omega⟩,?_⟩
   have hrn:rnOk []:=by simp[eTk_s,idO hid]
   rw[hR]
   refine rt_endR (by simp<;>rfl) (by simp[eTk_s,idO hid]<;>exact⟨rfl,rfl⟩) [] hrn ⟨?_,?_,?_,?_,?_,?_⟩<;>(try simp[eTk_s,idO hid])
   have htk2:List.take (acc.length+1) (acc.map eTk++[.agg [.int .i64 4,.str [125],.int .i64 0]])=acc.map eTk++[.agg [.int .i64 4,.str [125],.int .i64 0]]:=List.take_of_length_le (by simp)
   rw[htk2]
   exact⟨rfl,namesL_pure _ (pureL_append (pure_tks _) rfl)⟩
  obtain⟨s,hs,hd⟩:=drop_cons h
  have hli:l[i]=s:=by
   rw[List.getElem?_eq_getElem h] at hs
   injection hs
  have hi1:IntKind.i64.wrap ((i:Int)+1)=((i+1:Nat):Int):=wrap64 (by omega)
  have hoe:=eSel_eq s
  have hsm:=List.mem_of_getElem? hs
  have hsz:=szL_mem hsm
  have hse:=sz_eq s
  have hsl:=tkSel_len s
  have hse2:=tkSel_eq s
  have hlen:=congrArg List.length hse2
  simp only[List.length_append,List.length_cons,List.length_nil] at hlen
  have hsn:=fm_snoc tkSel hs
  have hfl2:=fm_len l (i+1) tkSel
  rw[hsn,List.length_append] at hfl2
  have hbound:acc.length+(tkSel s).length≤549755813888:=by
   rw[htk] at htl
   simp only[List.length_cons,List.length_append,List.length_nil] at htl
   rw[ha,List.length_cons]; omega
  refine w_seq (w_cut (X:=Unit) (fun _=>tsS E l i acc) (fun _=>True) (fun p2 hp2=>?_) fun _ _=>?_)
  ·unfold tsS
   refine w_go 4000 ?_
   simp[toB,h]
   refine hp2 _ () trivial ?_
   unfold tsS
   have hrn:rnOk [(E.n0,E.n0)]:=by simp[toB]
   refine Conv.sub [(E.n0,E.n0)] hrn ?_ ?_ ?_ ?_ ?_<;>(try simp[toB])
  refine w_seq (w_block ?_)
  refine w_seq (w_cut (X:=Unit) (fun _=>tsM E l i s acc) (fun _=>True) (fun p2 hp2=>?_) fun _ _=>?_)
  ·unfold tsS
   refine w_go 4000 ?_
   simp[toB,h,hli,hoe]
   refine hp2 _ () trivial ?_
   unfold tsM
   have hrn:rnOk [(E.n0,E.n0),(E.n0+1,E.n0+4097)]:=by simp[toB,slB,hoe]
   refine Conv.sub [(E.n0,E.n0),(E.n0+1,E.n0+4097)] hrn ?_ ?_ ?_ ?_ ?_<;>(try simp[toB,slB,hoe])
  refine w_seq (w_cut (X:=Unit) (fun _=>tsM E l i s (acc++alT s.alias)) (fun _=>True) (fun p2 hp2=>?_) fun _ _=>?_)
  ·by_cases hal2:s.alias=[]
   ·have e:alT s.alias=[]:=by unfold alT; rw[if_neg (by simp[hal2])]
    rw[e,List.append_nil] at hp2
    unfold tsM slB
    refine w_go 4000 ?_
    simp[toB,hoe,hal2]
    refine hp2 _ () trivial ?_
    unfold tsM
    have hrn:rnOk [(E.n0,E.n0),(E.n0+1,E.n0+1)]:=by simp[toB,slB,hoe,hal2]
    refine Conv.sub [(E.n0,E.n0),(E.n0+1,E.n0+1)] hrn ?_ ?_ ?_ ?_ ?_<;>(try simp[toB,slB,hoe,hal2])
   ·have e:alT s.alias=[tkW s.alias,tkS 58]:=by unfold alT; rw[if_pos hal2]
    have hb:(!s.alias.isEmpty)=true:=by simpa using hal2
    rw[e] at hp2
    unfold tsM slB
    refine w_go 4000 ?_
    simp[toB,hoe]
    refine goc_true hb ?_
    simp
    (refine w_call hP rfl (hwd _ _) (by simp[eTk_w]) (by simp[eTk_w]<;>rfl) ?_; refine w_go 4000 ?_; simp[eTk_w])
    (refine w_call hP rfl (hsg _ _) (by simp[eTk_s]) (by simp[eTk_s]<;>rfl) ?_; refine w_go 4000 ?_; simp[eTk_s])
    refine⟨⟨by omega,by omega⟩,?_⟩
    refine hp2 _ () trivial ?_
    unfold tsM
    have hrn:rnOk [(E.n0,E.n0+9218),(E.n0+1,E.n0+1)]:=by simp[toB,slB,hoe,eTk_w,eTk_s]
    refine Conv.sub [(E.n0,E.n0+9218),(E.n0+1,E.n0+1)] hrn ?_ ?_ ?_ ?_ ?_<;>(try simp[toB,slB,hoe,eTk_w,eTk_s])
    all_goals exact renL_pure rfl (pureL_append (pure_tks _) rfl)
  refine w_seq (w_cut (X:=Unit) (fun _=>tsM E l i s (acc++alT s.alias++[tkW s.name])) (fun _=>True) (fun p2 hp2=>?_) fun _ _=>?_)
  ·have hb2:(acc++alT s.alias).length≤549755813888:=by simp only[List.length_append]; omega
   generalize acc++alT s.alias=ac at *
   unfold tsM slB
   refine w_go 4000 ?_
   simp[toB,hoe]
   (refine w_call hP rfl (hwd _ _) (by simp[eTk_w]) (by simp[eTk_w]<;>rfl) ?_; refine w_go 4000 ?_; simp[eTk_w])
   refine⟨⟨by omega,by omega⟩,?_⟩
   refine hp2 _ () trivial ?_
   unfold tsM
   have hrn:rnOk [(E.n0,E.n0+5122),(E.n0+1,E.n0+1)]:=by simp[toB,slB,hoe,eTk_w,eTk_s]
   refine Conv.sub [(E.n0,E.n0+5122),(E.n0+1,E.n0+1)] hrn ?_ ?_ ?_ ?_ ?_<;>(try simp[toB,slB,hoe,eTk_w,eTk_s])
   all_goals exact renL_pure rfl (pureL_append (pure_tks _) rfl)
  refine w_seq (w_cut (X:=Unit) (fun _=>tsM E l i s (acc++alT s.alias++[tkW s.name]++tkArgs s.args)) (fun _=>True) (fun p2 hp2=>?_) fun _ _=>?_)
  ·have hb2:(acc++alT s.alias++[tkW s.name]).length+(tkArgs s.args).length≤549755813888:=by simp only[List.length_append,List.length_cons,List.length_nil]; omega
   generalize acc++alT s.alias++[tkW s.name]=ac at *
   have hal3:=tkArgs_len s.args
   refine w_seq (w_cut (X:=Unit) (fun _=>tsA E l i s 0 ac) (fun _=>True) (fun p3 hp3=>?_) fun _ _=>?_)
   ·unfold tsM slB
    refine w_go 4000 ?_
    simp[toB,hoe]
    refine hp3 _ () trivial ?_
    unfold tsA
    have hrn:rnOk [(E.n0,E.n0),(E.n0+1,E.n0+1)]:=by simp[toB,slB,hoe]
    refine Conv.sub [(E.n0,E.n0),(E.n0+1,E.n0+1)] hrn ?_ ?_ ?_ ?_ ?_<;>(try simp[toB,slB,hoe])
   have hgl:∀j≤s.args.length,(agT s.args j).length≤3*s.args.length+2:=fun j hj=>by
    have h2:=agFm_len (s.args.take j)
    rw[List.length_take] at h2
    unfold agT
    simp only[List.length_append,h2]
    repeat' split
    all_goals simp only[List.length_cons,List.length_nil]
    all_goals omega
   have hag0:s.args.length≤68719476736:=by omega
   refine w_block ?_
   refine w_loop (X:=Nat×List Tk) (fun q=>tsA E l i s q.1 q.2) (fun q=>q.1≤s.args.length∧q.2=ac++agT s.args q.1) (fun q=>s.args.length - q.1) (0,ac) Conv.refl ⟨by simp,by simp[agT]⟩ ?_
   rintro⟨j,a1⟩ ⟨hj,ha1⟩ p4 hp4
   simp only at hj ha1
   have hgj:=hgl j hj
   have hal1:a1.length≤1000000000000:=by
    rw[ha1,List.length_append]; omega
   rcases Nat.lt_or_ge j s.args.length with h2|h2
   rotate_left
   ·obtain rfl:j=s.args.length:=by omega
    rw[agT_all] at ha1
    subst ha1
    unfold tsA slB
    refine w_go 4000 ?_
    simp[toB,hoe]
    refine hp2 _ () trivial ?_
    unfold tsM
    have hrn:rnOk [(E.n0,E.n0),(E.n0+1,E.n0+1)]:=by simp[toB,slB,hoe]
    refine Conv.sub [(E.n0,E.n0),(E.n0+1,E.n0+1)] hrn ?_ ?_ ?_ ?_ ?_<;>(try simp[toB,slB,hoe])
    all_goals exact renL_pure rfl (pureL_append (pure_tks _) (pure_tks _))
   obtain⟨a,hga,hda⟩:=drop_cons h2
   have hla:s.args[j]=a:=by
    rw[List.getElem?_eq_getElem h2] at hga
    injection hga
   have hj1:IntKind.i64.wrap ((j:Int)+1)=((j+1:Nat):Int):=wrap64 (by omega)
   have hl1:IntKind.i64.wrap ((s.args.length:Int) - 1)=(s.args.length:Int) - 1:=wrap64 (by omega)
   have hag:eAg a = .agg [.str a.name,.bool a.isText,.str a.text,.int .i64 a.n]:=rfl
   have hnx:=agT_next hga
   refine w_seq (w_cut (X:=Unit) (fun _=>tsA E l i s j a1) (fun _=>True) (fun p5 hp5=>?_) fun _ _=>?_)
   ·unfold tsA slB
    refine w_go 4000 ?_
    simp[toB,hoe,h2]
    refine hp5 _ () trivial ?_
    unfold tsA
    have hrn:rnOk [(E.n0,E.n0),(E.n0+1,E.n0+1)]:=by simp[toB,slB,hoe]
    refine Conv.sub [(E.n0,E.n0),(E.n0+1,E.n0+1)] hrn ?_ ?_ ?_ ?_ ?_<;>(try simp[toB,slB,hoe])
   refine w_seq (w_block ?_)
   refine w_seq (w_cut (X:=Unit) (fun _=>tsA E l i s j (a1++if j=0 then [tkS 40] else [])) (fun _=>True) (fun p5 hp5=>?_) fun _ _=>?_)
   ·by_cases hj0:j=0
    ·rw[if_pos hj0] at hp5
     unfold tsA slB
     refine w_go 4000 ?_
     simp[toB,hoe]
     refine goc_true (by simp[hj0]) ?_
     simp
     (refine w_call hP rfl (hsg _ _) (by simp[eTk_s]) (by simp[eTk_s]<;>rfl) ?_; refine w_go 4000 ?_; simp[eTk_s])
     refine⟨⟨by omega,by omega⟩,?_⟩
     refine hp5 _ () trivial ?_
     unfold tsA
     have hrn:rnOk [(E.n0,E.n0+5122),(E.n0+1,E.n0+1)]:=by simp[toB,slB,hoe,eTk_s]
     refine Conv.sub [(E.n0,E.n0+5122),(E.n0+1,E.n0+1)] hrn ?_ ?_ ?_ ?_ ?_<;>(try simp[toB,slB,hoe,eTk_s])
     all_goals exact renL_pure rfl (pureL_append (pure_tks _) rfl)
    ·rw[if_neg hj0,List.append_nil] at hp5
     unfold tsA slB
     refine w_go 4000 ?_
     simp[toB,hoe]
     refine goc_false (by simp; omega) ?_
     simp
     refine hp5 _ () trivial ?_
     unfold tsA
     have hrn:rnOk [(E.n0,E.n0),(E.n0+1,E.n0+1)]:=by simp[toB,slB,hoe]
     refine Conv.sub [(E.n0,E.n0),(E.n0+1,E.n0+1)] hrn ?_ ?_ ?_ ?_ ?_<;>(try simp[toB,slB,hoe])
   have hl2:(a1++if j=0 then [tkS 40] else []).length≤1000000000001:=by
    simp only[List.length_append]; split<;>simp<;>omega
   have hx2:a1++(if j=0 then [tkS 40] else [])++tkAg a++(if j+1=s.args.length then [tkS 41] else [])=ac++agT s.args (j+1):=by
    rw[hnx,ha1]; simp
   generalize a1++(if j=0 then [tkS 40] else [])=a2 at *
   refine w_cut2 (X:=Unit) (fun _=>tsT E l i s j a2 (tkV a)) (fun _=>True) (fun p5 hp5=>?_) fun _ _=>?_
   ·cases ht:a.isText with
    | true =>
     have hev:=eTk_v a
     rw[if_pos ht] at hev
     unfold tsA slB
     refine w_go 4000 ?_
     simp[toB,hoe,h2,hla,hag,ht]
     refine hp5 _ () trivial ?_
     unfold tsT
     have hrn:rnOk [(E.n0,E.n0),(E.n0+1,E.n0+1),(E.n0+2,E.n0+7170)]:=by simp[toB,slB,hoe,hev]
     refine Conv.sub [(E.n0,E.n0),(E.n0+1,E.n0+1),(E.n0+2,E.n0+7170)] hrn ?_ ?_ ?_ ?_ ?_<;>(try simp[toB,slB,hoe,hev])
    | false =>
     have hev:=eTk_v a
     rw[if_neg (by simp[ht])] at hev
     unfold tsA slB
     refine w_go 4000 ?_
     simp[toB,hoe,h2,hla,hag,ht]
     refine hp5 _ () trivial ?_
     unfold tsT
     have hrn:rnOk [(E.n0,E.n0),(E.n0+1,E.n0+1),(E.n0+2,E.n0+7170)]:=by simp[toB,slB,hoe,hev]
     refine Conv.sub [(E.n0,E.n0),(E.n0+1,E.n0+1),(E.n0+2,E.n0+7170)] hrn ?_ ?_ ?_ ?_ ?_<;>(try simp[toB,slB,hoe,hev])
   refine w_seq (w_cut (X:=Unit) (fun _=>tsA E l i s j (a2++tkAg a)) (fun _=>True) (fun p5 hp5=>?_) fun _ _=>?_)
   ·unfold tsT slB
    refine w_go 4000 ?_
    have hev:∃k x n,eTk (tkV a) = .agg [.int .i64 k,.str x,.int .i64 n]:=⟨_,_,_,rfl⟩
    obtain⟨vk,vx,vn,hev⟩:=hev
    simp[toB,hoe,h2,hla,hag,hev]
    (refine w_call hP rfl (hwd _ _) (by simp[eTk_w,hev]) (by simp[eTk_w,hev]<;>rfl) ?_; refine w_go 4000 ?_; simp[eTk_w,hev])
    (refine w_call hP rfl (hsg _ _) (by simp[eTk_s,eTk_w,hev]) (by simp[eTk_s,eTk_w,hev]<;>rfl) ?_; refine w_go 4000 ?_; simp[eTk_s,eTk_w,hev])
    refine⟨⟨by omega,by omega⟩,?_⟩
    refine hp5 _ () trivial ?_
    unfold tsA
    have hrn:rnOk [(E.n0,E.n0+11267),(E.n0+1,E.n0+1)]:=by simp[toB,slB,hoe,eTk_s,eTk_w,hev,tkAg]
    refine Conv.sub [(E.n0,E.n0+11267),(E.n0+1,E.n0+1)] hrn ?_ ?_ ?_ ?_ ?_<;>(try simp[toB,slB,hoe,eTk_s,eTk_w,hev,tkAg])
    all_goals exact renL_pure rfl (pureL_append (pure_tks _) rfl)
   have hl3:(a2++tkAg a).length≤1000000000004:=by
    simp only[List.length_append,tkAg,List.length_cons,List.length_nil]; omega
   generalize a2++tkAg a=a3 at *
   by_cases hjl:j+1=s.args.length
   ·rw[if_pos hjl] at hx2
    unfold tsA slB
    refine w_go 4000 ?_
    simp[toB,hoe,hl1]
    refine goc_true (by simp; omega) ?_
    simp
    (refine w_call hP rfl (hsg _ _) (by simp[eTk_s]) (by simp[eTk_s]<;>rfl) ?_; refine w_go 4000 ?_; simp[eTk_s])
    refine⟨⟨by omega,by omega⟩,?_⟩
    refine hp4 _ (j+1,a3++[tkS 41]) ⟨h2,hx2⟩ (by simp; omega) ?_
    unfold tsA
    have hrn:rnOk [(E.n0,E.n0+9218),(E.n0+1,E.n0+1)]:=by simp[toB,slB,hoe,eTk_s,hj1]
    refine Conv.sub [(E.n0,E.n0+9218),(E.n0+1,E.n0+1)] hrn ?_ ?_ ?_ ?_ ?_<;>(try simp[toB,slB,hoe,eTk_s,hj1])
    all_goals exact renL_pure rfl (pureL_append (pure_tks _) rfl)
   ·rw[if_neg hjl,List.append_nil] at hx2
    unfold tsA slB
    refine w_go 4000 ?_
    simp[toB,hoe,hl1]
    refine goc_false (by simp; omega) ?_
    simp
    refine hp4 _ (j+1,a3) ⟨h2,hx2⟩ (by simp; omega) ?_
    unfold tsA
    have hrn:rnOk [(E.n0,E.n0),(E.n0+1,E.n0+1)]:=by simp[toB,slB,hoe,hj1]
    refine Conv.sub [(E.n0,E.n0),(E.n0+1,E.n0+1)] hrn ?_ ?_ ?_ ?_ ?_<;>(try simp[toB,slB,hoe,hj1])
  have hb3:(acc++alT s.alias++[tkW s.name]++tkArgs s.args).length+(tkKids s.kids).length≤549755813888:=by
   simp only[List.length_append,List.length_cons,List.length_nil]; omega
  have hx:acc++alT s.alias++[tkW s.name]++tkArgs s.args++tkKids s.kids=tkS 123::(l.take (i+1)).flatMap tkSel:=by
   rw[hsn,ha,hse2]; simp
  generalize acc++alT s.alias++[tkW s.name]++tkArgs s.args=ac at *
  by_cases hk:s.kids=[]
  ·have hk2:tkKids s.kids=[]:=by rw[hk]; rfl
   rw[hk2,List.append_nil] at hx
   unfold tsM slB
   refine w_go 4000 ?_
   simp[toB,hoe,hk]
   refine hp _ (i+1,ac) ⟨h,hx⟩ (by simp; omega) ?_
   unfold tsS
   have hrn:rnOk [(E.n0,E.n0)]:=by simp[toB,hi1]
   refine Conv.sub [(E.n0,E.n0)] hrn ?_ ?_ ?_ ?_ ?_<;>(try simp[toB,hi1])
  ·have hpos:0<s.kids.length:=List.length_pos_iff.2 hk
   have hK:=fun id=>ih s.kids id (by omega) (by omega)
   rw[tkKids_sels hk] at hx hb3
   unfold tsM slB
   refine w_go 4000 ?_
   simp[toB,hoe,hpos]
   (refine w_call hP rfl (hK _) (by simp[eTk]) (by simp[eTk]<;>rfl) ?_; refine w_go 4000 ?_; simp[eTk])
   refine⟨⟨by omega,by omega⟩,?_⟩
   refine hp _ (i+1,ac++tkSels s.kids) ⟨h,hx⟩ (by simp; omega) ?_
   unfold tsS
   have hrn:rnOk [(E.n0,E.n0+8194)]:=by simp[toB,hi1]
   refine Conv.sub [(E.n0,E.n0+8194)] hrn ?_ ?_ ?_ ?_ ?_<;>(try simp[toB,hi1])
   all_goals exact renL_pure rfl (pureL_append (pure_tks _) (pure_tks _))
end Go.Am
