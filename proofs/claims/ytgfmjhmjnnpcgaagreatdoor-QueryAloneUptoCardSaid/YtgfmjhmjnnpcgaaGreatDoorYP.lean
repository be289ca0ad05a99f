/- Parts of the proof: an abstract machine for Go functions, and what functions of the program give back (Qr16, Qr17, Qr18). No condition. -/
import Derived.Test.YtgfmjhmjnnpcgaaGreatDoorYO
import Derived.Test.YtgfmjhmjnnpcgaaGreatDoorYH
namespace Go.Am
set_option linter.all false
open Go Go.RowKit Go.Proofs
set_option maxRecDepth 100000
set_option linter.all false
theorem Word_ok(s:List UInt8)(id:Nat):FnOk Tryz.prog 92 [.str s] [] id (.agg [.int .i64 1,.str s,.int .i64 0]) []:=by
 refine fn_okc Tryz.func92 hcc92 (by decide) hcr92 (by simp[Tryz.ntmps92]) fun E hP hR hl hid=>?_
 simp only[cr92] at hR
 refine w_go 4000 ?_
 simp[cc92]
 have hrn:rnOk []:=by simp[idO hid]
 rw[hR]
 refine rt_end (by simp<;>rfl) [] hrn ⟨?_,?_,?_,?_,?_,?_⟩<;>(try simp[idO hid])
theorem Sign_ok(s:List UInt8)(id:Nat):FnOk Tryz.prog 93 [.str s] [] id (.agg [.int .i64 4,.str s,.int .i64 0]) []:=by
 refine fn_okc Tryz.func93 hcc93 (by decide) hcr93 (by simp[Tryz.ntmps93]) fun E hP hR hl hid=>?_
 simp only[cr93] at hR
 refine w_go 4000 ?_
 simp[cc93]
 have hrn:rnOk []:=by simp[idO hid]
 rw[hR]
 refine rt_end (by simp<;>rfl) [] hrn ⟨?_,?_,?_,?_,?_,?_⟩<;>(try simp[idO hid])
theorem apt3{a b c:Nat}(h:[a,b,c].Nodup):((a=b)=False∧(b=a)=False)∧((a=c)=False∧(c=a)=False)∧(b=c)=False∧(c=b)=False:=by
 simp at h
 obtain⟨⟨h1,h2⟩,h3⟩:=h
 exact⟨⟨eq_false h1,eq_false (Ne.symm h1)⟩,⟨eq_false h2,eq_false (Ne.symm h2)⟩,eq_false h3,eq_false (Ne.symm h3)⟩
def toB(l:List Tk):Bx:=⟨l.map eTk,.agg [.int .i64 0,.str [],.int .i64 0],false,false⟩
theorem toB_eq(l:List Tk):toB l=⟨l.map eTk,.agg [.int .i64 0,.str [],.int .i64 0],false,false⟩:=rfl
theorem tk_cells(xs:List Tk):∀a:Tk,a∈xs→(match eTk a with|AV.agg cs=>cs|v=>[v]).length=3∧∀x:AV,(x∈match eTk a with|AV.agg cs=>cs|v=>[v])→(match x with|AV.agg cs=>false|AV.tup cs=>false|x=>true)=true:=fun a _=>by
 simp[eTk]
theorem sPut_ok(xs ys:List Tk)(T K M id:Nat)(hd:[T,K,M].Nodup)(hl8:ys.length+xs.length≤1099511627776):
  FnOk Tryz.prog 91 [.bsl T 0 xs.length,.ptr K 0 0] [(T,toB xs),(K,lK (.bsl M 0 ys.length)),(M,toB ys)] id (.tup []) [(K,some (lK (.bsl id 0 (ys.length+xs.length)))),(M,none),(id,some (toB (ys++xs)))]:=by
 have d:=apt3 hd
 have hex:(ys++xs).map eTk=ys.map eTk++xs.map eTk:=by simp
 rw[toB_eq,toB_eq,toB_eq,lK_eq,lK_eq,hex]
 refine fn_okc Tryz.func91 hcc91 (by decide) hcr91 (by simp[Tryz.ntmps91]) fun E hP hR hl hid=>?_
 simp only[cr91] at hR
 refine w_go 4000 ?_
 simp[cc91]
 have hT:=hl (T,_) (List.mem_cons_self ..)
 simp only at hT
 have T1:=lf hT
 have hK:=hl (K,_) (List.mem_cons_of_mem _ (List.mem_cons_self ..))
 simp only at hK
 have K1:=lf hK
 have hM:=hl (M,_) (List.mem_cons_of_mem _ (List.mem_cons_of_mem _ (List.mem_cons_self ..)))
 simp only at hM
 have M1:=lf hM
 simp[T1,K1,M1,d]
 refine⟨⟨tk_cells xs,by omega,by omega⟩,?_⟩
 have hrn:rnOk [(id,E.n0+2048)]:=by simp[T1,K1,M1,d,idO hid]
 rw[hR]
 refine rt_end (by simp<;>rfl) [(id,E.n0+2048)] hrn ⟨?_,?_,?_,?_,?_,?_⟩<;>(try simp[T1,K1,M1,d,idO hid])
 exact renL_pure rfl (pureL_append (pure_tks _) (pure_tks _))
theorem qPut_ok(xs ys:List Tk)(T K M id:Nat)(hd:[T,K,M].Nodup)(hl8:ys.length+xs.length≤1099511627776):
  FnOk Tryz.prog 100 [.bsl T 0 xs.length,.ptr K 0 0] [(T,toB xs),(K,lK (.bsl M 0 ys.length)),(M,toB ys)] id (.tup []) [(K,some (lK (.bsl id 0 (ys.length+xs.length)))),(M,none),(id,some (toB (ys++xs)))]:=by
 have d:=apt3 hd
 have hex:(ys++xs).map eTk=ys.map eTk++xs.map eTk:=by simp
 rw[toB_eq,toB_eq,toB_eq,lK_eq,lK_eq,hex]
 refine fn_okc Tryz.func100 hcc100 (by decide) hcr100 (by simp[Tryz.ntmps100]) fun E hP hR hl hid=>?_
 simp only[cr100] at hR
 refine w_go 4000 ?_
 simp[cc100]
 have hT:=hl (T,_) (List.mem_cons_self ..)
 simp only at hT
 have T1:=lf hT
 have hK:=hl (K,_) (List.mem_cons_of_mem _ (List.mem_cons_self ..))
 simp only at hK
 have K1:=lf hK
 have hM:=hl (M,_) (List.mem_cons_of_mem _ (List.mem_cons_of_mem _ (List.mem_cons_self ..)))
 simp only at hM
 have M1:=lf hM
 simp[T1,K1,M1,d]
 refine⟨⟨tk_cells xs,by omega,by omega⟩,?_⟩
 have hrn:rnOk [(id,E.n0+2048)]:=by simp[T1,K1,M1,d,idO hid]
 rw[hR]
 refine rt_end (by simp<;>rfl) [(id,E.n0+2048)] hrn ⟨?_,?_,?_,?_,?_,?_⟩<;>(try simp[T1,K1,M1,d,idO hid])
 exact renL_pure rfl (pureL_append (pure_tks _) (pure_tks _))
theorem qPutS_ok(xs ys:List Tk)(K M id:Nat)(hd:K≠M)(hl8:ys.length+xs.length≤1099511627776):
  FnOk Tryz.prog 100 [.sl (xs.map eTk),.ptr K 0 0] [(K,lK (.bsl M 0 ys.length)),(M,toB ys)] id (.tup []) [(K,some (lK (.bsl id 0 (ys.length+xs.length)))),(M,none),(id,some (toB (ys++xs)))]:=by
 have hex:(ys++xs).map eTk=ys.map eTk++xs.map eTk:=by simp
 rw[toB_eq,toB_eq,lK_eq,lK_eq,hex]
 refine fn_okc Tryz.func100 hcc100 (by decide) hcr100 (by simp[Tryz.ntmps100]) fun E hP hR hl hid=>?_
 simp only[cr100] at hR
 refine w_go 4000 ?_
 simp[cc100]
 have hK:=hl (K,_) (List.mem_cons_self ..)
 simp only at hK
 have K1:=lf hK
 have hM:=hl (M,_) (List.mem_cons_of_mem _ (List.mem_cons_self ..))
 simp only at hM
 have M1:=lf hM
 simp[K1,M1,hd,Ne.symm hd]
 refine⟨⟨tk_cells xs,by omega,by omega⟩,?_⟩
 have hrn:rnOk [(id,E.n0+2048)]:=by simp[K1,M1,hd,Ne.symm hd,idO hid]
 rw[hR]
 refine rt_end (by simp<;>rfl) [(id,E.n0+2048)] hrn ⟨?_,?_,?_,?_,?_,?_⟩<;>(try simp[K1,M1,hd,Ne.symm hd,idO hid])
 exact renL_pure rfl (pureL_append (pure_tks _) (pure_tks _))
theorem eTk_w(s:List UInt8):eTk (tkW s) = .agg [.int .i64 1,.str s,.int .i64 0]:=rfl
theorem eTk_s(c:UInt8):eTk (tkS c) = .agg [.int .i64 4,.str [c],.int .i64 0]:=rfl
end Go.Am
namespace Go.Am
set_option linter.all false
open Go Go.RowKit Go.Proofs
set_option maxRecDepth 100000
set_option linter.all false
theorem fm_snoc{α:Type}{l:List α}{i:Nat}{x:α}(g:α→List Tk)(h:l[i]?=some x):(l.take (i+1)).flatMap g=(l.take i).flatMap g++g x:=by
 rw[take_snoc h,List.flatMap_append]; simp
theorem fm_len{α:Type}(l:List α)(i:Nat)(g:α→List Tk):((l.take i).flatMap g).length≤(l.flatMap g).length:=by
 conv=>rhs; rw[←List.take_append_drop i l,List.flatMap_append,List.length_append]
 omega
end Go.Am
namespace Go.Am
set_option linter.all false
open Go Go.RowKit Go.Proofs
set_option maxRecDepth 100000
set_option linter.all false
theorem wri_w(s:List UInt8):Wri (tkW s):=wri_oth 1 0 s (by decide) (by decide)
theorem wri_s(c:UInt8):Wri (tkS c):=wri_oth 4 0 [c] (by decide) (by decide)
end Go.Am
