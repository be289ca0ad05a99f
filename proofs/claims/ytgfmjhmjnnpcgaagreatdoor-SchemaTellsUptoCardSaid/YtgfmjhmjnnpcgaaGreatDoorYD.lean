/- Parts of the proof: an abstract machine for Go functions, and what functions of the program give back (Lx4, Lx5, Lx6). No condition. -/
import Derived.Test.YtgfmjhmjnnpcgaaGreatDoorYC
import Derived.Test.YtgfmjhmjnnpcgaaGreatDoorYA
import Derived.Test.YtgfmjhmjnnpcgaaGreatDoorXD
namespace Go.Am
set_option linter.all false
open Go Go.RowKit Go.Proofs
set_option maxRecDepth 100000
set_option linter.all false
def eTk(t:Tk):AV:=.agg [.int .i64 t.kind,.str t.text,.int .i64 t.n]
def zTk:AV:=.agg [.int .i64 0,.str [],.int .i64 0]
def rB(z:List UInt8)(i:Nat):Bx:=⟨[.agg [.str z,.int .i64 i]],.agg [.str z,.int .i64 0],false,false⟩
theorem rB_eq(z:List UInt8)(i:Nat):rB z i=⟨[.agg [.str z,.int .i64 i]],.agg [.str z,.int .i64 0],false,false⟩:=rfl
def erV(e:Int):AV:=.iface 23 (.int .i64 e)
theorem lfail_ok(e:Int)(id:Nat):FnE Tryz.prog 75 [.int .i64 e] [] id (.error (erV e)):=by
 refine fn_okE Tryz.func75 hcc75 (by decide) hcr75 (by simp[Tryz.ntmps75]) fun E hP hR hPn hl hid hB hu=>?_
 simp only[cr75] at hR
 refine w_go 9 ?_
 simp[cc75]
 refine w_panic (by simp<;>rfl) (by simp) ⟨by simp,hPn _ _ rfl rfl (by simp)⟩
theorem tw_stopP{p:UInt8→Bool}{s:List UInt8}{i:Nat}(h:∀c∈s.take i,p c=true)(hs:∀c,s[i]?=some c→p c=false):s.takeWhile p=s.take i:=by
 conv=>lhs; rw[←List.take_append_drop i s]
 rw[List.takeWhile_append_of_pos h]
 cases hd:s.drop i with
 | nil=>simp
 | cons c r =>
  have:s[i]?=some c:=by
   have:=congrArg (fun l=>l[0]?) hd
   simpa using this
  rw[List.takeWhile_cons_of_neg (by simp[hs c this])]; simp
theorem tw_lenP(p:UInt8→Bool)(s:List UInt8):(s.takeWhile p).length≤s.length:=(List.takeWhile_prefix _).length_le
def at2(p:UInt8→Bool)(z:List UInt8)(i:Nat):Nat:=i+((z.drop i).takeWhile p).length
set_option maxHeartbeats 4000000 in
theorem pass_ok(z:List UInt8)(i:Nat)(p:UInt8→Bool)(F:Nat)(J id:Nat)(hi:i≤z.length)(h8:z.length≤1099511627776)(hF:∀(c:UInt8) id,FnOk Tryz.prog F [.int .u8 c.toNat] [] id (.bool (p c)) []):
  FnOk Tryz.prog 102 [.ptr J 0 0,.fn F []] [(J,rB z i)] id (.str ((z.drop i).takeWhile p)) [(J,some (rB z (at2 p z i)))]:=by
 rw[rB_eq,rB_eq]
 refine fn_okc Tryz.func102 hcc102 (by decide) hcr102 (by simp[Tryz.ntmps102]) fun E hP hR hl hid=>?_
 simp only[cr102] at hR
 refine w_go 4000 ?_
 simp[cc102]
 have hJ:=hl (J,_) (List.mem_cons_self ..)
 simp only at hJ
 have J1:=lf hJ
 refine w_loop (X:=Nat) (fun j=>⟨[(0,true,.ptr J 0 0),(1,true,.fn F []),(5,true,.int .i64 i)],[(J,some (rB z j))],0⟩)
  (fun j=>(i≤j∧j≤z.length)∧∀c∈(z.drop i).take (j - i),p c=true) (fun j=>z.length - j) i ?_ ⟨⟨by omega,by omega⟩,by simp⟩ ?_
 ·have hrn:rnOk []:=by simp[rB,J1]
  refine Conv.sub [] hrn ?_ ?_ ?_ ?_ ?_<;>(try simp[rB,J1])
 rintro j ⟨⟨hij,hj⟩,hall⟩ q hq
 rw[rB_eq]
 have ending:(∀c,(z.drop i)[j - i]?=some c→p c=false)→(z.drop i).takeWhile p=(z.take j).drop i∧at2 p z i=j:=fun hs=>by
  have h1:=tw_stopP hall hs
  have h2:(z.drop i).take (j - i)=(z.take j).drop i:=by rw[List.drop_take]
  unfold at2
  rw[h1,List.length_take,List.length_drop,h2]
  exact⟨rfl,by omega⟩
 rcases Nat.lt_or_ge j z.length with h|h
 ·obtain⟨c,hc,hd⟩:=drop_cons h
  have hcj:z[j]=c:=by
   rw[List.getElem?_eq_getElem h] at hc
   injection hc
  have hj1:IntKind.i64.wrap ((j:Int)+1)=((j+1:Nat):Int):=wrap64 (by omega)
  have hix:(z.drop i)[j - i]?=some c:=by rw[List.getElem?_drop,show i+(j - i)=j by omega]; exact hc
  refine w_go 4000 ?_
  simp[h,hcj,J1]
  refine w_callvg hP (by simp) rfl (fun hh=>⟨by simp<;>rfl,hF c _,by simp,by simp⟩) ?_
  refine w_go 4000 ?_
  simp[h,hcj,J1]
  by_cases hpc:p c=true
  ·refine goc_true hpc ?_
   simp[J1]
   refine hq _ (j+1) ⟨⟨by omega,h⟩,fun x hx=>?_⟩ (by omega) ?_
   ·rw[show j+1 - i=j - i+1 by omega,take_snoc hix] at hx
    rcases List.mem_append.1 hx with hx|hx
    ·exact hall x hx
    ·obtain rfl:=List.mem_singleton.1 hx; exact hpc
   ·have hrn:rnOk []:=by simp[rB,hj1,J1]
    refine Conv.sub [] hrn ?_ ?_ ?_ ?_ ?_<;>(try simp[rB,hj1,J1])
  ·have hpc:p c=false:=by simpa using hpc
   obtain⟨e1,e2⟩:=ending fun d hd=>by rw[hix] at hd; injection hd with hd; rw[←hd]; exact hpc
   rw[e1,e2] at hR
   refine goc_false hpc ?_
   simp[J1]
   refine⟨⟨by omega,by omega⟩,?_⟩
   have hrn:rnOk []:=by simp[rB,J1,idO hid]
   rw[hR]
   refine rt_end (by simp<;>rfl) [] hrn ⟨?_,?_,?_,?_,?_,?_⟩<;>(try simp[rB,J1,idO hid])
 ·obtain⟨e1,e2⟩:=ending fun c hc=>by rw[List.getElem?_drop,show i+(j - i)=j by omega,List.getElem?_eq_none (by omega)] at hc; cases hc
  rw[e1,e2] at hR
  refine w_go 4000 ?_
  simp[h,Nat.not_lt.2 h,J1]
  refine w_callvg hP (by simp) rfl (v:=.bool false) (rd:=[]) (f:=F) (caps:=[]) (fun hh=>by simp at hh) ?_
  refine w_go 4000 ?_
  simp[h,Nat.not_lt.2 h,J1]
  refine⟨⟨by omega,by omega⟩,?_⟩
  have hrn:rnOk []:=by simp[rB,J1,idO hid]
  rw[hR]
  refine rt_end (by simp<;>rfl) [] hrn ⟨?_,?_,?_,?_,?_,?_⟩<;>(try simp[rB,J1,idO hid])
end Go.Am
namespace Go.Am
set_option linter.all false
open Go Go.RowKit Go.Proofs
set_option maxRecDepth 100000
set_option linter.all false
theorem at2_drop(p:UInt8→Bool)(z:List UInt8)(i:Nat):z.drop (at2 p z i)=(z.drop i).dropWhile p:=by
 unfold at2
 rw[←List.drop_drop]
 have h:=List.takeWhile_append_dropWhile (p:=p) (l:=z.drop i)
 generalize (z.drop i).takeWhile p=a at h
 generalize (z.drop i).dropWhile p=b at h
 rw[←h,List.drop_left]
theorem at2_le(p:UInt8→Bool){z:List UInt8}{i:Nat}(hi:i≤z.length):i≤at2 p z i∧at2 p z i≤z.length:=by
 have:=tw_lenP p (z.drop i)
 rw[List.length_drop] at this
 unfold at2; omega
def atU(z u:List UInt8):Nat:=z.length - u.length
theorem atU_drop{z:List UInt8}{i:Nat}(hi:i≤z.length):atU z (z.drop i)=i:=by
 unfold atU; rw[List.length_drop]; omega
theorem blk_dw:∀s:List UInt8,blk false s=blk false (s.dropWhile blC)
 | []=>rfl
 | c::r=>by
  cases hc:blC c with
  | true=>rw[List.dropWhile_cons_of_pos hc,←blk_dw r]; simp[blk,hc]
  | false=>rw[List.dropWhile_cons_of_neg (by simp[hc])]
def noNl(c:UInt8):Bool:=c != 10
theorem blk_rw:∀s:List UInt8,blk true s=blk false (s.dropWhile noNl)
 | []=>rfl
 | c::r=>by
  by_cases hc:c=10
  ·subst hc; rfl
  ·have h:noNl c=true:=by unfold noNl; simp[hc]
   rw[List.dropWhile_cons_of_pos h,←blk_rw r]
   simp[blk,hc]
theorem dw_head{p:UInt8→Bool}{s:List UInt8}{c:UInt8}{r:List UInt8}(h:s.dropWhile p=c::r):p c=false:=by
 induction s with
 | nil=>cases h
 | cons d s ih =>
  cases hd:p d with
  | true=>rw[List.dropWhile_cons_of_pos hd] at h; exact ih h
  | false=>rw[List.dropWhile_cons_of_neg (by simp[hd])] at h; injection h with h1 h2; rw[←h1]; exact hd
theorem u8i(c:UInt8)(n:Nat)(hn:n<256):((c.toNat:Int)==(n:Int))=(c==UInt8.ofNat n):=by
 rw[Bool.eq_iff_iff,beq_iff_eq,beq_iff_eq,←UInt8.toNat_inj]
 simp
 omega
theorem blank1_ok(c:UInt8)(id:Nat):FnOk Tryz.prog 103 [.int .u8 c.toNat] [] id (.bool (blC c)) []:=by
 have h9:((c.toNat:Int)==9)=(c==9):=u8i c 9 (by decide)
 have h10:((c.toNat:Int)==10)=(c==10):=u8i c 10 (by decide)
 have h13:((c.toNat:Int)==13)=(c==13):=u8i c 13 (by decide)
 have h32:((c.toNat:Int)==32)=(c==32):=u8i c 32 (by decide)
 have h44:((c.toNat:Int)==44)=(c==44):=u8i c 44 (by decide)
 refine fn_okc Tryz.func103 hcc103 (by decide) hcr103 (by simp[Tryz.ntmps103]) fun E hP hR hl hid=>?_
 simp only[cr103] at hR
 refine w_go 4000 ?_
 simp[cc103]
 simp only[h9,h10,h13,h32,h44]
 rw[hR]; exact rt_end (by simp<;>rfl) [] trivial (end_pure (by simp; unfold blC; rfl) (by simp) (by simp))
theorem blank2_ok(c:UInt8)(id:Nat):FnOk Tryz.prog 104 [.int .u8 c.toNat] [] id (.bool (noNl c)) []:=by
 have h10:((c.toNat:Int)==10)=(c==10):=u8i c 10 (by decide)
 refine fn_okc Tryz.func104 hcc104 (by decide) hcr104 (by simp[Tryz.ntmps104]) fun E hP hR hl hid=>?_
 simp only[cr104] at hR
 refine w_go 4000 ?_
 simp[cc104]
 rw[hR]; exact rt_end (by simp<;>rfl) [] trivial (end_pure (by simp; unfold noNl; simp only[bne,h10]) (by simp) (by simp))
def atB(z:List UInt8)(i:Nat):Nat:=atU z (blk false (z.drop i))
set_option maxHeartbeats 4000000 in
theorem blank_ok(z:List UInt8)(i:Nat)(J id:Nat)(hi:i≤z.length)(h8:z.length≤1099511627776):
  FnOk Tryz.prog 73 [.ptr J 0 0] [(J,rB z i)] id (.tup []) [(J,some (rB z (atB z i)))]:=by
 have hP1:=fun j id hj=>pass_ok z j blC 103 J id hj h8 blank1_ok
 have hP2:=fun j id hj=>pass_ok z j noNl 104 J id hj h8 blank2_ok
 rw[rB_eq,rB_eq]
 refine fn_okc Tryz.func73 hcc73 (by decide) hcr73 (by simp[Tryz.ntmps73]) fun E hP hR hl hid=>?_
 simp only[cr73] at hR
 refine w_go 4000 ?_
 simp[cc73]
 have hJ:=hl (J,_) (List.mem_cons_self ..)
 simp only at hJ
 have J1:=lf hJ
 refine w_loop (X:=Nat) (fun j=>⟨[(0,true,.ptr J 0 0)],[(J,some (rB z j))],0⟩)
  (fun j=>j≤z.length∧blk false (z.drop j)=blk false (z.drop i)) (fun j=>z.length - j) i ?_ ⟨hi,rfl⟩ ?_
 ·have hrn:rnOk []:=by simp[rB,J1]
  refine Conv.sub [] hrn ?_ ?_ ?_ ?_ ?_<;>(try simp[rB,J1])
 rintro j ⟨hj,hb⟩ q hq
 obtain⟨l1,l2⟩:=at2_le blC hj
 have d1:=at2_drop blC z j
 have hp1:=fun id=>hP1 j id hj
 have hp2:=fun id=>hP2 (at2 blC z j) id l2
 generalize at2 blC z j=k at *
 rw[blk_dw,←d1] at hb
 rw[rB_eq,rB_eq] at hp1 hp2
 rw[rB_eq]
 refine w_go 4000 ?_
 simp[J1]
 (refine w_call hP rfl (hp1 _) (by simp[J1]) (by simp[J1]<;>rfl) ?_; refine w_go 4000 ?_; simp[J1])
 rcases Nat.lt_or_ge k z.length with h|h
 ·obtain⟨c,hc,hd⟩:=drop_cons h
  have hck:z[k]=c:=by
   rw[List.getElem?_eq_getElem h] at hc
   injection hc
  have hnb:blC c=false:=dw_head (d1.symm.trans hd)
  have hne:((k:Int)==(z.length:Int))=false:=by rw[beq_eq_false_iff_ne]; omega
  have h35:((c.toNat:Int)==35)=(c==35):=u8i c 35 (by decide)
  by_cases g:c=35
  ·have l3:=at2_le noNl l2
   have d2:=at2_drop noNl z k
   have hlt:k<at2 noNl z k:=by
    unfold at2
    rw[hd,List.takeWhile_cons_of_pos (by rw[g]; rfl)]
    simp
   have hbm:blk false (z.drop (at2 noNl z k))=blk false (z.drop i):=by
    rw[d2,←hb,hd,List.dropWhile_cons_of_pos (by rw[g]; rfl),←blk_rw,g]
    rfl
   generalize at2 noNl z k=m at *
   refine⟨fun _=>⟨by omega,h⟩,?_⟩
   refine goc_false (by rw[hne,hc]; simp[bne,h35,g]) ?_
   simp[J1]
   (refine w_call hP rfl (hp2 _) (by simp[J1]) (by simp[J1]<;>rfl) ?_; refine w_go 4000 ?_; simp[J1])
   refine hq _ m ⟨l3.2,hbm⟩ (by omega) ?_
   have hrn:rnOk []:=by simp[rB,J1]
   refine Conv.sub [] hrn ?_ ?_ ?_ ?_ ?_<;>(try simp[rB,J1])
  ·have e:atB z i=k:=by
    unfold atB
    rw[←hb,hd,blk_fix hnb g,←hd,atU_drop (by omega)]
   rw[e] at hR
   refine⟨fun _=>⟨by omega,h⟩,?_⟩
   refine goc_true (by rw[hc]; simp only[Option.getD_some,bne,h35]; simp[g]) ?_
   simp[J1]
   have hrn:rnOk []:=by simp[rB,J1,idO hid]
   rw[hR]
   refine rt_end (by simp<;>rfl) [] hrn ⟨?_,?_,?_,?_,?_,?_⟩<;>(try simp[rB,J1,idO hid])
 ·have hk:k=z.length:=by omega
  have e:atB z i=k:=by
   unfold atB
   rw[←hb,List.drop_of_length_le h,hk]
   unfold atU blk; simp
  rw[e] at hR
  subst hk
  simp[J1]
  have hrn:rnOk []:=by simp[rB,J1,idO hid]
  rw[hR]
  refine rt_end (by simp<;>rfl) [] hrn ⟨?_,?_,?_,?_,?_,?_⟩<;>(try simp[rB,J1,idO hid])
end Go.Am
namespace Go.Am
set_option linter.all false
open Go Go.RowKit Go.Proofs
set_option maxRecDepth 100000
set_option linter.all false
def tokR(J:Nat)(z:List UInt8):Except Int (Tk×List UInt8)→Except AV (AV×List (Nat×Option Bx))
 | .ok p=>.ok (eTk p.1,[(J,some (rB z (atU z p.2)))])
 | .error e=>.error (erV e)
theorem tokR_ok{J:Nat}{z:List UInt8}{o:Except Int (Tk×List UInt8)}{t:Tk}{u:List UInt8}(h:o = .ok (t,u)):tokR J z o = .ok (eTk t,[(J,some (rB z (atU z u)))]):=by rw[h]; rfl
theorem tokR_no{J:Nat}{z:List UInt8}{o:Except Int (Tk×List UInt8)}{e:Int}(h:o = .error e):tokR J z o = .error (erV e):=by rw[h]; rfl
def numT(c:UInt8)(r:List UInt8):Except Int (Tk×List UInt8):=match intOf (numW c r) with
 | none=>.error 1
 | some n=>.ok (⟨2,[],n⟩,r.dropWhile isDg)
theorem numB_bad{a b:List UInt8}{n:Int}(hg:¬(a=b∧-999999999≤n∧n≤999999999)):(!a==b||(!decide (-999999999≤n)||!decide (n≤999999999)))=true:=by
 by_cases h1:a=b
 ·have h2:¬(-999999999≤n∧n≤999999999):=fun h=>hg ⟨h1,h⟩
  simp
  omega
 ·simp[h1]
theorem int_atoi{w:List UInt8}{n:Int}(h:Lib.atoiAll w = .ok n):intOf w=if Lib.itoa n=w∧-999999999≤n∧n≤999999999 then some n else none:=by
 split
 ·rename_i hg
  rw[←hg.1]; exact intOf_itoa hg.2
 ·rename_i hg
  cases hi:intOf w with
  | none=>rfl
  | some m =>
   obtain⟨h1,h2⟩:=itoa_intOf hi
   have h3:=atoi_itoa h2
   rw[h1,h] at h3
   injection h3 with h3
   subst h3
   exact (hg ⟨h1,h2⟩).elim
theorem int_none{w:List UInt8}(h:∀n,Lib.atoiAll w≠.ok n):intOf w=none:=by
 cases hi:intOf w with
 | none=>rfl
 | some m =>
  obtain⟨h1,h2⟩:=itoa_intOf hi
  have h3:=atoi_itoa h2
  rw[h1] at h3
  exact (h m h3).elim
theorem digitP_ok(c:UInt8)(id:Nat):FnOk Tryz.prog 107 [.int .u8 c.toNat] [] id (.bool (isDg c)) []:=digit_ok c id
set_option maxHeartbeats 16000000 in
theorem number_ok(z:List UInt8)(i:Nat)(c:UInt8)(r:List UInt8)(J id:Nat)(hi:i≤z.length)(hd:z.drop i=c::r)(hc:isDg c=true∨c=45)(h8:z.length≤1099511627776):
  FnE Tryz.prog 108 [.ptr J 0 0] [(J,rB z i)] id (tokR J z (numT c r)):=by
 have hf:=fun id=>lfail_ok 1 id
 have hP:=fun j id hj=>pass_ok z j isDg 107 J id hj h8 digitP_ok
 have hlt:i<z.length:=by
  have:=congrArg List.length hd
  rw[List.length_drop,List.length_cons] at this; omega
 have hcz:z[i]?=some c:=by
  have:=congrArg (fun l=>l[0]?) hd
  simpa using this
 have hci:z[i]=c:=by
  rw[List.getElem?_eq_getElem hlt] at hcz
  injection hcz
 have hd1:z.drop (i+1)=r:=by
  rw[←List.drop_drop,hd]; rfl
 have h45:((c.toNat:Int)==45)=(c==45):=u8i c 45 (by decide)
 have hlen:(numW c r).length≤281474976710656:=by
  have h1:=tw_lenP isDg r
  have h2:=congrArg List.length hd
  rw[List.length_drop,List.length_cons] at h2
  unfold numW
  simp; omega
 have tail:∀(j k:Nat) (pre:List UInt8),j=0→True:=fun _ _ _ _=>trivial
 by_cases hs:c=45
 ·have hp:=fun id=>hP (i+1) id (by omega)
  rw[hd1] at hp
  have e2:at2 isDg z (i+1)=atU z (r.dropWhile isDg):=by
   have h1:=at2_drop isDg z (i+1)
   rw[hd1] at h1
   rw[←h1,atU_drop (at2_le isDg (by omega)).2]
  rw[e2] at hp
  have hW:numW c r=45::r.takeWhile isDg:=by rw[hs]; rfl
  have hl1:1+(r.takeWhile isDg).length≤9223372036854775807:=by rw[hW,List.length_cons] at hlen; omega
  have hi1:IntKind.i64.wrap ((i:Int)+1)=((i+1:Nat):Int):=wrap64 (by omega)
  rw[rB_eq,rB_eq] at hp
  rw[rB_eq]
  rcases hat:Lib.atoiAll (numW c r) with n|_|_
  ·have hAt:=fun id=>Atoi_ok (numW c r) n id hlen hat
   have hb:=Lib.atoiAll_bounds hat
   have hI:=fun id=>Itoa_ok n id (by unfold I64; omega)
   have hL:=fun id=>lexInt_ok n id
   have hN:=int_atoi hat
   refine fn_okE Tryz.func108 hcc108 (by decide) hcr108 (by simp[Tryz.ntmps108]) fun E hP hR hPn hl hid hB hu=>?_
   simp only[cr108] at hR
   refine w_go 4000 ?_
   simp[cc108]
   have hJ:=hl (J,_) (List.mem_cons_self ..)
   simp only at hJ
   have J1:=lf hJ
   simp[hlt,hci,J1]
   refine goc_true (by rw[h45,hs]; rfl) ?_
   simp[J1]
   rw[hi1]
   (refine w_call hP rfl (hp _) (by simp[J1]) (by simp[J1]<;>rfl) ?_; refine w_go 4000 ?_; simp[J1])
   refine⟨hl1,?_⟩
   rw[←hW]
   (refine w_call hP rfl (hAt _) (by simp[J1]) (by simp[J1]<;>rfl) ?_; refine w_go 4000 ?_; simp[J1])
   (refine w_callg hP (by simp[J1]) rfl (fun hc=>⟨hI _,by revert hc; simp[J1]; try grind,by simp[J1]⟩) ?_; refine w_go 4000 ?_; simp[J1])
   (refine w_callg hP (by simp[J1]) rfl (fun hc=>⟨hL _,by revert hc; simp[J1]; try grind,by simp[J1]⟩) ?_; refine w_go 4000 ?_; simp[J1])
   by_cases hg:Lib.itoa n=numW c r∧-999999999≤n∧n≤999999999
   ·have e:numT c r = .ok (⟨2,[],n⟩,r.dropWhile isDg):=by unfold numT; rw[hN,if_pos hg]
    refine goc_false (by simp[hg.1,hg.2.1,hg.2.2]) ?_
    simp[J1]
    have hrn:rnOk []:=by simp[rB,eTk,J1,idO hid]
    refine hR _ _ _ (tokR_ok e) ?_
    refine rt_end (by simp[rB,eTk,J1,idO hid]<;>rfl) [] hrn ⟨?_,?_,?_,?_,?_,?_⟩<;>(try simp[rB,eTk,J1,idO hid])
   ·have e:numT c r = .error 1:=by unfold numT; rw[hN,if_neg hg]
    refine goc_true (numB_bad hg) ?_
    simp[J1]
    refine w_callE hP rfl (hf _) (by simp[J1]) (by simp[J1]<;>rfl) (fun pv hpv=>⟨by simp[J1],by injection hpv with hpv; subst hpv; exact hPn _ _ (tokR_no e) rfl (by simp[J1])⟩) (fun v wr h=>by cases h)
  ·have hN:intOf (numW c r)=none:=int_none fun n h=>by rw[hat] at h; cases h
   have e:numT c r = .error 1:=by unfold numT; rw[hN]
   have hAt:=fun id=>Atoi_syn (numW c r) id hlen hat (fun n h=>by cases h) (fun h=>by cases h)
   have hI:=fun id=>Itoa_ok 0 id (by unfold I64; omega)
   have hL:=fun id=>lexInt_ok 0 id
   unfold numErr at hAt
   refine fn_okE Tryz.func108 hcc108 (by decide) hcr108 (by simp[Tryz.ntmps108]) fun E hP hR hPn hl hid hB hu=>?_
   simp only[cr108] at hR
   refine w_go 4000 ?_
   simp[cc108]
   have hJ:=hl (J,_) (List.mem_cons_self ..)
   simp only at hJ
   have J1:=lf hJ
   simp[hlt,hci,J1]
   refine goc_true (by rw[h45,hs]; rfl) ?_
   simp[J1]
   rw[hi1]
   (refine w_call hP rfl (hp _) (by simp[J1]) (by simp[J1]<;>rfl) ?_; refine w_go 4000 ?_; simp[J1])
   refine⟨hl1,?_⟩
   rw[←hW]
   (refine w_call hP rfl (hAt _) (by simp[J1]) (by simp[J1]<;>rfl) ?_; refine w_go 4000 ?_; simp[J1])
   (refine w_callg hP (by simp[J1]) rfl (fun hc=>⟨hI _,by revert hc; simp[J1]; try grind,by simp[J1]⟩) ?_; refine w_go 4000 ?_; simp[J1])
   (refine w_callg hP (by simp[J1]) rfl (fun hc=>⟨hL _,by revert hc; simp[J1]; try grind,by simp[J1]⟩) ?_; refine w_go 4000 ?_; simp[J1])
   refine w_callE hP rfl (hf _) (by simp[J1]) (by simp[J1]<;>rfl) (fun pv hpv=>⟨by simp[J1],by injection hpv with hpv; subst hpv; exact hPn _ _ (tokR_no e) rfl (by simp[J1])⟩) (fun v wr h=>by cases h)
  ·have hN:intOf (numW c r)=none:=int_none fun n h=>by rw[hat] at h; cases h
   have e:numT c r = .error 1:=by unfold numT; rw[hN]
   have hAt:=fun id=>Atoi_rng (numW c r) id hlen hat
   have hb:=Lib.atoiSat_bounds (numW c r)
   generalize Lib.atoiSat (numW c r)=q at hAt hb
   have hI:=fun id=>Itoa_ok q id (by unfold I64; omega)
   have hL:=fun id=>lexInt_ok q id
   unfold numErr at hAt
   refine fn_okE Tryz.func108 hcc108 (by decide) hcr108 (by simp[Tryz.ntmps108]) fun E hP hR hPn hl hid hB hu=>?_
   simp only[cr108] at hR
   refine w_go 4000 ?_
   simp[cc108]
   have hJ:=hl (J,_) (List.mem_cons_self ..)
   simp only at hJ
   have J1:=lf hJ
   simp[hlt,hci,J1]
   refine goc_true (by rw[h45,hs]; rfl) ?_
   simp[J1]
   rw[hi1]
   (refine w_call hP rfl (hp _) (by simp[J1]) (by simp[J1]<;>rfl) ?_; refine w_go 4000 ?_; simp[J1])
   refine⟨hl1,?_⟩
   rw[←hW]
   (refine w_call hP rfl (hAt _) (by simp[J1]) (by simp[J1]<;>rfl) ?_; refine w_go 4000 ?_; simp[J1])
   (refine w_callg hP (by simp[J1]) rfl (fun hc=>⟨hI _,by revert hc; simp[J1]; try grind,by simp[J1]⟩) ?_; refine w_go 4000 ?_; simp[J1])
   (refine w_callg hP (by simp[J1]) rfl (fun hc=>⟨hL _,by revert hc; simp[J1]; try grind,by simp[J1]⟩) ?_; refine w_go 4000 ?_; simp[J1])
   refine w_callE hP rfl (hf _) (by simp[J1]) (by simp[J1]<;>rfl) (fun pv hpv=>⟨by simp[J1],by injection hpv with hpv; subst hpv; exact hPn _ _ (tokR_no e) rfl (by simp[J1])⟩) (fun v wr h=>by cases h)
 ·have hg:isDg c=true:=by rcases hc with h|h; exact h; exact (hs h).elim
  have hp:=fun id=>hP i id hi
  rw[hd,List.takeWhile_cons_of_pos hg] at hp
  have e2:at2 isDg z i=atU z (r.dropWhile isDg):=by
   have h1:=at2_drop isDg z i
   rw[hd,List.dropWhile_cons_of_pos hg] at h1
   rw[←h1,atU_drop (at2_le isDg hi).2]
  rw[e2] at hp
  have hW:numW c r=c::r.takeWhile isDg:=rfl
  rw[←hW] at hp
  rw[rB_eq,rB_eq] at hp
  rw[rB_eq]
  rcases hat:Lib.atoiAll (numW c r) with n|_|_
  ·have hAt:=fun id=>Atoi_ok (numW c r) n id hlen hat
   have hb:=Lib.atoiAll_bounds hat
   have hI:=fun id=>Itoa_ok n id (by unfold I64; omega)
   have hL:=fun id=>lexInt_ok n id
   have hN:=int_atoi hat
   refine fn_okE Tryz.func108 hcc108 (by decide) hcr108 (by simp[Tryz.ntmps108]) fun E hP hR hPn hl hid hB hu=>?_
   simp only[cr108] at hR
   refine w_go 4000 ?_
   simp[cc108]
   have hJ:=hl (J,_) (List.mem_cons_self ..)
   simp only at hJ
   have J1:=lf hJ
   simp[hlt,hci,J1]
   refine goc_false (by rw[h45]; simpa using hs) ?_
   simp[J1]
   (refine w_call hP rfl (hp _) (by simp[J1]) (by simp[J1]<;>rfl) ?_; refine w_go 4000 ?_; simp[J1])
   refine⟨by omega,?_⟩
   (refine w_call hP rfl (hAt _) (by simp[J1]) (by simp[J1]<;>rfl) ?_; refine w_go 4000 ?_; simp[J1])
   (refine w_callg hP (by simp[J1]) rfl (fun hc=>⟨hI _,by revert hc; simp[J1]; try grind,by simp[J1]⟩) ?_; refine w_go 4000 ?_; simp[J1])
   (refine w_callg hP (by simp[J1]) rfl (fun hc=>⟨hL _,by revert hc; simp[J1]; try grind,by simp[J1]⟩) ?_; refine w_go 4000 ?_; simp[J1])
   by_cases hg:Lib.itoa n=numW c r∧-999999999≤n∧n≤999999999
   ·have e:numT c r = .ok (⟨2,[],n⟩,r.dropWhile isDg):=by unfold numT; rw[hN,if_pos hg]
    refine goc_false (by simp[hg.1,hg.2.1,hg.2.2]) ?_
    simp[J1]
    have hrn:rnOk []:=by simp[rB,eTk,J1,idO hid]
    refine hR _ _ _ (tokR_ok e) ?_
    refine rt_end (by simp[rB,eTk,J1,idO hid]<;>rfl) [] hrn ⟨?_,?_,?_,?_,?_,?_⟩<;>(try simp[rB,eTk,J1,idO hid])
   ·have e:numT c r = .error 1:=by unfold numT; rw[hN,if_neg hg]
    refine goc_true (numB_bad hg) ?_
    simp[J1]
    refine w_callE hP rfl (hf _) (by simp[J1]) (by simp[J1]<;>rfl) (fun pv hpv=>⟨by simp[J1],by injection hpv with hpv; subst hpv; exact hPn _ _ (tokR_no e) rfl (by simp[J1])⟩) (fun v wr h=>by cases h)
  ·have hN:intOf (numW c r)=none:=int_none fun n h=>by rw[hat] at h; cases h
   have e:numT c r = .error 1:=by unfold numT; rw[hN]
   have hAt:=fun id=>Atoi_syn (numW c r) id hlen hat (fun n h=>by cases h) (fun h=>by cases h)
   have hI:=fun id=>Itoa_ok 0 id (by unfold I64; omega)
   have hL:=fun id=>lexInt_ok 0 id
   unfold numErr at hAt
   refine fn_okE Tryz.func108 hcc108 (by decide) hcr108 (by simp[Tryz.ntmps108]) fun E hP hR hPn hl hid hB hu=>?_
   simp only[cr108] at hR
   refine w_go 4000 ?_
   simp[cc108]
   have hJ:=hl (J,_) (List.mem_cons_self ..)
   simp only at hJ
   have J1:=lf hJ
   simp[hlt,hci,J1]
   refine goc_false (by rw[h45]; simpa using hs) ?_
   simp[J1]
   (refine w_call hP rfl (hp _) (by simp[J1]) (by simp[J1]<;>rfl) ?_; refine w_go 4000 ?_; simp[J1])
   refine⟨by omega,?_⟩
   (refine w_call hP rfl (hAt _) (by simp[J1]) (by simp[J1]<;>rfl) ?_; refine w_go 4000 ?_; simp[J1])
   (refine w_callg hP (by simp[J1]) rfl (fun hc=>⟨hI _,by revert hc; simp[J1]; try grind,by simp[J1]⟩) ?_; refine w_go 4000 ?_; simp[J1])
   (refine w_callg hP (by simp[J1]) rfl (fun hc=>⟨hL _,by revert hc; simp[J1]; try grind,by simp[J1]⟩) ?_; refine w_go 4000 ?_; simp[J1])
   refine w_callE hP rfl (hf _) (by simp[J1]) (by simp[J1]<;>rfl) (fun pv hpv=>⟨by simp[J1],by injection hpv with hpv; subst hpv; exact hPn _ _ (tokR_no e) rfl (by simp[J1])⟩) (fun v wr h=>by cases h)
  ·have hN:intOf (numW c r)=none:=int_none fun n h=>by rw[hat] at h; cases h
   have e:numT c r = .error 1:=by unfold numT; rw[hN]
   have hAt:=fun id=>Atoi_rng (numW c r) id hlen hat
   have hb:=Lib.atoiSat_bounds (numW c r)
   generalize Lib.atoiSat (numW c r)=q at hAt hb
   have hI:=fun id=>Itoa_ok q id (by unfold I64; omega)
   have hL:=fun id=>lexInt_ok q id
   unfold numErr at hAt
   refine fn_okE Tryz.func108 hcc108 (by decide) hcr108 (by simp[Tryz.ntmps108]) fun E hP hR hPn hl hid hB hu=>?_
   simp only[cr108] at hR
   refine w_go 4000 ?_
   simp[cc108]
   have hJ:=hl (J,_) (List.mem_cons_self ..)
   simp only at hJ
   have J1:=lf hJ
   simp[hlt,hci,J1]
   refine goc_false (by rw[h45]; simpa using hs) ?_
   simp[J1]
   (refine w_call hP rfl (hp _) (by simp[J1]) (by simp[J1]<;>rfl) ?_; refine w_go 4000 ?_; simp[J1])
   refine⟨by omega,?_⟩
   (refine w_call hP rfl (hAt _) (by simp[J1]) (by simp[J1]<;>rfl) ?_; refine w_go 4000 ?_; simp[J1])
   (refine w_callg hP (by simp[J1]) rfl (fun hc=>⟨hI _,by revert hc; simp[J1]; try grind,by simp[J1]⟩) ?_; refine w_go 4000 ?_; simp[J1])
   (refine w_callg hP (by simp[J1]) rfl (fun hc=>⟨hL _,by revert hc; simp[J1]; try grind,by simp[J1]⟩) ?_; refine w_go 4000 ?_; simp[J1])
   refine w_callE hP rfl (hf _) (by simp[J1]) (by simp[J1]<;>rfl) (fun pv hpv=>⟨by simp[J1],by injection hpv with hpv; subst hpv; exact hPn _ _ (tokR_no e) rfl (by simp[J1])⟩) (fun v wr h=>by cases h)
end Go.Am
