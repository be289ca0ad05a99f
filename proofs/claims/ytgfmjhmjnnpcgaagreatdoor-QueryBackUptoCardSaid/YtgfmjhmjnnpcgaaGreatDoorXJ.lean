/- Parts of the proof: an abstract machine for Go functions, and what functions of the program give back (Lx5, Lx6, Lx7, Lx8, Lx9, Lx10, Lx11, Lx12, Lb5, Lx13, CcZ). No condition. -/
import Derived.Test.YtgfmjhmjnnpcgaaGreatDoorXI
import Derived.Test.YtgfmjhmjnnpcgaaGreatDoorXH
import Derived.Test.YtgfmjhmjnnpcgaaGreatDoorXE
import Derived.Recover
import Derived.Shelf.Strings.Search3
import Derived.Test.YtgfmjhmjnnpcgaaGreatDoorProg
import Derived.KernelRfl
namespace Go.Am
set_option linter.all false
open Go Go.RowKit Go.Proofs
set_option maxRecDepth 100000
set_option linter.all false
theorem at2_drop(p:UInt8→Bool)(z:List UInt8)(i:Nat):z.drop (at2 p z i)=(z.drop i).dropWhile p:=by
 unfold at2
 rw[←List.drop_drop]
 have h:=List.takeWhile_append_dropWhile (p:=p) (l:=z.drop i)
 generalize (z.drop i).takeWhile p=a at h
 generalize (z.drop i).dropWhile p=b at h
 rw[←h,List.drop_left]
theorem at2_le(p:UInt8→Bool){z:List UInt8}{i:Nat}(hi:i≤z.length):i≤at2 p z i∧at2 p z i≤z.length:=by
 have:=tw_lenP p (z.drop i)
 rw[List.length_drop] at this
 unfold at2; omega
def atU(z u:List UInt8):Nat:=z.length - u.length
theorem atU_drop{z:List UInt8}{i:Nat}(hi:i≤z.length):atU z (z.drop i)=i:=by
 unfold atU; rw[List.length_drop]; omega
theorem blk_dw:∀s:List UInt8,blk false s=blk false (s.dropWhile blC)
 | []=>rfl
 | c::r=>by
  cases hc:blC c with
  | true=>rw[List.dropWhile_cons_of_pos hc,←blk_dw r]; simp[blk,hc]
  | false=>rw[List.dropWhile_cons_of_neg (by simp[hc])]
def noNl(c:UInt8):Bool:=c != 10
theorem blk_rw:∀s:List UInt8,blk true s=blk false (s.dropWhile noNl)
 | []=>rfl
 | c::r=>by
  by_cases hc:c=10
  ·subst hc; rfl
  ·have h:noNl c=true:=by unfold noNl; simp[hc]
   rw[List.dropWhile_cons_of_pos h,←blk_rw r]
   simp[blk,hc]
theorem dw_head{p:UInt8→Bool}{s:List UInt8}{c:UInt8}{r:List UInt8}(h:s.dropWhile p=c::r):p c=false:=by
 induction s with
 | nil=>cases h
 | cons d s ih =>
  cases hd:p d with
  | true=>rw[List.dropWhile_cons_of_pos hd] at h; exact ih h
  | false=>rw[List.dropWhile_cons_of_neg (by simp[hd])] at h; injection h with h1 h2; rw[←h1]; exact hd
theorem u8i(c:UInt8)(n:Nat)(hn:n<256):((c.toNat:Int)==(n:Int))=(c==UInt8.ofNat n):=by
 rw[Bool.eq_iff_iff,beq_iff_eq,beq_iff_eq,←UInt8.toNat_inj]
 simp
 omega
theorem blank1_ok(c:UInt8)(id:Nat):FnOk Tryz.prog 103 [.int .u8 c.toNat] [] id (.bool (blC c)) []:=by
 have h9:((c.toNat:Int)==9)=(c==9):=u8i c 9 (by decide)
 have h10:((c.toNat:Int)==10)=(c==10):=u8i c 10 (by decide)
 have h13:((c.toNat:Int)==13)=(c==13):=u8i c 13 (by decide)
 have h32:((c.toNat:Int)==32)=(c==32):=u8i c 32 (by decide)
 have h44:((c.toNat:Int)==44)=(c==44):=u8i c 44 (by decide)
 refine fn_okc Tryz.func103 hcc103 (by decide) hcr103 (by simp[Tryz.ntmps103]) fun E hP hR hl hid=>?_
 simp only[cr103] at hR
 refine w_go 4000 ?_
 simp[cc103]
 simp only[h9,h10,h13,h32,h44]
 rw[hR]; exact rt_end (by simp<;>rfl) [] trivial (end_pure (by simp; unfold blC; rfl) (by simp) (by simp))
theorem blank2_ok(c:UInt8)(id:Nat):FnOk Tryz.prog 104 [.int .u8 c.toNat] [] id (.bool (noNl c)) []:=by
 have h10:((c.toNat:Int)==10)=(c==10):=u8i c 10 (by decide)
 refine fn_okc Tryz.func104 hcc104 (by decide) hcr104 (by simp[Tryz.ntmps104]) fun E hP hR hl hid=>?_
 simp only[cr104] at hR
 refine w_go 4000 ?_
 simp[cc104]
 rw[hR]; exact rt_end (by simp<;>rfl) [] trivial (end_pure (by simp; unfold noNl; simp only[bne,h10]) (by simp) (by simp))
def atB(z:List UInt8)(i:Nat):Nat:=atU z (blk false (z.drop i))
set_option maxHeartbeats 4000000 in
theorem blank_ok(z:List UInt8)(i:Nat)(J id:Nat)(hi:i≤z.length)(h8:z.length≤1099511627776):
  FnOk Tryz.prog 73 [.ptr J 0 0] [(J,rB z i)] id (.tup []) [(J,some (rB z (atB z i)))]:=by
 have hP1:=fun j id hj=>pass_ok z j blC 103 J id hj h8 blank1_ok
 have hP2:=fun j id hj=>pass_ok z j noNl 104 J id hj h8 blank2_ok
 rw[rB_eq,rB_eq]
 refine fn_okc Tryz.func73 hcc73 (by decide) hcr73 (by simp[Tryz.ntmps73]) fun E hP hR hl hid=>?_
 simp only[cr73] at hR
 refine w_go 4000 ?_
 simp[cc73]
 have hJ:=hl (J,_) (List.mem_cons_self ..)
 simp only at hJ
 have J1:=lf hJ
 refine w_loop (X:=Nat) (fun j=>⟨[(0,true,.ptr J 0 0)],[(J,some (rB z j))],0⟩)
  (fun j=>j≤z.length∧blk false (z.drop j)=blk false (z.drop i)) (fun j=>z.length - j) i ?_ ⟨hi,rfl⟩ ?_
 ·have hrn:rnOk []:=by simp[rB,J1]
  refine Conv.sub [] hrn ?_ ?_ ?_ ?_ ?_<;>(try simp[rB,J1])
 rintro j ⟨hj,hb⟩ q hq
 obtain⟨l1,l2⟩:=at2_le blC hj
 have d1:=at2_drop blC z j
 have hp1:=fun id=>hP1 j id hj
 have hp2:=fun id=>hP2 (at2 blC z j) id l2
 generalize at2 blC z j=k at *
 rw[blk_dw,←d1] at hb
 rw[rB_eq,rB_eq] at hp1 hp2
 rw[rB_eq]
 refine w_go 4000 ?_
 simp[J1]
 (refine w_call hP rfl (hp1 _) (by simp[J1]) (by simp[J1]<;>rfl) ?_; refine w_go 4000 ?_; simp[J1])
 rcases Nat.lt_or_ge k z.length with h|h
 ·obtain⟨c,hc,hd⟩:=drop_cons h
  have hck:z[k]=c:=by
   rw[List.getElem?_eq_getElem h] at hc
   injection hc
  have hnb:blC c=false:=dw_head (d1.symm.trans hd)
  have hne:((k:Int)==(z.length:Int))=false:=by rw[beq_eq_false_iff_ne]; omega
  have h35:((c.toNat:Int)==35)=(c==35):=u8i c 35 (by decide)
  by_cases g:c=35
  ·have l3:=at2_le noNl l2
   have d2:=at2_drop noNl z k
   have hlt:k<at2 noNl z k:=by
    unfold at2
    rw[hd,List.takeWhile_cons_of_pos (by rw[g]; rfl)]
    simp
   have hbm:blk false (z.drop (at2 noNl z k))=blk false (z.drop i):=by
    rw[d2,←hb,hd,List.dropWhile_cons_of_pos (by rw[g]; rfl),←blk_rw,g]
    rfl
   generalize at2 noNl z k=m at *
   refine⟨fun _=>⟨by omega,h⟩,?_⟩
   refine goc_false (by rw[hne,hc]; simp[bne,h35,g]) ?_
   simp[J1]
   (refine w_call hP rfl (hp2 _) (by simp[J1]) (by simp[J1]<;>rfl) ?_; refine w_go 4000 ?_; simp[J1])
   refine hq _ m ⟨l3.2,hbm⟩ (by omega) ?_
   have hrn:rnOk []:=by simp[rB,J1]
   refine Conv.sub [] hrn ?_ ?_ ?_ ?_ ?_<;>(try simp[rB,J1])
  ·have e:atB z i=k:=by
    unfold atB
    rw[←hb,hd,blk_fix hnb g,←hd,atU_drop (by omega)]
   rw[e] at hR
   refine⟨fun _=>⟨by omega,h⟩,?_⟩
   refine goc_true (by rw[hc]; simp only[Option.getD_some,bne,h35]; simp[g]) ?_
   simp[J1]
   have hrn:rnOk []:=by simp[rB,J1,idO hid]
   rw[hR]
   refine rt_end (by simp<;>rfl) [] hrn ⟨?_,?_,?_,?_,?_,?_⟩<;>(try simp[rB,J1,idO hid])
 ·have hk:k=z.length:=by omega
  have e:atB z i=k:=by
   unfold atB
   rw[←hb,List.drop_of_length_le h,hk]
   unfold atU blk; simp
  rw[e] at hR
  subst hk
  simp[J1]
  have hrn:rnOk []:=by simp[rB,J1,idO hid]
  rw[hR]
  refine rt_end (by simp<;>rfl) [] hrn ⟨?_,?_,?_,?_,?_,?_⟩<;>(try simp[rB,J1,idO hid])
end Go.Am
namespace Go.Am
set_option linter.all false
open Go Go.RowKit Go.Proofs
set_option maxRecDepth 100000
set_option linter.all false
def tokR(J:Nat)(z:List UInt8):Except Int (Tk×List UInt8)→Except AV (AV×List (Nat×Option Bx))
 | .ok p=>.ok (eTk p.1,[(J,some (rB z (atU z p.2)))])
 | .error e=>.error (erV e)
theorem tokR_ok{J:Nat}{z:List UInt8}{o:Except Int (Tk×List UInt8)}{t:Tk}{u:List UInt8}(h:o = .ok (t,u)):tokR J z o = .ok (eTk t,[(J,some (rB z (atU z u)))]):=by rw[h]; rfl
theorem tokR_no{J:Nat}{z:List UInt8}{o:Except Int (Tk×List UInt8)}{e:Int}(h:o = .error e):tokR J z o = .error (erV e):=by rw[h]; rfl
def numT(c:UInt8)(r:List UInt8):Except Int (Tk×List UInt8):=match intOf (numW c r) with
 | none=>.error 1
 | some n=>.ok (⟨2,[],n⟩,r.dropWhile isDg)
theorem numB_bad{a b:List UInt8}{n:Int}(hg:¬(a=b∧-999999999≤n∧n≤999999999)):(!a==b||(!decide (-999999999≤n)||!decide (n≤999999999)))=true:=by
 by_cases h1:a=b
 ·have h2:¬(-999999999≤n∧n≤999999999):=fun h=>hg ⟨h1,h⟩
  simp
  omega
 ·simp[h1]
theorem int_atoi{w:List UInt8}{n:Int}(h:Lib.atoiAll w = .ok n):intOf w=if Lib.itoa n=w∧-999999999≤n∧n≤999999999 then some n else none:=by
 split
 ·rename_i hg
  rw[←hg.1]; exact intOf_itoa hg.2
 ·rename_i hg
  cases hi:intOf w with
  | none=>rfl
  | some m =>
   obtain⟨h1,h2⟩:=itoa_intOf hi
   have h3:=atoi_itoa h2
   rw[h1,h] at h3
   injection h3 with h3
   subst h3
   exact (hg ⟨h1,h2⟩).elim
theorem int_none{w:List UInt8}(h:∀n,Lib.atoiAll w≠.ok n):intOf w=none:=by
 cases hi:intOf w with
 | none=>rfl
 | some m =>
  obtain⟨h1,h2⟩:=itoa_intOf hi
  have h3:=atoi_itoa h2
  rw[h1] at h3
  exact (h m h3).elim
theorem digitP_ok(c:UInt8)(id:Nat):FnOk Tryz.prog 107 [.int .u8 c.toNat] [] id (.bool (isDg c)) []:=digit_ok c id
set_option maxHeartbeats 16000000 in
theorem number_ok(z:List UInt8)(i:Nat)(c:UInt8)(r:List UInt8)(J id:Nat)(hi:i≤z.length)(hd:z.drop i=c::r)(hc:isDg c=true∨c=45)(h8:z.length≤1099511627776):
  FnE Tryz.prog 108 [.ptr J 0 0] [(J,rB z i)] id (tokR J z (numT c r)):=by
 have hf:=fun id=>lfail_ok 1 id
 have hP:=fun j id hj=>pass_ok z j isDg 107 J id hj h8 digitP_ok
 have hlt:i<z.length:=by
  have:=congrArg List.length hd
  rw[List.length_drop,List.length_cons] at this; omega
 have hcz:z[i]?=some c:=by
  have:=congrArg (fun l=>l[0]?) hd
  simpa using this
 have hci:z[i]=c:=by
  rw[List.getElem?_eq_getElem hlt] at hcz
  injection hcz
 have hd1:z.drop (i+1)=r:=by
  rw[←List.drop_drop,hd]; rfl
 have h45:((c.toNat:Int)==45)=(c==45):=u8i c 45 (by decide)
 have hlen:(numW c r).length≤281474976710656:=by
  have h1:=tw_lenP isDg r
  have h2:=congrArg List.length hd
  rw[List.length_drop,List.length_cons] at h2
  unfold numW
  simp; omega
 have tail:∀(j k:Nat) (pre:List UInt8),j=0→True:=fun _ _ _ _=>trivial
 by_cases hs:c=45
 ·have hp:=fun id=>hP (i+1) id (by omega)
  rw[hd1] at hp
  have e2:at2 isDg z (i+1)=atU z (r.dropWhile isDg):=by
   have h1:=at2_drop isDg z (i+1)
   rw[hd1] at h1
   rw[←h1,atU_drop (at2_le isDg (by omega)).2]
  rw[e2] at hp
  have hW:numW c r=45::r.takeWhile isDg:=by rw[hs]; rfl
  have hl1:1+(r.takeWhile isDg).length≤9223372036854775807:=by rw[hW,List.length_cons] at hlen; omega
  have hi1:IntKind.i64.wrap ((i:Int)+1)=((i+1:Nat):Int):=wrap64 (by omega)
  rw[rB_eq,rB_eq] at hp
  rw[rB_eq]
  rcases hat:Lib.atoiAll (numW c r) with n|_|_
  ·have hAt:=fun id=>Atoi_ok (numW c r) n id hlen hat
   have hb:=Lib.atoiAll_bounds hat
   have hI:=fun id=>Itoa_ok n id (by unfold I64; omega)
   have hL:=fun id=>lexInt_ok n id
   have hN:=int_atoi hat
   refine fn_okE Tryz.func108 hcc108 (by decide) hcr108 (by simp[Tryz.ntmps108]) fun E hP hR hPn hl hid hB hu=>?_
   simp only[cr108] at hR
   refine w_go 4000 ?_
   simp[cc108]
   have hJ:=hl (J,_) (List.mem_cons_self ..)
   simp only at hJ
   have J1:=lf hJ
   simp[hlt,hci,J1]
   refine goc_true (by rw[h45,hs]; rfl) ?_
   simp[J1]
   rw[hi1]
   (refine w_call hP rfl (hp _) (by simp[J1]) (by simp[J1]<;>rfl) ?_; refine w_go 4000 ?_; simp[J1])
   refine⟨hl1,?_⟩
   rw[←hW]
   (refine w_call hP rfl (hAt _) (by simp[J1]) (by simp[J1]<;>rfl) ?_; refine w_go 4000 ?_; simp[J1])
   (refine w_callg hP (by simp[J1]) rfl (fun hc=>⟨hI _,by revert hc; simp[J1]; try grind,by simp[J1]⟩) ?_; refine w_go 4000 ?_; simp[J1])
   (refine w_callg hP (by simp[J1]) rfl (fun hc=>⟨hL _,by revert hc; simp[J1]; try grind,by simp[J1]⟩) ?_; refine w_go 4000 ?_; simp[J1])
   by_cases hg:Lib.itoa n=numW c r∧-999999999≤n∧n≤999999999
   ·have e:numT c r = .ok (⟨2,[],n⟩,r.dropWhile isDg):=by unfold numT; rw[hN,if_pos hg]
    refine goc_false (by simp[hg.1,hg.2.1,hg.2.2]) ?_
    simp[J1]
    have hrn:rnOk []:=by simp[rB,eTk,J1,idO hid]
    refine hR _ _ _ (tokR_ok e) ?_
    refine rt_end (by simp[rB,eTk,J1,idO hid]<;>rfl) [] hrn ⟨?_,?_,?_,?_,?_,?_⟩<;>(try simp[rB,eTk,J1,idO hid])
   ·have e:numT c r = .error 1:=by unfold numT; rw[hN,if_neg hg]
    refine goc_true (numB_bad hg) ?_
    simp[J1]
    refine w_callE hP rfl (hf _) (by simp[J1]) (by simp[J1]<;>rfl) (fun pv hpv=>⟨by simp[J1],by injection hpv with hpv; subst hpv; exact hPn _ _ (tokR_no e) rfl (by simp[J1])⟩) (fun v wr h=>by cases h)
  ·have hN:intOf (numW c r)=none:=int_none fun n h=>by rw[hat] at h; cases h
   have e:numT c r = .error 1:=by unfold numT; rw[hN]
   have hAt:=fun id=>Atoi_syn (numW c r) id hlen hat (fun n h=>by cases h) (fun h=>by cases h)
   have hI:=fun id=>Itoa_ok 0 id (by unfold I64; omega)
   have hL:=fun id=>lexInt_ok 0 id
   unfold numErr at hAt
   refine fn_okE Tryz.func108 hcc108 (by decide) hcr108 (by simp[Tryz.ntmps108]) fun E hP hR hPn hl hid hB hu=>?_
   simp only[cr108] at hR
   refine w_go 4000 ?_
   simp[cc108]
   have hJ:=hl (J,_) (List.mem_cons_self ..)
   simp only at hJ
   have J1:=lf hJ
   simp[hlt,hci,J1]
   refine goc_true (by rw[h45,hs]; rfl) ?_
   simp[J1]
   rw[hi1]
   (refine w_call hP rfl (hp _) (by simp[J1]) (by simp[J1]<;>rfl) ?_; refine w_go 4000 ?_; simp[J1])
   refine⟨hl1,?_⟩
   rw[←hW]
   (refine w_call hP rfl (hAt _) (by simp[J1]) (by simp[J1]<;>rfl) ?_; refine w_go 4000 ?_; simp[J1])
   (refine w_callg hP (by simp[J1]) rfl (fun hc=>⟨hI _,by revert hc; simp[J1]; try grind,by simp[J1]⟩) ?_; refine w_go 4000 ?_; simp[J1])
   (refine w_callg hP (by simp[J1]) rfl (fun hc=>⟨hL _,by revert hc; simp[J1]; try grind,by simp[J1]⟩) ?_; refine w_go 4000 ?_; simp[J1])
   refine w_callE hP rfl (hf _) (by simp[J1]) (by simp[J1]<;>rfl) (fun pv hpv=>⟨by simp[J1],by injection hpv with hpv; subst hpv; exact hPn _ _ (tokR_no e) rfl (by simp[J1])⟩) (fun v wr h=>by cases h)
  ·have hN:intOf (numW c r)=none:=int_none fun n h=>by rw[hat] at h; cases h
   have e:numT c r = .error 1:=by unfold numT; rw[hN]
   have hAt:=fun id=>Atoi_rng (numW c r) id hlen hat
   have hb:=Lib.atoiSat_bounds (numW c r)
   generalize Lib.atoiSat (numW c r)=q at hAt hb
   have hI:=fun id=>Itoa_ok q id (by unfold I64; omega)
   have hL:=fun id=>lexInt_ok q id
   unfold numErr at hAt
   refine fn_okE Tryz.func108 hcc108 (by decide) hcr108 (by simp[Tryz.ntmps108]) fun E hP hR hPn hl hid hB hu=>?_
   simp only[cr108] at hR
   refine w_go 4000 ?_
   simp[cc108]
   have hJ:=hl (J,_) (List.mem_cons_self ..)
   simp only at hJ
   have J1:=lf hJ
   simp[hlt,hci,J1]
   refine goc_true (by rw[h45,hs]; rfl) ?_
   simp[J1]
   rw[hi1]
   (refine w_call hP rfl (hp _) (by simp[J1]) (by simp[J1]<;>rfl) ?_; refine w_go 4000 ?_; simp[J1])
   refine⟨hl1,?_⟩
   rw[←hW]
   (refine w_call hP rfl (hAt _) (by simp[J1]) (by simp[J1]<;>rfl) ?_; refine w_go 4000 ?_; simp[J1])
   (refine w_callg hP (by simp[J1]) rfl (fun hc=>⟨hI _,by revert hc; simp[J1]; try grind,by simp[J1]⟩) ?_; refine w_go 4000 ?_; simp[J1])
   (refine w_callg hP (by simp[J1]) rfl (fun hc=>⟨hL _,by revert hc; simp[J1]; try grind,by simp[J1]⟩) ?_; refine w_go 4000 ?_; simp[J1])
   refine w_callE hP rfl (hf _) (by simp[J1]) (by simp[J1]<;>rfl) (fun pv hpv=>⟨by simp[J1],by injection hpv with hpv; subst hpv; exact hPn _ _ (tokR_no e) rfl (by simp[J1])⟩) (fun v wr h=>by cases h)
 ·have hg:isDg c=true:=by rcases hc with h|h; exact h; exact (hs h).elim
  have hp:=fun id=>hP i id hi
  rw[hd,List.takeWhile_cons_of_pos hg] at hp
  have e2:at2 isDg z i=atU z (r.dropWhile isDg):=by
   have h1:=at2_drop isDg z i
   rw[hd,List.dropWhile_cons_of_pos hg] at h1
   rw[←h1,atU_drop (at2_le isDg hi).2]
  rw[e2] at hp
  have hW:numW c r=c::r.takeWhile isDg:=rfl
  rw[←hW] at hp
  rw[rB_eq,rB_eq] at hp
  rw[rB_eq]
  rcases hat:Lib.atoiAll (numW c r) with n|_|_
  ·have hAt:=fun id=>Atoi_ok (numW c r) n id hlen hat
   have hb:=Lib.atoiAll_bounds hat
   have hI:=fun id=>Itoa_ok n id (by unfold I64; omega)
   have hL:=fun id=>lexInt_ok n id
   have hN:=int_atoi hat
   refine fn_okE Tryz.func108 hcc108 (by decide) hcr108 (by simp[Tryz.ntmps108]) fun E hP hR hPn hl hid hB hu=>?_
   simp only[cr108] at hR
   refine w_go 4000 ?_
   simp[cc108]
   have hJ:=hl (J,_) (List.mem_cons_self ..)
   simp only at hJ
   have J1:=lf hJ
   simp[hlt,hci,J1]
   refine goc_false (by rw[h45]; simpa using hs) ?_
   simp[J1]
   (refine w_call hP rfl (hp _) (by simp[J1]) (by simp[J1]<;>rfl) ?_; refine w_go 4000 ?_; simp[J1])
   refine⟨by omega,?_⟩
   (refine w_call hP rfl (hAt _) (by simp[J1]) (by simp[J1]<;>rfl) ?_; refine w_go 4000 ?_; simp[J1])
   (refine w_callg hP (by simp[J1]) rfl (fun hc=>⟨hI _,by revert hc; simp[J1]; try grind,by simp[J1]⟩) ?_; refine w_go 4000 ?_; simp[J1])
   (refine w_callg hP (by simp[J1]) rfl (fun hc=>⟨hL _,by revert hc; simp[J1]; try grind,by simp[J1]⟩) ?_; refine w_go 4000 ?_; simp[J1])
   by_cases hg:Lib.itoa n=numW c r∧-999999999≤n∧n≤999999999
   ·have e:numT c r = .ok (⟨2,[],n⟩,r.dropWhile isDg):=by unfold numT; rw[hN,if_pos hg]
    refine goc_false (by simp[hg.1,hg.2.1,hg.2.2]) ?_
    simp[J1]
    have hrn:rnOk []:=by simp[rB,eTk,J1,idO hid]
    refine hR _ _ _ (tokR_ok e) ?_
    refine rt_end (by simp[rB,eTk,J1,idO hid]<;>rfl) [] hrn ⟨?_,?_,?_,?_,?_,?_⟩<;>(try simp[rB,eTk,J1,idO hid])
   ·have e:numT c r = .error 1:=by unfold numT; rw[hN,if_neg hg]
    refine goc_true (numB_bad hg) ?_
    simp[J1]
    refine w_callE hP rfl (hf _) (by simp[J1]) (by simp[J1]<;>rfl) (fun pv hpv=>⟨by simp[J1],by injection hpv with hpv; subst hpv; exact hPn _ _ (tokR_no e) rfl (by simp[J1])⟩) (fun v wr h=>by cases h)
  ·have hN:intOf (numW c r)=none:=int_none fun n h=>by rw[hat] at h; cases h
   have e:numT c r = .error 1:=by unfold numT; rw[hN]
   have hAt:=fun id=>Atoi_syn (numW c r) id hlen hat (fun n h=>by cases h) (fun h=>by cases h)
   have hI:=fun id=>Itoa_ok 0 id (by unfold I64; omega)
   have hL:=fun id=>lexInt_ok 0 id
   unfold numErr at hAt
   refine fn_okE Tryz.func108 hcc108 (by decide) hcr108 (by simp[Tryz.ntmps108]) fun E hP hR hPn hl hid hB hu=>?_
   simp only[cr108] at hR
   refine w_go 4000 ?_
   simp[cc108]
   have hJ:=hl (J,_) (List.mem_cons_self ..)
   simp only at hJ
   have J1:=lf hJ
   simp[hlt,hci,J1]
   refine goc_false (by rw[h45]; simpa using hs) ?_
   simp[J1]
   (refine w_call hP rfl (hp _) (by simp[J1]) (by simp[J1]<;>rfl) ?_; refine w_go 4000 ?_; simp[J1])
   refine⟨by omega,?_⟩
   (refine w_call hP rfl (hAt _) (by simp[J1]) (by simp[J1]<;>rfl) ?_; refine w_go 4000 ?_; simp[J1])
   (refine w_callg hP (by simp[J1]) rfl (fun hc=>⟨hI _,by revert hc; simp[J1]; try grind,by simp[J1]⟩) ?_; refine w_go 4000 ?_; simp[J1])
   (refine w_callg hP (by simp[J1]) rfl (fun hc=>⟨hL _,by revert hc; simp[J1]; try grind,by simp[J1]⟩) ?_; refine w_go 4000 ?_; simp[J1])
   refine w_callE hP rfl (hf _) (by simp[J1]) (by simp[J1]<;>rfl) (fun pv hpv=>⟨by simp[J1],by injection hpv with hpv; subst hpv; exact hPn _ _ (tokR_no e) rfl (by simp[J1])⟩) (fun v wr h=>by cases h)
  ·have hN:intOf (numW c r)=none:=int_none fun n h=>by rw[hat] at h; cases h
   have e:numT c r = .error 1:=by unfold numT; rw[hN]
   have hAt:=fun id=>Atoi_rng (numW c r) id hlen hat
   have hb:=Lib.atoiSat_bounds (numW c r)
   generalize Lib.atoiSat (numW c r)=q at hAt hb
   have hI:=fun id=>Itoa_ok q id (by unfold I64; omega)
   have hL:=fun id=>lexInt_ok q id
   unfold numErr at hAt
   refine fn_okE Tryz.func108 hcc108 (by decide) hcr108 (by simp[Tryz.ntmps108]) fun E hP hR hPn hl hid hB hu=>?_
   simp only[cr108] at hR
   refine w_go 4000 ?_
   simp[cc108]
   have hJ:=hl (J,_) (List.mem_cons_self ..)
   simp only at hJ
   have J1:=lf hJ
   simp[hlt,hci,J1]
   refine goc_false (by rw[h45]; simpa using hs) ?_
   simp[J1]
   (refine w_call hP rfl (hp _) (by simp[J1]) (by simp[J1]<;>rfl) ?_; refine w_go 4000 ?_; simp[J1])
   refine⟨by omega,?_⟩
   (refine w_call hP rfl (hAt _) (by simp[J1]) (by simp[J1]<;>rfl) ?_; refine w_go 4000 ?_; simp[J1])
   (refine w_callg hP (by simp[J1]) rfl (fun hc=>⟨hI _,by revert hc; simp[J1]; try grind,by simp[J1]⟩) ?_; refine w_go 4000 ?_; simp[J1])
   (refine w_callg hP (by simp[J1]) rfl (fun hc=>⟨hL _,by revert hc; simp[J1]; try grind,by simp[J1]⟩) ?_; refine w_go 4000 ?_; simp[J1])
   refine w_callE hP rfl (hf _) (by simp[J1]) (by simp[J1]<;>rfl) (fun pv hpv=>⟨by simp[J1],by injection hpv with hpv; subst hpv; exact hPn _ _ (tokR_no e) rfl (by simp[J1])⟩) (fun v wr h=>by cases h)
end Go.Am
namespace Go.Am
set_option linter.all false
open Go Go.RowKit Go.Proofs
set_option maxRecDepth 100000
set_option linter.all false
theorem ren_app{R:Rn}{S:Nat→Prop}{l:List UInt8}{r:List AV}(h:pureL r=true):RenL R S (eB l++r) (eB l++r):=renL_pure rfl (pureL_append (pure_eB l) h)
theorem esc_ok{d:UInt8}(h:d=34∨d=92∨d=110):∃(n:Nat) (e:UInt8),Lib.indexByte [34,92,110] d=(n:Int)∧n<3∧([34,92,10]:List UInt8)[n]?=some e∧∀acc r2,pTq true acc (d::r2)=pTq false (acc++[e]) r2:=by
 rcases h with rfl|rfl|rfl
 ·exact⟨0,34,by decide,by decide,rfl,fun acc r2=>by simp[pTq]⟩
 ·exact⟨1,92,by decide,by decide,rfl,fun acc r2=>by simp[pTq]⟩
 ·exact⟨2,10,by decide,by decide,rfl,fun acc r2=>by simp[pTq]⟩
theorem esc_no{d:UInt8}(h:¬(d=34∨d=92∨d=110)):Lib.indexByte [34,92,110] d = -1∧∀acc r2,pTq true acc (d::r2)=none:=by
 have h1:d≠34:=fun q=>h (.inl q)
 have h2:d≠92:=fun q=>h (.inr (.inl q))
 have h3:d≠110:=fun q=>h (.inr (.inr q))
 refine⟨?_,fun acc r2=>by simp[pTq,h1,h2,h3]⟩
 simp[Lib.indexByte,Ne.symm h1,Ne.symm h2,Ne.symm h3]
theorem tokR_at{J:Nat}{z:List UInt8}{o:Except Int (Tk×List UInt8)}{t:Tk}{u:List UInt8}{i:Nat}(h:o = .ok (t,u))(hi:atU z u=i):tokR J z o = .ok (eTk t,[(J,some (rB z i))]):=by rw[tokR_ok h,hi]
def textT(r:List UInt8):Except Int (Tk×List UInt8):=match pTq false [] r with
 | none=>.error 1
 | some p=>if 40<p.1.length then .error 2 else .ok (⟨3,p.1,0⟩,p.2)
set_option maxHeartbeats 16000000 in
theorem textL_ok(z:List UInt8)(i:Nat)(r:List UInt8)(J id:Nat)(hi:i<z.length)(hd0:z.drop (i+1)=r)(h8:z.length≤1099511627776):
  FnE Tryz.prog 109 [.ptr J 0 0] [(J,rB z i)] id (tokR J z (textT r)):=by
 have hf:=fun id=>lfail_ok 1 id
 have hf2:=fun id=>lfail_ok 2 id
 have hi1:IntKind.i64.wrap ((i:Int)+1)=((i+1:Nat):Int):=wrap64 (by omega)
 rw[rB_eq]
 refine fn_okE Tryz.func109 hcc109 (by decide) hcr109 (by simp[Tryz.ntmps109]) fun E hP hR hPn hl hid hB hu=>?_
 simp only[cr109] at hR
 refine w_go 4000 ?_
 simp[cc109]
 have hJ:=hl (J,_) (List.mem_cons_self ..)
 simp only at hJ
 have J1:=lf hJ
 simp[J1]
 refine w_loop (X:=List UInt8×Nat) (fun q=>⟨[(0,true,.ptr J 0 0),(2,true,.ptr E.n0 0 0),(3,true,.bsl (E.n0+1) 0 q.1.length)],[(J,some (rB z q.2)),(E.n0,some ⟨[.agg [.int .i64 0,.str [],.int .i64 0]],.agg [.int .i64 0,.str [],.int .i64 0],false,false⟩),(E.n0+1,some ⟨eB q.1,.int .u8 0,false,false⟩)],2⟩)
  (fun q=>pTq false q.1 (z.drop q.2)=pTq false [] r∧q.1.length≤q.2∧q.2≤z.length) (fun q=>z.length - q.2) ([],i+1) ?_ ⟨by rw[hd0],by simp,by omega⟩ ?_
 ·refine Conv.trans (Conv.voidSlot 3 (x:=.nils) (y:=.bsl (E.n0+10240) 0 0) (by simp) .nils (.int .u8 0)) ?_
  have hi0:eB []=[]:=rfl
  have hrn:rnOk [(E.n0,E.n0),(E.n0+1,E.n0+10240)]:=by simp[hi0,hi1,rB,zTk,J1]
  refine Conv.sub [(E.n0,E.n0),(E.n0+1,E.n0+10240)] hrn ?_ ?_ ?_ ?_ ?_<;>(try simp[hi0,hi1,rB,zTk,J1])
 rintro⟨acc,j⟩ ⟨hx,hlen,hj⟩ p hp
 simp only at hx hlen hj
 rw[rB_eq]
 rcases Nat.lt_or_ge j z.length with h|h
 rotate_left
 ·have e:textT r = .error 1:=by
   unfold textT
   rw[←hx,List.drop_of_length_le h]
   rfl
  have hjz:j=z.length:=by omega
  subst hjz
  refine w_go 4000 ?_
  simp[J1]
  refine w_callE hP rfl (hf _) (by simp[J1]) (by simp[J1]<;>rfl) (fun pv hpv=>⟨by simp[J1],by injection hpv with hpv; subst hpv; exact hPn _ _ (tokR_no e) rfl (by simp[J1])⟩) (fun v wr h=>by cases h)
 obtain⟨c,hc,hd⟩:=drop_cons h
 have hcj:z[j]=c:=by
  rw[List.getElem?_eq_getElem h] at hc
  injection hc
 have h10:((c.toNat:Int)==10)=(c==10):=u8i c 10 (by decide)
 have h34:((c.toNat:Int)==34)=(c==34):=u8i c 34 (by decide)
 have h92:((c.toNat:Int)==92)=(c==92):=u8i c 92 (by decide)
 have hne:((j:Int)==(z.length:Int))=false:=by rw[beq_eq_false_iff_ne]; omega
 have hj1:IntKind.i64.wrap ((j:Int)+1)=((j+1:Nat):Int):=wrap64 (by omega)
 have hc8:=c.toNat_lt
 rw[hd] at hx
 by_cases g10:c=10
 ·have e:textT r = .error 1:=by
   unfold textT
   rw[←hx,g10]
   rfl
  refine w_go 4000 ?_
  simp[hcj,hne,h,J1]
  refine goc_true (by rw[h10,g10]; rfl) ?_
  simp[J1]
  refine w_callE hP rfl (hf _) (by simp[J1]) (by simp[J1]<;>rfl) (fun pv hpv=>⟨by simp[J1],by injection hpv with hpv; subst hpv; exact hPn _ _ (tokR_no e) rfl (by simp[J1])⟩) (fun v wr h=>by cases h)
 by_cases g34:c=34
 ·have hp2:pTq false [] r=some (acc,z.drop (j+1)):=by
   rw[←hx,g34]
   rfl
  have hju:j+1=atU z (z.drop (j+1)):=(atU_drop (by omega)).symm
  refine w_go 4000 ?_
  simp[hcj,hne,h,J1]
  refine goc_false (by rw[h10]; simpa using g10) ?_
  simp[hcj,h,J1]
  refine goc_true (by rw[h34,g34]; rfl) ?_
  simp[J1]
  rw[hj1]
  by_cases g40:40<acc.length
  ·have e:textT r = .error 2:=by
    unfold textT
    rw[hp2]
    simp only
    rw[if_pos g40]
   refine goc_true (by simp; omega) ?_
   simp[J1]
   refine w_callE hP rfl (hf2 _) (by simp[J1]) (by simp[J1]<;>rfl) (fun pv hpv=>⟨by simp[J1],by injection hpv with hpv; subst hpv; exact hPn _ _ (tokR_no e) rfl (by simp[J1])⟩) (fun v wr h=>by cases h)
  ·have e:textT r = .ok (⟨3,acc,0⟩,z.drop (j+1)):=by
    unfold textT
    rw[hp2]
    simp only
    rw[if_neg g40]
   refine goc_false (by simp; omega) ?_
   simp[J1]
   refine⟨fun x hx=>by obtain⟨b,rfl⟩:=mem_eB hx; have:=b.toNat_lt; simp[isU8]; try omega,?_⟩
   rw[eB_toU8]
   have hrn:rnOk []:=by simp[rB,eTk,J1,idO hid]
   refine hR _ _ _ (tokR_at e hju.symm) ?_
   refine rt_end (by simp[rB,eTk,J1,idO hid]<;>rfl) [] hrn ⟨?_,?_,?_,?_,?_,?_⟩<;>(try simp[rB,eTk,J1,idO hid])
 by_cases g92:c=92
 ·have hx2:pTq true acc (z.drop (j+1))=pTq false [] r:=by
   rw[←hx,g92]
   rfl
  rcases Nat.lt_or_ge (j+1) z.length with h2|h2
  rotate_left
  ·have e:textT r = .error 1:=by
    unfold textT
    rw[←hx2,List.drop_of_length_le h2]
    rfl
   have hlt2:(decide (((j+1:Nat):Int)<(z.length:Int)))=false:=by simp; omega
   refine w_go 4000 ?_
   simp[hcj,hne,h,J1]
   refine goc_false (by rw[h10]; simpa using g10) ?_
   simp[hcj,h,J1]
   refine goc_false (by rw[h34]; simpa using g34) ?_
   simp[J1]
   refine goc_true (by rw[h92,g92]; rfl) ?_
   simp[J1]
   rw[hj1]
   refine goc_false hlt2 ?_
   simp[J1]
   refine w_callE hP rfl (hf _) (by simp[J1]) (by simp[J1]<;>rfl) (fun pv hpv=>⟨by simp[J1],by injection hpv with hpv; subst hpv; exact hPn _ _ (tokR_no e) rfl (by simp[J1])⟩) (fun v wr h=>by cases h)
  obtain⟨d,hdc,hdd⟩:=drop_cons h2
  have hdj:z[j+1]=d:=by
   rw[List.getElem?_eq_getElem h2] at hdc
   injection hdc
  have hlt2:(decide (((j+1:Nat):Int)<(z.length:Int)))=true:=by simp; omega
  have hX:=fun id=>IndexByte_ok [34,92,110] d id
  rw[hdd] at hx2
  by_cases gd:d=34∨d=92∨d=110
  ·obtain⟨n,e,q1,q2,q3,q4⟩:=esc_ok gd
   rw[q1] at hX
   rw[q4] at hx2
   refine w_go 4000 ?_
   simp[hcj,hne,h,J1]
   refine goc_false (by rw[h10]; simpa using g10) ?_
   simp[hcj,h,J1]
   refine goc_false (by rw[h34]; simpa using g34) ?_
   simp[J1]
   refine goc_true (by rw[h92,g92]; rfl) ?_
   simp[J1]
   rw[hj1]
   refine goc_true hlt2 ?_
   simp[hdj,h2,J1]
   refine⟨by omega,?_⟩
   (refine w_call hP rfl (hX _) (by simp[J1]) (by simp[J1]<;>rfl) ?_; refine w_go 4000 ?_; simp[J1])
   refine goc_false (by simp) ?_
   simp[q3,J1]
   refine⟨q2,⟨by omega,by omega⟩,?_⟩
   have hj2:IntKind.i64.wrap ((j:Int)+1+1)=((j+2:Nat):Int):=by rw[show (j:Int)+1+1=((j+2:Nat):Int) by omega]; exact wrap64 (by omega)
   rw[hj2]
   refine hp _ (acc++[e],j+2) ⟨hx2,by simp; omega,by omega⟩ (by simp; omega) ?_
   have hex:eB (acc++[e])=eB acc++[.int .u8 e.toNat]:=by rw[eB_append]; rfl
   have hrn:rnOk [(E.n0,E.n0),(E.n0+1,E.n0+75778)]:=by simp[hex,rB,J1]
   refine Conv.sub [(E.n0,E.n0),(E.n0+1,E.n0+75778)] hrn ?_ ?_ ?_ ?_ ?_<;>(try simp[hex,rB,J1])
   exact ren_app (by rfl)
  ·obtain⟨q1,q2⟩:=esc_no gd
   rw[q1] at hX
   rw[q2] at hx2
   have e:textT r = .error 1:=by
    unfold textT
    rw[←hx2]
   refine w_go 4000 ?_
   simp[hcj,hne,h,J1]
   refine goc_false (by rw[h10]; simpa using g10) ?_
   simp[hcj,h,J1]
   refine goc_false (by rw[h34]; simpa using g34) ?_
   simp[J1]
   refine goc_true (by rw[h92,g92]; rfl) ?_
   simp[J1]
   rw[hj1]
   refine goc_true hlt2 ?_
   simp[hdj,h2,J1]
   refine⟨by omega,?_⟩
   (refine w_call hP rfl (hX _) (by simp[J1]) (by simp[J1]<;>rfl) ?_; refine w_go 4000 ?_; simp[J1])
   refine w_callE hP rfl (hf _) (by simp[J1]) (by simp[J1]<;>rfl) (fun pv hpv=>⟨by simp[J1],by injection hpv with hpv; subst hpv; exact hPn _ _ (tokR_no e) rfl (by simp[J1])⟩) (fun v wr h=>by cases h)
 ·have hx1:pTq false (acc++[c]) (z.drop (j+1))=pTq false [] r:=by
   rw[←hx]
   simp only[pTq]
   rw[if_neg g10,if_neg g34,if_neg g92]
  refine w_go 4000 ?_
  simp[hcj,hne,h,J1]
  refine goc_false (by rw[h10]; simpa using g10) ?_
  simp[hcj,h,J1]
  refine goc_false (by rw[h34]; simpa using g34) ?_
  simp[J1]
  refine goc_false (by rw[h92]; simpa using g92) ?_
  simp[J1]
  refine⟨⟨by omega,by omega⟩,?_⟩
  rw[hj1]
  refine hp _ (acc++[c],j+1) ⟨hx1,by simp; omega,h⟩ (by simp; omega) ?_
  have hex:eB (acc++[c])=eB acc++[.int .u8 c.toNat]:=by rw[eB_append]; rfl
  have hrn:rnOk [(E.n0,E.n0),(E.n0+1,E.n0+39938)]:=by simp[hex,rB,J1]
  refine Conv.sub [(E.n0,E.n0),(E.n0+1,E.n0+39938)] hrn ?_ ?_ ?_ ?_ ?_<;>(try simp[hex,rB,J1])
  exact ren_app (by rfl)
end Go.Am
namespace Go.Am
set_option linter.all false
open Go Go.RowKit Go.Proofs
set_option maxRecDepth 100000
set_option linter.all false
theorem letOrDig_ok(c:UInt8)(id:Nat):FnOk Tryz.prog 106 [.int .u8 c.toNat] [] id (.bool (anC c)) []:=by
 have h1:=fun id=>letter_ok c id
 have h2:=fun id=>digit_ok c id
 refine fn_okc Tryz.func106 hcc106 (by decide) hcr106 (by simp[Tryz.ntmps106]) fun E hP hR hl hid=>?_
 simp only[cr106] at hR
 refine w_go 4000 ?_
 simp[cc106]
 (refine w_call hP rfl (h1 _) (by simp) (by simp<;>rfl) ?_; refine w_go 4000 ?_; simp)
 (refine w_callg hP (by simp) rfl (fun hc=>⟨h2 _,by revert hc; simp; try grind,by simp⟩) ?_; refine w_go 4000 ?_; simp)
 rw[hR]; exact rt_end (by simp<;>rfl) [] trivial (end_pure (by simp; unfold anC; rfl) (by simp) (by simp))
theorem pTok_num{c:UInt8}{r:List UInt8}(h1:isLt c=false)(h2:isDg c=true∨c=45):pTok c r=numT c r:=by
 unfold pTok numT
 rw[if_neg (by simp[h1]),if_pos h2]
 all_goals rfl
theorem pTok_text{c:UInt8}{r:List UInt8}(h:c=34):pTok c r=textT r:=by
 subst h
 unfold pTok textT
 rw[if_neg (by decide),if_neg (by decide),if_pos rfl]
 all_goals rfl
theorem sgX(c:UInt8):decide (0≤Lib.indexByte [123,125,40,41,58,91,93] c)=sgC c:=by
 by_cases h:sgC c=true
 ·rw[h]
  have h:c=123∨c=125∨c=40∨c=41∨c=58∨c=91∨c=93:=by simpa [sgC] using h
  rcases h with rfl|rfl|rfl|rfl|rfl|rfl|rfl<;>decide
 ·have h2:¬(c=123∨c=125∨c=40∨c=41∨c=58∨c=91∨c=93):=by simpa [sgC] using h
  have h:sgC c=false:=by simpa using h
  simp only[not_or] at h2
  obtain⟨a,b,d,e,f,g,i⟩:=h2
  rw[h]
  simp[Lib.indexByte,Ne.symm a,Ne.symm b,Ne.symm d,Ne.symm e,Ne.symm f,Ne.symm g,Ne.symm i]
set_option maxHeartbeats 16000000 in
theorem token_ok(z:List UInt8)(i:Nat)(c:UInt8)(r:List UInt8)(J id:Nat)(hi:i≤z.length)(hd:z.drop i=c::r)(h8:z.length≤1099511627776):
  FnE Tryz.prog 74 [.ptr J 0 0] [(J,rB z i)] id (tokR J z (pTok c r)):=by
 have hf:=fun id=>lfail_ok 1 id
 have hlt:i<z.length:=by
  have:=congrArg List.length hd
  rw[List.length_drop,List.length_cons] at this; omega
 have hcz:z[i]?=some c:=by
  have:=congrArg (fun l=>l[0]?) hd
  simpa using this
 have hci:z[i]=c:=by
  rw[List.getElem?_eq_getElem hlt] at hcz
  injection hcz
 have hd1:z.drop (i+1)=r:=by
  rw[←List.drop_drop,hd]; rfl
 have hi1:IntKind.i64.wrap ((i:Int)+1)=((i+1:Nat):Int):=wrap64 (by omega)
 have hc8:=c.toNat_lt
 have h45:((c.toNat:Int)==45)=(c==45):=u8i c 45 (by decide)
 have h34:((c.toNat:Int)==34)=(c==34):=u8i c 34 (by decide)
 have hLt:=fun id=>letter_ok c id
 have hDg:=fun id=>digit_ok c id
 by_cases g1:isLt c=true
 ·have hp:=fun id=>pass_ok z i anC 106 J id hi h8 letOrDig_ok
  have e2:at2 anC z i=atU z ((c::r).dropWhile anC):=by
   have h1:=at2_drop anC z i
   rw[hd] at h1
   rw[←h1,atU_drop (at2_le anC hi).2]
  rw[e2,hd] at hp
  have hN:=fun id=>Name_ok ((c::r).takeWhile anC) id
  rw[g1] at hLt
  have hpt:pTok c r=if fName ((c::r).takeWhile anC)=0 then .ok (⟨1,(c::r).takeWhile anC,0⟩,(c::r).dropWhile anC) else .error (fName ((c::r).takeWhile anC)):=by
   unfold pTok; rw[if_pos g1]
  generalize (c::r).takeWhile anC=w at *
  generalize (c::r).dropWhile anC=u at *
  rw[rB_eq,rB_eq] at hp
  rw[rB_eq]
  by_cases g2:fName w=0
  ·have e:pTok c r = .ok (⟨1,w,0⟩,u):=by rw[hpt,if_pos g2]
   rw[g2] at hN
   refine fn_okE Tryz.func74 hcc74 (by decide) hcr74 (by simp[Tryz.ntmps74]) fun E hP hR hPn hl hid hB hu=>?_
   simp only[cr74] at hR
   refine w_go 4000 ?_
   simp[cc74]
   have hJ:=hl (J,_) (List.mem_cons_self ..)
   simp only at hJ
   have J1:=lf hJ
   simp[hlt,hci,J1]
   (refine w_call hP rfl (hLt _) (by simp[J1]) (by simp[J1]<;>rfl) ?_; refine w_go 4000 ?_; simp[J1])
   (refine w_call hP rfl (hp _) (by simp[J1]) (by simp[J1]<;>rfl) ?_; refine w_go 4000 ?_; simp[J1])
   (refine w_call hP rfl (hN _) (by simp[J1]) (by simp[J1]<;>rfl) ?_; refine w_go 4000 ?_; simp[J1])
   have hrn:rnOk []:=by simp[rB,eTk,J1,idO hid]
   refine hR _ _ _ (tokR_ok e) ?_
   refine rt_end (by simp[rB,eTk,J1,idO hid]<;>rfl) [] hrn ⟨?_,?_,?_,?_,?_,?_⟩<;>(try simp[rB,eTk,J1,idO hid])
  ·have e:pTok c r = .error (fName w):=by rw[hpt,if_neg g2]
   have hfe:=fun id=>lfail_ok (fName w) id
   have hne:(fName w != 0)=true:=by simpa using g2
   refine fn_okE Tryz.func74 hcc74 (by decide) hcr74 (by simp[Tryz.ntmps74]) fun E hP hR hPn hl hid hB hu=>?_
   simp only[cr74] at hR
   refine w_go 4000 ?_
   simp[cc74]
   have hJ:=hl (J,_) (List.mem_cons_self ..)
   simp only at hJ
   have J1:=lf hJ
   simp[hlt,hci,J1]
   (refine w_call hP rfl (hLt _) (by simp[J1]) (by simp[J1]<;>rfl) ?_; refine w_go 4000 ?_; simp[J1])
   (refine w_call hP rfl (hp _) (by simp[J1]) (by simp[J1]<;>rfl) ?_; refine w_go 4000 ?_; simp[J1])
   (refine w_call hP rfl (hN _) (by simp[J1]) (by simp[J1]<;>rfl) ?_; refine w_go 4000 ?_; simp[J1])
   refine goc_true hne ?_
   simp[J1]
   refine w_callE hP rfl (hfe _) (by simp[J1]) (by simp[J1]<;>rfl) (fun pv hpv=>⟨by simp[J1],by injection hpv with hpv; subst hpv; exact hPn _ _ (tokR_no e) rfl (by simp[J1])⟩) (fun v wr h=>by cases h)
 have g1:isLt c=false:=by simpa using g1
 rw[g1] at hLt
 by_cases g3:isDg c=true∨c=45
 ·have hpt:=pTok_num (r:=r) g1 g3
  have hn:=fun id=>number_ok z i c r J id hi hd g3 h8
  have hgd:(isDg c||((c.toNat:Int)==45))=true:=by
   rw[h45]
   rcases g3 with h|h
   ·rw[h]; rfl
   ·rw[h]; simp
  rw[hpt]
  rw[rB_eq] at hn
  rw[rB_eq]
  cases hnt:numT c r with
  | ok p =>
   obtain⟨t,u⟩:=p
   rw[hnt] at hn
   have hn:∀id,FnOk Tryz.prog 108 [.ptr J 0 0] [(J,⟨[.agg [.str z,.int .i64 i]],.agg [.str z,.int .i64 0],false,false⟩)] id (.agg [.int .i64 t.kind,.str t.text,.int .i64 t.n]) [(J,some ⟨[.agg [.str z,.int .i64 (atU z u)]],.agg [.str z,.int .i64 0],false,false⟩)]:=hn
   refine fn_okE Tryz.func74 hcc74 (by decide) hcr74 (by simp[Tryz.ntmps74]) fun E hP hR hPn hl hid hB hu=>?_
   simp only[cr74] at hR
   refine w_go 4000 ?_
   simp[cc74]
   have hJ:=hl (J,_) (List.mem_cons_self ..)
   simp only at hJ
   have J1:=lf hJ
   simp[hlt,hci,J1]
   (refine w_call hP rfl (hLt _) (by simp[J1]) (by simp[J1]<;>rfl) ?_; refine w_go 4000 ?_; simp[J1])
   (refine w_call hP rfl (hDg _) (by simp[J1]) (by simp[J1]<;>rfl) ?_; refine w_go 4000 ?_; simp[J1])
   refine goc_true hgd ?_
   simp[J1]
   (refine w_call hP rfl (hn _) (by simp[J1]) (by simp[J1]<;>rfl) ?_; refine w_go 4000 ?_; simp[J1])
   have hrn:rnOk []:=by simp[rB,eTk,J1,idO hid]
   refine hR _ _ _ (rfl) ?_
   refine rt_end (by simp[rB,eTk,J1,idO hid]<;>rfl) [] hrn ⟨?_,?_,?_,?_,?_,?_⟩<;>(try simp[rB,eTk,J1,idO hid])
  | error e =>
   rw[hnt] at hn
   have hn:∀id,FnE Tryz.prog 108 [.ptr J 0 0] [(J,⟨[.agg [.str z,.int .i64 i]],.agg [.str z,.int .i64 0],false,false⟩)] id (.error (erV e)):=hn
   refine fn_okE Tryz.func74 hcc74 (by decide) hcr74 (by simp[Tryz.ntmps74]) fun E hP hR hPn hl hid hB hu=>?_
   simp only[cr74] at hR
   refine w_go 4000 ?_
   simp[cc74]
   have hJ:=hl (J,_) (List.mem_cons_self ..)
   simp only at hJ
   have J1:=lf hJ
   simp[hlt,hci,J1]
   (refine w_call hP rfl (hLt _) (by simp[J1]) (by simp[J1]<;>rfl) ?_; refine w_go 4000 ?_; simp[J1])
   (refine w_call hP rfl (hDg _) (by simp[J1]) (by simp[J1]<;>rfl) ?_; refine w_go 4000 ?_; simp[J1])
   refine goc_true hgd ?_
   simp[J1]
   refine w_callE hP rfl (hn _) (by simp[J1]) (by simp[J1]<;>rfl) (fun pv hpv=>⟨by simp[J1],by injection hpv with hpv; subst hpv; exact hPn _ _ (rfl) rfl (by simp[J1])⟩) (fun v wr h=>by cases h)
 have hgd:(isDg c||((c.toNat:Int)==45))=false:=by
  rw[h45]
  cases h:isDg c with
  | true=>exact (g3 (.inl h)).elim
  | false=>simpa using fun h=>g3 (.inr h)
 by_cases g4:c=34
 ·have hpt:=pTok_text (r:=r) g4
  have hn:=fun id=>textL_ok z i r J id hlt hd1 h8
  rw[hpt]
  rw[rB_eq] at hn
  rw[rB_eq]
  cases hnt:textT r with
  | ok p =>
   obtain⟨t,u⟩:=p
   rw[hnt] at hn
   have hn:∀id,FnOk Tryz.prog 109 [.ptr J 0 0] [(J,⟨[.agg [.str z,.int .i64 i]],.agg [.str z,.int .i64 0],false,false⟩)] id (.agg [.int .i64 t.kind,.str t.text,.int .i64 t.n]) [(J,some ⟨[.agg [.str z,.int .i64 (atU z u)]],.agg [.str z,.int .i64 0],false,false⟩)]:=hn
   refine fn_okE Tryz.func74 hcc74 (by decide) hcr74 (by simp[Tryz.ntmps74]) fun E hP hR hPn hl hid hB hu=>?_
   simp only[cr74] at hR
   refine w_go 4000 ?_
   simp[cc74]
   have hJ:=hl (J,_) (List.mem_cons_self ..)
   simp only at hJ
   have J1:=lf hJ
   simp[hlt,hci,J1]
   (refine w_call hP rfl (hLt _) (by simp[J1]) (by simp[J1]<;>rfl) ?_; refine w_go 4000 ?_; simp[J1])
   (refine w_call hP rfl (hDg _) (by simp[J1]) (by simp[J1]<;>rfl) ?_; refine w_go 4000 ?_; simp[J1])
   refine goc_false hgd ?_
   simp[J1]
   refine goc_true (by rw[h34,g4]; rfl) ?_
   simp[J1]
   (refine w_call hP rfl (hn _) (by simp[J1]) (by simp[J1]<;>rfl) ?_; refine w_go 4000 ?_; simp[J1])
   have hrn:rnOk []:=by simp[rB,eTk,J1,idO hid]
   refine hR _ _ _ (rfl) ?_
   refine rt_end (by simp[rB,eTk,J1,idO hid]<;>rfl) [] hrn ⟨?_,?_,?_,?_,?_,?_⟩<;>(try simp[rB,eTk,J1,idO hid])
  | error e =>
   rw[hnt] at hn
   have hn:∀id,FnE Tryz.prog 109 [.ptr J 0 0] [(J,⟨[.agg [.str z,.int .i64 i]],.agg [.str z,.int .i64 0],false,false⟩)] id (.error (erV e)):=hn
   refine fn_okE Tryz.func74 hcc74 (by decide) hcr74 (by simp[Tryz.ntmps74]) fun E hP hR hPn hl hid hB hu=>?_
   simp only[cr74] at hR
   refine w_go 4000 ?_
   simp[cc74]
   have hJ:=hl (J,_) (List.mem_cons_self ..)
   simp only at hJ
   have J1:=lf hJ
   simp[hlt,hci,J1]
   (refine w_call hP rfl (hLt _) (by simp[J1]) (by simp[J1]<;>rfl) ?_; refine w_go 4000 ?_; simp[J1])
   (refine w_call hP rfl (hDg _) (by simp[J1]) (by simp[J1]<;>rfl) ?_; refine w_go 4000 ?_; simp[J1])
   refine goc_false hgd ?_
   simp[J1]
   refine goc_true (by rw[h34,g4]; rfl) ?_
   simp[J1]
   refine w_callE hP rfl (hn _) (by simp[J1]) (by simp[J1]<;>rfl) (fun pv hpv=>⟨by simp[J1],by injection hpv with hpv; subst hpv; exact hPn _ _ (rfl) rfl (by simp[J1])⟩) (fun v wr h=>by cases h)
 have hX:=fun id=>IndexByte_ok [123,125,40,41,58,91,93] c id
 have hsg:=sgX c
 generalize Lib.indexByte [123,125,40,41,58,91,93] c=x at hX hsg
 rw[rB_eq]
 by_cases g5:sgC c=true
 ·have e:pTok c r = .ok (⟨4,[c],0⟩,r):=by
   unfold pTok
   rw[if_neg (by simp[g1]),if_neg g3,if_neg g4,if_pos g5]
  have hju:i+1=atU z r:=by rw[←hd1]; exact (atU_drop (by omega)).symm
  refine fn_okE Tryz.func74 hcc74 (by decide) hcr74 (by simp[Tryz.ntmps74]) fun E hP hR hPn hl hid hB hu=>?_
  simp only[cr74] at hR
  refine w_go 4000 ?_
  simp[cc74]
  have hJ:=hl (J,_) (List.mem_cons_self ..)
  simp only at hJ
  have J1:=lf hJ
  simp[hlt,hci,J1]
  (refine w_call hP rfl (hLt _) (by simp[J1]) (by simp[J1]<;>rfl) ?_; refine w_go 4000 ?_; simp[J1])
  (refine w_call hP rfl (hDg _) (by simp[J1]) (by simp[J1]<;>rfl) ?_; refine w_go 4000 ?_; simp[J1])
  refine goc_false hgd ?_
  simp[J1]
  refine goc_false (by rw[h34]; simpa using g4) ?_
  simp[J1]
  (refine w_call hP rfl (hX _) (by simp[J1]) (by simp[J1]<;>rfl) ?_; refine w_go 4000 ?_; simp[J1])
  refine goc_true (hsg.trans g5) ?_
  simp[J1]
  rw[hi1]
  refine⟨by simp[isU8]; try omega,?_⟩
  have hrn:rnOk []:=by simp[rB,eTk,J1,idO hid]
  refine hR _ _ _ (tokR_at e hju.symm) ?_
  refine rt_end (by simp[rB,eTk,J1,idO hid]<;>rfl) [] hrn ⟨?_,?_,?_,?_,?_,?_⟩<;>(try simp[rB,eTk,J1,idO hid])
 ·have e:pTok c r = .error 1:=by
   unfold pTok
   rw[if_neg (by simp[g1]),if_neg g3,if_neg g4,if_neg g5]
  refine fn_okE Tryz.func74 hcc74 (by decide) hcr74 (by simp[Tryz.ntmps74]) fun E hP hR hPn hl hid hB hu=>?_
  simp only[cr74] at hR
  refine w_go 4000 ?_
  simp[cc74]
  have hJ:=hl (J,_) (List.mem_cons_self ..)
  simp only at hJ
  have J1:=lf hJ
  simp[hlt,hci,J1]
  (refine w_call hP rfl (hLt _) (by simp[J1]) (by simp[J1]<;>rfl) ?_; refine w_go 4000 ?_; simp[J1])
  (refine w_call hP rfl (hDg _) (by simp[J1]) (by simp[J1]<;>rfl) ?_; refine w_go 4000 ?_; simp[J1])
  refine goc_false hgd ?_
  simp[J1]
  refine goc_false (by rw[h34]; simpa using g4) ?_
  simp[J1]
  (refine w_call hP rfl (hX _) (by simp[J1]) (by simp[J1]<;>rfl) ?_; refine w_go 4000 ?_; simp[J1])
  refine goc_false (hsg.trans (by simpa using g5)) ?_
  simp[J1]
  refine w_callE hP rfl (hf _) (by simp[J1]) (by simp[J1]<;>rfl) (fun pv hpv=>⟨by simp[J1],by injection hpv with hpv; subst hpv; exact hPn _ _ (tokR_no e) rfl (by simp[J1])⟩) (fun v wr h=>by cases h)
end Go.Am
namespace Go.Am
set_option linter.all false
open Go Go.RowKit Go.Proofs
set_option maxRecDepth 100000
set_option linter.all false
def oBx(v:AV):Bx:=⟨[v],.nils,false,false⟩
def iBx(e:Int):Bx:=⟨[.int .i64 e],.int .i64 0,false,false⟩
theorem wkN{E:Env}{cc:CC}{c:Code}{σ:St}{p:St→Prop}{Q:Exit→Act→World→Prop}(hc:compC E.P E.N c=cc)(hW:Wk E [.code cc,.post p] σ)(hR:∀τ,¬E.Rt τ)(hP:∀pv τ,¬E.Pn pv τ){G:Gh}{a:Act}{w:World}(hD:Desc E σ G a w)
  (hk:∀τ G a w,Desc E τ G a w→p τ→Q .normal a w):c.wp E.P Q a w:=by
 refine wp_mono (hW _ hc G a w hD) fun e a w hq=>?_
 cases e with
 | normal=>obtain⟨σ',G',h1,h2⟩:=hq; exact hk _ _ _ _ h1 h2
 | ret=>obtain⟨σ',G',h1,h2⟩:=hq; exact (hR _ h2).elim
 | exit id=>obtain⟨_,_,_,h⟩:=hq; exact h.elim
 | panic chain=>obtain⟨pv,u,σ,F,B,U,G',rfl,h1,h2,h3,h4⟩:=hq; exact (hP _ _ h4).elim
 | _=>exact hq.elim
theorem allY_pnk(E:Env)(e:Int)(x:AV)(y:Int)(J4 J5:Nat)(h4:J4<E.n0)(h5:J5<E.n0)(d:J4≠J5)(hx:x = .nils∨∃M n,x = .bsl M 0 n)(hR:∀fr bx k,bk bx J4=some (oBx .nils)→bk bx J5=some (iBx e)→(∀q∈bx,q.1=J4∨q.1=J5∨E.n0≤q.1)→E.Rt ⟨fr,bx,k⟩):
  Wk E [.code cc72c] ⟨[(0,true,.ptr J4 0 0),(1,true,.ptr J5 0 0),(2,true,erV e)],[(J4,some (oBx x)),(J5,some (iBx y))],0⟩:=by
 unfold erV oBx iBx
 have e4:∀t,(J4=E.n0+t)=False:=fun t=>by simp; omega
 have e5:∀t,(J5=E.n0+t)=False:=fun t=>by simp; omega
 rcases hx with rfl|⟨M,n,rfl⟩
 ·refine w_go 4000 ?_
  simp[cc72c,e4,e5,d,Ne.symm d]
  refine hR _ _ _ ?_ ?_ ?_
  ·simp[e4,e5,d,Ne.symm d,oBx]
  ·simp[e4,e5,d,Ne.symm d,iBx]
  ·simp
 ·refine w_go 4000 ?_
  simp[cc72c,e4,e5,d,Ne.symm d]
  refine hR _ _ _ ?_ ?_ ?_
  ·simp[e4,e5,d,Ne.symm d,oBx]
  ·simp[e4,e5,d,Ne.symm d,iBx]
  ·simp
theorem hY72{x x' z:Code}{X:Operand}{Y:Code}(h:Tryz.f72.body=some (.seq x (.seq x' (.cond X Y z)))):compC Tryz.prog Tryz.f72.ntmps Y=cc72c:=by
 have h0:=hcc72
 rw[h] at h0
 simp only[Option.map_some,Option.some.injEq,cc72] at h0
 obtain⟨_,_,e1,_,h1⟩:=comp_seq h0
 injection e1 with _ e1
 subst e1
 obtain⟨_,_,e2,_,h2⟩:=comp_seq h1
 injection e2 with _ e2
 subst e2
 obtain⟨_,_,_,e3,_,h3,_⟩:=comp_cond h2
 injection e3 with _ e3 _
 subst e3
 exact h3
theorem allD_pnk(C:Cx Tryz.prog)(G:Gh)(B:Nat→Option Bx)(w:World)(er:Int)(x:AV)(y:Int)(hx:x = .nils∨∃M n,x = .bsl M 0 n)(n0 J4 J5:Nat)(v4 v5 u:Value)(hs:RS C G B w)(hv4:RV G w (.ptr J4 0 0) v4)(hv5:RV G w (.ptr J5 0 0) v5)(hu:RV G w (erV er) u)
  (h4:B J4=some (oBx x)) (h5:B J5=some (iBx y)) (d:J4≠J5) (hold:∀x,G.used x→x<n0) (how:∀x,n0≤x→B x=none) :
  CallsD Tryz.prog 72 #[v4,v5] (.panicking [{ v:=u,recovered:=false }]) w fun e u' w'=>u' = .panicking [{ v:=u,recovered:=true }]∧(∃v,e = .returned v) ∧
   ∃G' l k,RS C G' (ov B l) w'∧Evo G w G' w'∧bk l J4=some (oBx .nils)∧bk l J5=some (iBx er)∧(∀q∈l,q.1=J4∨q.1=J5∨n0≤q.1)∧(∀x,x<n0→G'.used x→G.used x)∧∀x,G'.used x→x<n0+k:=by
 obtain⟨q,rfl⟩:∃q,u = .iface 23 q:=by
  unfold erV at hu
  cases hu with|iface _ _ q h=>exact⟨q,rfl⟩
 refine callsD_of_wpS Tryz.func72 rfl fun c₀ cs hm=>?_
 apply wpS_seq
 apply wpS_region
 simp[wpOpsS,go_sem,recoverD,hm,Tryz.ntmps72,Exit.thenS]
 apply wpS_seq
 apply wpS_region
 simp[wpOpsS,go_sem,Exit.thenS]
 refine wpS_cond (t:=true) (by simp[Act.eval,Array.replicate]) ?_
 apply wpS_of_wp
 simp only[if_true]
 let E:Env:=⟨Tryz.prog,C,B,Tryz.f72.ntmps,n0,G,w,how,hold,hs,[],fun σ=>bk σ.bx J4=some (oBx .nils)∧bk σ.bx J5=some (iBx er)∧∀q∈σ.bx,q.1=J4∨q.1=J5∨n0≤q.1,fun _ _=>False⟩
 have l4:=hold J4 (hs.boxNames h4).1
 have l5:=hold J5 (hs.boxNames h5).1
 have hW:=allY_pnk E er x y J4 J5 l4 l5 d hx fun fr bx k h1 h2 h3=>⟨h1,h2,h3⟩
 refine wp_mono (hW _ (hY72 rfl) G _ w ?_) fun e a w' hq=>?_
 ·refine⟨Evo.refl G w,?_,fun i hi=>by have:=hold i hi; show i<n0+0; omega,fun i _ hi=>hi,fun n c v hl=>?_,?_,rfl⟩
  ·have hh:Has B [(J4,oBx x),(J5,iBx y)]:=fun q hq=>by
    simp at hq
    rcases hq with rfl|rfl
    ·exact h4
    ·exact h5
   have:=ov_someL hh
   simp only[someL] at this
   show RS C G (ov B _) w
   rw[this]; exact hs
  ·simp only[lk] at hl
   repeat' split at hl
   all_goals first|cases hl|skip
   all_goals rename_i hn<;>subst hn<;>refine⟨fun _=>?_,fun h=>by cases h⟩
   ·simpa [Array.getD_eq_getD_getElem?] using hv4
   ·simpa [Array.getD_eq_getD_getElem?] using hv5
   ·simpa [Array.getD_eq_getD_getElem?] using hu
  ·simp[E,Tryz.ntmps72]
 ·have fin:∀σ G',Desc E σ G' a w'→E.Rt σ→∀(cs':List Frame),a.defers=[]∧(∃v,(results Tryz.f72 a.tmps).run Tryz.prog w' = .ok v w')∧∃G' l k,RS C G' (ov B l) w'∧Evo G w G' w'∧bk l J4=some (oBx .nils)∧bk l J5=some (iBx er)∧(∀q∈l,q.1=J4∨q.1=J5∨n0≤q.1)∧(∀x,x<n0→G'.used x→G.used x)∧∀x,G'.used x→x<n0+k:=fun σ G' hD hR _=>by
   refine⟨hD.defers,⟨_,by simp[results,Tryz.results72]; rfl⟩,G',σ.bx,σ.k,hD.rs,hD.ev,hR.1,hR.2.1,hR.2.2,hD.old,hD.used⟩
  cases e with
  | normal =>
   obtain⟨σ,G',h1,h2⟩:=hq
   obtain⟨f1,⟨v,f2⟩,f3⟩:=fin σ G' h1 h2 cs
   exact⟨f1,_,rfl,v,f2,rfl,⟨v,rfl⟩,by obtain⟨g1,g2,g3,d1,d2,d3,d4,d5,d6,d7⟩:=f3; exact⟨g1,g2,d1,d2,d3,d4,fun x y h=>d5 (x,y) h,d6,g3,d7⟩⟩
  | ret =>
   obtain⟨σ,G',h1,h2⟩:=hq
   obtain⟨f1,⟨v,f2⟩,f3⟩:=fin σ G' h1 h2 cs
   exact⟨f1,_,rfl,v,f2,rfl,⟨v,rfl⟩,by obtain⟨g1,g2,g3,d1,d2,d3,d4,d5,d6,d7⟩:=f3; exact⟨g1,g2,d1,d2,d3,d4,fun x y h=>d5 (x,y) h,d6,g3,d7⟩⟩
  | exit id=>obtain⟨σ,G',h1,h2⟩:=hq; exact h2.elim
  | panic chain =>
   obtain⟨pv,u,σ,F,B,U,G',rfl,h1,h2,h3,h4⟩:=hq
   exact h4.elim
  | _=>exact hq.elim
theorem allD_ret(v1 v2:Value)(w:World):CallsD Tryz.prog 72 #[v1,v2] .returning w fun e u' w'=>u' = .returning∧(∃v,e = .returned v)∧w'=w:=by
 refine callsD_of_wpS Tryz.func72 rfl fun c₀ cs hu=>?_
 apply wpS_seq
 apply wpS_region
 simp[wpOpsS,go_sem,recoverD,hu,Tryz.ntmps72,Exit.thenS]
 apply wpS_seq
 apply wpS_region
 simp[wpOpsS,go_sem,Exit.thenS]
 refine wpS_cond (t:=false) (by simp[Act.eval,Array.replicate]) ?_
 simp only[Bool.false_eq_true,if_false]
 apply wpS_of_wp
 refine wp_skip ?_
 exact⟨rfl,_,by rw[←hu],_,by simp[results,Tryz.results72]; rfl,rfl,⟨_,rfl⟩,rfl⟩
end Go.Am
namespace Go.Am
set_option linter.all false
open Go Go.RowKit Go.Proofs
set_option maxRecDepth 100000
set_option linter.all false
theorem loopQ{E:Env}{cb:Code}{X:Type}(inv:X→St)(ok:X→Prop)(m:X→Nat){Q:Exit→Act→World→Prop}(x0:X)(hx0:ok x0){G:Gh}{a:Act}{w:World}(hD:Desc E (inv x0) G a w)
  (step:∀x,ok x→∀G a w,Desc E (inv x) G a w→cb.wp E.P (fun e a' w'=>match e with
   | .normal=>∃x' G',ok x'∧m x'<m x∧Desc E (inv x') G' a' w'
   | e=>Q e a' w') a w):(Code.loop cb).wp E.P Q a w:=by
 refine wp_loop_ghost (fun n a w=>∃x G,ok x∧m x=n∧Desc E (inv x) G a w) (m x0) ⟨x0,G,hx0,rfl,hD⟩ fun n a w hI=>?_
 obtain⟨x,G2,hx,rfl,hD2⟩:=hI
 refine wp_mono (step x hx G2 a w hD2) fun e a' w' hq=>?_
 cases e with
 | normal =>
  obtain⟨x',G',h1,h2,h3⟩:=hq
  exact⟨m x',h2,x',G',h1,rfl,h3⟩
 | _=>exact hq
theorem histB_ov{β:Nat→Option Bx}{l:List (Nat×Option Bx)}{B:Nat→Option Bx}(h:HistB β l B):B=ov β (l.map fun q=>(q.1,B q.1)):=by
 funext y
 have key:∀l:List (Nat×Option Bx),ov β (l.map fun q=>(q.1,B q.1)) y=if y∈l.map (·.1) then B y else β y:=fun l=>by
  induction l with
  | nil=>simp[ov]
  | cons q l ih =>
   simp only[List.map_cons,ov,upd,List.mem_cons]
   by_cases hq:y=q.1
   ·subst hq; simp
   ·rw[if_neg hq,ih]
    by_cases hy:y∈l.map (·.1)
    ·rw[if_pos hy,if_pos (.inr hy)]
    ·rw[if_neg hy,if_neg (by rintro (h|h); exact hq h; exact hy h)]
 rw[key]
 split
 ·rfl
 ·rename_i hn
  rcases h y with h|h
  ·exact h
  ·exact (hn (List.mem_map.2 ⟨_,h,rfl⟩)).elim
def aInv(E:Env)(O I:Nat)(s:List UInt8)(q:List Tk×Nat):St :=
 ⟨[(0,true,.str s),(2,true,.ptr O 0 0),(3,true,.ptr I 0 0),(4,true,.ptr E.n0 0 0)],[(E.n0,some (rB s q.2)),(O,some (oBx (.bsl (E.n0+1) 0 q.1.length))),(I,some (iBx 0)),(E.n0+1,some ⟨q.1.map eTk,.agg [.int .i64 0,.str [],.int .i64 0],false,false⟩)],2⟩
theorem pure_eTk(t:Tk):(eTk t).pureB=true:=rfl
@[simp] theorem pure_tks (l:List Tk):pureL (l.map eTk)=true:=pureL_map pure_eTk l
@[simp] theorem names_tks (S:Nat→Prop) (l:List Tk):namesL S (l.map eTk):=namesL_pure _ (pure_tks l)
@[simp] theorem ren_tks (R:Rn) (S:Nat→Prop) (l:List Tk):RenL R S (l.map eTk) (l.map eTk):=renL_pure rfl (pure_tks l)
section
variable (E:Env) (hP:E.P=Tryz.prog) (O I:Nat) (h4:O<E.n0) (h5:I<E.n0) (d:O≠I) (s:List UInt8) (h8:s.length≤1099511627776)
include hP h4 h5 d h8
theorem all_c :
  Wk E [.code cc37c,.post fun σ=>Conv E σ (aInv E O I s ([],atB s 0))] ⟨[(4,true,.ptr (E.n0+2048) 0 0),(8,true,.ptr (E.n0+2048) 0 0),(7,true,.agg [.str s,.int .i64 0]),(6,true,.str s),(3,true,.ptr I 0 0),(2,true,.ptr O 0 0),(0,true,.str s)],[(E.n0+2048,some (rB s 0)),(I,some (iBx 0)),(O,some (oBx .nils))],4096⟩:=by
 have e4:∀t,(O=E.n0+t)=False:=fun t=>by simp; omega
 have e5:∀t,(I=E.n0+t)=False:=fun t=>by simp; omega
 have f4:∀t,(E.n0+t=O)=False:=fun t=>by simp; omega
 have f5:∀t,(E.n0+t=I)=False:=fun t=>by simp; omega
 have g4:(O=E.n0)=False:=by simp; omega
 have g5:(I=E.n0)=False:=by simp; omega
 have k4:(E.n0=O)=False:=by simp; omega
 have k5:(E.n0=I)=False:=by simp; omega
 have hb:=fun id=>blank_ok s 0 (E.n0+2048) id (by omega) h8
 rw[rB_eq,rB_eq] at hb
 rw[rB_eq]
 unfold oBx iBx
 refine w_go 4000 ?_
 simp[cc37c,e4,e5,f4,f5,d,Ne.symm d]
 refine w_call hP rfl (hb _) (by simp) (by simp<;>rfl) ?_
 refine w_go 4000 ?_
 simp[e4,e5,f4,f5,d,Ne.symm d]
 unfold aInv
 refine Conv.trans (Conv.voidBox O (x:=.nils) (y:=.bsl (E.n0+6144) 0 0) (by simp[e4,e5,f4,f5,d,Ne.symm d]; rfl) rfl .nils (.agg [.int .i64 0,.str [],.int .i64 0])) ?_
 have hrn:rnOk [(E.n0,E.n0+2048),(E.n0+1,E.n0+6144)]:=by simp[rB,oBx,iBx,h4,h5,e4,e5,f4,f5,g4,g5,k4,k5,d,Ne.symm d]
 refine Conv.sub [(E.n0,E.n0+2048),(E.n0+1,E.n0+6144)] hrn ?_ ?_ ?_ ?_ ?_<;>(try simp[rB,oBx,iBx,h4,h5,e4,e5,f4,f5,g4,g5,k4,k5,d,Ne.symm d])
theorem all_a(acc:List Tk):
  Wk E [.code cc37L,.post (fun _=>False),.blk 0,.post fun σ=>Conv E σ (aInv E O I s (acc,s.length))] (aInv E O I s (acc,s.length)):=by
 have e4:∀t,(O=E.n0+t)=False:=fun t=>by simp; omega
 have e5:∀t,(I=E.n0+t)=False:=fun t=>by simp; omega
 have f4:∀t,(E.n0+t=O)=False:=fun t=>by simp; omega
 have f5:∀t,(E.n0+t=I)=False:=fun t=>by simp; omega
 have g4:(O=E.n0)=False:=by simp; omega
 have g5:(I=E.n0)=False:=by simp; omega
 have k4:(E.n0=O)=False:=by simp; omega
 have k5:(E.n0=I)=False:=by simp; omega
 unfold aInv oBx iBx rB
 refine w_go 4000 ?_
 simp[cc37L,cc37h,cc37t,h4,h5,e4,e5,f4,f5,g4,g5,k4,k5,d,Ne.symm d]
 have hrn:rnOk [(E.n0,E.n0),(E.n0+1,E.n0+1)]:=by simp[h4,h5,e4,e5,f4,f5,g4,g5,k4,k5,d,Ne.symm d]
 refine Conv.sub [(E.n0,E.n0),(E.n0+1,E.n0+1)] hrn ?_ ?_ ?_ ?_ ?_<;>(try simp[h4,h5,e4,e5,f4,f5,g4,g5,k4,k5,d,Ne.symm d])
theorem all_h(acc:List Tk)(j:Nat)(hj:j<s.length):
  Wk E [.code cc37h,.post fun σ=>lk σ.fr 17=some (true,.bool true)∧Conv E σ (aInv E O I s (acc,j))] (aInv E O I s (acc,j)):=by
 have e4:∀t,(O=E.n0+t)=False:=fun t=>by simp; omega
 have e5:∀t,(I=E.n0+t)=False:=fun t=>by simp; omega
 have f4:∀t,(E.n0+t=O)=False:=fun t=>by simp; omega
 have f5:∀t,(E.n0+t=I)=False:=fun t=>by simp; omega
 have g4:(O=E.n0)=False:=by simp; omega
 have g5:(I=E.n0)=False:=by simp; omega
 have k4:(E.n0=O)=False:=by simp; omega
 have k5:(E.n0=I)=False:=by simp; omega
 unfold aInv oBx iBx rB
 refine w_go 4000 ?_
 simp[cc37h,hj,h4,h5,e4,e5,f4,f5,g4,g5,k4,k5,d,Ne.symm d]
 have hrn:rnOk [(E.n0,E.n0),(E.n0+1,E.n0+1)]:=by simp[h4,h5,e4,e5,f4,f5,g4,g5,k4,k5,d,Ne.symm d]
 refine Conv.sub [(E.n0,E.n0),(E.n0+1,E.n0+1)] hrn ?_ ?_ ?_ ?_ ?_<;>(try simp[h4,h5,e4,e5,f4,f5,g4,g5,k4,k5,d,Ne.symm d])
theorem all_k(acc:List Tk)(j:Nat)(hj:j≤s.length)(c:UInt8)(r u:List UInt8)(t:Tk)(hd:s.drop j=c::r)(ht:pTok c r = .ok (t,u))(hl:acc.length≤300):
  Wk E [.code cc37k,.post fun σ=>Conv E σ (aInv E O I s (acc++[t],atU s u))] (aInv E O I s (acc,j)):=by
 have e4:∀t,(O=E.n0+t)=False:=fun t=>by simp; omega
 have e5:∀t,(I=E.n0+t)=False:=fun t=>by simp; omega
 have f4:∀t,(E.n0+t=O)=False:=fun t=>by simp; omega
 have f5:∀t,(E.n0+t=I)=False:=fun t=>by simp; omega
 have g4:(O=E.n0)=False:=by simp; omega
 have g5:(I=E.n0)=False:=by simp; omega
 have k4:(E.n0=O)=False:=by simp; omega
 have k5:(E.n0=I)=False:=by simp; omega
 have hT:=fun id=>token_ok s j c r E.n0 id hj hd h8
 rw[ht] at hT
 have hT:∀id,FnOk Tryz.prog 74 [.ptr E.n0 0 0] [(E.n0,rB s j)] id (.agg [.int .i64 t.kind,.str t.text,.int .i64 t.n]) [(E.n0,some (rB s (atU s u)))]:=hT
 rw[rB_eq,rB_eq] at hT
 unfold aInv oBx iBx rB
 refine w_go 4000 ?_
 simp[cc37k,h4,h5,e4,e5,f4,f5,g4,g5,k4,k5,d,Ne.symm d]
 refine w_call hP rfl (hT _) (by simp) (by simp<;>rfl) ?_
 refine w_go 4000 ?_
 simp[h4,h5,e4,e5,f4,f5,g4,g5,k4,k5,d,Ne.symm d]
 refine⟨⟨by omega,by omega⟩,?_⟩
 have hrn:rnOk [(E.n0,E.n0),(E.n0+1,E.n0+4098)]:=by simp[eTk,h4,h5,e4,e5,f4,f5,g4,g5,k4,k5,d,Ne.symm d]
 refine Conv.sub [(E.n0,E.n0),(E.n0+1,E.n0+4098)] hrn ?_ ?_ ?_ ?_ ?_<;>(try simp[eTk,h4,h5,e4,e5,f4,f5,g4,g5,k4,k5,d,Ne.symm d])
 exact renL_pure rfl (pureL_append (pure_tks _) rfl)
theorem all_l(acc:List Tk)(j:Nat)(b:Bool)(hb:decide (300<(acc.length:Int))=b):
  Wk E [.code cc37l,.post fun σ=>lk σ.fr 27=some (true,.bool b)∧Conv E σ (aInv E O I s (acc,j))] (aInv E O I s (acc,j)):=by
 have e4:∀t,(O=E.n0+t)=False:=fun t=>by simp; omega
 have e5:∀t,(I=E.n0+t)=False:=fun t=>by simp; omega
 have f4:∀t,(E.n0+t=O)=False:=fun t=>by simp; omega
 have f5:∀t,(E.n0+t=I)=False:=fun t=>by simp; omega
 have g4:(O=E.n0)=False:=by simp; omega
 have g5:(I=E.n0)=False:=by simp; omega
 have k4:(E.n0=O)=False:=by simp; omega
 have k5:(E.n0=I)=False:=by simp; omega
 unfold aInv oBx iBx rB
 refine w_go 4000 ?_
 simp[cc37l,hb,h4,h5,e4,e5,f4,f5,g4,g5,k4,k5,d,Ne.symm d]
 have hrn:rnOk [(E.n0,E.n0),(E.n0+1,E.n0+1)]:=by simp[h4,h5,e4,e5,f4,f5,g4,g5,k4,k5,d,Ne.symm d]
 refine Conv.sub [(E.n0,E.n0),(E.n0+1,E.n0+1)] hrn ?_ ?_ ?_ ?_ ?_<;>(try simp[h4,h5,e4,e5,f4,f5,g4,g5,k4,k5,d,Ne.symm d])
theorem all_n(acc:List Tk)(j:Nat)(hj:j≤s.length):
  Wk E [.code cc37n,.post fun σ=>Conv E σ (aInv E O I s (acc,atB s j))] (aInv E O I s (acc,j)):=by
 have e4:∀t,(O=E.n0+t)=False:=fun t=>by simp; omega
 have e5:∀t,(I=E.n0+t)=False:=fun t=>by simp; omega
 have f4:∀t,(E.n0+t=O)=False:=fun t=>by simp; omega
 have f5:∀t,(E.n0+t=I)=False:=fun t=>by simp; omega
 have g4:(O=E.n0)=False:=by simp; omega
 have g5:(I=E.n0)=False:=by simp; omega
 have k4:(E.n0=O)=False:=by simp; omega
 have k5:(E.n0=I)=False:=by simp; omega
 have hb:=fun id=>blank_ok s j E.n0 id hj h8
 rw[rB_eq,rB_eq] at hb
 unfold aInv oBx iBx rB
 refine w_go 4000 ?_
 simp[cc37n,h4,h5,e4,e5,f4,f5,g4,g5,k4,k5,d,Ne.symm d]
 refine w_call hP rfl (hb _) (by simp) (by simp<;>rfl) ?_
 refine w_go 4000 ?_
 simp[h4,h5,e4,e5,f4,f5,g4,g5,k4,k5,d,Ne.symm d]
 have hrn:rnOk [(E.n0,E.n0),(E.n0+1,E.n0+1)]:=by simp[h4,h5,e4,e5,f4,f5,g4,g5,k4,k5,d,Ne.symm d]
 refine Conv.sub [(E.n0,E.n0),(E.n0+1,E.n0+1)] hrn ?_ ?_ ?_ ?_ ?_<;>(try simp[h4,h5,e4,e5,f4,f5,g4,g5,k4,k5,d,Ne.symm d])
end
end Go.Am
namespace Go.Am
set_option linter.all false
open Go Go.RowKit Go.Proofs
set_option maxRecDepth 100000
set_option linter.all false
theorem upd_same{f:Nat→Option Bx}{i:Nat}{b:Option Bx}(h:f i=b):upd f i b=f:=by
 funext x
 unfold upd
 split
 ·rename_i hx; subst hx; exact h.symm
 ·rfl
theorem DropOk.of{n0:Nat}{bx':List (Nat×Option Bx)}:∀{l:List (Nat×Option Bx)},(∀q∈l,n0≤q.1)→DropOk n0 bx' l
 | [],_=>trivial
 | (i,b)::l,h=>⟨.inl (h (i,b) (List.mem_cons_self ..)),DropOk.of fun q hq=>h q (List.mem_cons_of_mem _ hq)⟩
theorem hY37{x m y r:Code}(h:Tryz.f37.body=some (.seq x (.seq m (.seq y r)))):compC Tryz.prog Tryz.f37.ntmps x=cc37a∧compC Tryz.prog Tryz.f37.ntmps y=cc37b∧compC Tryz.prog Tryz.f37.ntmps r = .seq (.seq cc37c (.block 0 (.loop cc37L))) (.seq cc37d CC.ret):=by
 have h0:=hcc37
 rw[h] at h0
 simp only[Option.map_some,Option.some.injEq,cc37] at h0
 obtain⟨_,_,e1,k1,h1⟩:=comp_seq h0
 injection e1 with e1 e1'
 subst e1 e1'
 obtain⟨_,_,e2,_,h2⟩:=comp_seq h1
 injection e2 with _ e2
 subst e2
 obtain⟨_,_,e3,k3,h3⟩:=comp_seq h2
 injection e3 with e3 e3'
 subst e3 e3'
 exact⟨k1,k3,h3⟩
theorem door37{x m r:Code}(h:Tryz.f37.body=some (.seq x (.seq m r))){Q:Exit→Act→World→Prop}{t:Array Value}{w:World}(hsz:5<t.size)
  (hQ:Q .normal ⟨t.setIfInBounds 5 (.func (.func 72) #[] #[t[2]?.getD undef,t[3]?.getD undef]),[⟨.fn (.func 72) #[t[2]?.getD undef,t[3]?.getD undef],#[]⟩]⟩ w):m.wp Tryz.prog Q ⟨t,[]⟩ w:=by
 have e:Tryz.f37.body=some (.seq _ (.seq _ _)):=rfl
 rw[e] at h
 injection h with h
 injection h with _ h
 injection h with h _
 subst h
 refine wp_region ?_
 have hmf:∀(fn:Fn) (first cap:Array Value) (w:World),(Instr.makeFunc fn first cap).run Tryz.prog w = .ok (.func fn first cap) w:=fun _ _ _ _=>rfl
 simp[wpOps,wpOp,go_sem,hmf,Exit.then,hsz]
 exact .inl (.inl hQ)
theorem all_endE{C:Cx Tryz.prog}{D:List Deferred}{G G':Gh}{w w':World}{bx:Nat→Option Bx}{n0 k id J4 J5:Nat}{F:Fr}{l:List (Nat×Option Bx)}{a:Act}{e:Int}(own:∀i,n0≤i→bx i=none)(old:∀i,G.used i→i<n0)(hs:RS C G bx w)(hid:∀x,id≤x→x<id+1024→¬G.used x)
  (hD:DescF C Tryz.f37.ntmps D n0 G w F (ov bx l) (· < n0+k) G' a w') (f4:F 2=some (true,.ptr J4 0 0)) (f5:F 3=some (true,.ptr J5 0 0)) (h4:ov bx l J4=some (oBx .nils)) (h5:ov bx l J5=some (iBx e)) (hl:∀q∈l,n0≤q.1) (d:J4≠J5) (j4:n0≤J4) (j5:n0≤J5) :
  ∃v,(results Tryz.f37 a.tmps).run Tryz.prog w' = .ok v w'∧∃G1,RS C G1 bx w'∧Evo G w G1 w'∧RV G1 w' (.tup [.nils,.int .i64 e]) v∧∀x,G1.used x→G.used x∨(id≤x∧x<id+1024):=by
 let E:Env:=⟨Tryz.prog,C,bx,Tryz.f37.ntmps,n0,G,w,own,old,hs,D,fun _=>True,fun _ _=>False⟩
 have hD':Desc E ⟨[(2,true,.ptr J4 0 0),(3,true,.ptr J5 0 0)],(J4,some (oBx .nils))::(J5,some (iBx e))::l,k⟩ G' a w':=by
  refine⟨hD.ev,?_,hD.used,hD.old,fun n c v hl=>?_,hD.size,hD.defers⟩
  ·show RS C G' (ov bx _) w'
   simp only[ov]
   rw[upd_same (f:=ov bx l) h5,upd_same h4]
   exact hD.rs
  ·simp only[lk] at hl
   repeat' split at hl
   all_goals first|cases hl|skip
   all_goals rename_i hn<;>subst hn
   ·exact hD.fr _ _ _ f4
   ·exact hD.fr _ _ _ f5
 have hh:Has E.β []:=Has.nil
 refine end_ok (E:=E) (id:=id) (rd:=[]) (wr:=[]) (hcr37) hh hid hD' ?_
 simp only[cr37]
 refine rt_end (by simp[oBx,iBx,d,Ne.symm d]<;>rfl) [] trivial (end_pure (by simp) (by simp) ?_)
 exact DropOk.of fun q hq=>by
  simp at hq
  rcases hq with rfl|rfl|hq
  ·exact j4
  ·exact j5
  ·exact hl q hq
theorem all_endO{C:Cx Tryz.prog}{D:List Deferred}{G G':Gh}{w w':World}{bx:Nat→Option Bx}{n0 k id J4 J5 M:Nat}{F:Fr}{l:List (Nat×Option Bx)}{a:Act}{ts:List Tk}(own:∀i,n0≤i→bx i=none)(old:∀i,G.used i→i<n0)(hs:RS C G bx w)(hid:∀x,id≤x→x<id+1024→¬G.used x)
  (hD:DescF C Tryz.f37.ntmps D n0 G w F (ov bx l) (· < n0+k) G' a w') (f4:F 2=some (true,.ptr J4 0 0)) (f5:F 3=some (true,.ptr J5 0 0)) (h4:ov bx l J4=some (oBx (.bsl M 0 ts.length))) (h5:ov bx l J5=some (iBx 0)) (hM:ov bx l M=some ⟨ts.map eTk,.agg [.int .i64 0,.str [],.int .i64 0],false,false⟩) (hl:∀q∈l,n0≤q.1) (d:J4≠J5) (d4:J4≠M) (d5:J5≠M) (j4:n0≤J4) (j5:n0≤J5) (jM:n0≤M) :
  ∃v,(results Tryz.f37 a.tmps).run Tryz.prog w' = .ok v w'∧∃G1,RS C G1 bx w'∧Evo G w G1 w'∧RV G1 w' (.tup [.sl (ts.map eTk),.int .i64 0]) v∧∀x,G1.used x→G.used x∨(id≤x∧x<id+1024):=by
 let E:Env:=⟨Tryz.prog,C,bx,Tryz.f37.ntmps,n0,G,w,own,old,hs,D,fun _=>True,fun _ _=>False⟩
 have hD':Desc E ⟨[(2,true,.ptr J4 0 0),(3,true,.ptr J5 0 0)],(J4,some (oBx (.bsl M 0 ts.length)))::(J5,some (iBx 0))::(M,some ⟨ts.map eTk,.agg [.int .i64 0,.str [],.int .i64 0],false,false⟩)::l,k⟩ G' a w':=by
  refine⟨hD.ev,?_,hD.used,hD.old,fun n c v hl=>?_,hD.size,hD.defers⟩
  ·show RS C G' (ov bx _) w'
   simp only[ov]
   rw[upd_same (f:=ov bx l) hM,upd_same h5,upd_same h4]
   exact hD.rs
  ·simp only[lk] at hl
   repeat' split at hl
   all_goals first|cases hl|skip
   all_goals rename_i hn<;>subst hn
   ·exact hD.fr _ _ _ f4
   ·exact hD.fr _ _ _ f5
 have hh:Has E.β []:=Has.nil
 refine end_ok (E:=E) (id:=id) (rd:=[]) (wr:=[]) (hcr37) hh hid hD' ?_
 simp only[cr37]
 refine rt_endR (by simp[oBx,iBx,d,Ne.symm d,d4,d5]<;>rfl) (by simp[oBx,iBx,d,Ne.symm d,d4,d5,Ne.symm d4,Ne.symm d5]<;>exact⟨rfl,rfl⟩) [] trivial (end_pure (by simp) (by simp) ?_)
 exact DropOk.of fun q hq=>by
  simp at hq
  rcases hq with rfl|rfl|rfl|rfl|hq
  all_goals first|exact j4|exact j5|exact jM|exact hl q hq
end Go.Am
namespace Go.Am
set_option linter.all false
open Go Go.RowKit Go.Proofs
set_option maxRecDepth 100000
set_option linter.all false
def lexV:Except Int (List Tk)→AV
 | .ok l=>.tup [.sl (l.map eTk),.int .i64 0]
 | .error e=>.tup [.nils,.int .i64 e]
theorem toks_at{s:List UInt8}{acc:List Tk}{j:Nat}(h:pToks ((s.drop j).length+1) acc (s.drop j)=fAll s):blk false (s.drop j)=s.drop j→match s.drop j with
  | []=>fAll s = .ok acc
  | c::r=>match pTok c r with
   | .error e=>fAll s = .error e
   | .ok p=>if 300<acc.length+1 then fAll s = .error 2 else pToks ((blk false p.2).length+1) (acc++[p.1]) (blk false p.2)=fAll s:=by
 intro hb
 rw[←h]
 unfold pToks
 rw[hb]
 cases hs:s.drop j with
 | nil=>rfl
 | cons c r =>
  simp only
  cases hp:pTok c r with
  | error e=>rfl
  | ok p =>
   simp only
   split
   ·rfl
   ·obtain⟨t,u⟩:=p
    have h1:=pTok_lt hp
    have h2:=blk_le false u
    have hA:(blk false (blk false u)).length<(blk false u).length+1:=by rw[blk_blk false u]; omega
    have hB:(blk false (blk false u)).length<(c::r).length:=by rw[blk_blk false u]; simp only[List.length_cons]; omega
    exact toks_fuel _ _ _ _ _ (blk_blk false u) hA hB
theorem atU_suf{s u:List UInt8}(h:u <:+ s):s.drop (atU s u)=u∧atU s u≤s.length:=by
 obtain⟨t,rfl⟩:=h
 unfold atU
 rw[List.length_append,Nat.add_sub_cancel]
 exact⟨List.drop_left,by omega⟩
theorem hY37L{x m y c hh sk ex k l m4 sk2 n dd rt:Code}{X Y:Operand}{bi b1:Nat}(h:Tryz.f37.body=some (.seq x (.seq m (.seq y (.seq (.seq c (.block bi (.loop (.seq (.seq hh (.cond X sk ex)) (.seq (.block b1 (.seq k (.seq l (.cond Y m4 sk2)))) n))))) (.seq dd rt)))))):
  compC Tryz.prog Tryz.f37.ntmps c=cc37c∧compC Tryz.prog Tryz.f37.ntmps (.seq (.seq hh (.cond X sk ex)) (.seq (.block b1 (.seq k (.seq l (.cond Y m4 sk2)))) n))=cc37L∧compC Tryz.prog Tryz.f37.ntmps hh=cc37h∧compC Tryz.prog Tryz.f37.ntmps k=cc37k∧compC Tryz.prog Tryz.f37.ntmps l=cc37l∧compC Tryz.prog Tryz.f37.ntmps m4=cc37m∧compC Tryz.prog Tryz.f37.ntmps n=cc37n∧compC Tryz.prog Tryz.f37.ntmps (.seq dd rt) = .seq cc37d CC.ret:=by
 obtain⟨_,_,kr⟩:=hY37 h
 obtain⟨_,_,e1,k1,h1⟩:=comp_seq kr
 injection e1 with e1 e1'
 subst e1 e1'
 obtain⟨_,_,e2,k2,h2⟩:=comp_seq k1
 injection e2 with e2 e2'
 subst e2 e2'
 obtain⟨_,e3,k3⟩:=comp_block h2
 injection e3 with _ e3
 subst e3
 obtain⟨_,e4,k4⟩:=comp_loop k3
 injection e4 with e4
 subst e4
 have k4':=k4
 unfold cc37L at k4
 obtain⟨_,_,e5,k5,h5⟩:=comp_seq k4
 injection e5 with e5 e5'
 subst e5 e5'
 obtain⟨_,_,e6,k6,h6⟩:=comp_seq k5
 injection e6 with e6 e6'
 subst e6 e6'
 obtain⟨_,_,e7,k7,h7⟩:=comp_seq h5
 injection e7 with e7 e7'
 subst e7 e7'
 unfold cc37t at k7
 obtain⟨_,e8,k8⟩:=comp_block k7
 injection e8 with _ e8
 subst e8
 obtain⟨_,_,e9,k9,h9⟩:=comp_seq k8
 injection e9 with e9 e9'
 subst e9 e9'
 obtain⟨_,_,e10,k10,h10⟩:=comp_seq h9
 injection e10 with e10 e10'
 subst e10 e10'
 obtain⟨_,_,_,e11,_,k11,_⟩:=comp_cond h10
 injection e11 with _ e11 _
 subst e11
 exact⟨k2,k4',k6,k9,k10,k11,h7,h1⟩
def crsOf:CC→List CR
 | .reg _ l _=>l
 | _=>[]
def psOf:CC→List (Nat×Nat)
 | .reg _ _ p=>p
 | _=>[]
def crsK:List CR:=crsOf cc37k
def psK:List (Nat×Nat):=psOf cc37k
set_option maxHeartbeats 16000000 in
theorem All_ok(s:List UInt8)(id:Nat)(h8:s.length≤1099511627776):FnOk Tryz.prog 37 [.str s] [] id (lexV (fAll s)) []:=by
 refine⟨⟨_,Tryz.func37,by decide,rfl⟩,fun C G bx w vs nb hs hv hh hnb hid=>calls_of_wp_defers Tryz.func37 rfl ?_⟩
 obtain⟨k1,k2,_⟩:=hY37 rfl
 obtain⟨kc,kL,kh,kk,kl,km,kn,kd⟩:=hY37L rfl
 have own:∀i,max nb (id+1024)≤i→bx i=none:=fun i hi=>by
  cases hbi:bx i with
  | none=>rfl
  | some b=>exact (hnb i (by omega) (hs.boxNames hbi).1).elim
 have old:∀i,G.used i→i<max nb (id+1024):=fun i hi=>by
  rcases Nat.lt_or_ge i nb with h|h
  ·omega
  ·exact (hnb i h hi).elim
 generalize max nb (id+1024)=n0 at own old
 let E:Env:=⟨Tryz.prog,C,bx,Tryz.f37.ntmps,n0,G,w,own,old,hs,[],fun _=>False,fun _ _=>False⟩
 have hD:Desc E ⟨frOf 0 [.str s],[],0⟩ G { tmps:=vs++Array.replicate (Tryz.f37.ntmps - vs.size) undef,defers:=[] } w:=by
  refine⟨Evo.refl G w,hs,fun i hi=>by have:=old i hi; show i<n0+0; omega,fun i _ hi=>hi,fun n c v hl=>?_,?_,rfl⟩
  ·obtain⟨rfl,_,h3⟩:=lk_frOf hl
   simp only[Nat.sub_zero] at h3
   refine⟨fun _=>?_,fun h=>by cases h⟩
   have:=hv.2 n v h3
   rw[Array.getD_eq_getD_getElem?] at this ⊢
   rw[Array.getElem?_append_left (by rw[←hv.1]; exact (List.getElem?_eq_some_iff.1 h3).1)]
   exact this
  ·have:=hv.1
   simp[Tryz.ntmps37] at this ⊢
   show _=Tryz.f37.ntmps
   simp[Tryz.ntmps37]; omega
 have hW:Wk E [.code cc37a,.post (fun σ=>σ=⟨[(3,true,.ptr (n0+1024) 0 0),(2,true,.ptr n0 0 0),(0,true,.str s)],[(n0+1024,some (iBx 0)),(n0,some (oBx .nils))],2048⟩)] ⟨frOf 0 [.str s],[],0⟩:=by
  refine w_go 4000 ?_
  simp[cc37a,E,iBx,oBx]
 refine wp_seq (wkN (E:=E) k1 hW (fun _ h=>h) (fun _ _ h=>h) hD fun τ G1 a w1 hD1 hτ=>?_)
 subst hτ
 clear hW
 obtain⟨at1,ad1⟩:=a
 have hd0:ad1=[]:=hD1.defers
 subst hd0
 have hsz:5<at1.size:=by have:=hD1.size; simp only at this; rw[this]; show 5<Tryz.f37.ntmps; simp[Tryz.ntmps37]
 show (Code.seq _ _).wp _ _ _ _
 refine wp_seq (door37 rfl hsz ?_)
 obtain⟨v4,hv4⟩:∃v4,at1[2]?.getD undef=v4:=⟨_,rfl⟩
 obtain⟨v5,hv5⟩:∃v5,at1[3]?.getD undef=v5:=⟨_,rfl⟩
 have g4:RV G1 w1 (.ptr n0 0 0) v4:=by
  have:=(hD1.fr 2 true _ rfl).1 rfl
  rw[Array.getD_eq_getD_getElem?] at this
  rw[←hv4]; exact this
 have g5:RV G1 w1 (.ptr (n0+1024) 0 0) v5:=by
  have:=(hD1.fr 3 true _ rfl).1 rfl
  rw[Array.getD_eq_getD_getElem?] at this
  rw[←hv5]; exact this
 rw[hv4,hv5]
 have own1:∀i,n0+2048≤i→ov bx [(n0+1024,some (iBx 0)),(n0,some (oBx .nils))] i=none:=fun i hi=>by
  simp only[ov,upd]
  rw[if_neg (by omega),if_neg (by omega)]
  exact own i (by omega)
 have hev:Evo G w G1 w1:=hD1.ev
 have hrs:RS C G1 (ov bx [(n0+1024,some (iBx 0)),(n0,some (oBx .nils))]) w1:=hD1.rs
 have hus:∀i,G1.used i→i<n0+2048:=hD1.used
 have hol:∀i,i<n0→G1.used i→G.used i:=hD1.old
 let D:List Deferred:=[⟨.fn (.func 72) #[v4,v5],#[]⟩]
 let E2:Env:=⟨Tryz.prog,C,ov bx [(n0+1024,some (iBx 0)),(n0,some (oBx .nils))],Tryz.f37.ntmps,n0+2048,G1,w1,own1,hus,hrs,D,fun _=>False,fun _ _=>False⟩
 have hD2:Desc E2 ⟨[(3,true,.ptr (n0+1024) 0 0),(2,true,.ptr n0 0 0),(0,true,.str s)],[(n0+1024,some (iBx 0)),(n0,some (oBx .nils))],0⟩ G1 ⟨at1.setIfInBounds 5 (.func (.func 72) #[] #[v4,v5]),D⟩ w1:=by
  refine⟨Evo.refl G1 w1,?_,fun i hi=>by have:=hus i hi; show i<n0+2048+0; omega,fun i _ hi=>hi,fun n c v hl=>?_,?_,rfl⟩
  ·show RS C G1 (ov (ov bx _) _) w1
   simp only[ov]
   rw[upd_same (f:=upd (upd bx n0 _) (n0+1024) _) (i:=n0) (by simp[upd]),upd_same (i:=n0+1024) (by simp[upd])]
   exact hrs
  ·have:=hD1.fr n c v hl
   have hn:n≠5:=fun h=>by subst h; simp at hl
   simp only[Array.getD_eq_getD_getElem?] at this ⊢
   rw[Array.getElem?_setIfInBounds_ne (Ne.symm hn)]
   exact this
  ·have:=hD1.size
   simp only[Array.size_setIfInBounds]
   exact this
 have hN2:E2.n0=n0+2048:=rfl
 have hPr:E2.P=Tryz.prog:=rfl
 have hinv:∀w3,(invoke (.fn (.func 72) #[v4,v5]) #[]).run Tryz.prog w3 = .ok (.enter 72 #[v4,v5]) w3:=fun w3=>by simp[go_sem]
 have pnk:∀{R:Ending→World→Prop} {e:Int} {k:Nat} {F:Fr} {l:List (Nat×Option Bx)} {G3:Gh} {a3:Act} {w3:World} {u:Value},(∀v G4 w4,RS C G4 bx w4→Evo G w G4 w4→RV G4 w4 (.tup [.nils,.int .i64 e]) v→(∀x,G4.used x→G.used x∨(id≤x∧x<id+1024))→R (.returned v) w4) →
   DescF C Tryz.f37.ntmps D (n0+2048) G1 w1 F (ov E2.β l) (· < n0+2048+k) G3 a3 w3→RV G3 w3 (erV e) u→F 2=some (true,.ptr n0 0 0)→F 3=some (true,.ptr (n0+1024) 0 0) →
   (∃x,(x = .nils∨∃M n,x = .bsl M 0 n)∧ov E2.β l n0=some (oBx x))→ov E2.β l (n0+1024)=some (iBx 0)→(∀x∈l,n0≤x.1)→Leaves Tryz.prog Tryz.f37 a3.tmps R a3.defers (.panicking [{ v:=u,recovered:=false }]) w3:=fun {R e k F l G3 a3 w3 u} hR h1 h2 f4 f5 h4 h5 hl=>by
  obtain⟨x,hx,b4⟩:=h4
  rw[show a3.defers=D from h1.defers]
  have hus3:=h1.used
  have hrs3:=h1.rs
  refine leaves_cons (by simp) (hinv w3) ((allD_pnk C G3 _ w3 e x 0 hx _ n0 (n0+1024) v4 v5 u hrs3 (g4.mono h1.ev) (g5.mono h1.ev) h2 b4 h5 (by omega) hus3 (fun x hx=>?_)).mono ?_)
  ·cases hb:ov E2.β l x with
   | none=>rfl
   | some b=>have:=hus3 x (hrs3.boxNames hb).1; omega
  rintro e' u' w' ⟨rfl,⟨v,rfl⟩,G4,l',k',r1,r2,r3,r4,r5,r6,r7⟩
  have hx:=DescF.step h1 r1 r2 (U':=fun x=>x<n0+(2048+k+k')) (fun x hx=>by have:=r7 x hx; omega) (fun x hx hu=>r6 x (by omega) hu)
  rw[←ov_append] at hx
  have h':=hx.rebase (n0:=n0) (by omega) hev hol
  have e4:=ov_bk (ov E2.β l) r3
  have e5:=ov_bk (ov E2.β l) r4
  have hE:∀m,ov E2.β m=ov bx (m++[(n0+1024,some (iBx 0)),(n0,some (oBx .nils))]):=fun m=>(ov_append bx m _).symm
  rw[hE] at h'
  rw[←ov_append,hE] at e4 e5
  obtain⟨v,s1,G5,s2,s3,s4,s5⟩:=all_endE own old hs hid h' f4 f5 e4 e5 (fun x hx=>by
   rcases List.mem_append.1 hx with hx|hx
   ·rcases List.mem_append.1 hx with hx|hx
    ·rcases r5 x hx with h|h|h
     ·omega
     ·omega
     ·omega
    ·exact hl x hx
   ·simp at hx
    rcases hx with rfl|rfl<;>simp) (by omega) (by omega) (by omega)
  exact⟨v,s1,hR v G5 w' s2 s3 s4 s5⟩
 have hR0:∀{e:Int},fAll s = .error e→∀v G4 w4,RS C G4 bx w4→Evo G w G4 w4→RV G4 w4 (.tup [.nils,.int .i64 e]) v→(∀x,G4.used x→G.used x∨(id≤x∧x<id+1024)) →
   ∃v' G',Ending.returned v = .returned v'∧RS C G' (appl bx []) w4∧Evo G w G' w4∧RV G' w4 (lexV (fAll s)) v'∧∀x,G'.used x→G.used x∨(id≤x∧x<id+1024):=fun {e} hn v G4 w4 r1 r2 r3 r4=>by
  refine⟨v,G4,rfl,r1,r2,?_,r4⟩
  rw[hn]; exact r3
 have hW2:Wk E2 [.code cc37b,.post (fun σ=>σ=⟨[(4,true,.ptr (E2.n0+2048) 0 0),(8,true,.ptr (E2.n0+2048) 0 0),(7,true,.agg [.str s,.int .i64 0]),(6,true,.str s),(3,true,.ptr (n0+1024) 0 0),(2,true,.ptr n0 0 0),(0,true,.str s)],
   [(E2.n0+2048,some (rB s 0)),(n0+1024,some (iBx 0)),(n0,some (oBx .nils))],4096⟩)] ⟨[(3,true,.ptr (n0+1024) 0 0),(2,true,.ptr n0 0 0),(0,true,.str s)],[(n0+1024,some (iBx 0)),(n0,some (oBx .nils))],0⟩:=by
  clear hD hD1 hD2 pnk hR0
  refine w_go 4000 ?_
  simp[cc37b,hN2,rB]
 show (Code.seq _ _).wp _ _ _ _
 refine wp_seq (wkN (E:=E2) k2 hW2 (fun _ h=>h) (fun _ _ h=>h) hD2 fun τ G2 a2 w2 hD3 hτ=>?_)
 subst hτ
 clear hW2
 have w4:n0<E2.n0:=by omega
 have w5:n0+1024<E2.n0:=by omega
 have wd:n0≠n0+1024:=by omega
 have kc':=all_c E2 hPr n0 (n0+1024) w4 w5 wd s h8
 show (Code.seq _ _).wp _ _ _ _
 refine wp_seq ?_
 show (Code.seq _ _).wp _ _ _ _
 refine wp_seq (wkN (E:=E2) kc kc' (fun _ h=>h) (fun _ _ h=>h) hD3 fun τ G3 a3 w3 hD4 hτ=>?_)
 obtain⟨G4,hD5⟩:=hτ G3 a3 w3 hD4
 show (Code.block _ _).wp _ _ _ _
 refine wp_block ?_
 refine loopQ (E:=E2) (aInv E2 n0 (n0+1024) s) (fun q=>q.2≤s.length∧blk false (s.drop q.2)=s.drop q.2∧pToks ((s.drop q.2).length+1) q.1 (s.drop q.2)=fAll s∧q.1.length≤300) (fun q=>s.length - q.2) ([],atB s 0) ?_ hD5 ?_
 ·obtain⟨q1,q2⟩:=atU_suf (s:=s) (u:=blk false (s.drop 0)) (blk_suf false s)
  refine⟨q2,?_,?_,by simp⟩
  ·show blk false (s.drop (atB s 0))=s.drop (atB s 0)
   unfold atB
   rw[q1,blk_blk]
  ·show pToks ((s.drop (atB s 0)).length+1) [] (s.drop (atB s 0))=fAll s
   unfold atB
   rw[q1]
   have h2:=blk_le false s
   exact toks_fuel _ _ _ _ _ (blk_blk false s) (by rw[List.drop_zero,blk_blk]; omega) (by rw[List.drop_zero,blk_blk]; omega)
 rintro⟨acc,j⟩ ⟨hj,hbl,hto,hac⟩ G5 a5 w5' hD6
 simp only at hj hbl hto hac
 have hta:=toks_at hto hbl
 have hinvF:∀(q:List Tk×Nat),lk (aInv E2 n0 (n0+1024) s q).fr 2=some (true,.ptr n0 0 0)∧lk (aInv E2 n0 (n0+1024) s q).fr 3=some (true,.ptr (n0+1024) 0 0):=fun q=>⟨rfl,rfl⟩
 rcases Nat.lt_or_ge j s.length with hlt|hge
 rotate_left
 ·-- the end
  have hjs:j=s.length:=by omega
  subst hjs
  rw[List.drop_length] at hta
  have hta:fAll s = .ok acc:=hta
  have hWa:=all_a E2 hPr n0 (n0+1024) w4 w5 wd s h8 acc
  refine wp_mono (hWa _ kL G5 a5 w5' hD6) fun e a6 w6 hq=>?_
  cases e with
  | normal=>obtain⟨_,_,_,h⟩:=hq; exact h.elim
  | ret=>obtain⟨_,_,_,h⟩:=hq; exact h.elim
  | panic chain=>obtain⟨_,_,_,_,_,_,_,_,_,_,_,h⟩:=hq; exact h.elim
  | exit i =>
   obtain⟨σ,G6,hD7,hx⟩:=hq
   have hx:(if i=0 then Conv E2 σ (aInv E2 n0 (n0+1024) s (acc,s.length)) else False):=hx
   split at hx
   rotate_left
   ·exact hx.elim
   rename_i hi0
   subst hi0
   obtain⟨G7,hD8⟩:=hx G6 a6 w6 hD7
   show (Code.seq _ _).wp _ _ _ _
   let E3:Env:={ E2 with Rt:=fun σ=>bk σ.bx n0=some (oBx (.bsl (n0+2049) 0 acc.length))∧bk σ.bx (n0+1024)=some (iBx 0)∧bk σ.bx (n0+2049)=some ⟨acc.map eTk,.agg [.int .i64 0,.str [],.int .i64 0],false,false⟩∧lk σ.fr 2=some (true,.ptr n0 0 0)∧lk σ.fr 3=some (true,.ptr (n0+1024) 0 0)∧∀x∈σ.bx,n0≤x.1 }
   have hRt:∀σ,E3.Rt σ=(bk σ.bx n0=some (oBx (.bsl (n0+2049) 0 acc.length))∧bk σ.bx (n0+1024)=some (iBx 0)∧bk σ.bx (n0+2049)=some ⟨acc.map eTk,.agg [.int .i64 0,.str [],.int .i64 0],false,false⟩∧lk σ.fr 2=some (true,.ptr n0 0 0)∧lk σ.fr 3=some (true,.ptr (n0+1024) 0 0)∧∀x∈σ.bx,n0≤x.1):=fun _=>rfl
   have hN3:E3.n0=n0+2048:=rfl
   have hW3:Wk E3 [.code (.seq cc37d CC.ret)] (aInv E2 n0 (n0+1024) s (acc,s.length)):=by
    clear hD hD1 hD2 hD3 hD4 hD5 hD6 hD7 hD8 pnk hR0
    unfold aInv oBx iBx rB
    refine w_go 4000 ?_
    simp[cc37d,hN3,hN2,hRt,oBx,iBx]
    omega
   have ends:∀{R:Ending→World→Prop} {σ:St} {G8:Gh} {a7:Act} {w7:World},(∀v G4 w4,RS C G4 bx w4→Evo G w G4 w4→RV G4 w4 (.tup [.sl (acc.map eTk),.int .i64 0]) v→(∀x,G4.used x→G.used x∨(id≤x∧x<id+1024))→R (.returned v) w4)→Desc E3 σ G8 a7 w7→E3.Rt σ→Leaves Tryz.prog Tryz.f37 a7.tmps R a7.defers .returning w7:=fun {R σ G8 a7 w7} hR h1 h2=>by
    obtain⟨b4,b5,bM,f4,f5,hl⟩:=h2
    rw[show a7.defers=D from h1.defers]
    refine leaves_cons (by simp) (hinv w7) ((allD_ret v4 v5 w7).mono ?_)
    rintro e u' w' ⟨rfl,⟨v,rfl⟩,rfl⟩
    have h1':=h1.weak (U':=fun x=>x<n0+(2048+σ.k)) (fun x hx=>by have:x<n0+2048+σ.k:=hx; omega)
    have h':=h1'.rebase (n0:=n0) (by omega) hev hol
    have hE:ov E3.β σ.bx=ov bx (σ.bx++[(n0+1024,some (iBx 0)),(n0,some (oBx .nils))]):=(ov_append bx σ.bx _).symm
    have e4:=ov_bk E3.β b4
    have e5:=ov_bk E3.β b5
    have eM:=ov_bk E3.β bM
    rw[hE] at h' e4 e5 eM
    obtain⟨v,r1,G9,r2,r3,r4,r5⟩:=all_endO own old hs hid h' f4 f5 e4 e5 eM (fun x hx=>by
     rcases List.mem_append.1 hx with hx|hx
     ·exact hl x hx
     ·simp at hx
      rcases hx with rfl|rfl<;>simp) (by omega) (by omega) (by omega) (by omega) (by omega) (by omega)
    exact⟨v,r1,hR v G9 w' r2 r3 r4 r5⟩
   have hR1:∀v G4 w4,RS C G4 bx w4→Evo G w G4 w4→RV G4 w4 (.tup [.sl (acc.map eTk),.int .i64 0]) v→(∀x,G4.used x→G.used x∨(id≤x∧x<id+1024)) →
     ∃v' G',Ending.returned v = .returned v'∧RS C G' (appl bx []) w4∧Evo G w G' w4∧RV G' w4 (lexV (fAll s)) v'∧∀x,G'.used x→G.used x∨(id≤x∧x<id+1024):=fun v G4 w4 r1 r2 r3 r4=>by
    refine⟨v,G4,rfl,r1,r2,?_,r4⟩
    rw[hta]; exact r3
   refine wp_mono (hW3 _ kd G7 _ w6 hD8) fun e a7 w7 hq=>?_
   cases e with
   | ret =>
    obtain⟨σ,G8,h1,h2⟩:=hq
    exact ends hR1 h1 h2
   | normal =>
    obtain⟨σ,G8,h1,h2⟩:=hq
    exact ends hR1 h1 h2
   | exit id=>obtain⟨_,_,_,h2⟩:=hq; exact h2.elim
   | panic chain=>obtain⟨_,_,_,_,_,_,_,_,_,_,_,h⟩:=hq; exact h.elim
   | _=>exact hq.elim
  | _=>exact hq.elim
 obtain⟨c,hcj,hdj⟩:=drop_cons hlt
 rw[hdj] at hta
 have hta:match pTok c (s.drop (j+1)) with
   | .error e=>fAll s = .error e
   | .ok p=>if 300<acc.length+1 then fAll s = .error 2 else pToks ((blk false p.2).length+1) (acc++[p.1]) (blk false p.2)=fAll s:=hta
 have hWh:=all_h E2 hPr n0 (n0+1024) w4 w5 wd s h8 acc j hlt
 show (Code.seq _ _).wp _ _ _ _
 refine wp_seq ?_
 show (Code.seq _ _).wp _ _ _ _
 refine wp_seq (wkN (E:=E2) kh hWh (fun _ h=>h) (fun _ _ h=>h) hD6 fun τ G6 a6 w6 hD7 hτ=>?_)
 obtain⟨h17,hcv⟩:=hτ
 have he:a6.eval (.tmp 17) = .bool true:=by
  have hr:=(hD7.fr 17 true _ h17).1 rfl
  show a6.tmps.getD 17 undef=_
  generalize a6.tmps.getD 17 undef=v at hr
  cases hr; rfl
 obtain⟨G7,hD8⟩:=hcv G6 a6 w6 hD7
 show (Code.cond (.tmp 17) _ _).wp _ _ _ _
 refine wp_cond_split he (fun _=>?_) (fun hb=>by cases hb)
 refine wp_skip ?_
 show (Code.seq _ _).wp _ _ _ _
 refine wp_seq ?_
 show (Code.block _ _).wp _ _ _ _
 refine wp_block ?_
 show (Code.seq _ _).wp _ _ _ _
 cases hpt:pTok c (s.drop (j+1)) with
 | error e =>
  rw[hpt] at hta
  have hta:fAll s = .error e:=hta
  have hT:=fun id=>token_ok s j c _ (n0+2048) id hj hdj h8
  rw[hpt] at hT
  have hT:∀id,FnPn Tryz.prog 74 [.ptr (n0+2048) 0 0] [(n0+2048,rB s j)] id (erV e):=hT
  refine wp_seq ?_
  obtain⟨ri,ro,re,rg⟩:=comp_reg (show compC Tryz.prog Tryz.f37.ntmps _ = .reg true (crsK.take 2++crsK.getD 2 default::([]++crsK.drop 3)) psK from kk)
  rw[re]
  refine region_pnQ (E:=E2) (σ:=aInv E2 n0 (n0+1024) s (acc,j)) (pv:=erV e) (l1:=crsK.take 2) (c:=crsK.getD 2 default) (l2:=[]) (l3:=crsK.drop 3) rg
   (rs1:=[⟨true,.bsl (n0+2049) 0 acc.length,[(n0,oBx (.bsl (n0+2049) 0 acc.length))],[]⟩,⟨true,.ptr (n0+2048) 0 0,[],[]⟩]) (r:=⟨true,.nili,[(n0+2048,rB s j)],goL [(n0+2048,rB s j)]⟩) (rs2:=[]) ?_ ?_ trivial ?_ (fun F B k' G9 u a9 w9 q1 q2 q3 q4=>?_) hD8
  ·simp only[crsK,crsOf,cc37k,CC.d,List.take,ARuns,CR.l,CR.m,St.app,putF,addW,aInv,oBx,iBx,rB]
   refine⟨ar_sem (by simp) (by simp[hN2]),ar_sem (by simp) (by simp[hN2]),trivial⟩
  ·simp[crsK,crsOf,cc37k,St.apps,St.app,aInv,oBx,iBx,rB]
   refine ar_call (by simp) (by simp<;>rfl) (hT _) (by simp[hN2])
  ·simp only[crsK,crsOf,psK,psOf,dynS,cc37k,CC.d,List.map,List.append,getR,List.take,List.length,List.drop,List.cons_append,List.nil_append]
   simp[apartR,hN2]
  ·have hB:=histB_ov q3
   rw[hB] at q1
   have f2:=q2 2 (by decide)
   have f3:=q2 3 (by decide)
   refine pnk (k:=k') (hR0 hta) q1 q4 f2 f3 ?_ ?_ ?_
   ·rw[←hB]
    rcases q3 n0 with h|h
    ·exact⟨.nils,.inl rfl,by rw[h]; simp[E2,ov,upd]⟩
    ·simp[crsK,crsOf,cc37k,St.apps,St.app,aInv,goL,addW,putF,hN2] at h
     rcases h with h|⟨h,_⟩
     ·exact⟨_,.inr ⟨_,_,rfl⟩,h⟩
     ·omega
   ·rw[←hB]
    rcases q3 (n0+1024) with h|h
    ·rw[h]; simp[E2,ov,upd]
    ·simp[crsK,crsOf,cc37k,St.apps,St.app,aInv,goL,addW,putF,hN2] at h
     exact h
   ·intro x hx
    simp[crsK,crsOf,cc37k,St.apps,St.app,aInv,goL,addW,putF,hN2] at hx
    rcases hx with rfl|rfl|rfl|rfl|rfl<;>simp<;>omega
 | ok p =>
  obtain⟨t,u⟩:=p
  rw[hpt] at hta
  simp only at hta
  have hWk:=all_k E2 hPr n0 (n0+1024) w4 w5 wd s h8 acc j hj c _ u t hdj hpt hac
  refine wp_seq (wkN (E:=E2) kk hWk (fun _ h=>h) (fun _ _ h=>h) hD8 fun τ G8 a8 w8 hD9 hτ=>?_)
  obtain⟨G9,hD10⟩:=hτ G8 a8 w8 hD9
  by_cases hmany:300<acc.length+1
  ·rw[if_pos hmany] at hta
   have hWl:=all_l E2 hPr n0 (n0+1024) w4 w5 wd s h8 (acc++[t]) (atU s u) true (by simp; omega)
   show (Code.seq _ _).wp _ _ _ _
   refine wp_seq (wkN (E:=E2) kl hWl (fun _ h=>h) (fun _ _ h=>h) hD10 fun τ G10 a10 w10 hD11 hτ=>?_)
   obtain⟨h27,hcv⟩:=hτ
   have he:a10.eval (.tmp 27) = .bool true:=by
    have hr:=(hD11.fr 27 true _ h27).1 rfl
    show a10.tmps.getD 27 undef=_
    generalize a10.tmps.getD 27 undef=v at hr
    cases hr; rfl
   obtain⟨G11,hD12⟩:=hcv G10 a10 w10 hD11
   show (Code.cond (.tmp 27) _ _).wp _ _ _ _
   refine wp_cond_split he (fun _=>?_) (fun hb=>by cases hb)
   have hf:=fun id=>lfail_ok 2 id
   let E1:Env:={ E2 with Pn:=fun pv σ=>pv=erV 2∧bk σ.bx n0=some (oBx (.bsl (n0+2049) 0 (acc++[t]).length))∧bk σ.bx (n0+1024)=some (iBx 0)∧lk σ.fr 2=some (true,.ptr n0 0 0)∧lk σ.fr 3=some (true,.ptr (n0+1024) 0 0)∧∀x∈σ.bx,n0≤x.1 }
   have hN1:E1.n0=n0+2048:=rfl
   have hP1:E1.P=Tryz.prog:=rfl
   have hW5:Wk E1 [.ops (crsOf cc37m) 0 [] [],.post (fun _=>False)] (aInv E2 n0 (n0+1024) s (acc++[t],atU s u)):=by
    clear hD hD1 hD2 hD3 hD4 hD5 hD6 hD7 hD8 hD9 hD10 hD11 hD12 pnk hR0
    unfold aInv
    refine w_go 4000 ?_
    simp[crsOf,cc37m]
    refine w_callE hP1 rfl (hf _) (by simp) (by simp) (fun pv hpv=>⟨by simp,by injection hpv with hpv; subst hpv; exact⟨rfl,by simp[hN2,oBx],by simp[hN2,iBx],rfl,rfl,by simp[hN2]; omega⟩⟩) (fun v wr h=>by cases h)
   refine reg_pn (E:=E1) (crs:=crsOf cc37m) (km.trans rfl) hW5 hD12 (fun σ G3 a3 w3 h1 h2=>h2.elim) (fun pv u σ G13 a13 w13 h1 h2 h3=>?_)
   obtain⟨rfl,b4,b5,f4,f5,hl⟩:=h3
   exact pnk (k:=2+1024*(crsOf cc37m).length) (hR0 hta) (h1.weak fun x hx=>by simp only[E1,aInv] at hx; omega) h2 f4 f5 ⟨_,.inr ⟨_,_,rfl⟩,ov_bk _ b4⟩ (ov_bk _ b5) hl
  ·rw[if_neg hmany] at hta
   have hWl:=all_l E2 hPr n0 (n0+1024) w4 w5 wd s h8 (acc++[t]) (atU s u) false (by simp; omega)
   show (Code.seq _ _).wp _ _ _ _
   refine wp_seq (wkN (E:=E2) kl hWl (fun _ h=>h) (fun _ _ h=>h) hD10 fun τ G10 a10 w10 hD11 hτ=>?_)
   obtain⟨h27,hcv⟩:=hτ
   have he:a10.eval (.tmp 27) = .bool false:=by
    have hr:=(hD11.fr 27 true _ h27).1 rfl
    show a10.tmps.getD 27 undef=_
    generalize a10.tmps.getD 27 undef=v at hr
    cases hr; rfl
   obtain⟨G11,hD12⟩:=hcv G10 a10 w10 hD11
   show (Code.cond (.tmp 27) _ _).wp _ _ _ _
   refine wp_cond_split he (fun hb=>by cases hb) (fun _=>?_)
   refine wp_skip ?_
   have hus2:u <:+ s:=by
    refine (pTok_lt hpt).2.trans ?_
    exact List.drop_suffix _ _
   obtain⟨q1,q2⟩:=atU_suf hus2
   have hWn:=all_n E2 hPr n0 (n0+1024) w4 w5 wd s h8 (acc++[t]) (atU s u) q2
   refine wkN (E:=E2) kn hWn (fun _ h=>h) (fun _ _ h=>h) hD12 fun τ G12 a12 w12 hD13 hτ=>?_
   obtain⟨G13,hD14⟩:=hτ G12 a12 w12 hD13
   obtain⟨p1,p2⟩:=atU_suf (s:=s) (u:=blk false u) ((blk_suf false u).trans hus2)
   have hu1:=(pTok_lt hpt).1
   have hu2:=blk_le false u
   have hjl:(s.drop (j+1)).length+(j+1)=s.length:=by rw[List.length_drop]; omega
   have hbb:atB s (atU s u)=atU s (blk false u):=by unfold atB; rw[q1]
   show ∃x' G',_∧_∧_
   refine⟨(acc++[t],atB s (atU s u)),G13,⟨?_,?_,?_,by simp; omega⟩,?_,hD14⟩
   ·show atB s (atU s u)≤s.length
    rw[hbb]; exact p2
   ·show blk false (s.drop (atB s (atU s u)))=s.drop (atB s (atU s u))
    rw[hbb,p1,blk_blk]
   ·show pToks ((s.drop (atB s (atU s u))).length+1) (acc++[t]) (s.drop (atB s (atU s u)))=fAll s
    rw[hbb,p1]; exact hta
   ·show s.length - atB s (atU s u)<s.length - j
    rw[hbb]
    unfold atU
    omega
end Go.Am
namespace Go.Am
set_option linter.all false
open Go Go.RowKit Go.Proofs Go.Shelf
set_option maxRecDepth 100000
set_option linter.all false
def layContains_ren:Go.Shelf.Ren:=⟨fun|144=>80|143=>117|219=>137|217=>131|225=>151|224=>152|267=>153|266=>144|314=>170|n=>n,fun|9=>9|4=>4|3=>3|5=>5|46=>169|146=>198|51=>141|n=>n,fun|1=>0|n=>n⟩
theorem layContains:Go.Proofs.Lays.n144 Tryz.prog layContains_ren:={ mixed:=by kernel_rfl,f143:=Tryz.func117.trans (congrArg some (by kernel_rfl)),f144:=Tryz.func80.trans (congrArg some (by kernel_rfl)),f217:=Tryz.func131.trans (congrArg some (by kernel_rfl)),f219:=Tryz.func137.trans (congrArg some (by kernel_rfl)),f224:=Tryz.func152.trans (congrArg some (by kernel_rfl)),f225:=Tryz.func151.trans (congrArg some (by kernel_rfl)),f266:=Tryz.func144.trans (congrArg some (by kernel_rfl)),f267:=Tryz.func153.trans (congrArg some (by kernel_rfl)),f314:=Tryz.func170.trans (congrArg some (by kernel_rfl)),t3:=Tryz.underlying3,a3:=Tryz.isAgg3,z3:=Tryz.sizeOf3,v3:=Tryz.zeroValue3,t4:=Tryz.underlying4,a4:=Tryz.isAgg4,z4:=Tryz.sizeOf4,v4:=Tryz.zeroValue4,t5:=Tryz.underlying5,a5:=Tryz.isAgg5,z5:=Tryz.sizeOf5,v5:=Tryz.zeroValue5,t9:=Tryz.underlying9,a9:=Tryz.isAgg9,z9:=Tryz.sizeOf9,v9:=Tryz.zeroValue9,t46:=Tryz.underlying169,a46:=Tryz.isAgg169,z46:=Tryz.sizeOf169,v46:=Tryz.zeroValue169,t51:=Tryz.underlying141,a51:=Tryz.isAgg141,z51:=Tryz.sizeOf141,v51:=Tryz.zeroValue141,t146:=Tryz.underlying198,a146:=Tryz.isAgg198,z146:=Tryz.sizeOf198,v146:=Tryz.zeroValue198,g1:=by kernel_rfl }
theorem con_pl1 : (Tryz.f80.name == "runtime.NumGoroutine") = false := by decide
theorem con_pl2:Tryz.f80.body.isNone=false:=rfl
theorem con_plain:PlainF Tryz.prog 80:=⟨_,Tryz.func80,con_pl1,con_pl2⟩
theorem Contains_ok(s:List UInt8)(c:UInt8)(id:Nat):FnOk Tryz.prog 80 [.str s,.str [c]] [] id (.bool (decide (0≤Lib.indexByte s c))) []:=by
 refine fn_old con_plain fun C G bx w vs hs hv=>?_
 obtain⟨u,v,rfl,hv1,hv2⟩:=rvs_two_inv hv
 cases hv1
 cases hv2
 refine (Any.strings_Contains_one layContains ⟨⟨s⟩⟩ c w).mono ?_
 rintro e w' ⟨h1,rfl⟩
 exact⟨_,h1,fun _ _=>.bool _,Below.refl _ _⟩
end Go.Am
namespace Go.Am
set_option linter.all false
open Go Go.RowKit Go.Proofs
set_option maxRecDepth 100000
set_option linter.all false
theorem Read_ok(s:List UInt8)(id:Nat):FnOk Tryz.prog 13 [.str s] [] id (lexV (fLex s)) []:=by
 by_cases h:2000<s.length
 ·have e:lexV (fLex s) = .tup [.nils,.int .i64 2]:=by unfold fLex; rw[if_pos h]; rfl
  rw[e]
  refine fn_okc Tryz.func13 hcc13 (by decide) hcr13 (by simp[Tryz.ntmps13]) fun E hP hR hl hid=>?_
  simp only[cr13] at hR
  refine w_go 4000 ?_
  simp[cc13]
  refine goc_true (by simp; omega) ?_
  simp
  rw[hR]; exact rt_end (by simp<;>rfl) [] trivial (end_pure (by simp) (by simp) (by simp))
 ·have e:fLex s=fAll s:=by unfold fLex; rw[if_neg h]
  have hA:=fun id=>All_ok s id (by omega)
  rw[e]
  cases hf:fAll s with
  | ok l =>
   rw[hf] at hA
   have hA:∀id,FnOk Tryz.prog 37 [.str s] [] id (.tup [.sl (l.map eTk),.int .i64 0]) []:=hA
   show FnOk _ _ _ _ _ (.tup [.sl (l.map eTk),.int .i64 0]) _
   refine fn_okc Tryz.func13 hcc13 (by decide) hcr13 (by simp[Tryz.ntmps13]) fun E hP hR hl hid=>?_
   simp only[cr13] at hR
   refine w_go 4000 ?_
   simp[cc13]
   refine goc_false (by simp; omega) ?_
   simp
   (refine w_call hP rfl (hA _) (by simp) (by simp<;>rfl) ?_; refine w_go 4000 ?_; simp)
   rw[hR]; exact rt_end (by simp<;>rfl) [] trivial (end_pure (by simp) (by simp) (by simp))
  | error e =>
   rw[hf] at hA
   have hA:∀id,FnOk Tryz.prog 37 [.str s] [] id (.tup [.nils,.int .i64 e]) []:=hA
   show FnOk _ _ _ _ _ (.tup [.nils,.int .i64 e]) _
   refine fn_okc Tryz.func13 hcc13 (by decide) hcr13 (by simp[Tryz.ntmps13]) fun E hP hR hl hid=>?_
   simp only[cr13] at hR
   refine w_go 4000 ?_
   simp[cc13]
   refine goc_false (by simp; omega) ?_
   simp
   (refine w_call hP rfl (hA _) (by simp) (by simp<;>rfl) ?_; refine w_go 4000 ?_; simp)
   rw[hR]; exact rt_end (by simp<;>rfl) [] trivial (end_pure (by simp) (by simp) (by simp))
set_option maxHeartbeats 8000000 in
theorem one_ok(t:Tk)(id:Nat):FnOk Tryz.prog 49 [eTk t] [] id (.int .i64 (fTk t)) []:=by
 obtain⟨k,tx,n⟩:=t
 unfold eTk
 have hN:=fun id=>Name_ok tx id
 have hI:=fun id=>lexInt_ok n id
 by_cases c0:k<1∨4<k
 ·have e:fTk ⟨k,tx,n⟩=7:=by unfold fTk; rw[if_pos c0]
  rw[e]
  refine fn_okc Tryz.func49 hcc49 (by decide) hcr49 (by simp[Tryz.ntmps49]) fun E hP hR hl hid=>?_
  simp only[cr49] at hR
  refine w_go 4000 ?_
  simp[cc49]
  refine goc_true (by simp; omega) ?_
  simp
  rw[hR]; exact rt_end (by simp<;>rfl) [] trivial (end_pure (by simp) (by simp) (by simp))
 by_cases c1:(k=2∧tx≠[])∨(k≠2∧n≠0)
 ·have e:fTk ⟨k,tx,n⟩=1:=by unfold fTk; rw[if_neg c0,if_pos c1]
  rw[e]
  refine fn_okc Tryz.func49 hcc49 (by decide) hcr49 (by simp[Tryz.ntmps49]) fun E hP hR hl hid=>?_
  simp only[cr49] at hR
  refine w_go 4000 ?_
  simp[cc49]
  refine goc_false (by simp; omega) ?_
  simp
  refine⟨by grind,by grind,?_⟩
  refine goc_true (by rcases c1 with⟨h1,h2⟩|⟨h1,h2⟩<;>simp[h1,h2]) ?_
  simp
  rw[hR]; exact rt_end (by simp<;>rfl) [] trivial (end_pure (by simp) (by simp) (by simp))
 rcases (show k=1∨k=2∨k=3∨k=4 by omega) with rfl|rfl|rfl|rfl
 ·have hn:n=0:=Classical.byContradiction fun q=>c1 (.inr ⟨by decide,q⟩)
  subst hn
  have e:fTk ⟨1,tx,0⟩=fName tx:=by simp[fTk]
  rw[e]
  refine fn_okc Tryz.func49 hcc49 (by decide) hcr49 (by simp[Tryz.ntmps49]) fun E hP hR hl hid=>?_
  simp only[cr49] at hR
  refine w_go 4000 ?_
  simp[cc49]
  (refine w_call hP rfl (hN _) (by simp) (by simp<;>rfl) ?_; refine w_go 4000 ?_; simp)
  rw[hR]; exact rt_end (by simp<;>rfl) [] trivial (end_pure (by simp) (by simp) (by simp))
 ·have ht:tx=[]:=Classical.byContradiction fun q=>c1 (.inl ⟨rfl,q⟩)
  subst ht
  by_cases hb : -999999999≤n∧n≤999999999
  ·have e:fTk ⟨2,[],n⟩=0:=by simp[fTk,hb]
   rw[e]
   rw[show (decide (-999999999≤n)&&decide (n≤999999999))=true by simp[hb]] at hI
   refine fn_okc Tryz.func49 hcc49 (by decide) hcr49 (by simp[Tryz.ntmps49]) fun E hP hR hl hid=>?_
   simp only[cr49] at hR
   refine w_go 4000 ?_
   simp[cc49]
   (refine w_call hP rfl (hI _) (by simp) (by simp<;>rfl) ?_; refine w_go 4000 ?_; simp)
   rw[hR]; exact rt_end (by simp<;>rfl) [] trivial (end_pure (by simp) (by simp) (by simp))
  ·have e:fTk ⟨2,[],n⟩=3:=by simp[fTk,hb]
   rw[e]
   rw[show (decide (-999999999≤n)&&decide (n≤999999999))=false by simp; omega] at hI
   refine fn_okc Tryz.func49 hcc49 (by decide) hcr49 (by simp[Tryz.ntmps49]) fun E hP hR hl hid=>?_
   simp only[cr49] at hR
   refine w_go 4000 ?_
   simp[cc49]
   (refine w_call hP rfl (hI _) (by simp) (by simp<;>rfl) ?_; refine w_go 4000 ?_; simp)
   rw[hR]; exact rt_end (by simp<;>rfl) [] trivial (end_pure (by simp) (by simp) (by simp))
 ·have hn:n=0:=Classical.byContradiction fun q=>c1 (.inr ⟨by decide,q⟩)
  subst hn
  by_cases hb:40<tx.length
  ·have e:fTk ⟨3,tx,0⟩=2:=by simp[fTk,hb]
   rw[e]
   refine fn_okc Tryz.func49 hcc49 (by decide) hcr49 (by simp[Tryz.ntmps49]) fun E hP hR hl hid=>?_
   simp only[cr49] at hR
   refine w_go 4000 ?_
   simp[cc49]
   refine goc_true (by simp; omega) ?_
   simp
   rw[hR]; exact rt_end (by simp<;>rfl) [] trivial (end_pure (by simp) (by simp) (by simp))
  ·have e:fTk ⟨3,tx,0⟩=0:=by simp[fTk,hb]
   rw[e]
   refine fn_okc Tryz.func49 hcc49 (by decide) hcr49 (by simp[Tryz.ntmps49]) fun E hP hR hl hid=>?_
   simp only[cr49] at hR
   refine w_go 4000 ?_
   simp[cc49]
   refine goc_false (by simp; omega) ?_
   simp
   rw[hR]; exact rt_end (by simp<;>rfl) [] trivial (end_pure (by simp) (by simp) (by simp))
 ·have hn:n=0:=Classical.byContradiction fun q=>c1 (.inr ⟨by decide,q⟩)
  subst hn
  by_cases hl:tx.length=1
  ·obtain⟨c,rfl⟩:=List.length_eq_one_iff.1 hl
   have hC:=fun id=>Contains_ok [123,125,40,41,58,91,93] c id
   rw[sgX] at hC
   by_cases hs:sgC c=true
   ·have e:fTk ⟨4,[c],0⟩=0:=by simp[fTk,hs]
    rw[e]
    rw[hs] at hC
    refine fn_okc Tryz.func49 hcc49 (by decide) hcr49 (by simp[Tryz.ntmps49]) fun E hP hR hl hid=>?_
    simp only[cr49] at hR
    refine w_go 4000 ?_
    simp[cc49]
    (refine w_callg hP (by simp) rfl (fun hc=>⟨hC _,by revert hc; simp; try grind,by simp⟩) ?_; refine w_go 4000 ?_; simp)
    rw[hR]; exact rt_end (by simp<;>rfl) [] trivial (end_pure (by simp) (by simp) (by simp))
   ·have hs:sgC c=false:=by simpa using hs
    have e:fTk ⟨4,[c],0⟩=1:=by simp[fTk,hs]
    rw[e]
    rw[hs] at hC
    refine fn_okc Tryz.func49 hcc49 (by decide) hcr49 (by simp[Tryz.ntmps49]) fun E hP hR hl hid=>?_
    simp only[cr49] at hR
    refine w_go 4000 ?_
    simp[cc49]
    (refine w_callg hP (by simp) rfl (fun hc=>⟨hC _,by revert hc; simp; try grind,by simp⟩) ?_; refine w_go 4000 ?_; simp)
    rw[hR]; exact rt_end (by simp<;>rfl) [] trivial (end_pure (by simp) (by simp) (by simp))
  ·have e:fTk ⟨4,tx,0⟩=1:=by simp[fTk,hl]
   rw[e]
   have hne:((tx.length:Int)==1)=false:=by rw[beq_eq_false_iff_ne]; omega
   refine fn_okc Tryz.func49 hcc49 (by decide) hcr49 (by simp[Tryz.ntmps49]) fun E hP hR hl hid=>?_
   simp only[cr49] at hR
   refine w_go 4000 ?_
   simp[cc49]
   simp[bne,hne]
   refine w_callg hP (by simp) rfl (v:=.bool false) (rd:=[]) (fun hh=>by simp at hh) ?_
   refine w_go 4000 ?_
   simp
   rw[hR]; exact rt_end (by simp<;>rfl) [] trivial (end_pure (by simp) (by simp) (by simp))
end Go.Am
namespace Go.Am
set_option linter.all false
set_option linter.all false
open Go Go.RowKit Go.Proofs
set_option maxRecDepth 100000
def cc85:CC:=.seq (.r [.v 2 (.str [])]) (.seq (.r [.m 3 0,⟨some 4,none,[],.bslice (.int .i64 0) 1 [(0,.c (.int .i64 1))]⟩,.c 5 121 [3,4],⟨some 6,none,[5],.conv (.fld 1) (.t 5)⟩,.m 2 6]) CC.ret)
def cr85:List CRes:=[.tmp 2]
theorem hcr85:compRes Tryz.prog Tryz.f85.results.toList=some cr85:=by kernel_rfl
theorem hcc85:Tryz.f85.body.map (compC Tryz.prog Tryz.f85.ntmps)=some cc85:=by kernel_rfl
end Go.Am
