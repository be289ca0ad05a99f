/- Parts of the proof: an abstract machine for Go functions, and what functions of the program give back (Lx7, Lx8). No condition. -/
import Derived.Test.YtgfmjhmjnnpcgaaGreatDoorYD
namespace Go.Am
set_option linter.all false
open Go Go.RowKit Go.Proofs
set_option maxRecDepth 100000
set_option linter.all false
theorem ren_app{R:Rn}{S:Nat→Prop}{l:List UInt8}{r:List AV}(h:pureL r=true):RenL R S (eB l++r) (eB l++r):=renL_pure rfl (pureL_append (pure_eB l) h)
theorem esc_ok{d:UInt8}(h:d=34∨d=92∨d=110):∃(n:Nat) (e:UInt8),Lib.indexByte [34,92,110] d=(n:Int)∧n<3∧([34,92,10]:List UInt8)[n]?=some e∧∀acc r2,pTq true acc (d::r2)=pTq false (acc++[e]) r2:=by
 rcases h with rfl|rfl|rfl
 ·exact⟨0,34,by decide,by decide,rfl,fun acc r2=>by simp[pTq]⟩
 ·exact⟨1,92,by decide,by decide,rfl,fun acc r2=>by simp[pTq]⟩
 ·exact⟨2,10,by decide,by decide,rfl,fun acc r2=>by simp[pTq]⟩
theorem esc_no{d:UInt8}(h:¬(d=34∨d=92∨d=110)):Lib.indexByte [34,92,110] d = -1∧∀acc r2,pTq true acc (d::r2)=none:=by
 have h1:d≠34:=fun q=>h (.inl q)
 have h2:d≠92:=fun q=>h (.inr (.inl q))
 have h3:d≠110:=fun q=>h (.inr (.inr q))
 refine⟨?_,fun acc r2=>by simp[pTq,h1,h2,h3]⟩
 simp[Lib.indexByte,Ne.symm h1,Ne.symm h2,Ne.symm h3]
theorem tokR_at{J:Nat}{z:List UInt8}{o:Except Int (Tk×List UInt8)}{t:Tk}{u:List UInt8}{i:Nat}(h:o = .ok (t,u))(hi:atU z u=i):tokR J z o = .ok (eTk t,[(J,some (rB z i))]):=by rw[tokR_ok h,hi]
def textT(r:List UInt8):Except Int (Tk×List UInt8):=match pTq false [] r with
 | none=>.error 1
 | some p=>if 40<p.1.length then .error 2 else .ok (⟨3,p.1,0⟩,p.2)
set_option maxHeartbeats 16000000 in
theorem textL_ok(z:List UInt8)(i:Nat)(r:List UInt8)(J id:Nat)(hi:i<z.length)(hd0:z.drop (i+1)=r)(h8:z.length≤1099511627776):
  FnE Tryz.prog 109 [.ptr J 0 0] [(J,rB z i)] id (tokR J z (textT r)):=by
 have hf:=fun id=>lfail_ok 1 id
 have hf2:=fun id=>lfail_ok 2 id
 have hi1:IntKind.i64.wrap ((i:Int)+1)=((i+1:Nat):Int):=wrap64 (by omega)
 rw[rB_eq]
 refine fn_okE Tryz.func109 hcc109 (by decide) hcr109 (by simp[Tryz.ntmps109]) fun E hP hR hPn hl hid hB hu=>?_
 simp only[cr109] at hR
 refine w_go 4000 ?_
 simp[cc109]
 have hJ:=hl (J,_) (List.mem_cons_self ..)
 simp only at hJ
 have J1:=lf hJ
 simp[J1]
 refine w_loop (X:=List UInt8×Nat) (fun q=>⟨[(0,true,.ptr J 0 0),(2,true,.ptr E.n0 0 0),(3,true,.bsl (E.n0+1) 0 q.1.length)],[(J,some (rB z q.2)),(E.n0,some ⟨[.agg [.int .i64 0,.str [],.int .i64 0]],.agg [.int .i64 0,.str [],.int .i64 0],false,false⟩),(E.n0+1,some ⟨eB q.1,.int .u8 0,false,false⟩)],2⟩)
  (fun q=>pTq false q.1 (z.drop q.2)=pTq false [] r∧q.1.length≤q.2∧q.2≤z.length) (fun q=>z.length - q.2) ([],i+1) ?_ ⟨by rw[hd0],by simp,by omega⟩ ?_
 ·refine Conv.trans (Conv.voidSlot 3 (x:=.nils) (y:=.bsl (E.n0+10240) 0 0) (by simp) .nils (.int .u8 0)) ?_
  have hi0:eB []=[]:=rfl
  have hrn:rnOk [(E.n0,E.n0),(E.n0+1,E.n0+10240)]:=by simp[hi0,hi1,rB,zTk,J1]
  refine Conv.sub [(E.n0,E.n0),(E.n0+1,E.n0+10240)] hrn ?_ ?_ ?_ ?_ ?_<;>(try simp[hi0,hi1,rB,zTk,J1])
 rintro⟨acc,j⟩ ⟨hx,hlen,hj⟩ p hp
 simp only at hx hlen hj
 rw[rB_eq]
 rcases Nat.lt_or_ge j z.length with h|h
 rotate_left
 ·have e:textT r = .error 1:=by
   unfold textT
   rw[←hx,List.drop_of_length_le h]
   rfl
  have hjz:j=z.length:=by omega
  subst hjz
  refine w_go 4000 ?_
  simp[J1]
  refine w_callE hP rfl (hf _) (by simp[J1]) (by simp[J1]<;>rfl) (fun pv hpv=>⟨by simp[J1],by injection hpv with hpv; subst hpv; exact hPn _ _ (tokR_no e) rfl (by simp[J1])⟩) (fun v wr h=>by cases h)
 obtain⟨c,hc,hd⟩:=drop_cons h
 have hcj:z[j]=c:=by
  rw[List.getElem?_eq_getElem h] at hc
  injection hc
 have h10:((c.toNat:Int)==10)=(c==10):=u8i c 10 (by decide)
 have h34:((c.toNat:Int)==34)=(c==34):=u8i c 34 (by decide)
 have h92:((c.toNat:Int)==92)=(c==92):=u8i c 92 (by decide)
 have hne:((j:Int)==(z.length:Int))=false:=by rw[beq_eq_false_iff_ne]; omega
 have hj1:IntKind.i64.wrap ((j:Int)+1)=((j+1:Nat):Int):=wrap64 (by omega)
 have hc8:=c.toNat_lt
 rw[hd] at hx
 by_cases g10:c=10
 ·have e:textT r = .error 1:=by
   unfold textT
   rw[←hx,g10]
   rfl
  refine w_go 4000 ?_
  simp[hcj,hne,h,J1]
  refine goc_true (by rw[h10,g10]; rfl) ?_
  simp[J1]
  refine w_callE hP rfl (hf _) (by simp[J1]) (by simp[J1]<;>rfl) (fun pv hpv=>⟨by simp[J1],by injection hpv with hpv; subst hpv; exact hPn _ _ (tokR_no e) rfl (by simp[J1])⟩) (fun v wr h=>by cases h)
 by_cases g34:c=34
 ·have hp2:pTq false [] r=some (acc,z.drop (j+1)):=by
   rw[←hx,g34]
   rfl
  have hju:j+1=atU z (z.drop (j+1)):=(atU_drop (by omega)).symm
  refine w_go 4000 ?_
  simp[hcj,hne,h,J1]
  refine goc_false (by rw[h10]; simpa using g10) ?_
  simp[hcj,h,J1]
  refine goc_true (by rw[h34,g34]; rfl) ?_
  simp[J1]
  rw[hj1]
  by_cases g40:40<acc.length
  ·have e:textT r = .error 2:=by
    unfold textT
    rw[hp2]
    simp only
    rw[if_pos g40]
   refine goc_true (by simp; omega) ?_
   simp[J1]
   refine w_callE hP rfl (hf2 _) (by simp[J1]) (by simp[J1]<;>rfl) (fun pv hpv=>⟨by simp[J1],by injection hpv with hpv; subst hpv; exact hPn _ _ (tokR_no e) rfl (by simp[J1])⟩) (fun v wr h=>by cases h)
  ·have e:textT r = .ok (⟨3,acc,0⟩,z.drop (j+1)):=by
    unfold textT
    rw[hp2]
    simp only
    rw[if_neg g40]
   refine goc_false (by simp; omega) ?_
   simp[J1]
   refine⟨fun x hx=>by obtain⟨b,rfl⟩:=mem_eB hx; have:=b.toNat_lt; simp[isU8]; try omega,?_⟩
   rw[eB_toU8]
   have hrn:rnOk []:=by simp[rB,eTk,J1,idO hid]
   refine hR _ _ _ (tokR_at e hju.symm) ?_
   refine rt_end (by simp[rB,eTk,J1,idO hid]<;>rfl) [] hrn ⟨?_,?_,?_,?_,?_,?_⟩<;>(try simp[rB,eTk,J1,idO hid])
 by_cases g92:c=92
 ·have hx2:pTq true acc (z.drop (j+1))=pTq false [] r:=by
   rw[←hx,g92]
   rfl
  rcases Nat.lt_or_ge (j+1) z.length with h2|h2
  rotate_left
  ·have e:textT r = .error 1:=by
    unfold textT
    rw[←hx2,List.drop_of_length_le h2]
    rfl
   have hlt2:(decide (((j+1:Nat):Int)<(z.length:Int)))=false:=by simp; omega
   refine w_go 4000 ?_
   simp[hcj,hne,h,J1]
   refine goc_false (by rw[h10]; simpa using g10) ?_
   simp[hcj,h,J1]
   refine goc_false (by rw[h34]; simpa using g34) ?_
   simp[J1]
   refine goc_true (by rw[h92,g92]; rfl) ?_
   simp[J1]
   rw[hj1]
   refine goc_false hlt2 ?_
   simp[J1]
   refine w_callE hP rfl (hf _) (by simp[J1]) (by simp[J1]<;>rfl) (fun pv hpv=>⟨by simp[J1],by injection hpv with hpv; subst hpv; exact hPn _ _ (tokR_no e) rfl (by simp[J1])⟩) (fun v wr h=>by cases h)
  obtain⟨d,hdc,hdd⟩:=drop_cons h2
  have hdj:z[j+1]=d:=by
   rw[List.getElem?_eq_getElem h2] at hdc
   injection hdc
  have hlt2:(decide (((j+1:Nat):Int)<(z.length:Int)))=true:=by simp; omega
  have hX:=fun id=>IndexByte_ok [34,92,110] d id
  rw[hdd] at hx2
  by_cases gd:d=34∨d=92∨d=110
  ·obtain⟨n,e,q1,q2,q3,q4⟩:=esc_ok gd
   rw[q1] at hX
   rw[q4] at hx2
   refine w_go 4000 ?_
   simp[hcj,hne,h,J1]
   refine goc_false (by rw[h10]; simpa using g10) ?_
   simp[hcj,h,J1]
   refine goc_false (by rw[h34]; simpa using g34) ?_
   simp[J1]
   refine goc_true (by rw[h92,g92]; rfl) ?_
   simp[J1]
   rw[hj1]
   refine goc_true hlt2 ?_
   simp[hdj,h2,J1]
   refine⟨by omega,?_⟩
   (refine w_call hP rfl (hX _) (by simp[J1]) (by simp[J1]<;>rfl) ?_; refine w_go 4000 ?_; simp[J1])
   refine goc_false (by simp) ?_
   simp[q3,J1]
   refine⟨q2,⟨by omega,by omega⟩,?_⟩
   have hj2:IntKind.i64.wrap ((j:Int)+1+1)=((j+2:Nat):Int):=by rw[show (j:Int)+1+1=((j+2:Nat):Int) by omega]; exact wrap64 (by omega)
   rw[hj2]
   refine hp _ (acc++[e],j+2) ⟨hx2,by simp; omega,by omega⟩ (by simp; omega) ?_
   have hex:eB (acc++[e])=eB acc++[.int .u8 e.toNat]:=by rw[eB_append]; rfl
   have hrn:rnOk [(E.n0,E.n0),(E.n0+1,E.n0+75778)]:=by simp[hex,rB,J1]
   refine Conv.sub [(E.n0,E.n0),(E.n0+1,E.n0+75778)] hrn ?_ ?_ ?_ ?_ ?_<;>(try simp[hex,rB,J1])
   exact ren_app (by rfl)
  ·obtain⟨q1,q2⟩:=esc_no gd
   rw[q1] at hX
   rw[q2] at hx2
   have e:textT r = .error 1:=by
    unfold textT
    rw[←hx2]
   refine w_go 4000 ?_
   simp[hcj,hne,h,J1]
   refine goc_false (by rw[h10]; simpa using g10) ?_
   simp[hcj,h,J1]
   refine goc_false (by rw[h34]; simpa using g34) ?_
   simp[J1]
   refine goc_true (by rw[h92,g92]; rfl) ?_
   simp[J1]
   rw[hj1]
   refine goc_true hlt2 ?_
   simp[hdj,h2,J1]
   refine⟨by omega,?_⟩
   (refine w_call hP rfl (hX _) (by simp[J1]) (by simp[J1]<;>rfl) ?_; refine w_go 4000 ?_; simp[J1])
   refine w_callE hP rfl (hf _) (by simp[J1]) (by simp[J1]<;>rfl) (fun pv hpv=>⟨by simp[J1],by injection hpv with hpv; subst hpv; exact hPn _ _ (tokR_no e) rfl (by simp[J1])⟩) (fun v wr h=>by cases h)
 ·have hx1:pTq false (acc++[c]) (z.drop (j+1))=pTq false [] r:=by
   rw[←hx]
   simp only[pTq]
   rw[if_neg g10,if_neg g34,if_neg g92]
  refine w_go 4000 ?_
  simp[hcj,hne,h,J1]
  refine goc_false (by rw[h10]; simpa using g10) ?_
  simp[hcj,h,J1]
  refine goc_false (by rw[h34]; simpa using g34) ?_
  simp[J1]
  refine goc_false (by rw[h92]; simpa using g92) ?_
  simp[J1]
  refine⟨⟨by omega,by omega⟩,?_⟩
  rw[hj1]
  refine hp _ (acc++[c],j+1) ⟨hx1,by simp; omega,h⟩ (by simp; omega) ?_
  have hex:eB (acc++[c])=eB acc++[.int .u8 c.toNat]:=by rw[eB_append]; rfl
  have hrn:rnOk [(E.n0,E.n0),(E.n0+1,E.n0+39938)]:=by simp[hex,rB,J1]
  refine Conv.sub [(E.n0,E.n0),(E.n0+1,E.n0+39938)] hrn ?_ ?_ ?_ ?_ ?_<;>(try simp[hex,rB,J1])
  exact ren_app (by rfl)
end Go.Am
namespace Go.Am
set_option linter.all false
open Go Go.RowKit Go.Proofs
set_option maxRecDepth 100000
set_option linter.all false
theorem letOrDig_ok(c:UInt8)(id:Nat):FnOk Tryz.prog 106 [.int .u8 c.toNat] [] id (.bool (anC c)) []:=by
 have h1:=fun id=>letter_ok c id
 have h2:=fun id=>digit_ok c id
 refine fn_okc Tryz.func106 hcc106 (by decide) hcr106 (by simp[Tryz.ntmps106]) fun E hP hR hl hid=>?_
 simp only[cr106] at hR
 refine w_go 4000 ?_
 simp[cc106]
 (refine w_call hP rfl (h1 _) (by simp) (by simp<;>rfl) ?_; refine w_go 4000 ?_; simp)
 (refine w_callg hP (by simp) rfl (fun hc=>⟨h2 _,by revert hc; simp; try grind,by simp⟩) ?_; refine w_go 4000 ?_; simp)
 rw[hR]; exact rt_end (by simp<;>rfl) [] trivial (end_pure (by simp; unfold anC; rfl) (by simp) (by simp))
theorem pTok_num{c:UInt8}{r:List UInt8}(h1:isLt c=false)(h2:isDg c=true∨c=45):pTok c r=numT c r:=by
 unfold pTok numT
 rw[if_neg (by simp[h1]),if_pos h2]
 all_goals rfl
theorem pTok_text{c:UInt8}{r:List UInt8}(h:c=34):pTok c r=textT r:=by
 subst h
 unfold pTok textT
 rw[if_neg (by decide),if_neg (by decide),if_pos rfl]
 all_goals rfl
theorem sgX(c:UInt8):decide (0≤Lib.indexByte [123,125,40,41,58,91,93] c)=sgC c:=by
 by_cases h:sgC c=true
 ·rw[h]
  have h:c=123∨c=125∨c=40∨c=41∨c=58∨c=91∨c=93:=by simpa [sgC] using h
  rcases h with rfl|rfl|rfl|rfl|rfl|rfl|rfl<;>decide
 ·have h2:¬(c=123∨c=125∨c=40∨c=41∨c=58∨c=91∨c=93):=by simpa [sgC] using h
  have h:sgC c=false:=by simpa using h
  simp only[not_or] at h2
  obtain⟨a,b,d,e,f,g,i⟩:=h2
  rw[h]
  simp[Lib.indexByte,Ne.symm a,Ne.symm b,Ne.symm d,Ne.symm e,Ne.symm f,Ne.symm g,Ne.symm i]
set_option maxHeartbeats 16000000 in
theorem token_ok(z:List UInt8)(i:Nat)(c:UInt8)(r:List UInt8)(J id:Nat)(hi:i≤z.length)(hd:z.drop i=c::r)(h8:z.length≤1099511627776):
  FnE Tryz.prog 74 [.ptr J 0 0] [(J,rB z i)] id (tokR J z (pTok c r)):=by
 have hf:=fun id=>lfail_ok 1 id
 have hlt:i<z.length:=by
  have:=congrArg List.length hd
  rw[List.length_drop,List.length_cons] at this; omega
 have hcz:z[i]?=some c:=by
  have:=congrArg (fun l=>l[0]?) hd
  simpa using this
 have hci:z[i]=c:=by
  rw[List.getElem?_eq_getElem hlt] at hcz
  injection hcz
 have hd1:z.drop (i+1)=r:=by
  rw[←List.drop_drop,hd]; rfl
 have hi1:IntKind.i64.wrap ((i:Int)+1)=((i+1:Nat):Int):=wrap64 (by omega)
 have hc8:=c.toNat_lt
 have h45:((c.toNat:Int)==45)=(c==45):=u8i c 45 (by decide)
 have h34:((c.toNat:Int)==34)=(c==34):=u8i c 34 (by decide)
 have hLt:=fun id=>letter_ok c id
 have hDg:=fun id=>digit_ok c id
 by_cases g1:isLt c=true
 ·have hp:=fun id=>pass_ok z i anC 106 J id hi h8 letOrDig_ok
  have e2:at2 anC z i=atU z ((c::r).dropWhile anC):=by
   have h1:=at2_drop anC z i
   rw[hd] at h1
   rw[←h1,atU_drop (at2_le anC hi).2]
  rw[e2,hd] at hp
  have hN:=fun id=>Name_ok ((c::r).takeWhile anC) id
  rw[g1] at hLt
  have hpt:pTok c r=if fName ((c::r).takeWhile anC)=0 then .ok (⟨1,(c::r).takeWhile anC,0⟩,(c::r).dropWhile anC) else .error (fName ((c::r).takeWhile anC)):=by
   unfold pTok; rw[if_pos g1]
  generalize (c::r).takeWhile anC=w at *
  generalize (c::r).dropWhile anC=u at *
  rw[rB_eq,rB_eq] at hp
  rw[rB_eq]
  by_cases g2:fName w=0
  ·have e:pTok c r = .ok (⟨1,w,0⟩,u):=by rw[hpt,if_pos g2]
   rw[g2] at hN
   refine fn_okE Tryz.func74 hcc74 (by decide) hcr74 (by simp[Tryz.ntmps74]) fun E hP hR hPn hl hid hB hu=>?_
   simp only[cr74] at hR
   refine w_go 4000 ?_
   simp[cc74]
   have hJ:=hl (J,_) (List.mem_cons_self ..)
   simp only at hJ
   have J1:=lf hJ
   simp[hlt,hci,J1]
   (refine w_call hP rfl (hLt _) (by simp[J1]) (by simp[J1]<;>rfl) ?_; refine w_go 4000 ?_; simp[J1])
   (refine w_call hP rfl (hp _) (by simp[J1]) (by simp[J1]<;>rfl) ?_; refine w_go 4000 ?_; simp[J1])
   (refine w_call hP rfl (hN _) (by simp[J1]) (by simp[J1]<;>rfl) ?_; refine w_go 4000 ?_; simp[J1])
   have hrn:rnOk []:=by simp[rB,eTk,J1,idO hid]
   refine hR _ _ _ (tokR_ok e) ?_
   refine rt_end (by simp[rB,eTk,J1,idO hid]<;>rfl) [] hrn ⟨?_,?_,?_,?_,?_,?_⟩<;>(try simp[rB,eTk,J1,idO hid])
  ·have e:pTok c r = .error (fName w):=by rw[hpt,if_neg g2]
   have hfe:=fun id=>lfail_ok (fName w) id
   have hne:(fName w != 0)=true:=by simpa using g2
   refine fn_okE Tryz.func74 hcc74 (by decide) hcr74 (by simp[Tryz.ntmps74]) fun E hP hR hPn hl hid hB hu=>?_
   simp only[cr74] at hR
   refine w_go 4000 ?_
   simp[cc74]
   have hJ:=hl (J,_) (List.mem_cons_self ..)
   simp only at hJ
   have J1:=lf hJ
   simp[hlt,hci,J1]
   (refine w_call hP rfl (hLt _) (by simp[J1]) (by simp[J1]<;>rfl) ?_; refine w_go 4000 ?_; simp[J1])
   (refine w_call hP rfl (hp _) (by simp[J1]) (by simp[J1]<;>rfl) ?_; refine w_go 4000 ?_; simp[J1])
   (refine w_call hP rfl (hN _) (by simp[J1]) (by simp[J1]<;>rfl) ?_; refine w_go 4000 ?_; simp[J1])
   refine goc_true hne ?_
   simp[J1]
   refine w_callE hP rfl (hfe _) (by simp[J1]) (by simp[J1]<;>rfl) (fun pv hpv=>⟨by simp[J1],by injection hpv with hpv; subst hpv; exact hPn _ _ (tokR_no e) rfl (by simp[J1])⟩) (fun v wr h=>by cases h)
 have g1:isLt c=false:=by simpa using g1
 rw[g1] at hLt
 by_cases g3:isDg c=true∨c=45
 ·have hpt:=pTok_num (r:=r) g1 g3
  have hn:=fun id=>number_ok z i c r J id hi hd g3 h8
  have hgd:(isDg c||((c.toNat:Int)==45))=true:=by
   rw[h45]
   rcases g3 with h|h
   ·rw[h]; rfl
   ·rw[h]; simp
  rw[hpt]
  rw[rB_eq] at hn
  rw[rB_eq]
  cases hnt:numT c r with
  | ok p =>
   obtain⟨t,u⟩:=p
   rw[hnt] at hn
   have hn:∀id,FnOk Tryz.prog 108 [.ptr J 0 0] [(J,⟨[.agg [.str z,.int .i64 i]],.agg [.str z,.int .i64 0],false,false⟩)] id (.agg [.int .i64 t.kind,.str t.text,.int .i64 t.n]) [(J,some ⟨[.agg [.str z,.int .i64 (atU z u)]],.agg [.str z,.int .i64 0],false,false⟩)]:=hn
   refine fn_okE Tryz.func74 hcc74 (by decide) hcr74 (by simp[Tryz.ntmps74]) fun E hP hR hPn hl hid hB hu=>?_
   simp only[cr74] at hR
   refine w_go 4000 ?_
   simp[cc74]
   have hJ:=hl (J,_) (List.mem_cons_self ..)
   simp only at hJ
   have J1:=lf hJ
   simp[hlt,hci,J1]
   (refine w_call hP rfl (hLt _) (by simp[J1]) (by simp[J1]<;>rfl) ?_; refine w_go 4000 ?_; simp[J1])
   (refine w_call hP rfl (hDg _) (by simp[J1]) (by simp[J1]<;>rfl) ?_; refine w_go 4000 ?_; simp[J1])
   refine goc_true hgd ?_
   simp[J1]
   (refine w_call hP rfl (hn _) (by simp[J1]) (by simp[J1]<;>rfl) ?_; refine w_go 4000 ?_; simp[J1])
   have hrn:rnOk []:=by simp[rB,eTk,J1,idO hid]
   refine hR _ _ _ (rfl) ?_
   refine rt_end (by simp[rB,eTk,J1,idO hid]<;>rfl) [] hrn ⟨?_,?_,?_,?_,?_,?_⟩<;>(try simp[rB,eTk,J1,idO hid])
  | error e =>
   rw[hnt] at hn
   have hn:∀id,FnE Tryz.prog 108 [.ptr J 0 0] [(J,⟨[.agg [.str z,.int .i64 i]],.agg [.str z,.int .i64 0],false,false⟩)] id (.error (erV e)):=hn
   refine fn_okE Tryz.func74 hcc74 (by decide) hcr74 (by simp[Tryz.ntmps74]) fun E hP hR hPn hl hid hB hu=>?_
   simp only[cr74] at hR
   refine w_go 4000 ?_
   simp[cc74]
   have hJ:=hl (J,_) (List.mem_cons_self ..)
   simp only at hJ
   have J1:=lf hJ
   simp[hlt,hci,J1]
   (refine w_call hP rfl (hLt _) (by simp[J1]) (by simp[J1]<;>rfl) ?_; refine w_go 4000 ?_; simp[J1])
   (refine w_call hP rfl (hDg _) (by simp[J1]) (by simp[J1]<;>rfl) ?_; refine w_go 4000 ?_; simp[J1])
   refine goc_true hgd ?_
   simp[J1]
   refine w_callE hP rfl (hn _) (by simp[J1]) (by simp[J1]<;>rfl) (fun pv hpv=>⟨by simp[J1],by injection hpv with hpv; subst hpv; exact hPn _ _ (rfl) rfl (by simp[J1])⟩) (fun v wr h=>by cases h)
 have hgd:(isDg c||((c.toNat:Int)==45))=false:=by
  rw[h45]
  cases h:isDg c with
  | true=>exact (g3 (.inl h)).elim
  | false=>simpa using fun h=>g3 (.inr h)
 by_cases g4:c=34
 ·have hpt:=pTok_text (r:=r) g4
  have hn:=fun id=>textL_ok z i r J id hlt hd1 h8
  rw[hpt]
  rw[rB_eq] at hn
  rw[rB_eq]
  cases hnt:textT r with
  | ok p =>
   obtain⟨t,u⟩:=p
   rw[hnt] at hn
   have hn:∀id,FnOk Tryz.prog 109 [.ptr J 0 0] [(J,⟨[.agg [.str z,.int .i64 i]],.agg [.str z,.int .i64 0],false,false⟩)] id (.agg [.int .i64 t.kind,.str t.text,.int .i64 t.n]) [(J,some ⟨[.agg [.str z,.int .i64 (atU z u)]],.agg [.str z,.int .i64 0],false,false⟩)]:=hn
   refine fn_okE Tryz.func74 hcc74 (by decide) hcr74 (by simp[Tryz.ntmps74]) fun E hP hR hPn hl hid hB hu=>?_
   simp only[cr74] at hR
   refine w_go 4000 ?_
   simp[cc74]
   have hJ:=hl (J,_) (List.mem_cons_self ..)
   simp only at hJ
   have J1:=lf hJ
   simp[hlt,hci,J1]
   (refine w_call hP rfl (hLt _) (by simp[J1]) (by simp[J1]<;>rfl) ?_; refine w_go 4000 ?_; simp[J1])
   (refine w_call hP rfl (hDg _) (by simp[J1]) (by simp[J1]<;>rfl) ?_; refine w_go 4000 ?_; simp[J1])
   refine goc_false hgd ?_
   simp[J1]
   refine goc_true (by rw[h34,g4]; rfl) ?_
   simp[J1]
   (refine w_call hP rfl (hn _) (by simp[J1]) (by simp[J1]<;>rfl) ?_; refine w_go 4000 ?_; simp[J1])
   have hrn:rnOk []:=by simp[rB,eTk,J1,idO hid]
   refine hR _ _ _ (rfl) ?_
   refine rt_end (by simp[rB,eTk,J1,idO hid]<;>rfl) [] hrn ⟨?_,?_,?_,?_,?_,?_⟩<;>(try simp[rB,eTk,J1,idO hid])
  | error e =>
   rw[hnt] at hn
   have hn:∀id,FnE Tryz.prog 109 [.ptr J 0 0] [(J,⟨[.agg [.str z,.int .i64 i]],.agg [.str z,.int .i64 0],false,false⟩)] id (.error (erV e)):=hn
   refine fn_okE Tryz.func74 hcc74 (by decide) hcr74 (by simp[Tryz.ntmps74]) fun E hP hR hPn hl hid hB hu=>?_
   simp only[cr74] at hR
   refine w_go 4000 ?_
   simp[cc74]
   have hJ:=hl (J,_) (List.mem_cons_self ..)
   simp only at hJ
   have J1:=lf hJ
   simp[hlt,hci,J1]
   (refine w_call hP rfl (hLt _) (by simp[J1]) (by simp[J1]<;>rfl) ?_; refine w_go 4000 ?_; simp[J1])
   (refine w_call hP rfl (hDg _) (by simp[J1]) (by simp[J1]<;>rfl) ?_; refine w_go 4000 ?_; simp[J1])
   refine goc_false hgd ?_
   simp[J1]
   refine goc_true (by rw[h34,g4]; rfl) ?_
   simp[J1]
   refine w_callE hP rfl (hn _) (by simp[J1]) (by simp[J1]<;>rfl) (fun pv hpv=>⟨by simp[J1],by injection hpv with hpv; subst hpv; exact hPn _ _ (rfl) rfl (by simp[J1])⟩) (fun v wr h=>by cases h)
 have hX:=fun id=>IndexByte_ok [123,125,40,41,58,91,93] c id
 have hsg:=sgX c
 generalize Lib.indexByte [123,125,40,41,58,91,93] c=x at hX hsg
 rw[rB_eq]
 by_cases g5:sgC c=true
 ·have e:pTok c r = .ok (⟨4,[c],0⟩,r):=by
   unfold pTok
   rw[if_neg (by simp[g1]),if_neg g3,if_neg g4,if_pos g5]
  have hju:i+1=atU z r:=by rw[←hd1]; exact (atU_drop (by omega)).symm
  refine fn_okE Tryz.func74 hcc74 (by decide) hcr74 (by simp[Tryz.ntmps74]) fun E hP hR hPn hl hid hB hu=>?_
  simp only[cr74] at hR
  refine w_go 4000 ?_
  simp[cc74]
  have hJ:=hl (J,_) (List.mem_cons_self ..)
  simp only at hJ
  have J1:=lf hJ
  simp[hlt,hci,J1]
  (refine w_call hP rfl (hLt _) (by simp[J1]) (by simp[J1]<;>rfl) ?_; refine w_go 4000 ?_; simp[J1])
  (refine w_call hP rfl (hDg _) (by simp[J1]) (by simp[J1]<;>rfl) ?_; refine w_go 4000 ?_; simp[J1])
  refine goc_false hgd ?_
  simp[J1]
  refine goc_false (by rw[h34]; simpa using g4) ?_
  simp[J1]
  (refine w_call hP rfl (hX _) (by simp[J1]) (by simp[J1]<;>rfl) ?_; refine w_go 4000 ?_; simp[J1])
  refine goc_true (hsg.trans g5) ?_
  simp[J1]
  rw[hi1]
  refine⟨by simp[isU8]; try omega,?_⟩
  have hrn:rnOk []:=by simp[rB,eTk,J1,idO hid]
  refine hR _ _ _ (tokR_at e hju.symm) ?_
  refine rt_end (by simp[rB,eTk,J1,idO hid]<;>rfl) [] hrn ⟨?_,?_,?_,?_,?_,?_⟩<;>(try simp[rB,eTk,J1,idO hid])
 ·have e:pTok c r = .error 1:=by
   unfold pTok
   rw[if_neg (by simp[g1]),if_neg g3,if_neg g4,if_neg g5]
  refine fn_okE Tryz.func74 hcc74 (by decide) hcr74 (by simp[Tryz.ntmps74]) fun E hP hR hPn hl hid hB hu=>?_
  simp only[cr74] at hR
  refine w_go 4000 ?_
  simp[cc74]
  have hJ:=hl (J,_) (List.mem_cons_self ..)
  simp only at hJ
  have J1:=lf hJ
  simp[hlt,hci,J1]
  (refine w_call hP rfl (hLt _) (by simp[J1]) (by simp[J1]<;>rfl) ?_; refine w_go 4000 ?_; simp[J1])
  (refine w_call hP rfl (hDg _) (by simp[J1]) (by simp[J1]<;>rfl) ?_; refine w_go 4000 ?_; simp[J1])
  refine goc_false hgd ?_
  simp[J1]
  refine goc_false (by rw[h34]; simpa using g4) ?_
  simp[J1]
  (refine w_call hP rfl (hX _) (by simp[J1]) (by simp[J1]<;>rfl) ?_; refine w_go 4000 ?_; simp[J1])
  refine goc_false (hsg.trans (by simpa using g5)) ?_
  simp[J1]
  refine w_callE hP rfl (hf _) (by simp[J1]) (by simp[J1]<;>rfl) (fun pv hpv=>⟨by simp[J1],by injection hpv with hpv; subst hpv; exact hPn _ _ (tokR_no e) rfl (by simp[J1])⟩) (fun v wr h=>by cases h)
end Go.Am
