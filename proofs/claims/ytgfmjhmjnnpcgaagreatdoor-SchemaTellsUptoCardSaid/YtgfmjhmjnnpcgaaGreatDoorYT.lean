/- The verifier: what a text's tokens are. No condition. -/
import Derived.Test.YtgfmjhmjnnpcgaaGreatDoorYS
namespace Go.Am
set_option linter.all false
open Go Go.RowKit Go.Proofs
set_option maxRecDepth 100000
set_option linter.all false
def tS(E:Env)(s:List UInt8)(acc:List Tk)(j:Nat):St :=
 ⟨[(0,true,.str s),(4,true,.bsl E.n0 0 acc.length),(5,true,.int .i64 j)],[(E.n0,some (toB acc))],1⟩
def tW(E:Env)(s:List UInt8)(acc:List Tk)(i j:Nat):St :=
 ⟨[(0,true,.str s),(4,true,.bsl E.n0 0 acc.length),(5,true,.int .i64 j),(7,true,.ptr (E.n0+1) 0 0),(8,true,.int .i64 i)],[(E.n0,some (toB acc)),(E.n0+1,some ⟨[zTk],zTk,false,false⟩)],2⟩
def tX(E:Env)(s:List UInt8)(acc:List Tk)(tx:List UInt8)(j:Nat):St :=
 ⟨[(0,true,.str s),(4,true,.bsl E.n0 0 acc.length),(5,true,.int .i64 j),(7,true,.ptr (E.n0+1) 0 0),(11,true,.str tx)],[(E.n0,some (toB acc)),(E.n0+1,some ⟨[zTk],zTk,false,false⟩)],2⟩
set_option maxHeartbeats 16000000 in
theorem rToks_ok(s:List UInt8)(id:Nat):FnOk Tryz.prog 17 [.str s] [] id (lexV (fLex s)) []:=by
 refine fn_okc Tryz.func17 hcc17 (by decide) hcr17 (by simp[Tryz.ntmps17]) fun E hP hR hl hid=>?_
 simp only[cr17] at hR
 refine w_go 4000 ?_
 simp[cc17]
 refine goc (fun g=>?_) (fun g=>?_)<;>simp
 ·rw[show fLex s = .error 2 from by unfold fLex; rw[if_pos (by simp at g; omega)]] at hR
  have hR:E.Rt=RtOk E.n0 id E.G0.used [.tmp 2,.tmp 3] [] (.tup [.nils,.int .i64 2]) []:=hR
  rw[hR]; exact rt_end (by simp<;>rfl) [] trivial (end_pure (by simp) (by simp) (by simp))
 have h20:¬2000<s.length:=by simp at g; omega
 have h8:s.length≤1099511627776:=by omega
 rw[show fLex s=fAll s from by unfold fLex; rw[if_neg h20]] at hR
 refine w_loop (X:=List Tk×Nat) (fun q=>tS E s q.1 q.2) (TOk s) (fun q=>s.length - q.2) ([],0) ?_ (TOk.zero s) ?_
 ·refine Conv.trans (Conv.voidSlot 4 (x:=.nils) (by simp) .nils zTk) ?_
  unfold tS
  have hrn:rnOk [(E.n0,E.n0+7168)]:=by simp[toB,zTk]
  refine Conv.sub [(E.n0,E.n0+7168)] hrn ?_ ?_ ?_ ?_ ?_<;>(try simp[toB,zTk])
 rintro⟨acc,i⟩ hO p hp
 have hi:=hO.1
 have hac:=hO.2.1
 simp only at hi hac
 have hi1:IntKind.i64.wrap ((i:Int)+1)=(i:Int)+1:=wrap64 (by omega)
 rcases Nat.lt_or_ge i s.length with hlt|hge
 rotate_left
 ·rw[hO.fin hge] at hR
  have hR:E.Rt=RtOk E.n0 id E.G0.used [.tmp 2,.tmp 3] [] (.tup [.sl (acc.map eTk),.int .i64 0]) []:=hR
  unfold tS
  refine w_go 4000 ?_
  simp[toB,Nat.not_lt.2 hge]
  have hrn:rnOk []:=by simp[toB,idO hid]
  rw[hR]
  refine rt_endR (by simp<;>rfl) (by simp[toB,idO hid]<;>exact⟨rfl,rfl⟩) [] hrn ⟨?_,?_,?_,?_,?_,?_⟩<;>(try simp[toB,idO hid])
 obtain⟨c,hc,hd⟩:=drop_cons hlt
 have hci:s[i]=c:=by
  rw[List.getElem?_eq_getElem hlt] at hc
  injection hc
 have b9:((c.toNat:Int)==9)=(c==9):=u8i c 9 (by decide)
 have b10:((c.toNat:Int)==10)=(c==10):=u8i c 10 (by decide)
 have b13:((c.toNat:Int)==13)=(c==13):=u8i c 13 (by decide)
 have b32:((c.toNat:Int)==32)=(c==32):=u8i c 32 (by decide)
 have b44:((c.toNat:Int)==44)=(c==44):=u8i c 44 (by decide)
 have b35:((c.toNat:Int)==35)=(c==35):=u8i c 35 (by decide)
 have b45:((c.toNat:Int)==45)=(c==45):=u8i c 45 (by decide)
 have b34:((c.toNat:Int)==34)=(c==34):=u8i c 34 (by decide)
 have hbl:blC c=(c==32||c==9||c==10||c==13||c==44):=by
  unfold blC
  cases c==9<;>cases c==10<;>cases c==13<;>cases c==32<;>cases c==44<;>rfl
 unfold tS
 refine w_go 4000 ?_
 simp[hlt,hci,b9,b10,b13,b32,b44]
 refine goc (fun g=>?_) (fun g=>?_)
 ·simp[hi1]
  refine hp _ (acc,i+1) (hO.blank hd (by rw[hbl]; exact g)) (by simp; omega) ?_
  unfold tS
  have hrn:rnOk [(E.n0,E.n0)]:=by simp[toB,zTk]
  refine Conv.sub [(E.n0,E.n0)] hrn ?_ ?_ ?_ ?_ ?_<;>(try simp[toB,zTk])
 rw[←hbl] at g
 simp[b35]
 refine goc (fun g2=>?_) (fun g2=>?_)
 ·have g2:c=35:=by simpa using g2
  subst g2
  have hrem:=hO.rem hd
  have h1:=at2_le noNl hi
  have hrem1:at2 noNl s (i+1)=at2 noNl s i:=at2_step hc (by decide)
  have h2:=at2_le noNl (show i+1≤s.length by omega)
  simp
  refine w_loop (X:=Nat) (fun j=>tS E s acc j) (fun j=>j≤s.length∧at2 noNl s j=at2 noNl s i) (fun j=>s.length - j) i ?_ ⟨hi,rfl⟩ ?_
  ·unfold tS
   have hrn:rnOk [(E.n0,E.n0)]:=by simp[toB,zTk]
   refine Conv.sub [(E.n0,E.n0)] hrn ?_ ?_ ?_ ?_ ?_<;>(try simp[toB,zTk])
  rintro j ⟨hj,hja⟩ p2 hp2
  have hj1:IntKind.i64.wrap ((j:Int)+1)=(j:Int)+1:=wrap64 (by omega)
  rcases Nat.lt_or_ge j s.length with hjl|hjl
  rotate_left
  ·have hje:=at2_end (p:=noNl) hjl
   have hg:s[j]?=none:=List.getElem?_eq_none_iff.2 hjl
   unfold tS
   refine w_go 4000 ?_
   simp[Nat.not_lt.2 hjl,hg]
   have hji:at2 noNl s i=j:=by omega
   rw[hji] at hrem
   refine hp _ (acc,j) hrem (by simp; omega) ?_
   unfold tS
   have hrn:rnOk [(E.n0,E.n0)]:=by simp[toB,zTk]
   refine Conv.sub [(E.n0,E.n0)] hrn ?_ ?_ ?_ ?_ ?_<;>(try simp[toB,zTk])
  obtain⟨d,hdj,hdd⟩:=drop_cons hjl
  have hcj:s[j]=d:=by
   rw[List.getElem?_eq_getElem hjl] at hdj
   injection hdj
  have d10:((d.toNat:Int)==10)=(d==10):=u8i d 10 (by decide)
  unfold tS
  refine w_go 4000 ?_
  simp[hjl,hcj]
  refine goc (fun g3=>?_) (fun g3=>?_)
  ·have g3:noNl d=true:=by
    unfold noNl
    simp only[bne,d10] at g3 ⊢
    exact g3
   simp[hj1]
   refine hp2 _ (j+1) ⟨hjl,by rw[at2_step hdj g3]; exact hja⟩ (by omega) ?_
   unfold tS
   have hrn:rnOk [(E.n0,E.n0)]:=by simp[toB,zTk]
   refine Conv.sub [(E.n0,E.n0)] hrn ?_ ?_ ?_ ?_ ?_<;>(try simp[toB,zTk])
  ·have g3:noNl d=false:=by
    unfold noNl
    simp only[bne,d10] at g3 ⊢
    exact g3
   have hji:at2 noNl s i=j:=by rw[←hja]; exact at2_stop hdj g3
   rw[hji] at hrem
   simp
   refine hp _ (acc,j) hrem (by simp; omega) ?_
   unfold tS
   have hrn:rnOk [(E.n0,E.n0)]:=by simp[toB,zTk]
   refine Conv.sub [(E.n0,E.n0)] hrn ?_ ?_ ?_ ?_ ?_<;>(try simp[toB,zTk])
 have h35:c≠35:=by simpa using g2
 simp
 (refine w_call hP rfl (rLetter_ok c _) (by simp[b45,b34]) (by simp[b45,b34]<;>rfl) ?_; refine w_go 4000 ?_; simp[b45,b34])
 refine goc (fun gl=>?_) (fun gl=>?_)
 ·have han:anC c=true:=by unfold anC; rw[gl]; rfl
  have hpt:=pTok_word hd gl
  have hle:=at2_le anC hi
  have hlo:i+1≤at2 anC s i:=by rw[←at2_step hc han]; exact (at2_le anC hlt).1
  have hsl:=at2_slice anC (Nat.le_refl i) hi
  rw[show (s.take i).drop i=[] from List.drop_of_length_le (by simp; omega),List.nil_append] at hsl
  simp
  refine w_loop (X:=Nat) (fun j=>tW E s acc i j) (fun j=>(i≤j∧j≤s.length)∧at2 anC s j=at2 anC s i) (fun j=>s.length - j) i ?_ ⟨⟨Nat.le_refl i,hi⟩,rfl⟩ ?_
  ·unfold tW
   have hrn:rnOk [(E.n0,E.n0),(E.n0+1,E.n0+28673)]:=by simp[toB,zTk]
   refine Conv.sub [(E.n0,E.n0),(E.n0+1,E.n0+28673)] hrn ?_ ?_ ?_ ?_ ?_<;>(try simp[toB,zTk])
  rintro j ⟨⟨hij,hj⟩,hja⟩ p2 hp2
  have hj1:IntKind.i64.wrap ((j:Int)+1)=(j:Int)+1:=wrap64 (by omega)
  rcases Nat.lt_or_ge j s.length with hjl|hjl
  rotate_left
  ·have hje:=at2_end (p:=anC) hjl
   have hg:s[j]?=none:=List.getElem?_eq_none_iff.2 hjl
   have hji:at2 anC s i=j:=by omega
   rw[hji] at hpt hsl hlo
   unfold tW
   refine w_go 4000 ?_
   simp[Nat.not_lt.2 hjl,hg]
   (refine w_callg hP (by simp[hg]) rfl (fun hc=>⟨rLetter_ok 0 _,by revert hc; simp[hg]; try grind,by simp[hg]⟩) ?_; refine w_go 4000 ?_; simp[hg])
   (refine w_callg hP (by simp[hg,hsl,zTk]) rfl (fun hc=>⟨rDigit_ok 0 _,by revert hc; simp[hg,hsl,zTk]; try grind,by simp[hg,hsl,zTk]⟩) ?_; refine w_go 4000 ?_; simp[hg,hsl,zTk])
   refine⟨by omega,?_⟩
   refine goc (fun g3=>?_) (fun g3=>?_)
   ·simp
    rw[if_pos (by simp at g3; omega)] at hpt
    rw[hO.bad hd g h35 (hpt)] at hR
    have hR:E.Rt=RtOk E.n0 id E.G0.used [.tmp 2,.tmp 3] [] (.tup [.nils,.int .i64 2]) []:=hR
    rw[hR]; exact rt_end (by simp<;>rfl) [] trivial (end_pure (by simp) (by simp) (by simp))
   ·rw[if_neg (by simp at g3; omega)] at hpt
    simp[toB]
    refine⟨⟨by omega,by omega⟩,?_⟩
    refine goc (fun gm=>?_) (fun gm=>?_)
    ·simp
     rw[hO.many hd g h35 hpt (by simp at gm; omega)] at hR
     have hR:E.Rt=RtOk E.n0 id E.G0.used [.tmp 2,.tmp 3] [] (.tup [.nils,.int .i64 2]) []:=hR
     rw[hR]; exact rt_end (by simp<;>rfl) [] trivial (end_pure (by simp) (by simp) (by simp))
    ·simp
     refine hp _ (acc++[⟨1,(s.drop i).takeWhile anC,0⟩],j) (hO.next hd g h35 hpt (by omega) (by simp at gm; omega)) (by simp; omega) ?_
     unfold tS
     have hrn:rnOk [(E.n0,E.n0+29698)]:=by simp[toB,eTk]
     refine Conv.sub [(E.n0,E.n0+29698)] hrn ?_ ?_ ?_ ?_ ?_<;>(try simp[toB,eTk])
     all_goals exact renL_pure rfl (pureL_append (pure_tks acc) (pure_tks [⟨1,(s.drop i).takeWhile anC,0⟩]))
  obtain⟨d,hdj,hdd⟩:=drop_cons hjl
  have hcj:s[j]=d:=by
   rw[List.getElem?_eq_getElem hjl] at hdj
   injection hdj
  unfold tW
  refine w_go 4000 ?_
  simp[hjl,hcj]
  (refine w_callg hP (by simp[hjl,hcj]) rfl (fun hc=>⟨rLetter_ok d _,by revert hc; simp[hjl,hcj]; try grind,by simp[hjl,hcj]⟩) ?_; refine w_go 4000 ?_; simp[hjl,hcj])
  (refine w_callg hP (by simp[hjl,hcj]) rfl (fun hc=>⟨rDigit_ok d _,by revert hc; simp[hjl,hcj]; try grind,by simp[hjl,hcj]⟩) ?_; refine w_go 4000 ?_; simp[hjl,hcj])
  refine goc (fun g4=>?_) (fun g4=>?_)
  ·simp[hj1]
   refine hp2 _ (j+1) ⟨⟨by omega,hjl⟩,by rw[at2_step hdj (p:=anC) g4]; exact hja⟩ (by omega) ?_
   unfold tW
   have hrn:rnOk [(E.n0,E.n0),(E.n0+1,E.n0+1)]:=by simp[toB,zTk]
   refine Conv.sub [(E.n0,E.n0),(E.n0+1,E.n0+1)] hrn ?_ ?_ ?_ ?_ ?_<;>(try simp[toB,zTk])
  ·have hji:at2 anC s i=j:=by rw[←hja]; exact at2_stop hdj g4
   rw[hji] at hpt hsl hlo
   simp[hsl,zTk]
   refine⟨by omega,?_⟩
   refine goc (fun g3=>?_) (fun g3=>?_)
   ·simp
    rw[if_pos (by simp at g3; omega)] at hpt
    rw[hO.bad hd g h35 (hpt)] at hR
    have hR:E.Rt=RtOk E.n0 id E.G0.used [.tmp 2,.tmp 3] [] (.tup [.nils,.int .i64 2]) []:=hR
    rw[hR]; exact rt_end (by simp<;>rfl) [] trivial (end_pure (by simp) (by simp) (by simp))
   ·rw[if_neg (by simp at g3; omega)] at hpt
    simp[toB]
    refine⟨⟨by omega,by omega⟩,?_⟩
    refine goc (fun gm=>?_) (fun gm=>?_)
    ·simp
     rw[hO.many hd g h35 hpt (by simp at gm; omega)] at hR
     have hR:E.Rt=RtOk E.n0 id E.G0.used [.tmp 2,.tmp 3] [] (.tup [.nils,.int .i64 2]) []:=hR
     rw[hR]; exact rt_end (by simp<;>rfl) [] trivial (end_pure (by simp) (by simp) (by simp))
    ·simp
     refine hp _ (acc++[⟨1,(s.drop i).takeWhile anC,0⟩],j) (hO.next hd g h35 hpt (by omega) (by simp at gm; omega)) (by simp; omega) ?_
     unfold tS
     have hrn:rnOk [(E.n0,E.n0+29698)]:=by simp[toB,eTk]
     refine Conv.sub [(E.n0,E.n0+29698)] hrn ?_ ?_ ?_ ?_ ?_<;>(try simp[toB,eTk])
     all_goals exact renL_pure rfl (pureL_append (pure_tks acc) (pure_tks [⟨1,(s.drop i).takeWhile anC,0⟩]))
 have hlt0:isLt c=false:=gl
 simp
 (refine w_call hP rfl (rDigit_ok c _) (by simp[b45,b34]) (by simp[b45,b34]<;>rfl) ?_; refine w_go 4000 ?_; simp[b45,b34])
 refine goc (fun gn=>?_) (fun gn=>?_)
 ·have gn2:isDg c=true∨c=45:=by simpa using gn
  have hpt:=pTok_num2 hd hlt0 gn2
  have hi1l:i+1≤s.length:=hlt
  have hlo:=(at2_le isDg hi1l).1
  simp[hi1]
  refine w_loop (X:=Nat) (fun j=>tW E s acc i j) (fun j=>(i+1≤j∧j≤s.length)∧at2 isDg s j=at2 isDg s (i+1)) (fun j=>s.length - j) (i+1) ?_ ⟨⟨Nat.le_refl _,hi1l⟩,rfl⟩ ?_
  ·unfold tW
   have hrn:rnOk [(E.n0,E.n0),(E.n0+1,E.n0+28673)]:=by simp[toB,zTk]
   refine Conv.sub [(E.n0,E.n0),(E.n0+1,E.n0+28673)] hrn ?_ ?_ ?_ ?_ ?_<;>(try simp[toB,zTk])
  rintro j ⟨⟨hij,hj⟩,hja⟩ p2 hp2
  have hj1:IntKind.i64.wrap ((j:Int)+1)=(j:Int)+1:=wrap64 (by omega)
  rcases Nat.lt_or_ge j s.length with hjl|hjl
  rotate_left
  ·have hje:=at2_end (p:=isDg) hjl
   have hg:s[j]?=none:=List.getElem?_eq_none_iff.2 hjl
   have hji:at2 isDg s (i+1)=j:=by omega
   rw[hji] at hpt hlo
   obtain⟨D,hD⟩:∃D,D=(s.take j).drop i:=⟨_,rfl⟩
   have hDl:D.length≤1099511627776:=by rw[hD]; simp; omega
   have hIO:=fun id=>intOf_ok D id hDl
   rw[←hD] at hpt
   cases hio:intOf D with
   | none =>
    rw[hio] at hpt hIO
    have hpt:pTok c (s.drop (i+1)) = .error 1:=hpt
    have hIO:∀id,FnOk Tryz.prog 42 [.str D] [] id (.tup [.int .i64 0,.bool false]) []:=hIO
    unfold tW
    refine w_go 4000 ?_
    simp[Nat.not_lt.2 hjl,hg]
    (refine w_callg hP (by simp[hg,←hD]) rfl (fun hc=>⟨rDigit_ok 0 _,by revert hc; simp[hg,←hD]; try grind,by simp[hg,←hD]⟩) ?_; refine w_go 4000 ?_; simp[hg,←hD])
    refine⟨by omega,?_⟩
    (refine w_call hP rfl (hIO _) (by simp) (by simp<;>rfl) ?_; refine w_go 4000 ?_; simp)
    rw[hO.bad hd g h35 hpt] at hR
    have hR:E.Rt=RtOk E.n0 id E.G0.used [.tmp 2,.tmp 3] [] (.tup [.nils,.int .i64 1]) []:=hR
    rw[hR]; exact rt_end (by simp<;>rfl) [] trivial (end_pure (by simp) (by simp) (by simp))
   | some n =>
    rw[hio] at hpt hIO
    have hpt:pTok c (s.drop (i+1)) = .ok (⟨2,[],n⟩,s.drop j):=hpt
    have hIO:∀id,FnOk Tryz.prog 42 [.str D] [] id (.tup [.int .i64 n,.bool true]) []:=hIO
    unfold tW
    refine w_go 4000 ?_
    simp[Nat.not_lt.2 hjl,hg]
    (refine w_callg hP (by simp[hg,←hD]) rfl (fun hc=>⟨rDigit_ok 0 _,by revert hc; simp[hg,←hD]; try grind,by simp[hg,←hD]⟩) ?_; refine w_go 4000 ?_; simp[hg,←hD])
    refine⟨by omega,?_⟩
    (refine w_call hP rfl (hIO _) (by simp[toB,zTk]) (by simp[toB,zTk]<;>rfl) ?_; refine w_go 4000 ?_; simp[toB,zTk])
    refine⟨⟨by omega,by omega⟩,?_⟩
    refine goc (fun gm=>?_) (fun gm=>?_)
    ·simp
     rw[hO.many hd g h35 hpt (by simp at gm; omega)] at hR
     have hR:E.Rt=RtOk E.n0 id E.G0.used [.tmp 2,.tmp 3] [] (.tup [.nils,.int .i64 2]) []:=hR
     rw[hR]; exact rt_end (by simp<;>rfl) [] trivial (end_pure (by simp) (by simp) (by simp))
    ·simp
     refine hp _ (acc++[⟨2,[],n⟩],j) (hO.next hd g h35 hpt (by omega) (by simp at gm; omega)) (by simp; omega) ?_
     unfold tS
     have hrn:rnOk [(E.n0,E.n0+28674)]:=by simp[toB,eTk]
     refine Conv.sub [(E.n0,E.n0+28674)] hrn ?_ ?_ ?_ ?_ ?_<;>(try simp[toB,eTk])
     all_goals exact renL_pure rfl (pureL_append (pure_tks acc) (pure_tks [⟨2,[],n⟩]))
  obtain⟨d,hdj,hdd⟩:=drop_cons hjl
  have hcj:s[j]=d:=by
   rw[List.getElem?_eq_getElem hjl] at hdj
   injection hdj
  cases g4:isDg d with
  | true =>
   have hDd:∀id,FnOk Tryz.prog 41 [.int .u8 d.toNat] [] id (.bool true) []:=fun id=>g4▸rDigit_ok d id
   unfold tW
   refine w_go 4000 ?_
   simp[hjl,hcj]
   (refine w_callg hP (by simp[hjl,hcj,hj1]) rfl (fun hc=>⟨hDd _,by revert hc; simp[hjl,hcj,hj1]; try grind,by simp[hjl,hcj,hj1]⟩) ?_; refine w_go 4000 ?_; simp[hjl,hcj,hj1])
   refine hp2 _ (j+1) ⟨⟨by omega,hjl⟩,by rw[at2_step hdj (p:=isDg) g4]; exact hja⟩ (by omega) ?_
   unfold tW
   have hrn:rnOk [(E.n0,E.n0),(E.n0+1,E.n0+1)]:=by simp[toB,zTk]
   refine Conv.sub [(E.n0,E.n0),(E.n0+1,E.n0+1)] hrn ?_ ?_ ?_ ?_ ?_<;>(try simp[toB,zTk])
  | false =>
   have hDd:∀id,FnOk Tryz.prog 41 [.int .u8 d.toNat] [] id (.bool false) []:=fun id=>g4▸rDigit_ok d id
   have hji:at2 isDg s (i+1)=j:=by rw[←hja]; exact at2_stop hdj g4
   rw[hji] at hpt hlo
   obtain⟨D,hD⟩:∃D,D=(s.take j).drop i:=⟨_,rfl⟩
   have hDl:D.length≤1099511627776:=by rw[hD]; simp; omega
   have hIO:=fun id=>intOf_ok D id hDl
   rw[←hD] at hpt
   cases hio:intOf D with
   | none =>
    rw[hio] at hpt hIO
    have hpt:pTok c (s.drop (i+1)) = .error 1:=hpt
    have hIO:∀id,FnOk Tryz.prog 42 [.str D] [] id (.tup [.int .i64 0,.bool false]) []:=hIO
    unfold tW
    refine w_go 4000 ?_
    simp[hjl,hcj]
    (refine w_callg hP (by simp[hjl,hcj,←hD]) rfl (fun hc=>⟨hDd _,by revert hc; simp[hjl,hcj,←hD]; try grind,by simp[hjl,hcj,←hD]⟩) ?_; refine w_go 4000 ?_; simp[hjl,hcj,←hD])
    refine⟨by omega,?_⟩
    (refine w_call hP rfl (hIO _) (by simp) (by simp<;>rfl) ?_; refine w_go 4000 ?_; simp)
    rw[hO.bad hd g h35 hpt] at hR
    have hR:E.Rt=RtOk E.n0 id E.G0.used [.tmp 2,.tmp 3] [] (.tup [.nils,.int .i64 1]) []:=hR
    rw[hR]; exact rt_end (by simp<;>rfl) [] trivial (end_pure (by simp) (by simp) (by simp))
   | some n =>
    rw[hio] at hpt hIO
    have hpt:pTok c (s.drop (i+1)) = .ok (⟨2,[],n⟩,s.drop j):=hpt
    have hIO:∀id,FnOk Tryz.prog 42 [.str D] [] id (.tup [.int .i64 n,.bool true]) []:=hIO
    unfold tW
    refine w_go 4000 ?_
    simp[hjl,hcj]
    (refine w_callg hP (by simp[hjl,hcj,←hD]) rfl (fun hc=>⟨hDd _,by revert hc; simp[hjl,hcj,←hD]; try grind,by simp[hjl,hcj,←hD]⟩) ?_; refine w_go 4000 ?_; simp[hjl,hcj,←hD])
    refine⟨by omega,?_⟩
    (refine w_call hP rfl (hIO _) (by simp[toB,zTk]) (by simp[toB,zTk]<;>rfl) ?_; refine w_go 4000 ?_; simp[toB,zTk])
    refine⟨⟨by omega,by omega⟩,?_⟩
    refine goc (fun gm=>?_) (fun gm=>?_)
    ·simp
     rw[hO.many hd g h35 hpt (by simp at gm; omega)] at hR
     have hR:E.Rt=RtOk E.n0 id E.G0.used [.tmp 2,.tmp 3] [] (.tup [.nils,.int .i64 2]) []:=hR
     rw[hR]; exact rt_end (by simp<;>rfl) [] trivial (end_pure (by simp) (by simp) (by simp))
    ·simp
     refine hp _ (acc++[⟨2,[],n⟩],j) (hO.next hd g h35 hpt (by omega) (by simp at gm; omega)) (by simp; omega) ?_
     unfold tS
     have hrn:rnOk [(E.n0,E.n0+28674)]:=by simp[toB,eTk]
     refine Conv.sub [(E.n0,E.n0+28674)] hrn ?_ ?_ ?_ ?_ ?_<;>(try simp[toB,eTk])
     all_goals exact renL_pure rfl (pureL_append (pure_tks acc) (pure_tks [⟨2,[],n⟩]))
 have hnd:¬(isDg c=true∨c=45):=by
  simp at gn
  rintro (e|e)
  ·rw[gn.1] at e; cases e
  ·exact gn.2 e
 simp[b34]
 refine goc (fun gq=>?_) (fun gq=>?_)
 ·have gq2:c=34:=by simpa using gq
  have hpt:=pTok_text (r:=s.drop (i+1)) gq2
  have hi1l:i+1≤s.length:=hlt
  simp[hi1]
  refine w_loop (X:=List UInt8×Nat) (fun q=>tX E s acc q.1 q.2) (fun q=>(i+1≤q.2∧q.2≤s.length)∧q.1.length≤q.2∧pTq false q.1 (s.drop q.2)=pTq false [] (s.drop (i+1))) (fun q=>s.length - q.2) ([],i+1) ?_ ⟨⟨Nat.le_refl _,hi1l⟩,by simp,rfl⟩ ?_
  ·unfold tX
   have hrn:rnOk [(E.n0,E.n0),(E.n0+1,E.n0+28673)]:=by simp[toB,zTk]
   refine Conv.sub [(E.n0,E.n0),(E.n0+1,E.n0+28673)] hrn ?_ ?_ ?_ ?_ ?_<;>(try simp[toB,zTk])
  rintro⟨tx,j⟩ ⟨⟨hij,hj⟩,htl,hjq⟩ p2 hp2
  simp only at hij hj htl hjq
  have hj1:IntKind.i64.wrap ((j:Int)+1)=(j:Int)+1:=wrap64 (by omega)
  rcases Nat.lt_or_ge j s.length with hjl|hjl
  rotate_left
  ·have hg:s[j]?=none:=List.getElem?_eq_none_iff.2 hjl
   have hje:j=s.length:=by omega
   rw[List.drop_of_length_le hjl] at hjq
   have hjq:none=pTq false [] (s.drop (i+1)):=hjq
   unfold textT at hpt
   rw[←hjq] at hpt
   rw[hO.bad hd g h35 hpt] at hR
   have hR:E.Rt=RtOk E.n0 id E.G0.used [.tmp 2,.tmp 3] [] (.tup [.nils,.int .i64 1]) []:=hR
   unfold tX
   refine w_go 4000 ?_
   simp[Nat.not_lt.2 hjl,hg,hje]
   rw[hR]; exact rt_end (by simp<;>rfl) [] trivial (end_pure (by simp) (by simp) (by simp))
  obtain⟨d,hdj,hdd⟩:=drop_cons hjl
  have hcj:s[j]=d:=by
   rw[List.getElem?_eq_getElem hjl] at hdj
   injection hdj
  have d34:((d.toNat:Int)==34)=(d==34):=u8i d 34 (by decide)
  have hone:(s.take (j+1)).drop j=[d]:=by
   rw[List.take_succ,hdj,List.drop_append_of_le_length (by simp; omega),List.drop_of_length_le (by simp; omega)]; rfl
  rw[hdd] at hjq
  by_cases h34:d=34
  ·subst h34
   have hjq:some (tx,s.drop (j+1))=pTq false [] (s.drop (i+1)):=hjq
   unfold textT at hpt
   rw[←hjq] at hpt
   simp only at hpt
   have hne:((j:Int)==(s.length:Int))=false:=by simp; omega
   unfold tX
   refine w_go 4000 ?_
   simp[hjl,hcj,hne,hj1]
   refine goc (fun g3=>?_) (fun g3=>?_)
   ·simp
    rw[if_pos (by simp at g3; omega)] at hpt
    rw[hO.bad hd g h35 (hpt)] at hR
    have hR:E.Rt=RtOk E.n0 id E.G0.used [.tmp 2,.tmp 3] [] (.tup [.nils,.int .i64 2]) []:=hR
    rw[hR]; exact rt_end (by simp<;>rfl) [] trivial (end_pure (by simp) (by simp) (by simp))
   ·rw[if_neg (by simp at g3; omega)] at hpt
    simp[toB,zTk]
    refine⟨⟨by omega,by omega⟩,?_⟩
    refine goc (fun gm=>?_) (fun gm=>?_)
    ·simp
     rw[hO.many hd g h35 hpt (by simp at gm; omega)] at hR
     have hR:E.Rt=RtOk E.n0 id E.G0.used [.tmp 2,.tmp 3] [] (.tup [.nils,.int .i64 2]) []:=hR
     rw[hR]; exact rt_end (by simp<;>rfl) [] trivial (end_pure (by simp) (by simp) (by simp))
    ·simp
     refine hp _ (acc++[⟨3,tx,0⟩],(j+1)) (hO.next hd g h35 hpt (by omega) (by simp at gm; omega)) (by simp; omega) ?_
     unfold tS
     have hrn:rnOk [(E.n0,E.n0+26626)]:=by simp[toB,eTk]
     refine Conv.sub [(E.n0,E.n0+26626)] hrn ?_ ?_ ?_ ?_ ?_<;>(try simp[toB,eTk])
     all_goals exact renL_pure rfl (pureL_append (pure_tks acc) (pure_tks [⟨3,tx,0⟩]))
  unfold tX
  refine w_go 4000 ?_
  simp[hjl,hcj]
  refine goc_true (by simp only[bne,d34]; simpa using h34) ?_
  simp[hj1,hone]
  refine⟨⟨⟨by omega,by omega⟩,by omega⟩,?_⟩
  by_cases h10:d=10
  ·subst h10
   have hjq:none=pTq false [] (s.drop (i+1)):=hjq
   unfold textT at hpt
   rw[←hjq] at hpt
   refine goc_true (by rfl) ?_
   simp
   rw[hO.bad hd g h35 (hpt)] at hR
   have hR:E.Rt=RtOk E.n0 id E.G0.used [.tmp 2,.tmp 3] [] (.tup [.nils,.int .i64 1]) []:=hR
   rw[hR]; exact rt_end (by simp<;>rfl) [] trivial (end_pure (by simp) (by simp) (by simp))
  refine goc_false (by simpa using h10) ?_
  simp
  by_cases h92:d=92
  rotate_left
  ·refine goc_false (by simpa using h92) ?_
   have hjq:pTq false (tx++[d]) (s.drop (j+1))=pTq false [] (s.drop (i+1)):=by
    rw[←hjq]
    conv=>rhs; unfold pTq
    rw[if_neg h10,if_neg h34,if_neg h92]
   simp[hj1]
   refine⟨by omega,?_⟩
   refine hp2 _ (tx++[d],j+1) ⟨⟨by simp only; omega,by simp only; omega⟩,by simp; omega,hjq⟩ (by simp only; omega) ?_
   unfold tX
   have hrn:rnOk [(E.n0,E.n0),(E.n0+1,E.n0+1)]:=by simp[toB,zTk]
   refine Conv.sub [(E.n0,E.n0),(E.n0+1,E.n0+1)] hrn ?_ ?_ ?_ ?_ ?_<;>(try simp[toB,zTk])
  subst h92
  have hjq:pTq true tx (s.drop (j+1))=pTq false [] (s.drop (i+1)):=hjq
  refine goc_true (by rfl) ?_
  simp[hj1]
  rcases Nat.lt_or_ge (j+1) s.length with hj2|hj2
  rotate_left
  ·have hje:(j:Int)+1=(s.length:Int):=by omega
   rw[List.drop_of_length_le hj2] at hjq
   have hjq:none=pTq false [] (s.drop (i+1)):=hjq
   unfold textT at hpt
   rw[←hjq] at hpt
   refine goc_true (by simpa using hje) ?_
   simp
   rw[hO.bad hd g h35 (hpt)] at hR
   have hR:E.Rt=RtOk E.n0 id E.G0.used [.tmp 2,.tmp 3] [] (.tup [.nils,.int .i64 1]) []:=hR
   rw[hR]; exact rt_end (by simp<;>rfl) [] trivial (end_pure (by simp) (by simp) (by simp))
  have hje:¬(j:Int)+1=(s.length:Int):=by omega
  obtain⟨e,hej,hed⟩:=drop_cons hj2
  have hce:s[j+1]=e:=by
   rw[List.getElem?_eq_getElem hj2] at hej
   injection hej
  have e34:((e.toNat:Int)==34)=(e==34):=u8i e 34 (by decide)
  have e92:((e.toNat:Int)==92)=(e==92):=u8i e 92 (by decide)
  have e110:((e.toNat:Int)==110)=(e==110):=u8i e 110 (by decide)
  have hone2:(s.take (j+1+1)).drop (j+1)=[e]:=by
   rw[List.take_succ,hej,List.drop_append_of_le_length (by simp; omega),List.drop_of_length_le (by simp; omega)]; rfl
  have hj3:IntKind.i64.wrap ((j:Int)+1+1)=(j:Int)+2:=by rw[wrap64 (by omega)]; omega
  have hn1:((j:Int)+1).toNat=j+1:=by omega
  have hn2:((j:Int)+2).toNat=j+1+1:=by omega
  rw[hed] at hjq
  refine goc_false (by simpa using hje) ?_
  simp[hn1,hj2,hce]
  refine⟨by omega,?_⟩
  by_cases k34:e=34
  ·subst k34
   have hjq:pTq false (tx++[34]) (s.drop (j+1+1))=pTq false [] (s.drop (i+1)):=hjq
   refine goc_true (by rfl) ?_
   simp[hj3,hn1,hn2,hone2]
   refine⟨by omega,by omega,?_⟩
   refine hp2 _ (tx++[34],j+2) ⟨⟨by simp only; omega,by simp only; omega⟩,by simp; omega,hjq⟩ (by simp only; omega) ?_
   unfold tX
   have hrn:rnOk [(E.n0,E.n0),(E.n0+1,E.n0+1)]:=by simp[toB,zTk]
   refine Conv.sub [(E.n0,E.n0),(E.n0+1,E.n0+1)] hrn ?_ ?_ ?_ ?_ ?_<;>(try simp[toB,zTk])
  refine goc_false (by rw[e34]; simpa using k34) ?_
  simp
  by_cases k92:e=92
  ·subst k92
   have hjq:pTq false (tx++[92]) (s.drop (j+1+1))=pTq false [] (s.drop (i+1)):=hjq
   refine goc_true (by rfl) ?_
   simp[hj3,hn1,hn2,hone2]
   refine⟨by omega,by omega,?_⟩
   refine hp2 _ (tx++[92],j+2) ⟨⟨by simp only; omega,by simp only; omega⟩,by simp; omega,hjq⟩ (by simp only; omega) ?_
   unfold tX
   have hrn:rnOk [(E.n0,E.n0),(E.n0+1,E.n0+1)]:=by simp[toB,zTk]
   refine Conv.sub [(E.n0,E.n0),(E.n0+1,E.n0+1)] hrn ?_ ?_ ?_ ?_ ?_<;>(try simp[toB,zTk])
  refine goc_false (by rw[e92]; simpa using k92) ?_
  simp
  by_cases k110:e=110
  ·subst k110
   have hjq:pTq false (tx++[10]) (s.drop (j+1+1))=pTq false [] (s.drop (i+1)):=hjq
   refine goc_true (by rfl) ?_
   simp[hj3,hn1,hn2,hone2]
   refine⟨by omega,?_⟩
   refine hp2 _ (tx++[10],j+2) ⟨⟨by simp only; omega,by simp only; omega⟩,by simp; omega,hjq⟩ (by simp only; omega) ?_
   unfold tX
   have hrn:rnOk [(E.n0,E.n0),(E.n0+1,E.n0+1)]:=by simp[toB,zTk]
   refine Conv.sub [(E.n0,E.n0),(E.n0+1,E.n0+1)] hrn ?_ ?_ ?_ ?_ ?_<;>(try simp[toB,zTk])
  refine goc_false (by rw[e110]; simpa using k110) ?_
  simp
  have hjq:none=pTq false [] (s.drop (i+1)):=by
   rw[←hjq]
   unfold pTq
   rw[if_neg (by simp[k34,k92]),if_neg k110]
  unfold textT at hpt
  rw[←hjq] at hpt
  rw[hO.bad hd g h35 (hpt)] at hR
  have hR:E.Rt=RtOk E.n0 id E.G0.used [.tmp 2,.tmp 3] [] (.tup [.nils,.int .i64 1]) []:=hR
  rw[hR]; exact rt_end (by simp<;>rfl) [] trivial (end_pure (by simp) (by simp) (by simp))
 have h34:c≠34:=by simpa using gq
 have hone:(s.take (i+1)).drop i=[c]:=by
  rw[List.take_succ,hc,List.drop_append_of_le_length (by simp; omega),List.drop_of_length_le (by simp; omega)]; rfl
 have hpt:=pTok_sign (r:=s.drop (i+1)) hlt0 hnd h34
 simp[hi1,hone]
 refine⟨⟨⟨by omega,by omega⟩,by omega⟩,?_⟩
 have hS:=fun id=>rSign_ok [c] id
 rw[show (decide ([c].length=1)&&[c].all sgC)=sgC c from by simp] at hS
 (refine w_call hP rfl (hS _) (by simp[hi1,hone]) (by simp[hi1,hone]<;>rfl) ?_; refine w_go 4000 ?_; simp[hi1,hone])
 refine goc (fun g3=>?_) (fun g3=>?_)
 ·rw[if_pos g3] at hpt
  simp[hi1,hone,toB,zTk]
  refine⟨⟨⟨by omega,by omega⟩,by omega⟩,?_⟩
  refine⟨⟨by omega,by omega⟩,?_⟩
  refine goc (fun gm=>?_) (fun gm=>?_)
  ·simp
   rw[hO.many hd g h35 hpt (by simp at gm; omega)] at hR
   have hR:E.Rt=RtOk E.n0 id E.G0.used [.tmp 2,.tmp 3] [] (.tup [.nils,.int .i64 2]) []:=hR
   rw[hR]; exact rt_end (by simp<;>rfl) [] trivial (end_pure (by simp) (by simp) (by simp))
  ·simp
   refine hp _ (acc++[⟨4,[c],0⟩],(i+1)) (hO.next hd g h35 hpt (by omega) (by simp at gm; omega)) (by simp; omega) ?_
   unfold tS
   have hrn:rnOk [(E.n0,E.n0+65537)]:=by simp[toB,eTk]
   refine Conv.sub [(E.n0,E.n0+65537)] hrn ?_ ?_ ?_ ?_ ?_<;>(try simp[toB,eTk])
   all_goals exact renL_pure rfl (pureL_append (pure_tks acc) (pure_tks [⟨4,[c],0⟩]))
 ·rw[if_neg (by simp[g3])] at hpt
  simp
  rw[hO.bad hd g h35 (hpt)] at hR
  have hR:E.Rt=RtOk E.n0 id E.G0.used [.tmp 2,.tmp 3] [] (.tup [.nils,.int .i64 1]) []:=hR
  rw[hR]; exact rt_end (by simp<;>rfl) [] trivial (end_pure (by simp) (by simp) (by simp))
end Go.Am
