/- Parts of the proof: an abstract machine for Go functions, and what functions of the program give back (St7, Vq7, Vq8, Qz4, Qw2, Am57, CcRp, Lk1, Rp1). No condition. -/
import Derived.Test.YtgfmjhmjnnpcgaaGreatDoorXN
import Derived.Test.YtgfmjhmjnnpcgaaGreatDoorXH
import Derived.Test.YtgfmjhmjnnpcgaaGreatDoorXF
import Derived.Test.YtgfmjhmjnnpcgaaGreatDoorXL
import Derived.Test.YtgfmjhmjnnpcgaaGreatDoorXM
import Derived.KernelRfl
import Derived.Test.YtgfmjhmjnnpcgaaGreatDoorXK
import Derived.Test.YtgfmjhmjnnpcgaaGreatDoorXE
import Derived.Test.YtgfmjhmjnnpcgaaGreatDoorProg
import Derived.Conc.MuLone
import Derived.Laws.LoneSync
namespace Go.Am
set_option linter.all false
open Go Go.RowKit Go.Proofs
set_option maxRecDepth 100000
set_option linter.all false
def tS(E:Env)(s:List UInt8)(acc:List Tk)(j:Nat):St :=
 ⟨[(0,true,.str s),(4,true,.bsl E.n0 0 acc.length),(5,true,.int .i64 j)],[(E.n0,some (toB acc))],1⟩
def tW(E:Env)(s:List UInt8)(acc:List Tk)(i j:Nat):St :=
 ⟨[(0,true,.str s),(4,true,.bsl E.n0 0 acc.length),(5,true,.int .i64 j),(7,true,.ptr (E.n0+1) 0 0),(8,true,.int .i64 i)],[(E.n0,some (toB acc)),(E.n0+1,some ⟨[zTk],zTk,false,false⟩)],2⟩
def tX(E:Env)(s:List UInt8)(acc:List Tk)(tx:List UInt8)(j:Nat):St :=
 ⟨[(0,true,.str s),(4,true,.bsl E.n0 0 acc.length),(5,true,.int .i64 j),(7,true,.ptr (E.n0+1) 0 0),(11,true,.str tx)],[(E.n0,some (toB acc)),(E.n0+1,some ⟨[zTk],zTk,false,false⟩)],2⟩
set_option maxHeartbeats 16000000 in
theorem rToks_ok(s:List UInt8)(id:Nat):FnOk Tryz.prog 17 [.str s] [] id (lexV (fLex s)) []:=by
 refine fn_okc Tryz.func17 hcc17 (by decide) hcr17 (by simp[Tryz.ntmps17]) fun E hP hR hl hid=>?_
 simp only[cr17] at hR
 refine w_go 4000 ?_
 simp[cc17]
 refine goc (fun g=>?_) (fun g=>?_)<;>simp
 ·rw[show fLex s = .error 2 from by unfold fLex; rw[if_pos (by simp at g; omega)]] at hR
  have hR:E.Rt=RtOk E.n0 id E.G0.used [.tmp 2,.tmp 3] [] (.tup [.nils,.int .i64 2]) []:=hR
  rw[hR]; exact rt_end (by simp<;>rfl) [] trivial (end_pure (by simp) (by simp) (by simp))
 have h20:¬2000<s.length:=by simp at g; omega
 have h8:s.length≤1099511627776:=by omega
 rw[show fLex s=fAll s from by unfold fLex; rw[if_neg h20]] at hR
 refine w_loop (X:=List Tk×Nat) (fun q=>tS E s q.1 q.2) (TOk s) (fun q=>s.length - q.2) ([],0) ?_ (TOk.zero s) ?_
 ·refine Conv.trans (Conv.voidSlot 4 (x:=.nils) (by simp) .nils zTk) ?_
  unfold tS
  have hrn:rnOk [(E.n0,E.n0+7168)]:=by simp[toB,zTk]
  refine Conv.sub [(E.n0,E.n0+7168)] hrn ?_ ?_ ?_ ?_ ?_<;>(try simp[toB,zTk])
 rintro⟨acc,i⟩ hO p hp
 have hi:=hO.1
 have hac:=hO.2.1
 simp only at hi hac
 have hi1:IntKind.i64.wrap ((i:Int)+1)=(i:Int)+1:=wrap64 (by omega)
 rcases Nat.lt_or_ge i s.length with hlt|hge
 rotate_left
 ·rw[hO.fin hge] at hR
  have hR:E.Rt=RtOk E.n0 id E.G0.used [.tmp 2,.tmp 3] [] (.tup [.sl (acc.map eTk),.int .i64 0]) []:=hR
  unfold tS
  refine w_go 4000 ?_
  simp[toB,Nat.not_lt.2 hge]
  have hrn:rnOk []:=by simp[toB,idO hid]
  rw[hR]
  refine rt_endR (by simp<;>rfl) (by simp[toB,idO hid]<;>exact⟨rfl,rfl⟩) [] hrn ⟨?_,?_,?_,?_,?_,?_⟩<;>(try simp[toB,idO hid])
 obtain⟨c,hc,hd⟩:=drop_cons hlt
 have hci:s[i]=c:=by
  rw[List.getElem?_eq_getElem hlt] at hc
  injection hc
 have b9:((c.toNat:Int)==9)=(c==9):=u8i c 9 (by decide)
 have b10:((c.toNat:Int)==10)=(c==10):=u8i c 10 (by decide)
 have b13:((c.toNat:Int)==13)=(c==13):=u8i c 13 (by decide)
 have b32:((c.toNat:Int)==32)=(c==32):=u8i c 32 (by decide)
 have b44:((c.toNat:Int)==44)=(c==44):=u8i c 44 (by decide)
 have b35:((c.toNat:Int)==35)=(c==35):=u8i c 35 (by decide)
 have b45:((c.toNat:Int)==45)=(c==45):=u8i c 45 (by decide)
 have b34:((c.toNat:Int)==34)=(c==34):=u8i c 34 (by decide)
 have hbl:blC c=(c==32||c==9||c==10||c==13||c==44):=by
  unfold blC
  cases c==9<;>cases c==10<;>cases c==13<;>cases c==32<;>cases c==44<;>rfl
 unfold tS
 refine w_go 4000 ?_
 simp[hlt,hci,b9,b10,b13,b32,b44]
 refine goc (fun g=>?_) (fun g=>?_)
 ·simp[hi1]
  refine hp _ (acc,i+1) (hO.blank hd (by rw[hbl]; exact g)) (by simp; omega) ?_
  unfold tS
  have hrn:rnOk [(E.n0,E.n0)]:=by simp[toB,zTk]
  refine Conv.sub [(E.n0,E.n0)] hrn ?_ ?_ ?_ ?_ ?_<;>(try simp[toB,zTk])
 rw[←hbl] at g
 simp[b35]
 refine goc (fun g2=>?_) (fun g2=>?_)
 ·have g2:c=35:=by simpa using g2
  subst g2
  have hrem:=hO.rem hd
  have h1:=at2_le noNl hi
  have hrem1:at2 noNl s (i+1)=at2 noNl s i:=at2_step hc (by decide)
  have h2:=at2_le noNl (show i+1≤s.length by omega)
  simp
  refine w_loop (X:=Nat) (fun j=>tS E s acc j) (fun j=>j≤s.length∧at2 noNl s j=at2 noNl s i) (fun j=>s.length - j) i ?_ ⟨hi,rfl⟩ ?_
  ·unfold tS
   have hrn:rnOk [(E.n0,E.n0)]:=by simp[toB,zTk]
   refine Conv.sub [(E.n0,E.n0)] hrn ?_ ?_ ?_ ?_ ?_<;>(try simp[toB,zTk])
  rintro j ⟨hj,hja⟩ p2 hp2
  have hj1:IntKind.i64.wrap ((j:Int)+1)=(j:Int)+1:=wrap64 (by omega)
  rcases Nat.lt_or_ge j s.length with hjl|hjl
  rotate_left
  ·have hje:=at2_end (p:=noNl) hjl
   have hg:s[j]?=none:=List.getElem?_eq_none_iff.2 hjl
   unfold tS
   refine w_go 4000 ?_
   simp[Nat.not_lt.2 hjl,hg]
   have hji:at2 noNl s i=j:=by omega
   rw[hji] at hrem
   refine hp _ (acc,j) hrem (by simp; omega) ?_
   unfold tS
   have hrn:rnOk [(E.n0,E.n0)]:=by simp[toB,zTk]
   refine Conv.sub [(E.n0,E.n0)] hrn ?_ ?_ ?_ ?_ ?_<;>(try simp[toB,zTk])
  obtain⟨d,hdj,hdd⟩:=drop_cons hjl
  have hcj:s[j]=d:=by
   rw[List.getElem?_eq_getElem hjl] at hdj
   injection hdj
  have d10:((d.toNat:Int)==10)=(d==10):=u8i d 10 (by decide)
  unfold tS
  refine w_go 4000 ?_
  simp[hjl,hcj]
  refine goc (fun g3=>?_) (fun g3=>?_)
  ·have g3:noNl d=true:=by
    unfold noNl
    simp only[bne,d10] at g3 ⊢
    exact g3
   simp[hj1]
   refine hp2 _ (j+1) ⟨hjl,by rw[at2_step hdj g3]; exact hja⟩ (by omega) ?_
   unfold tS
   have hrn:rnOk [(E.n0,E.n0)]:=by simp[toB,zTk]
   refine Conv.sub [(E.n0,E.n0)] hrn ?_ ?_ ?_ ?_ ?_<;>(try simp[toB,zTk])
  ·have g3:noNl d=false:=by
    unfold noNl
    simp only[bne,d10] at g3 ⊢
    exact g3
   have hji:at2 noNl s i=j:=by rw[←hja]; exact at2_stop hdj g3
   rw[hji] at hrem
   simp
   refine hp _ (acc,j) hrem (by simp; omega) ?_
   unfold tS
   have hrn:rnOk [(E.n0,E.n0)]:=by simp[toB,zTk]
   refine Conv.sub [(E.n0,E.n0)] hrn ?_ ?_ ?_ ?_ ?_<;>(try simp[toB,zTk])
 have h35:c≠35:=by simpa using g2
 simp
 (refine w_call hP rfl (rLetter_ok c _) (by simp[b45,b34]) (by simp[b45,b34]<;>rfl) ?_; refine w_go 4000 ?_; simp[b45,b34])
 refine goc (fun gl=>?_) (fun gl=>?_)
 ·have han:anC c=true:=by unfold anC; rw[gl]; rfl
  have hpt:=pTok_word hd gl
  have hle:=at2_le anC hi
  have hlo:i+1≤at2 anC s i:=by rw[←at2_step hc han]; exact (at2_le anC hlt).1
  have hsl:=at2_slice anC (Nat.le_refl i) hi
  rw[show (s.take i).drop i=[] from List.drop_of_length_le (by simp; omega),List.nil_append] at hsl
  simp
  refine w_loop (X:=Nat) (fun j=>tW E s acc i j) (fun j=>(i≤j∧j≤s.length)∧at2 anC s j=at2 anC s i) (fun j=>s.length - j) i ?_ ⟨⟨Nat.le_refl i,hi⟩,rfl⟩ ?_
  ·unfold tW
   have hrn:rnOk [(E.n0,E.n0),(E.n0+1,E.n0+28673)]:=by simp[toB,zTk]
   refine Conv.sub [(E.n0,E.n0),(E.n0+1,E.n0+28673)] hrn ?_ ?_ ?_ ?_ ?_<;>(try simp[toB,zTk])
  rintro j ⟨⟨hij,hj⟩,hja⟩ p2 hp2
  have hj1:IntKind.i64.wrap ((j:Int)+1)=(j:Int)+1:=wrap64 (by omega)
  rcases Nat.lt_or_ge j s.length with hjl|hjl
  rotate_left
  ·have hje:=at2_end (p:=anC) hjl
   have hg:s[j]?=none:=List.getElem?_eq_none_iff.2 hjl
   have hji:at2 anC s i=j:=by omega
   rw[hji] at hpt hsl hlo
   unfold tW
   refine w_go 4000 ?_
   simp[Nat.not_lt.2 hjl,hg]
   (refine w_callg hP (by simp[hg]) rfl (fun hc=>⟨rLetter_ok 0 _,by revert hc; simp[hg]; try grind,by simp[hg]⟩) ?_; refine w_go 4000 ?_; simp[hg])
   (refine w_callg hP (by simp[hg,hsl,zTk]) rfl (fun hc=>⟨rDigit_ok 0 _,by revert hc; simp[hg,hsl,zTk]; try grind,by simp[hg,hsl,zTk]⟩) ?_; refine w_go 4000 ?_; simp[hg,hsl,zTk])
   refine⟨by omega,?_⟩
   refine goc (fun g3=>?_) (fun g3=>?_)
   ·simp
    rw[if_pos (by simp at g3; omega)] at hpt
    rw[hO.bad hd g h35 (hpt)] at hR
    have hR:E.Rt=RtOk E.n0 id E.G0.used [.tmp 2,.tmp 3] [] (.tup [.nils,.int .i64 2]) []:=hR
    rw[hR]; exact rt_end (by simp<;>rfl) [] trivial (end_pure (by simp) (by simp) (by simp))
   ·rw[if_neg (by simp at g3; omega)] at hpt
    simp[toB]
    refine⟨⟨by omega,by omega⟩,?_⟩
    refine goc (fun gm=>?_) (fun gm=>?_)
    ·simp
     rw[hO.many hd g h35 hpt (by simp at gm; omega)] at hR
     have hR:E.Rt=RtOk E.n0 id E.G0.used [.tmp 2,.tmp 3] [] (.tup [.nils,.int .i64 2]) []:=hR
     rw[hR]; exact rt_end (by simp<;>rfl) [] trivial (end_pure (by simp) (by simp) (by simp))
    ·simp
     refine hp _ (acc++[⟨1,(s.drop i).takeWhile anC,0⟩],j) (hO.next hd g h35 hpt (by omega) (by simp at gm; omega)) (by simp; omega) ?_
     unfold tS
     have hrn:rnOk [(E.n0,E.n0+29698)]:=by simp[toB,eTk]
     refine Conv.sub [(E.n0,E.n0+29698)] hrn ?_ ?_ ?_ ?_ ?_<;>(try simp[toB,eTk])
     all_goals exact renL_pure rfl (pureL_append (pure_tks acc) (pure_tks [⟨1,(s.drop i).takeWhile anC,0⟩]))
  obtain⟨d,hdj,hdd⟩:=drop_cons hjl
  have hcj:s[j]=d:=by
   rw[List.getElem?_eq_getElem hjl] at hdj
   injection hdj
  unfold tW
  refine w_go 4000 ?_
  simp[hjl,hcj]
  (refine w_callg hP (by simp[hjl,hcj]) rfl (fun hc=>⟨rLetter_ok d _,by revert hc; simp[hjl,hcj]; try grind,by simp[hjl,hcj]⟩) ?_; refine w_go 4000 ?_; simp[hjl,hcj])
  (refine w_callg hP (by simp[hjl,hcj]) rfl (fun hc=>⟨rDigit_ok d _,by revert hc; simp[hjl,hcj]; try grind,by simp[hjl,hcj]⟩) ?_; refine w_go 4000 ?_; simp[hjl,hcj])
  refine goc (fun g4=>?_) (fun g4=>?_)
  ·simp[hj1]
   refine hp2 _ (j+1) ⟨⟨by omega,hjl⟩,by rw[at2_step hdj (p:=anC) g4]; exact hja⟩ (by omega) ?_
   unfold tW
   have hrn:rnOk [(E.n0,E.n0),(E.n0+1,E.n0+1)]:=by simp[toB,zTk]
   refine Conv.sub [(E.n0,E.n0),(E.n0+1,E.n0+1)] hrn ?_ ?_ ?_ ?_ ?_<;>(try simp[toB,zTk])
  ·have hji:at2 anC s i=j:=by rw[←hja]; exact at2_stop hdj g4
   rw[hji] at hpt hsl hlo
   simp[hsl,zTk]
   refine⟨by omega,?_⟩
   refine goc (fun g3=>?_) (fun g3=>?_)
   ·simp
    rw[if_pos (by simp at g3; omega)] at hpt
    rw[hO.bad hd g h35 (hpt)] at hR
    have hR:E.Rt=RtOk E.n0 id E.G0.used [.tmp 2,.tmp 3] [] (.tup [.nils,.int .i64 2]) []:=hR
    rw[hR]; exact rt_end (by simp<;>rfl) [] trivial (end_pure (by simp) (by simp) (by simp))
   ·rw[if_neg (by simp at g3; omega)] at hpt
    simp[toB]
    refine⟨⟨by omega,by omega⟩,?_⟩
    refine goc (fun gm=>?_) (fun gm=>?_)
    ·simp
     rw[hO.many hd g h35 hpt (by simp at gm; omega)] at hR
     have hR:E.Rt=RtOk E.n0 id E.G0.used [.tmp 2,.tmp 3] [] (.tup [.nils,.int .i64 2]) []:=hR
     rw[hR]; exact rt_end (by simp<;>rfl) [] trivial (end_pure (by simp) (by simp) (by simp))
    ·simp
     refine hp _ (acc++[⟨1,(s.drop i).takeWhile anC,0⟩],j) (hO.next hd g h35 hpt (by omega) (by simp at gm; omega)) (by simp; omega) ?_
     unfold tS
     have hrn:rnOk [(E.n0,E.n0+29698)]:=by simp[toB,eTk]
     refine Conv.sub [(E.n0,E.n0+29698)] hrn ?_ ?_ ?_ ?_ ?_<;>(try simp[toB,eTk])
     all_goals exact renL_pure rfl (pureL_append (pure_tks acc) (pure_tks [⟨1,(s.drop i).takeWhile anC,0⟩]))
 have hlt0:isLt c=false:=gl
 simp
 (refine w_call hP rfl (rDigit_ok c _) (by simp[b45,b34]) (by simp[b45,b34]<;>rfl) ?_; refine w_go 4000 ?_; simp[b45,b34])
 refine goc (fun gn=>?_) (fun gn=>?_)
 ·have gn2:isDg c=true∨c=45:=by simpa using gn
  have hpt:=pTok_num2 hd hlt0 gn2
  have hi1l:i+1≤s.length:=hlt
  have hlo:=(at2_le isDg hi1l).1
  simp[hi1]
  refine w_loop (X:=Nat) (fun j=>tW E s acc i j) (fun j=>(i+1≤j∧j≤s.length)∧at2 isDg s j=at2 isDg s (i+1)) (fun j=>s.length - j) (i+1) ?_ ⟨⟨Nat.le_refl _,hi1l⟩,rfl⟩ ?_
  ·unfold tW
   have hrn:rnOk [(E.n0,E.n0),(E.n0+1,E.n0+28673)]:=by simp[toB,zTk]
   refine Conv.sub [(E.n0,E.n0),(E.n0+1,E.n0+28673)] hrn ?_ ?_ ?_ ?_ ?_<;>(try simp[toB,zTk])
  rintro j ⟨⟨hij,hj⟩,hja⟩ p2 hp2
  have hj1:IntKind.i64.wrap ((j:Int)+1)=(j:Int)+1:=wrap64 (by omega)
  rcases Nat.lt_or_ge j s.length with hjl|hjl
  rotate_left
  ·have hje:=at2_end (p:=isDg) hjl
   have hg:s[j]?=none:=List.getElem?_eq_none_iff.2 hjl
   have hji:at2 isDg s (i+1)=j:=by omega
   rw[hji] at hpt hlo
   obtain⟨D,hD⟩:∃D,D=(s.take j).drop i:=⟨_,rfl⟩
   have hDl:D.length≤1099511627776:=by rw[hD]; simp; omega
   have hIO:=fun id=>intOf_ok D id hDl
   rw[←hD] at hpt
   cases hio:intOf D with
   | none =>
    rw[hio] at hpt hIO
    have hpt:pTok c (s.drop (i+1)) = .error 1:=hpt
    have hIO:∀id,FnOk Tryz.prog 42 [.str D] [] id (.tup [.int .i64 0,.bool false]) []:=hIO
    unfold tW
    refine w_go 4000 ?_
    simp[Nat.not_lt.2 hjl,hg]
    (refine w_callg hP (by simp[hg,←hD]) rfl (fun hc=>⟨rDigit_ok 0 _,by revert hc; simp[hg,←hD]; try grind,by simp[hg,←hD]⟩) ?_; refine w_go 4000 ?_; simp[hg,←hD])
    refine⟨by omega,?_⟩
    (refine w_call hP rfl (hIO _) (by simp) (by simp<;>rfl) ?_; refine w_go 4000 ?_; simp)
    rw[hO.bad hd g h35 hpt] at hR
    have hR:E.Rt=RtOk E.n0 id E.G0.used [.tmp 2,.tmp 3] [] (.tup [.nils,.int .i64 1]) []:=hR
    rw[hR]; exact rt_end (by simp<;>rfl) [] trivial (end_pure (by simp) (by simp) (by simp))
   | some n =>
    rw[hio] at hpt hIO
    have hpt:pTok c (s.drop (i+1)) = .ok (⟨2,[],n⟩,s.drop j):=hpt
    have hIO:∀id,FnOk Tryz.prog 42 [.str D] [] id (.tup [.int .i64 n,.bool true]) []:=hIO
    unfold tW
    refine w_go 4000 ?_
    simp[Nat.not_lt.2 hjl,hg]
    (refine w_callg hP (by simp[hg,←hD]) rfl (fun hc=>⟨rDigit_ok 0 _,by revert hc; simp[hg,←hD]; try grind,by simp[hg,←hD]⟩) ?_; refine w_go 4000 ?_; simp[hg,←hD])
    refine⟨by omega,?_⟩
    (refine w_call hP rfl (hIO _) (by simp[toB,zTk]) (by simp[toB,zTk]<;>rfl) ?_; refine w_go 4000 ?_; simp[toB,zTk])
    refine⟨⟨by omega,by omega⟩,?_⟩
    refine goc (fun gm=>?_) (fun gm=>?_)
    ·simp
     rw[hO.many hd g h35 hpt (by simp at gm; omega)] at hR
     have hR:E.Rt=RtOk E.n0 id E.G0.used [.tmp 2,.tmp 3] [] (.tup [.nils,.int .i64 2]) []:=hR
     rw[hR]; exact rt_end (by simp<;>rfl) [] trivial (end_pure (by simp) (by simp) (by simp))
    ·simp
     refine hp _ (acc++[⟨2,[],n⟩],j) (hO.next hd g h35 hpt (by omega) (by simp at gm; omega)) (by simp; omega) ?_
     unfold tS
     have hrn:rnOk [(E.n0,E.n0+28674)]:=by simp[toB,eTk]
     refine Conv.sub [(E.n0,E.n0+28674)] hrn ?_ ?_ ?_ ?_ ?_<;>(try simp[toB,eTk])
     all_goals exact renL_pure rfl (pureL_append (pure_tks acc) (pure_tks [⟨2,[],n⟩]))
  obtain⟨d,hdj,hdd⟩:=drop_cons hjl
  have hcj:s[j]=d:=by
   rw[List.getElem?_eq_getElem hjl] at hdj
   injection hdj
  cases g4:isDg d with
  | true =>
   have hDd:∀id,FnOk Tryz.prog 41 [.int .u8 d.toNat] [] id (.bool true) []:=fun id=>g4▸rDigit_ok d id
   unfold tW
   refine w_go 4000 ?_
   simp[hjl,hcj]
   (refine w_callg hP (by simp[hjl,hcj,hj1]) rfl (fun hc=>⟨hDd _,by revert hc; simp[hjl,hcj,hj1]; try grind,by simp[hjl,hcj,hj1]⟩) ?_; refine w_go 4000 ?_; simp[hjl,hcj,hj1])
   refine hp2 _ (j+1) ⟨⟨by omega,hjl⟩,by rw[at2_step hdj (p:=isDg) g4]; exact hja⟩ (by omega) ?_
   unfold tW
   have hrn:rnOk [(E.n0,E.n0),(E.n0+1,E.n0+1)]:=by simp[toB,zTk]
   refine Conv.sub [(E.n0,E.n0),(E.n0+1,E.n0+1)] hrn ?_ ?_ ?_ ?_ ?_<;>(try simp[toB,zTk])
  | false =>
   have hDd:∀id,FnOk Tryz.prog 41 [.int .u8 d.toNat] [] id (.bool false) []:=fun id=>g4▸rDigit_ok d id
   have hji:at2 isDg s (i+1)=j:=by rw[←hja]; exact at2_stop hdj g4
   rw[hji] at hpt hlo
   obtain⟨D,hD⟩:∃D,D=(s.take j).drop i:=⟨_,rfl⟩
   have hDl:D.length≤1099511627776:=by rw[hD]; simp; omega
   have hIO:=fun id=>intOf_ok D id hDl
   rw[←hD] at hpt
   cases hio:intOf D with
   | none =>
    rw[hio] at hpt hIO
    have hpt:pTok c (s.drop (i+1)) = .error 1:=hpt
    have hIO:∀id,FnOk Tryz.prog 42 [.str D] [] id (.tup [.int .i64 0,.bool false]) []:=hIO
    unfold tW
    refine w_go 4000 ?_
    simp[hjl,hcj]
    (refine w_callg hP (by simp[hjl,hcj,←hD]) rfl (fun hc=>⟨hDd _,by revert hc; simp[hjl,hcj,←hD]; try grind,by simp[hjl,hcj,←hD]⟩) ?_; refine w_go 4000 ?_; simp[hjl,hcj,←hD])
    refine⟨by omega,?_⟩
    (refine w_call hP rfl (hIO _) (by simp) (by simp<;>rfl) ?_; refine w_go 4000 ?_; simp)
    rw[hO.bad hd g h35 hpt] at hR
    have hR:E.Rt=RtOk E.n0 id E.G0.used [.tmp 2,.tmp 3] [] (.tup [.nils,.int .i64 1]) []:=hR
    rw[hR]; exact rt_end (by simp<;>rfl) [] trivial (end_pure (by simp) (by simp) (by simp))
   | some n =>
    rw[hio] at hpt hIO
    have hpt:pTok c (s.drop (i+1)) = .ok (⟨2,[],n⟩,s.drop j):=hpt
    have hIO:∀id,FnOk Tryz.prog 42 [.str D] [] id (.tup [.int .i64 n,.bool true]) []:=hIO
    unfold tW
    refine w_go 4000 ?_
    simp[hjl,hcj]
    (refine w_callg hP (by simp[hjl,hcj,←hD]) rfl (fun hc=>⟨hDd _,by revert hc; simp[hjl,hcj,←hD]; try grind,by simp[hjl,hcj,←hD]⟩) ?_; refine w_go 4000 ?_; simp[hjl,hcj,←hD])
    refine⟨by omega,?_⟩
    (refine w_call hP rfl (hIO _) (by simp[toB,zTk]) (by simp[toB,zTk]<;>rfl) ?_; refine w_go 4000 ?_; simp[toB,zTk])
    refine⟨⟨by omega,by omega⟩,?_⟩
    refine goc (fun gm=>?_) (fun gm=>?_)
    ·simp
     rw[hO.many hd g h35 hpt (by simp at gm; omega)] at hR
     have hR:E.Rt=RtOk E.n0 id E.G0.used [.tmp 2,.tmp 3] [] (.tup [.nils,.int .i64 2]) []:=hR
     rw[hR]; exact rt_end (by simp<;>rfl) [] trivial (end_pure (by simp) (by simp) (by simp))
    ·simp
     refine hp _ (acc++[⟨2,[],n⟩],j) (hO.next hd g h35 hpt (by omega) (by simp at gm; omega)) (by simp; omega) ?_
     unfold tS
     have hrn:rnOk [(E.n0,E.n0+28674)]:=by simp[toB,eTk]
     refine Conv.sub [(E.n0,E.n0+28674)] hrn ?_ ?_ ?_ ?_ ?_<;>(try simp[toB,eTk])
     all_goals exact renL_pure rfl (pureL_append (pure_tks acc) (pure_tks [⟨2,[],n⟩]))
 have hnd:¬(isDg c=true∨c=45):=by
  simp at gn
  rintro (e|e)
  ·rw[gn.1] at e; cases e
  ·exact gn.2 e
 simp[b34]
 refine goc (fun gq=>?_) (fun gq=>?_)
 ·have gq2:c=34:=by simpa using gq
  have hpt:=pTok_text (r:=s.drop (i+1)) gq2
  have hi1l:i+1≤s.length:=hlt
  simp[hi1]
  refine w_loop (X:=List UInt8×Nat) (fun q=>tX E s acc q.1 q.2) (fun q=>(i+1≤q.2∧q.2≤s.length)∧q.1.length≤q.2∧pTq false q.1 (s.drop q.2)=pTq false [] (s.drop (i+1))) (fun q=>s.length - q.2) ([],i+1) ?_ ⟨⟨Nat.le_refl _,hi1l⟩,by simp,rfl⟩ ?_
  ·unfold tX
   have hrn:rnOk [(E.n0,E.n0),(E.n0+1,E.n0+28673)]:=by simp[toB,zTk]
   refine Conv.sub [(E.n0,E.n0),(E.n0+1,E.n0+28673)] hrn ?_ ?_ ?_ ?_ ?_<;>(try simp[toB,zTk])
  rintro⟨tx,j⟩ ⟨⟨hij,hj⟩,htl,hjq⟩ p2 hp2
  simp only at hij hj htl hjq
  have hj1:IntKind.i64.wrap ((j:Int)+1)=(j:Int)+1:=wrap64 (by omega)
  rcases Nat.lt_or_ge j s.length with hjl|hjl
  rotate_left
  ·have hg:s[j]?=none:=List.getElem?_eq_none_iff.2 hjl
   have hje:j=s.length:=by omega
   rw[List.drop_of_length_le hjl] at hjq
   have hjq:none=pTq false [] (s.drop (i+1)):=hjq
   unfold textT at hpt
   rw[←hjq] at hpt
   rw[hO.bad hd g h35 hpt] at hR
   have hR:E.Rt=RtOk E.n0 id E.G0.used [.tmp 2,.tmp 3] [] (.tup [.nils,.int .i64 1]) []:=hR
   unfold tX
   refine w_go 4000 ?_
   simp[Nat.not_lt.2 hjl,hg,hje]
   rw[hR]; exact rt_end (by simp<;>rfl) [] trivial (end_pure (by simp) (by simp) (by simp))
  obtain⟨d,hdj,hdd⟩:=drop_cons hjl
  have hcj:s[j]=d:=by
   rw[List.getElem?_eq_getElem hjl] at hdj
   injection hdj
  have d34:((d.toNat:Int)==34)=(d==34):=u8i d 34 (by decide)
  have hone:(s.take (j+1)).drop j=[d]:=by
   rw[List.take_succ,hdj,List.drop_append_of_le_length (by simp; omega),List.drop_of_length_le (by simp; omega)]; rfl
  rw[hdd] at hjq
  by_cases h34:d=34
  ·subst h34
   have hjq:some (tx,s.drop (j+1))=pTq false [] (s.drop (i+1)):=hjq
   unfold textT at hpt
   rw[←hjq] at hpt
   simp only at hpt
   have hne:((j:Int)==(s.length:Int))=false:=by simp; omega
   unfold tX
   refine w_go 4000 ?_
   simp[hjl,hcj,hne,hj1]
   refine goc (fun g3=>?_) (fun g3=>?_)
   ·simp
    rw[if_pos (by simp at g3; omega)] at hpt
    rw[hO.bad hd g h35 (hpt)] at hR
    have hR:E.Rt=RtOk E.n0 id E.G0.used [.tmp 2,.tmp 3] [] (.tup [.nils,.int .i64 2]) []:=hR
    rw[hR]; exact rt_end (by simp<;>rfl) [] trivial (end_pure (by simp) (by simp) (by simp))
   ·rw[if_neg (by simp at g3; omega)] at hpt
    simp[toB,zTk]
    refine⟨⟨by omega,by omega⟩,?_⟩
    refine goc (fun gm=>?_) (fun gm=>?_)
    ·simp
     rw[hO.many hd g h35 hpt (by simp at gm; omega)] at hR
     have hR:E.Rt=RtOk E.n0 id E.G0.used [.tmp 2,.tmp 3] [] (.tup [.nils,.int .i64 2]) []:=hR
     rw[hR]; exact rt_end (by simp<;>rfl) [] trivial (end_pure (by simp) (by simp) (by simp))
    ·simp
     refine hp _ (acc++[⟨3,tx,0⟩],(j+1)) (hO.next hd g h35 hpt (by omega) (by simp at gm; omega)) (by simp; omega) ?_
     unfold tS
     have hrn:rnOk [(E.n0,E.n0+26626)]:=by simp[toB,eTk]
     refine Conv.sub [(E.n0,E.n0+26626)] hrn ?_ ?_ ?_ ?_ ?_<;>(try simp[toB,eTk])
     all_goals exact renL_pure rfl (pureL_append (pure_tks acc) (pure_tks [⟨3,tx,0⟩]))
  unfold tX
  refine w_go 4000 ?_
  simp[hjl,hcj]
  refine goc_true (by simp only[bne,d34]; simpa using h34) ?_
  simp[hj1,hone]
  refine⟨⟨⟨by omega,by omega⟩,by omega⟩,?_⟩
  by_cases h10:d=10
  ·subst h10
   have hjq:none=pTq false [] (s.drop (i+1)):=hjq
   unfold textT at hpt
   rw[←hjq] at hpt
   refine goc_true (by rfl) ?_
   simp
   rw[hO.bad hd g h35 (hpt)] at hR
   have hR:E.Rt=RtOk E.n0 id E.G0.used [.tmp 2,.tmp 3] [] (.tup [.nils,.int .i64 1]) []:=hR
   rw[hR]; exact rt_end (by simp<;>rfl) [] trivial (end_pure (by simp) (by simp) (by simp))
  refine goc_false (by simpa using h10) ?_
  simp
  by_cases h92:d=92
  rotate_left
  ·refine goc_false (by simpa using h92) ?_
   have hjq:pTq false (tx++[d]) (s.drop (j+1))=pTq false [] (s.drop (i+1)):=by
    rw[←hjq]
    conv=>rhs; unfold pTq
    rw[if_neg h10,if_neg h34,if_neg h92]
   simp[hj1]
   refine⟨by omega,?_⟩
   refine hp2 _ (tx++[d],j+1) ⟨⟨by simp only; omega,by simp only; omega⟩,by simp; omega,hjq⟩ (by simp only; omega) ?_
   unfold tX
   have hrn:rnOk [(E.n0,E.n0),(E.n0+1,E.n0+1)]:=by simp[toB,zTk]
   refine Conv.sub [(E.n0,E.n0),(E.n0+1,E.n0+1)] hrn ?_ ?_ ?_ ?_ ?_<;>(try simp[toB,zTk])
  subst h92
  have hjq:pTq true tx (s.drop (j+1))=pTq false [] (s.drop (i+1)):=hjq
  refine goc_true (by rfl) ?_
  simp[hj1]
  rcases Nat.lt_or_ge (j+1) s.length with hj2|hj2
  rotate_left
  ·have hje:(j:Int)+1=(s.length:Int):=by omega
   rw[List.drop_of_length_le hj2] at hjq
   have hjq:none=pTq false [] (s.drop (i+1)):=hjq
   unfold textT at hpt
   rw[←hjq] at hpt
   refine goc_true (by simpa using hje) ?_
   simp
   rw[hO.bad hd g h35 (hpt)] at hR
   have hR:E.Rt=RtOk E.n0 id E.G0.used [.tmp 2,.tmp 3] [] (.tup [.nils,.int .i64 1]) []:=hR
   rw[hR]; exact rt_end (by simp<;>rfl) [] trivial (end_pure (by simp) (by simp) (by simp))
  have hje:¬(j:Int)+1=(s.length:Int):=by omega
  obtain⟨e,hej,hed⟩:=drop_cons hj2
  have hce:s[j+1]=e:=by
   rw[List.getElem?_eq_getElem hj2] at hej
   injection hej
  have e34:((e.toNat:Int)==34)=(e==34):=u8i e 34 (by decide)
  have e92:((e.toNat:Int)==92)=(e==92):=u8i e 92 (by decide)
  have e110:((e.toNat:Int)==110)=(e==110):=u8i e 110 (by decide)
  have hone2:(s.take (j+1+1)).drop (j+1)=[e]:=by
   rw[List.take_succ,hej,List.drop_append_of_le_length (by simp; omega),List.drop_of_length_le (by simp; omega)]; rfl
  have hj3:IntKind.i64.wrap ((j:Int)+1+1)=(j:Int)+2:=by rw[wrap64 (by omega)]; omega
  have hn1:((j:Int)+1).toNat=j+1:=by omega
  have hn2:((j:Int)+2).toNat=j+1+1:=by omega
  rw[hed] at hjq
  refine goc_false (by simpa using hje) ?_
  simp[hn1,hj2,hce]
  refine⟨by omega,?_⟩
  by_cases k34:e=34
  ·subst k34
   have hjq:pTq false (tx++[34]) (s.drop (j+1+1))=pTq false [] (s.drop (i+1)):=hjq
   refine goc_true (by rfl) ?_
   simp[hj3,hn1,hn2,hone2]
   refine⟨by omega,by omega,?_⟩
   refine hp2 _ (tx++[34],j+2) ⟨⟨by simp only; omega,by simp only; omega⟩,by simp; omega,hjq⟩ (by simp only; omega) ?_
   unfold tX
   have hrn:rnOk [(E.n0,E.n0),(E.n0+1,E.n0+1)]:=by simp[toB,zTk]
   refine Conv.sub [(E.n0,E.n0),(E.n0+1,E.n0+1)] hrn ?_ ?_ ?_ ?_ ?_<;>(try simp[toB,zTk])
  refine goc_false (by rw[e34]; simpa using k34) ?_
  simp
  by_cases k92:e=92
  ·subst k92
   have hjq:pTq false (tx++[92]) (s.drop (j+1+1))=pTq false [] (s.drop (i+1)):=hjq
   refine goc_true (by rfl) ?_
   simp[hj3,hn1,hn2,hone2]
   refine⟨by omega,by omega,?_⟩
   refine hp2 _ (tx++[92],j+2) ⟨⟨by simp only; omega,by simp only; omega⟩,by simp; omega,hjq⟩ (by simp only; omega) ?_
   unfold tX
   have hrn:rnOk [(E.n0,E.n0),(E.n0+1,E.n0+1)]:=by simp[toB,zTk]
   refine Conv.sub [(E.n0,E.n0),(E.n0+1,E.n0+1)] hrn ?_ ?_ ?_ ?_ ?_<;>(try simp[toB,zTk])
  refine goc_false (by rw[e92]; simpa using k92) ?_
  simp
  by_cases k110:e=110
  ·subst k110
   have hjq:pTq false (tx++[10]) (s.drop (j+1+1))=pTq false [] (s.drop (i+1)):=hjq
   refine goc_true (by rfl) ?_
   simp[hj3,hn1,hn2,hone2]
   refine⟨by omega,?_⟩
   refine hp2 _ (tx++[10],j+2) ⟨⟨by simp only; omega,by simp only; omega⟩,by simp; omega,hjq⟩ (by simp only; omega) ?_
   unfold tX
   have hrn:rnOk [(E.n0,E.n0),(E.n0+1,E.n0+1)]:=by simp[toB,zTk]
   refine Conv.sub [(E.n0,E.n0),(E.n0+1,E.n0+1)] hrn ?_ ?_ ?_ ?_ ?_<;>(try simp[toB,zTk])
  refine goc_false (by rw[e110]; simpa using k110) ?_
  simp
  have hjq:none=pTq false [] (s.drop (i+1)):=by
   rw[←hjq]
   unfold pTq
   rw[if_neg (by simp[k34,k92]),if_neg k110]
  unfold textT at hpt
  rw[←hjq] at hpt
  rw[hO.bad hd g h35 (hpt)] at hR
  have hR:E.Rt=RtOk E.n0 id E.G0.used [.tmp 2,.tmp 3] [] (.tup [.nils,.int .i64 1]) []:=hR
  rw[hR]; exact rt_end (by simp<;>rfl) [] trivial (end_pure (by simp) (by simp) (by simp))
 have h34:c≠34:=by simpa using gq
 have hone:(s.take (i+1)).drop i=[c]:=by
  rw[List.take_succ,hc,List.drop_append_of_le_length (by simp; omega),List.drop_of_length_le (by simp; omega)]; rfl
 have hpt:=pTok_sign (r:=s.drop (i+1)) hlt0 hnd h34
 simp[hi1,hone]
 refine⟨⟨⟨by omega,by omega⟩,by omega⟩,?_⟩
 have hS:=fun id=>rSign_ok [c] id
 rw[show (decide ([c].length=1)&&[c].all sgC)=sgC c from by simp] at hS
 (refine w_call hP rfl (hS _) (by simp[hi1,hone]) (by simp[hi1,hone]<;>rfl) ?_; refine w_go 4000 ?_; simp[hi1,hone])
 refine goc (fun g3=>?_) (fun g3=>?_)
 ·rw[if_pos g3] at hpt
  simp[hi1,hone,toB,zTk]
  refine⟨⟨⟨by omega,by omega⟩,by omega⟩,?_⟩
  refine⟨⟨by omega,by omega⟩,?_⟩
  refine goc (fun gm=>?_) (fun gm=>?_)
  ·simp
   rw[hO.many hd g h35 hpt (by simp at gm; omega)] at hR
   have hR:E.Rt=RtOk E.n0 id E.G0.used [.tmp 2,.tmp 3] [] (.tup [.nils,.int .i64 2]) []:=hR
   rw[hR]; exact rt_end (by simp<;>rfl) [] trivial (end_pure (by simp) (by simp) (by simp))
  ·simp
   refine hp _ (acc++[⟨4,[c],0⟩],(i+1)) (hO.next hd g h35 hpt (by omega) (by simp at gm; omega)) (by simp; omega) ?_
   unfold tS
   have hrn:rnOk [(E.n0,E.n0+65537)]:=by simp[toB,eTk]
   refine Conv.sub [(E.n0,E.n0+65537)] hrn ?_ ?_ ?_ ?_ ?_<;>(try simp[toB,eTk])
   all_goals exact renL_pure rfl (pureL_append (pure_tks acc) (pure_tks [⟨4,[c],0⟩]))
 ·rw[if_neg (by simp[g3])] at hpt
  simp
  rw[hO.bad hd g h35 (hpt)] at hR
  have hR:E.Rt=RtOk E.n0 id E.G0.used [.tmp 2,.tmp 3] [] (.tup [.nils,.int .i64 1]) []:=hR
  rw[hR]; exact rt_end (by simp<;>rfl) [] trivial (end_pure (by simp) (by simp) (by simp))
end Go.Am
namespace Go.Am
set_option linter.all false
open Go Go.RowKit Go.Proofs
set_option maxRecDepth 100000
set_option linter.all false
theorem CalledOf_ok(s:Sel)(id:Nat):FnOk Tryz.prog 101 [eSel s] [] id (.str (called s)) []:=by
 rw[eSel_eq]
 refine fn_okc Tryz.func101 hcc101 (by decide) hcr101 (by simp[Tryz.ntmps101]) fun E hP hR hl hid=>?_
 simp only[cr101] at hR
 refine w_go 4000 ?_
 simp[cc101]
 refine goc (fun h=>?_) (fun h=>?_)<;>simp
 ·have h:¬s.alias≠[]:=by simpa using h
  rw[hR]; exact rt_end (by simp<;>rfl) [] trivial (end_pure (by simp; unfold called; rw[if_neg h]) (by simp) (by simp))
 ·have h:s.alias≠[]:=by simpa using h
  rw[hR]; exact rt_end (by simp<;>rfl) [] trivial (end_pure (by simp; unfold called; rw[if_pos h]) (by simp) (by simp))
theorem deepL_nil(m:Nat):deepL m []=0:=by cases m<;>rfl
def mostK(m d:Nat)(l:List Sel):Nat:=if l=[] then 0 else deepL m l+d
def mostV(m d:Nat)(l:List Sel)(i:Nat):Nat:=if i=0 then 0 else deepP m l i+d
def most0(i:Nat):Nat:=if i=0 then 0 else 6
theorem deepP_pos{m:Nat}{l:List Sel}{i:Nat}(h:l≠[]):1≤deepP m l i:=by
 have hl:=List.length_pos_iff.2 h
 have key:∀(q:List Sel) (a:Nat),1≤a→1≤q.foldl (fun d s=>max d (deepL m s.kids+1)) a:=by
  intro q
  induction q with
  | nil=>intro a ha; exact ha
  | cons x r ih=>intro a ha; simp only[List.foldl_cons]; exact ih _ (by omega)
 exact key _ _ (by omega)
set_option maxHeartbeats 2000000 in
theorem count_ok:∀(m d:Nat) (l:List Sel) (id:Nat),m+d=5→szL l≤1099511627776→FnOk Tryz.prog 70 [.sl (l.map eSel),.int .i64 ((d+1:Nat):Int)] [] id (.tup [.int .i64 (manyL m l),.int .i64 (mostK m d l)]) []
 | 0,d,l,id,hm,hl=>by
  obtain rfl:d=5:=by omega
  have hlen:=szL_len l
  refine fn_okc Tryz.func70 hcc70 (by decide) hcr70 (by simp[Tryz.ntmps70]) fun E hP hR hl hid=>?_
  simp only[cr70] at hR
  refine w_go 4000 ?_
  simp[cc70]
  refine w_loop (X:=Nat) (fun i=>⟨[(0,true,.sl (l.map eSel)),(1,true,.int .i64 6),(6,true,.int .i64 l.length),(7,true,.int .i64 (most0 i)),(8,true,.int .i64 i)],[],0⟩) (fun i=>i≤l.length) (fun i=>l.length - i) 0 ?_ (by omega) ?_
  ·have hrn:rnOk []:=by simp[most0]
   refine Conv.sub [] hrn ?_ ?_ ?_ ?_ ?_<;>(try simp[most0])
  ·rintro i hi p hp
   have hi1:i<l.length→IntKind.i64.wrap ((i:Int)+1)=((i+1:Nat):Int):=fun _=>wrap64 (by omega)
   by_cases hi0:i=0
   ·subst hi0
    refine w_go 4000 ?_
    simp[most0]
    refine goc (fun h=>?_) (fun h=>?_)
    ·have h:=of_decide_eq_true h
     simp
     refine hp _ 1 (by omega) (by omega) ?_
     have hrn:rnOk []:=by simp[most0,show IntKind.i64.wrap (1:Int)=1 from by decide]
     refine Conv.sub [] hrn ?_ ?_ ?_ ?_ ?_<;>(try simp[most0,show IntKind.i64.wrap (1:Int)=1 from by decide])
    ·have h:=of_decide_eq_false h
     simp
     rw[hR]; exact rt_end (by simp<;>rfl) [] trivial (end_pure (by simp; have hl:l=[]:=(by simpa using h); subst hl; simp[manyL,mostK]) (by simp) (by simp))
   ·refine w_go 4000 ?_
    simp[most0,hi0]
    refine goc (fun h=>?_) (fun h=>?_)
    ·have h:=of_decide_eq_true h
     simp
     refine hp _ (i+1) (by omega) (by omega) ?_
     have hrn:rnOk []:=by simp[most0,hi1 h]
     refine Conv.sub [] hrn ?_ ?_ ?_ ?_ ?_<;>(try simp[most0,hi1 h])
    ·have h:=of_decide_eq_false h
     simp
     have hne:l≠[]:=by rintro rfl; simp at hi; omega
     have hlp:=List.length_pos_iff.2 hne
     rw[hR]; exact rt_end (by simp<;>rfl) [] trivial (end_pure (by simp; simp[manyL,mostK,hne,deepL]; omega) (by simp) (by simp))
 | m+1,d,l,id,hm,hl=>by
  have hlen:=szL_len l
  have e6:mostV m d l 0=0:=rfl
  refine fn_okc Tryz.func70 hcc70 (by decide) hcr70 (by simp[Tryz.ntmps70]) fun E hP hR hl hid=>?_
  simp only[cr70] at hR
  refine w_go 4000 ?_
  simp[cc70]
  refine w_loop (X:=Nat) (fun i=>⟨[(0,true,.sl (l.map eSel)),(1,true,.int .i64 ((d+1:Nat):Int)),(6,true,.int .i64 (manyP m l i)),(7,true,.int .i64 (mostV m d l i)),(8,true,.int .i64 i)],[],0⟩) (fun i=>i≤l.length) (fun i=>l.length - i) 0 ?_ (by omega) ?_
  ·have hrn:rnOk []:=by simp[manyP_zero,e6]
   refine Conv.sub [] hrn ?_ ?_ ?_ ?_ ?_<;>(try simp[manyP_zero,e6])
  ·rintro i hi p hp
   refine w_go 4000 ?_
   simp
   refine goc (fun h=>?_) (fun h=>?_)
   ·have h:=of_decide_eq_true h
    obtain⟨x,hx,hdd⟩:=drop_cons h
    have hi1:IntKind.i64.wrap ((i:Int)+1)=((i+1:Nat):Int):=wrap64 (by omega)
    have hxm:x∈l:=List.mem_of_getElem? hx
    have hne:l≠[]:=by rintro rfl; simp at hxm
    have hd1:IntKind.i64.wrap ((d:Int)+1+1)=((d+1+1:Nat):Int):=by rw[wrap64 (by omega)]; omega
    have hsz:=szL_kids hxm
    have hs:=manyP_succ (m:=m) hx
    have hsd:=deepP_succ (m:=m) hx
    have hpp:=deepP_pos (m:=m) (i:=i) hne
    have hs1:IntKind.i64.wrap ((manyP m l i:Int)+manyL m x.kids)=((manyP m l (i+1):Nat):Int):=by rw[hs,wrap64 (by have:=manyP_le m l (i+1); omega)]; omega
    have ih:=count_ok m (d+1) x.kids
    simp
    by_cases hi0:i=0
    ·have e9:mostV m d l i=0:=by unfold mostV; rw[if_pos hi0]
     have e10:deepP m l i=1:=by rw[hi0,deepP_zero]; have:=List.length_pos_iff.2 hne; omega
     refine goc_true (by simp[e9]; try omega) ?_
     simp
     refine goc_false (by simp; omega) ?_
     simp[hx,eSel_eq x,hd1]
     refine⟨h,?_⟩
     (refine w_call hP rfl (ih _ (by omega) (by omega)) (by simp[hs1]) (by simp[hs1]<;>rfl) ?_; refine w_go 4000 ?_; simp[hs1])
     refine goc (fun h2=>?_) (fun h2=>?_)<;>simp
     ·have e7:mostK m (d+1) x.kids=mostV m d l (i+1):=by
       have h2:=of_decide_eq_true h2
       unfold mostV; rw[if_neg (by omega),hsd]; unfold mostK at h2 ⊢; split at h2
       ·omega
       ·rename_i hk; rw[if_neg hk]; omega
      refine hp _ (i+1) (by omega) (by omega) ?_
      have hrn:rnOk []:=by simp[hi1,e7]
      refine Conv.sub [] hrn ?_ ?_ ?_ ?_ ?_<;>(try simp[hi1,e7])
     ·have e7:d+1=mostV m d l (i+1):=by
       have h2:=of_decide_eq_false h2
       skip
       unfold mostV; rw[if_neg (by omega),hsd]; unfold mostK at h2; split at h2
       ·rename_i hk; rw[hk,deepL_nil]; omega
       ·omega
      have e7':(d:Int)+(1:Int)=(mostV m d l (i+1):Int):=by omega
      refine hp _ (i+1) (by omega) (by omega) ?_
      have hrn:rnOk []:=by simp[hi1,e7']
      refine Conv.sub [] hrn ?_ ?_ ?_ ?_ ?_<;>(try simp[hi1,e7'])
    ·have e9:mostV m d l i=deepP m l i+d:=by unfold mostV; rw[if_neg hi0]
     refine goc_false (by simp[e9]; try omega) ?_
     simp
     refine goc_false (by simp; omega) ?_
     simp[hx,eSel_eq x,hd1]
     refine⟨h,?_⟩
     (refine w_call hP rfl (ih _ (by omega) (by omega)) (by simp[hs1]) (by simp[hs1]<;>rfl) ?_; refine w_go 4000 ?_; simp[hs1])
     refine goc (fun h2=>?_) (fun h2=>?_)<;>simp
     ·have e7:mostK m (d+1) x.kids=mostV m d l (i+1):=by
       have h2:=of_decide_eq_true h2
       unfold mostV; rw[if_neg (by omega),hsd]; unfold mostK at h2 ⊢; split at h2
       ·omega
       ·rename_i hk; rw[if_neg hk]; omega
      refine hp _ (i+1) (by omega) (by omega) ?_
      have hrn:rnOk []:=by simp[hi1,e7]
      refine Conv.sub [] hrn ?_ ?_ ?_ ?_ ?_<;>(try simp[hi1,e7])
     ·have e7:mostV m d l i=mostV m d l (i+1):=by
       have h2:=of_decide_eq_false h2
       rw[e9] at h2 ⊢
       unfold mostV; rw[if_neg (by omega),hsd]; unfold mostK at h2; split at h2
       ·rename_i hk; rw[hk,deepL_nil]; omega
       ·omega
      have e7':((mostV m d l i:Nat):Int)=(mostV m d l (i+1):Int):=by omega
      refine hp _ (i+1) (by omega) (by omega) ?_
      have hrn:rnOk []:=by simp[hi1,e7']
      refine Conv.sub [] hrn ?_ ?_ ?_ ?_ ?_<;>(try simp[hi1,e7'])
   ·have h:=of_decide_eq_false h
    simp
    have e8:mostV m d l i=mostK (m+1) d l:=by
     unfold mostV mostK
     by_cases hl0:l=[]
     ·subst hl0; simp at hi; rw[if_pos hi,if_pos rfl]
     ·have:=List.length_pos_iff.2 hl0
      rw[if_neg (by omega),if_neg hl0,deepP_end (by omega)]
    rw[hR]; exact rt_end (by simp<;>rfl) [] trivial (end_pure (by simp; rw[manyP_end (by omega),e8]; exact⟨rfl,rfl⟩) (by simp) (by simp))
end Go.Am
namespace Go.Am
set_option linter.all false
open Go Go.RowKit Go.Proofs
set_option maxRecDepth 100000
set_option linter.all false
def fDup(e:Int)(b:Bool):Int:=if e≠0 then e else if b=true then 6 else 0
theorem any_take_succ{α:Type}{p:α→Bool}{l:List α}{h:Nat}{x:α}(hx:l[h]?=some x):(l.take (h+1)).any p=((l.take h).any p||p x):=by rw[take_snoc hx]; simp
theorem any_take_mono{α:Type}{p:α→Bool}{l:List α}{h k:Nat}(hk:h≤k)(ht:(l.take h).any p=true):(l.take k).any p=true:=by
 obtain⟨y,hy,hp⟩:=List.any_eq_true.1 ht
 exact List.any_eq_true.2 ⟨y,(List.take_prefix_take_left hk).subset hy,hp⟩
theorem fDup_end{α:Type}{p:α→Bool}{l:List α}{e:Int}{h k:Nat}(hk:h≤k)(hx:¬(h<k∧fDup e ((l.take h).any p)=0)):fDup e ((l.take h).any p)=fDup e ((l.take k).any p):=by
 by_cases hh:h=k
 ·rw[hh]
 have hne:fDup e ((l.take h).any p)≠0:=fun h0=>hx ⟨by omega,h0⟩
 unfold fDup at hne ⊢
 by_cases he:e≠0
 ·rw[if_pos he,if_pos he]
 ·rw[if_neg he] at hne ⊢
  rw[if_neg he]
  split at hne
  ·rename_i h1; rw[if_pos h1,if_pos (any_take_mono hk h1)]
  ·exact (hne rfl).elim
theorem fDup_zero{e:Int}{b:Bool}(h:fDup e b=0):e=0∧b=false:=by
 unfold fDup at h
 split at h
 ·rename_i h1; exact (h1 h).elim
 ·split at h
  ·simp at h
  ·rename_i h1 h2; exact⟨Classical.byContradiction h1,by simpa using h2⟩
theorem fArg1_dup(a:Ag)(ah:List Ag):fArg1 a ah=if fDup (fName a.name) (hasA ah a.name)≠0 then fDup (fName a.name) (hasA ah a.name) else fArg a:=by
 unfold fArg1 fDup
 repeat' split
 all_goals simp_all
theorem stage_len{a:Int}{n:Nat}(h:(if a≠0 then a else if 5<n then 2 else 0)=0):n≤5:=by
 split at h
 ·omega
 ·split at h
  ·omega
  ·omega
def fHd(s:Sel):Int:=if fNm s≠0 then fNm s else fArgs s.args
theorem fSel1_dup(s:Sel)(ah:List Sel):fSel1 s ah=fDup (fHd s) (ah.any fun x=>called x==called s):=by
 rw[fSel1_nm]
 unfold fDup fHd
 repeat' split
 all_goals simp_all
set_option maxHeartbeats 4000000 in
theorem checkSelects_ok:∀(n:Nat) (l:List Sel) (id:Nat),szL l<n→szL l≤1099511627776→FnOk Tryz.prog 71 [.sl (l.map eSel)] [] id (.int .i64 (fChkL l [])) []
 | 0,l,id,hn,hl=>by omega
 | n+1,l,id,hn,hl=>by
  have ih:=checkSelects_ok n
  have hlen:=szL_len l
  refine fn_okc Tryz.func71 hcc71 (by decide) hcr71 (by simp[Tryz.ntmps71]) fun E hP hR hl hid=>?_
  simp only[cr71] at hR
  refine w_go 4000 ?_
  simp[cc71]
  refine w_loop (X:=Nat) (fun i=>⟨[(0,true,.sl (l.map eSel)),(3,true,.int .i64 i)],[],0⟩) (fun i=>i≤l.length∧fChkL (l.drop i) (l.take i)=fChkL l []) (fun i=>l.length - i) 0 ?_ ⟨by omega,rfl⟩ ?_
  ·have hrn:rnOk []:=by simp
   refine Conv.sub [] hrn ?_ ?_ ?_ ?_ ?_<;>(try simp)
  ·rintro i ⟨hi,hf⟩ p hp
   refine w_go 4000 ?_
   simp
   refine goc (fun h=>?_) (fun h=>?_)
   ·have h:=of_decide_eq_true h
    obtain⟨x,hx,hd⟩:=drop_cons h
    rw[hd] at hf
    simp only[fChkL] at hf
    rw[←take_snoc hx] at hf
    have hi1:IntKind.i64.wrap ((i:Int)+1)=((i+1:Nat):Int):=wrap64 (by omega)
    have hxm:x∈l:=List.mem_of_getElem? hx
    have hsz:=szL_kids hxm
    have hsx:=szL_mem hxm
    have hse:=sz_eq x
    simp[hx,eSel_eq x]
    refine⟨h,?_⟩
    refine w_call hP rfl (CheckName_ok x.name _) (by simp) (by simp<;>rfl) ?_
    refine w_cutS (X:=Int) (fun e=>⟨[(0,true,.sl (l.map eSel)),(3,true,.int .i64 i),(4,true,.ptr E.n0 0 0),(5,true,.int .i64 e)],[(E.n0,some ⟨[.agg [.str x.alias,.str x.name,.sl (x.args.map eAg),.sl (x.kids.map eSel)]],.agg [.str [],.str [],.nils,.nils],false,false⟩)],1⟩) (fun e=>e=fNm x) (fun q hq=>?_) (fun e he=>?_)
    ·refine w_go 4000 ?_
     simp
     refine goc (fun h1=>?_) (fun h1=>?_)<;>simp
     ·simp at h1
      (refine w_call hP rfl (CheckName_ok x.alias _) (by simp) (by simp<;>rfl) ?_; refine w_go 4000 ?_; simp)
      refine hq _ (fName x.alias) (by unfold fNm; rw[if_neg (by simp[h1.1]),if_pos h1.2]) ?_
      have hrn:rnOk [(E.n0,E.n0+8192)]:=by simp
      refine Conv.sub [(E.n0,E.n0+8192)] hrn ?_ ?_ ?_ ?_ ?_<;>(try simp)
     ·simp at h1
      refine hq _ (fName x.name) (by
       unfold fNm
       split
       ·rfl
       ·rename_i h0
        have h0:fName x.name=0:=by simpa using h0
        rw[if_neg (by simp[h1 h0]),h0]) ?_
      have hrn:rnOk [(E.n0,E.n0+8192)]:=by simp
      refine Conv.sub [(E.n0,E.n0+8192)] hrn ?_ ?_ ?_ ?_ ?_<;>(try simp)
    subst he
    refine w_seq (w_cut (X:=Int) (fun e=>⟨[(0,true,.sl (l.map eSel)),(3,true,.int .i64 i),(4,true,.ptr E.n0 0 0),(5,true,.int .i64 e)],[(E.n0,some ⟨[.agg [.str x.alias,.str x.name,.sl (x.args.map eAg),.sl (x.kids.map eSel)]],.agg [.str [],.str [],.nils,.nils],false,false⟩)],1⟩) (fun e=>e=if fNm x≠0 then fNm x else if 5<x.args.length then 2 else 0) (fun q hq=>?_) (fun e he=>?_))
    ·refine w_go 4000 ?_
     simp
     refine goc (fun h1=>?_) (fun h1=>?_)<;>simp
     ·simp at h1
      refine hq _ 2 (by rw[if_neg (by simp[h1.1]),if_pos (by omega)]) ?_
      have hrn:rnOk [(E.n0,E.n0)]:=by simp
      refine Conv.sub [(E.n0,E.n0)] hrn ?_ ?_ ?_ ?_ ?_<;>(try simp)
     ·simp at h1
      refine hq _ (fNm x) (by
       split
       ·rfl
       ·rename_i h0
        have h0:fNm x=0:=by simpa using h0
        rw[if_neg (by have:=h1 h0; omega),h0]) ?_
      have hrn:rnOk [(E.n0,E.n0)]:=by simp
      refine Conv.sub [(E.n0,E.n0)] hrn ?_ ?_ ?_ ?_ ?_<;>(try simp)
    refine w_seq (w_cut (X:=Int) (fun e=>⟨[(0,true,.sl (l.map eSel)),(3,true,.int .i64 i),(4,true,.ptr E.n0 0 0),(5,true,.int .i64 e)],[(E.n0,some ⟨[.agg [.str x.alias,.str x.name,.sl (x.args.map eAg),.sl (x.kids.map eSel)]],.agg [.str [],.str [],.nils,.nils],false,false⟩)],1⟩) (fun e=>e=fHd x) (fun q hq=>?_) (fun e he=>?_))
    ·have h5:e=0→x.args.length≤5:=fun h0=>stage_len (he▸h0)
     have hhd:fHd x=if e≠0 then e else firstIx (fun k a=>fArg1 a (x.args.take k)) x.args 0:=by
      rw[he]; unfold fHd fArgs
      by_cases g1:fNm x≠0
      ·rw[if_pos g1,if_pos g1,if_pos g1]
      ·rw[if_neg g1,if_neg g1]
       split
       ·simp
       ·simp
     refine w_go 4000 ?_
     simp
     refine w_loop (X:=Nat×Int) (fun z=>⟨[(0,true,.sl (l.map eSel)),(3,true,.int .i64 i),(4,true,.ptr E.n0 0 0),(5,true,.int .i64 z.2),(6,true,.int .i64 z.1)],[(E.n0,some ⟨[.agg [.str x.alias,.str x.name,.sl (x.args.map eAg),.sl (x.kids.map eSel)]],.agg [.str [],.str [],.nils,.nils],false,false⟩)],1⟩) (fun z=>z.1≤x.args.length∧(z.2=0→x.args.length≤5)∧(if z.2≠0 then z.2 else firstIx (fun k a=>fArg1 a (x.args.take k)) (x.args.drop z.1) z.1)=fHd x) (fun z=>x.args.length - z.1) (0,e) ?_ ⟨by simp,h5,by rw[hhd]; rfl⟩ ?_
     ·have hrn:rnOk [(E.n0,E.n0)]:=by simp
      refine Conv.sub [(E.n0,E.n0)] hrn ?_ ?_ ?_ ?_ ?_<;>(try simp)
     ·rintro⟨k,e⟩ ⟨hk,h5,he⟩ q2 hq2
      simp only at hk h5 he hq2
      refine w_go 4000 ?_
      simp
      refine goc (fun h1=>?_) (fun h1=>?_)
      ·simp at h1
       obtain⟨h7,h8⟩:=h1
       subst h8
       obtain⟨a,hy,hd2⟩:=drop_cons h7
       rw[if_neg (by simp),hd2] at he
       simp only[firstIx] at he
       have hk1:IntKind.i64.wrap ((k:Int)+1)=((k+1:Nat):Int):=wrap64 (by have:=h5 rfl; omega)
       have hv:∀v,fArg1 a (x.args.take k)=v→k+1≤x.args.length∧(v=0→x.args.length≤5)∧(if v≠0 then v else firstIx (fun k a=>fArg1 a (x.args.take k)) (x.args.drop (k+1)) (k+1))=fHd x:=fun v hv=>⟨h7,fun _=>h5 rfl,by rw[←hv]; exact he⟩
       simp[hy,eAg_eq a]
       refine⟨h7,?_⟩
       refine w_call hP rfl (CheckName_ok a.name _) (by simp) (by simp<;>rfl) ?_
       refine w_cutS (X:=Int) (fun e=>⟨[(0,true,.sl (l.map eSel)),(3,true,.int .i64 i),(4,true,.ptr E.n0 0 0),(5,true,.int .i64 e),(6,true,.int .i64 k),(7,true,.ptr (E.n0+1) 0 0)],[(E.n0,some ⟨[.agg [.str x.alias,.str x.name,.sl (x.args.map eAg),.sl (x.kids.map eSel)]],.agg [.str [],.str [],.nils,.nils],false,false⟩),(E.n0+1,some ⟨[.agg [.str a.name,.bool a.isText,.str a.text,.int .i64 a.n]],.agg [.str [],.bool false,.str [],.int .i64 0],false,false⟩)],2⟩) (fun e=>e=fDup (fName a.name) (hasA (x.args.take k) a.name)) (fun q3 hq3=>?_) (fun e he=>?_)
       ·refine w_go 4000 ?_
        simp
        refine w_loop (X:=Nat) (fun h=>⟨[(0,true,.sl (l.map eSel)),(3,true,.int .i64 i),(4,true,.ptr E.n0 0 0),(5,true,.int .i64 (fDup (fName a.name) (hasA (x.args.take h) a.name))),(6,true,.int .i64 k),(7,true,.ptr (E.n0+1) 0 0),(8,true,.int .i64 h)],[(E.n0,some ⟨[.agg [.str x.alias,.str x.name,.sl (x.args.map eAg),.sl (x.kids.map eSel)]],.agg [.str [],.str [],.nils,.nils],false,false⟩),(E.n0+1,some ⟨[.agg [.str a.name,.bool a.isText,.str a.text,.int .i64 a.n]],.agg [.str [],.bool false,.str [],.int .i64 0],false,false⟩)],2⟩) (fun h=>h≤k) (fun h=>k - h) 0 ?_ (by omega) ?_
        ·have hrn:rnOk [(E.n0,E.n0),(E.n0+1,E.n0+14337)]:=by simp[fDup,hasA]
         refine Conv.sub [(E.n0,E.n0),(E.n0+1,E.n0+14337)] hrn ?_ ?_ ?_ ?_ ?_<;>(try simp[fDup,hasA])
         all_goals (by_cases h0:fName a.name=0<;>simp[h0])
        ·intro h hh q4 hq4
         refine w_go 4000 ?_
         simp
         refine goc (fun h1=>?_) (fun h1=>?_)
         ·simp at h1
          obtain⟨h1,h2⟩:=h1
          obtain⟨h3,h4⟩:=fDup_zero h2
          obtain⟨y,hy,-⟩:=drop_cons (l:=x.args) (i:=h) (by omega)
          have ha:hasA (x.args.take (h+1)) a.name=(hasA (x.args.take h) a.name||y.name==a.name):=any_take_succ hy
          have hh1:IntKind.i64.wrap ((h:Int)+1)=((h+1:Nat):Int):=wrap64 (by have:=h5 rfl; omega)
          simp[hy,eAg_eq y]
          refine⟨by omega,?_⟩
          refine goc (fun h5=>?_) (fun h5=>?_)<;>simp
          ·refine hq4 _ (h+1) (by omega) (by omega) ?_
           have e1:fDup (fName a.name) (hasA (x.args.take (h+1)) a.name)=6:=by
            rw[ha]; unfold fDup; rw[if_neg (by simp[h3]),if_pos (by simp[h5])]
           have hrn:rnOk [(E.n0,E.n0),(E.n0+1,E.n0+1)]:=by simp[hh1,e1]
           refine Conv.sub [(E.n0,E.n0),(E.n0+1,E.n0+1)] hrn ?_ ?_ ?_ ?_ ?_<;>(try simp[hh1,e1])
          ·refine hq4 _ (h+1) (by omega) (by omega) ?_
           have e1:fDup (fName a.name) (hasA (x.args.take (h+1)) a.name)=0:=by
            rw[ha]; unfold fDup; rw[if_neg (by simp[h3]),if_neg (by rw[h4,h5]; decide)]
           have hrn:rnOk [(E.n0,E.n0),(E.n0+1,E.n0+1)]:=by simp[hh1,e1,h2]
           refine Conv.sub [(E.n0,E.n0),(E.n0+1,E.n0+1)] hrn ?_ ?_ ?_ ?_ ?_<;>(try simp[hh1,e1,h2])
         ·simp at h1
          simp
          have e1:=fDup_end (p:=fun y:Ag=>y.name==a.name) (l:=x.args) (e:=fName a.name) hh (fun z=>h1 z.1 z.2)
          refine hq3 _ (fDup (fName a.name) (hasA (x.args.take h) a.name)) e1 ?_
          have hrn:rnOk [(E.n0,E.n0),(E.n0+1,E.n0+1)]:=by simp
          refine Conv.sub [(E.n0,E.n0),(E.n0+1,E.n0+1)] hrn ?_ ?_ ?_ ?_ ?_<;>(try simp)
       ·refine w_go 4000 ?_
        simp
        refine goc (fun h1=>?_) (fun h1=>?_)<;>simp
        ·refine hq2 _ (k+1,e) (hv _ (by rw[fArg1_dup,←he]; rw[if_pos (by simpa using h1)])) (by simp only; omega) ?_
         have hrn:rnOk [(E.n0,E.n0)]:=by simp[hk1]
         refine Conv.sub [(E.n0,E.n0)] hrn ?_ ?_ ?_ ?_ ?_<;>(try simp[hk1])
        have h1z:e=0:=by simpa using h1
        refine goc (fun h2=>?_) (fun h2=>?_)<;>simp
        ·refine goc_true h2 ?_
         simp
         simp at h2
         refine hq2 _ (k+1,1) (hv _ (by rw[fArg1_dup,←he,if_neg (by simp[h1z])]; unfold fArg; rw[if_pos (.inl h2)])) (by simp only; omega) ?_
         have hrn:rnOk [(E.n0,E.n0)]:=by simp[hk1]
         refine Conv.sub [(E.n0,E.n0)] hrn ?_ ?_ ?_ ?_ ?_<;>(try simp[hk1])
        refine goc (fun h3=>?_) (fun h3=>?_)<;>simp
        ·simp at h3
         refine hq2 _ (k+1,1) (hv _ (by rw[fArg1_dup,←he,if_neg (by simp[h1z])]; unfold fArg; rw[if_pos (.inr h3)])) (by simp only; omega) ?_
         have hrn:rnOk [(E.n0,E.n0)]:=by simp[hk1]
         refine Conv.sub [(E.n0,E.n0)] hrn ?_ ?_ ?_ ?_ ?_<;>(try simp[hk1])
        have g1:¬((a.isText=true∧a.n≠0)∨(a.isText=false∧a.text≠[])):=by
         rintro (g|g)
         ·simp[g.1,g.2] at h2
         ·simp[g.1,g.2] at h3
        refine goc (fun h4=>?_) (fun h4=>?_)<;>simp
        ·refine hq2 _ (k+1,2) (hv _ (by rw[fArg1_dup,←he,if_neg (by simp[h1z])]; unfold fArg; simp at h4; rw[if_neg g1,if_pos (by omega)])) (by simp only; omega) ?_
         have hrn:rnOk [(E.n0,E.n0)]:=by simp[hk1]
         refine Conv.sub [(E.n0,E.n0)] hrn ?_ ?_ ?_ ?_ ?_<;>(try simp[hk1])
        (refine w_call hP rfl (rIsInt_ok _ _) (by simp) (by simp<;>rfl) ?_; refine w_go 4000 ?_; simp)
        refine goc (fun h5=>?_) (fun h5=>?_)<;>simp
        ·refine hq2 _ (k+1,3) (hv _ (by rw[fArg1_dup,←he,if_neg (by simp[h1z])]; unfold fArg; simp at h4 h5; rw[if_neg g1,if_neg (by omega),if_pos (by omega)])) (by simp only; omega) ?_
         have hrn:rnOk [(E.n0,E.n0)]:=by simp[hk1]
         refine Conv.sub [(E.n0,E.n0)] hrn ?_ ?_ ?_ ?_ ?_<;>(try simp[hk1])
        ·refine hq2 _ (k+1,0) (hv _ (by rw[fArg1_dup,←he,if_neg (by simp[h1z])]; unfold fArg; simp at h4 h5; rw[if_neg g1,if_neg (by omega),if_neg (by omega)])) (by simp only; omega) ?_
         have hrn:rnOk [(E.n0,E.n0)]:=by simp[hk1,h1z]
         refine Conv.sub [(E.n0,E.n0)] hrn ?_ ?_ ?_ ?_ ?_<;>(try simp[hk1,h1z])
      ·simp at h1
       simp
       refine hq _ e (by
        by_cases h0:e=0
        ·rw[if_neg (by simp[h0]),List.drop_of_length_le (by have:=fun h2=>h1 h2 h0; omega)] at he
         rw[h0,←he]; rfl
        ·rw[if_pos h0] at he; exact he) ?_
       have hrn:rnOk [(E.n0,E.n0)]:=by simp
       refine Conv.sub [(E.n0,E.n0)] hrn ?_ ?_ ?_ ?_ ?_<;>(try simp)
    subst he
    rw[fSel1_dup] at hf
    refine w_seq (w_cut (X:=Int) (fun e=>⟨[(0,true,.sl (l.map eSel)),(3,true,.int .i64 i),(4,true,.ptr E.n0 0 0),(5,true,.int .i64 e)],[(E.n0,some ⟨[.agg [.str x.alias,.str x.name,.sl (x.args.map eAg),.sl (x.kids.map eSel)]],.agg [.str [],.str [],.nils,.nils],false,false⟩)],1⟩) (fun e=>e=fDup (fHd x) ((l.take i).any fun y=>called y==called x)) (fun q hq=>?_) (fun e he=>?_))
    ·refine w_go 4000 ?_
     simp
     refine w_loop (X:=Nat) (fun k=>⟨[(0,true,.sl (l.map eSel)),(3,true,.int .i64 i),(4,true,.ptr E.n0 0 0),(5,true,.int .i64 (fDup (fHd x) ((l.take k).any fun y=>called y==called x))),(9,true,.int .i64 k)],[(E.n0,some ⟨[.agg [.str x.alias,.str x.name,.sl (x.args.map eAg),.sl (x.kids.map eSel)]],.agg [.str [],.str [],.nils,.nils],false,false⟩)],1⟩) (fun k=>k≤i) (fun k=>i - k) 0 ?_ (by omega) ?_
     ·have hrn:rnOk [(E.n0,E.n0)]:=by simp[fDup]
      refine Conv.sub [(E.n0,E.n0)] hrn ?_ ?_ ?_ ?_ ?_<;>(try simp[fDup])
      all_goals (by_cases h0:fHd x=0<;>simp[h0])
     ·intro k hk q2 hq2
      refine w_go 4000 ?_
      simp
      refine goc (fun h1=>?_) (fun h1=>?_)
      ·simp at h1
       obtain⟨h1,h2⟩:=h1
       obtain⟨h3,h4⟩:=fDup_zero h2
       obtain⟨y,hy,-⟩:=drop_cons (l:=l) (i:=k) (by omega)
       have ha:=any_take_succ (p:=fun y=>called y==called x) hy
       have hk1:IntKind.i64.wrap ((k:Int)+1)=((k+1:Nat):Int):=wrap64 (by omega)
       have hc1:=CalledOf_ok y
       have hc2:=CalledOf_ok x
       rw[eSel_eq] at hc1 hc2
       simp[hy,eSel_eq y]
       refine⟨by omega,?_⟩
       (refine w_call hP rfl (hc1 _) (by simp) (by simp<;>rfl) ?_; refine w_go 4000 ?_; simp)
       (refine w_call hP rfl (hc2 _) (by simp) (by simp<;>rfl) ?_; refine w_go 4000 ?_; simp)
       refine goc (fun h5=>?_) (fun h5=>?_)<;>simp
       ·refine hq2 _ (k+1) (by omega) (by omega) ?_
        have e1:fDup (fHd x) ((l.take (k+1)).any fun y=>called y==called x)=6:=by
         rw[ha]; unfold fDup; rw[if_neg (by simp[h3]),if_pos (by simp[h5])]
        have hrn:rnOk [(E.n0,E.n0)]:=by simp[hk1,e1]
        refine Conv.sub [(E.n0,E.n0)] hrn ?_ ?_ ?_ ?_ ?_<;>(try simp[hk1,e1])
       ·refine hq2 _ (k+1) (by omega) (by omega) ?_
        have e1:fDup (fHd x) ((l.take (k+1)).any fun y=>called y==called x)=0:=by
         rw[ha]; unfold fDup; rw[if_neg (by simp[h3]),if_neg (by rw[h4,h5]; decide)]
        have hrn:rnOk [(E.n0,E.n0)]:=by simp[hk1,e1,h2]
        refine Conv.sub [(E.n0,E.n0)] hrn ?_ ?_ ?_ ?_ ?_<;>(try simp[hk1,e1,h2])
      ·simp at h1
       simp
       have e1:=fDup_end (p:=fun y=>called y==called x) (l:=l) (e:=fHd x) hk (fun hh=>h1 hh.1 hh.2)
       refine hq _ _ e1 ?_
       have hrn:rnOk [(E.n0,E.n0)]:=by simp
       refine Conv.sub [(E.n0,E.n0)] hrn ?_ ?_ ?_ ?_ ?_<;>(try simp)
    subst he
    generalize fDup (fHd x) ((l.take i).any fun y=>called y==called x)=e at hf ⊢
    refine w_go 4000 ?_
    simp
    refine goc (fun h2=>?_) (fun h2=>?_)<;>simp
    ·have h2:e=0:=by simpa using h2
     subst h2
     rw[fChkK_eq] at hf
     simp only[ne_eq,not_true_eq_false,if_false] at hf
     (refine w_call hP rfl (ih x.kids _ (by omega) (by omega)) (by simp) (by simp<;>rfl) ?_; refine w_go 4000 ?_; simp)
     refine goc (fun h5=>?_) (fun h5=>?_)<;>simp
     ·rw[if_pos (by simpa using h5)] at hf
      rw[hR]; exact rt_end (by simp<;>rfl) [] trivial (end_pure (by simp; exact hf) (by simp) (by simp))
     ·rw[if_neg (by simpa using h5)] at hf
      refine hp _ (i+1) ⟨h,hf⟩ (by omega) ?_
      have hrn:rnOk []:=by simp[hi1]
      refine Conv.sub [] hrn ?_ ?_ ?_ ?_ ?_<;>(try simp[hi1])
    ·have h2:e≠0:=by simpa using h2
     rw[if_pos h2] at hf
     refine goc_true (by simpa using h2) ?_
     simp
     rw[hR]; exact rt_end (by simp<;>rfl) [] trivial (end_pure (by simp; exact hf) (by simp) (by simp))
   ·have h:=of_decide_eq_false h
    simp
    rw[List.drop_of_length_le (by omega)] at hf
    rw[hR]; exact rt_end (by simp<;>rfl) [] trivial (end_pure (by simp; exact hf) (by simp) (by simp))
theorem count5_ok(l:List Sel)(id:Nat)(h:szL l≤1099511627776):FnOk Tryz.prog 70 [.sl (l.map eSel),.int .i64 1] [] id (.tup [.int .i64 (manyL 5 l),.int .i64 (mostK 5 0 l)]) []:=count_ok 5 0 l id rfl h
theorem CheckQuery_ok(l:List Sel)(id:Nat)(h:szL l≤1099511627776):FnOk Tryz.prog 34 [.sl (l.map eSel)] [] id (.int .i64 (fQuery l)) []:=by
 refine fn_okc Tryz.func34 hcc34 (by decide) hcr34 (by simp[Tryz.ntmps34]) fun E hP hR hl hid=>?_
 simp only[cr34] at hR
 refine w_go 4000 ?_
 simp[cc34]
 refine goc (fun h1=>?_) (fun h1=>?_)<;>simp
 ·rw[hR]; exact rt_end (by simp<;>rfl) [] trivial (end_pure (by simp; simp at h1; unfold fQuery; rw[if_pos h1]) (by simp) (by simp))
 have h1:¬l=[]:=by simpa using h1
 have hk:mostK 5 0 l=deepL 5 l:=by unfold mostK; rw[if_neg h1]; rfl
 (refine w_call hP rfl (count5_ok l _ h) (by simp[hk]) (by simp[hk]<;>rfl) ?_; refine w_go 4000 ?_; simp[hk])
 refine goc (fun h2=>?_) (fun h2=>?_)<;>simp
 ·rw[hR]; exact rt_end (by simp<;>rfl) [] trivial (end_pure (by simp; simp at h2; unfold fQuery; rw[if_neg h1,if_pos (by omega)]) (by simp) (by simp))
 ·have h2:¬(40<manyL 5 l∨5<deepL 5 l):=by simp at h2; omega
  (refine w_call hP rfl (checkSelects_ok (szL l+1) l _ (by omega) h) (by simp) (by simp<;>rfl) ?_; refine w_go 4000 ?_; simp)
  rw[hR]; exact rt_end (by simp<;>rfl) [] trivial (end_pure (by simp; unfold fQuery; rw[if_neg h1,if_neg h2]) (by simp) (by simp))
end Go.Am
namespace Go.Am
set_option linter.all false
open Go Go.RowKit Go.Proofs
set_option maxRecDepth 100000
set_option linter.all false
theorem pSome_sz{n:Nat}{t u:List Tk}{l:List Sel}(h:pSome n t=some (l,u)):szL l+u.length≤t.length:=(pSel_szs n).2.1 t l u h
theorem rQryOf_ok(s:List UInt8)(id:Nat):FnOk Tryz.prog 33 [.str s] [] id (qryV (fQry s)) []:=by
 have hT:=fun id=>rToks_ok s id
 unfold fQry
 cases hx:fLex s with
 | error e =>
  have hne:=fLex_ne hx
  rw[hx] at hT
  have hT:∀id,FnOk Tryz.prog 17 [.str s] [] id (.tup [.nils,.int .i64 e]) []:=hT
  show FnOk _ _ _ _ _ (.tup [.nils,.int .i64 e]) _
  refine fn_okc Tryz.func33 hcc33 (by decide) hcr33 (by simp[Tryz.ntmps33]) fun E hP hR hl hid=>?_
  simp only[cr33] at hR
  refine w_go 4000 ?_
  simp[cc33]
  (refine w_call hP rfl (hT _) (by simp) (by simp<;>rfl) ?_; refine w_go 4000 ?_; simp)
  refine goc_true (by simpa using hne) ?_
  simp
  rw[hR]; exact rt_end (by simp<;>rfl) [] trivial (end_pure (by simp) (by simp) (by simp))
 | ok l =>
  rw[hx] at hT
  have hT:∀id,FnOk Tryz.prog 17 [.str s] [] id (.tup [.sl (l.map eTk),.int .i64 0]) []:=hT
  have hl:=((fLex_ok s l).1 hx).2.2
  show FnOk _ _ _ _ _ (qryV (fQryT (selsOf l))) _
  have hS:=fun id=>selAt_ok (3*l.length+3) l 0 id (by simp) (by omega) (by omega)
  unfold selsOf
  rw[List.drop_zero] at hS
  cases hq:pSome (3*l.length+3) l with
  | none =>
   rw[hq] at hS
   have hS:∀id,FnOk Tryz.prog 69 [.sl (l.map eTk),.int .i64 0] [] id (.tup [.nils,.int .i64 (-1)]) []:=hS
   show FnOk _ _ _ _ _ (.tup [.nils,.int .i64 1]) _
   refine fn_okc Tryz.func33 hcc33 (by decide) hcr33 (by simp[Tryz.ntmps33]) fun E hP hR hl hid=>?_
   simp only[cr33] at hR
   refine w_go 4000 ?_
   simp[cc33]
   (refine w_call hP rfl (hT _) (by simp) (by simp<;>rfl) ?_; refine w_go 4000 ?_; simp)
   (refine w_call hP rfl (hS _) (by simp) (by simp<;>rfl) ?_; refine w_go 4000 ?_; simp)
   refine goc_true (by first|(simp; done)|(simp; omega)) ?_
   simp
   rw[hR]; exact rt_end (by simp<;>rfl) [] trivial (end_pure (by simp) (by simp) (by simp))
  | some p =>
   obtain⟨q,u⟩:=p
   rw[hq] at hS
   have hS:∀id,FnOk Tryz.prog 69 [.sl (l.map eTk),.int .i64 0] [] id (.tup [.sl (q.map eSel),.int .i64 (l.length - u.length)]) []:=hS
   have hz:=pSome_sz hq
   have hC:=fun id=>CheckQuery_ok q id (by omega)
   by_cases hu:u=[]
   ·subst hu
    show FnOk _ _ _ _ _ (qryV (fQryT (some q))) _
    unfold fQryT
    by_cases hc:fQuery q=0
    ·rw[hc] at hC
     simp only[if_pos hc]
     show FnOk _ _ _ _ _ (.tup [.sl (q.map eSel),.int .i64 0]) _
     refine fn_okc Tryz.func33 hcc33 (by decide) hcr33 (by simp[Tryz.ntmps33]) fun E hP hR hl hid=>?_
     simp only[cr33] at hR
     refine w_go 4000 ?_
     simp[cc33]
     (refine w_call hP rfl (hT _) (by simp) (by simp<;>rfl) ?_; refine w_go 4000 ?_; simp)
     (refine w_call hP rfl (hS _) (by simp) (by simp<;>rfl) ?_; refine w_go 4000 ?_; simp)
     (refine w_call hP rfl (hC _) (by simp) (by simp<;>rfl) ?_; refine w_go 4000 ?_; simp)
     rw[hR]; exact rt_end (by simp<;>rfl) [] trivial (end_pure (by simp) (by simp) (by simp))
    ·simp only[if_neg hc]
     show FnOk _ _ _ _ _ (.tup [.nils,.int .i64 (fQuery q)]) _
     refine fn_okc Tryz.func33 hcc33 (by decide) hcr33 (by simp[Tryz.ntmps33]) fun E hP hR hl hid=>?_
     simp only[cr33] at hR
     refine w_go 4000 ?_
     simp[cc33]
     (refine w_call hP rfl (hT _) (by simp) (by simp<;>rfl) ?_; refine w_go 4000 ?_; simp)
     (refine w_call hP rfl (hS _) (by simp) (by simp<;>rfl) ?_; refine w_go 4000 ?_; simp)
     (refine w_call hP rfl (hC _) (by simp) (by simp<;>rfl) ?_; refine w_go 4000 ?_; simp)
     refine goc_true (by simpa using hc) ?_
     simp
     rw[hR]; exact rt_end (by simp<;>rfl) [] trivial (end_pure (by simp) (by simp) (by simp))
   ·have hul:=List.length_pos_iff.2 hu
    simp only[if_neg hu]
    show FnOk _ _ _ _ _ (.tup [.nils,.int .i64 1]) _
    refine fn_okc Tryz.func33 hcc33 (by decide) hcr33 (by simp[Tryz.ntmps33]) fun E hP hR hl hid=>?_
    simp only[cr33] at hR
    refine w_go 4000 ?_
    simp[cc33]
    (refine w_call hP rfl (hT _) (by simp) (by simp<;>rfl) ?_; refine w_go 4000 ?_; simp)
    (refine w_call hP rfl (hS _) (by simp) (by simp<;>rfl) ?_; refine w_go 4000 ?_; simp)
    refine goc_true (by first|(simp; done)|(simp; omega)) ?_
    simp
    rw[hR]; exact rt_end (by simp<;>rfl) [] trivial (end_pure (by simp) (by simp) (by simp))
end Go.Am
namespace Go.Am
set_option linter.all false
open Go Go.RowKit Go.Proofs
set_option maxRecDepth 100000
set_option linter.all false
set_option maxHeartbeats 8000000 in
theorem same_sels:∀(n:Nat) (l:List Sel) (id:Nat),szL l<n→szL l≤1099511627776→FnOk Tryz.prog 36 [.sl (l.map eSel),.sl (l.map eSel)] [] id (.bool true) []:=by
 intro n
 induction n with
 | zero=>intro l id h; omega
 | succ n ih =>
  intro l id hn h8
  have hll:=szL_len l
  refine fn_okc Tryz.func36 hcc36 (by decide) hcr36 (by simp[Tryz.ntmps36]) fun E hP hR hl hid=>?_
  simp only[cr36] at hR
  refine w_go 4000 ?_
  simp[cc36]
  refine w_loop (X:=Nat) (fun i=>⟨[(0,true,.sl (l.map eSel)),(1,true,.sl (l.map eSel)),(5,true,.int .i64 i)],[],0⟩) (fun i=>i≤l.length) (fun i=>l.length - i) 0 ?_ (by omega) ?_
  ·have hrn:rnOk []:=by simp
   refine Conv.sub [] hrn ?_ ?_ ?_ ?_ ?_<;>(try simp)
  rintro i hi p hp
  rcases Nat.lt_or_ge i l.length with h|h
  rotate_left
  ·refine w_go 4000 ?_
   simp[Nat.not_lt.2 h]
   rw[hR]; exact rt_end (by simp<;>rfl) [] trivial (end_pure (by simp) (by simp) (by simp))
  obtain⟨s,hs,hd⟩:=drop_cons h
  have hli:l[i]=s:=by
   rw[List.getElem?_eq_getElem h] at hs
   injection hs
  have hi1:IntKind.i64.wrap ((i:Int)+1)=((i+1:Nat):Int):=wrap64 (by omega)
  have hoe:=eSel_eq s
  have hsm:=List.mem_of_getElem? hs
  have hsz:=szL_mem hsm
  have hse:=sz_eq s
  have hK:=fun id=>ih s.kids id (by omega) (by omega)
  refine w_go 4000 ?_
  simp[h,hli,hoe]
  (refine w_callg hP (by simp[h,hli,hoe]) rfl (fun hc=>⟨hK _,by revert hc; simp[h,hli,hoe]; try grind,by simp[h,hli,hoe]⟩) ?_; refine w_go 4000 ?_; simp[h,hli,hoe])
  refine w_loop (X:=Nat) (fun k=>⟨[(0,true,.sl (l.map eSel)),(1,true,.sl (l.map eSel)),(5,true,.int .i64 i),(6,true,.int .i64 k)],[],0⟩) (fun k=>k≤s.args.length) (fun k=>s.args.length - k) 0 ?_ (by omega) ?_
  ·have hrn:rnOk []:=by simp
   refine Conv.sub [] hrn ?_ ?_ ?_ ?_ ?_<;>(try simp)
  rintro k hk p2 hp2
  rcases Nat.lt_or_ge k s.args.length with h2|h2
  rotate_left
  ·refine w_go 4000 ?_
   simp[h,hli,hoe,Nat.not_lt.2 h2]
   refine hp _ (i+1) h (by omega) ?_
   have hrn:rnOk []:=by simp[hi1]
   refine Conv.sub [] hrn ?_ ?_ ?_ ?_ ?_<;>(try simp[hi1])
  obtain⟨a,ha,had⟩:=drop_cons h2
  have hla:s.args[k]=a:=by
   rw[List.getElem?_eq_getElem h2] at ha
   injection ha
  have hag:eAg a = .agg [.str a.name,.bool a.isText,.str a.text,.int .i64 a.n]:=rfl
  have hk1:IntKind.i64.wrap ((k:Int)+1)=((k+1:Nat):Int):=wrap64 (by omega)
  refine w_go 4000 ?_
  simp[h,hli,hoe,h2,hla,hag,eqAll,eqOne]
  refine hp2 _ (k+1) h2 (by omega) ?_
  have hrn:rnOk []:=by simp[hk1]
  refine Conv.sub [] hrn ?_ ?_ ?_ ?_ ?_<;>(try simp[hk1])
theorem same_selsK(l:List Sel)(id:Nat)(h:szL l≤1099511627776):FnOk Tryz.prog 36 [.sl (l.map eSel),.sl (l.map eSel)] [] id (.bool true) []:=same_sels (szL l+1) l id (by omega) h
def askW:List Sel:=[.mk [120] [65] [⟨[105,100],false,[],3⟩] [.mk [] [105,100] [] [],.mk [] [110] [] []]]
def aqW:List UInt8:=[123,32,120,58,32,65,40,105,100,58,32,51,41,32,123,32,105,100,32,110,32,125,32,125]
def apW:List UInt8:=[123,32,120,32,58,32,65,32,40,32,105,100,32,58,32,51,32,41,32,123,32,105,100,32,110,32,125,32,125]
theorem ask_raw(id:Nat):FnOk Tryz.prog 63 [] [] id (.sl [.agg [.str [120],.str [65],.sl [.agg [.str [105,100],.bool false,.str [],.int .i64 3]],.sl [.agg [.str [],.str [105,100],.nils,.nils],.agg [.str [],.str [110],.nils,.nils]]]]) []:=by
 refine fn_okc Tryz.func63 hcc63 (by decide) hcr63 (by simp[Tryz.ntmps63]) fun E hP hR hl hid=>?_
 simp only[cr63] at hR
 refine w_go 4000 ?_
 simp[cc63]
 have hrn:rnOk []:=by simp[idO hid]
 rw[hR]
 refine rt_endR (by simp<;>rfl) (by simp[idO hid]<;>exact⟨rfl,rfl⟩) [] hrn ⟨?_,?_,?_,?_,?_,?_⟩<;>(try simp[idO hid])
 all_goals exact namesL_pure _ rfl
theorem ask_ok(id:Nat):FnOk Tryz.prog 63 [] [] id (.sl (askW.map eSel)) []:=(ask_raw id).nrm
theorem fq_aqW:fQry aqW = .ok askW:=by kernel_rfl
theorem pr_askW:qPr askW=(apW,0):=by kernel_rfl
theorem chk_askW:fQuery askW=0:=by kernel_rfl
theorem fq_noW:fQry [123,32,125] = .error 1:=by kernel_rfl
theorem wri_ask:∀t∈tkSels askW,Wri t:=by
 have e:tkSels askW=[tkS 123,tkW [120],tkS 58,tkW [65],tkS 40,tkW [105,100],tkS 58,⟨2,[],3⟩,tkS 41,tkS 123,tkW [105,100],tkW [110],tkS 125,tkS 125]:=by rfl
 rw[e]
 intro t ht
 simp only[List.mem_cons,List.not_mem_nil,or_false] at ht
 rcases ht with rfl|rfl|rfl|rfl|rfl|rfl|rfl|rfl|rfl|rfl|rfl|rfl|rfl|rfl
 all_goals first|exact wri_s _|exact wri_w _|exact wri_num 3 [] (by decide)
set_option maxHeartbeats 4000000 in
theorem queryBegun_ok(id:Nat):FnOk Tryz.prog 29 [] [] id (.bool true) []:=by
 have hR:=fun id=>qRead_ok aqW id
 rw[fq_aqW] at hR
 have hRd:∀id,FnOk Tryz.prog 31 [.str aqW] [] id (.tup [.sl (askW.map eSel),.int .i64 0]) []:=hR
 have hR2:=fun id=>qRead_ok [123,32,125] id
 rw[fq_noW] at hR2
 have hR2:∀id,FnOk Tryz.prog 31 [.str [123,32,125]] [] id (.tup [.nils,.int .i64 1]) []:=hR2
 have hPr:=fun id=>qPrint_ok askW id (by decide) fun _=>wri_ask
 rw[pr_askW] at hPr
 have hC:=fun id=>qCheck_ok askW id (by decide)
 rw[chk_askW] at hC
 have hS:=fun id=>same_selsK askW id (by decide)
 have hTy:=fun id=>ask_ok id
 clear hR
 generalize htw:askW=tw at *
 unfold aqW at hRd
 refine fn_okc Tryz.func29 hcc29 (by decide) hcr29 (by simp[Tryz.ntmps29]) fun E hP hR hl hid=>?_
 simp only[cr29] at hR
 refine w_go 4000 ?_
 simp[cc29]
 (refine w_call hP rfl (hRd _) (by simp) (by simp<;>rfl) ?_; refine w_go 4000 ?_; simp)
 (refine w_call hP rfl (hTy _) (by simp) (by simp<;>rfl) ?_; refine w_go 4000 ?_; simp)
 (refine w_call hP rfl (hPr _) (by simp) (by simp<;>rfl) ?_; refine w_go 4000 ?_; simp)
 (refine w_call hP rfl (hR2 _) (by simp) (by simp<;>rfl) ?_; refine w_go 4000 ?_; simp)
 (refine w_callg hP (by simp) rfl (fun hc=>⟨hTy _,by revert hc; simp; try grind,by simp⟩) ?_; refine w_go 4000 ?_; simp)
 (refine w_callg hP (by simp) rfl (fun hc=>⟨hC _,by revert hc; simp; try grind,by simp⟩) ?_; refine w_go 4000 ?_; simp)
 (refine w_callg hP (by simp) rfl (fun hc=>⟨hTy _,by revert hc; simp; try grind,by simp⟩) ?_; refine w_go 4000 ?_; simp)
 (refine w_callg hP (by simp) rfl (fun hc=>⟨hS _,by revert hc; simp; try grind,by simp⟩) ?_; refine w_go 4000 ?_; simp)
 simp[apW]
 rw[hR]; exact rt_end (by simp<;>rfl) [] trivial (end_pure (by simp) (by simp) (by simp))
end Go.Am
namespace Go.Am
set_option linter.all false
open Go Go.RowKit
set_option linter.all false
section
variable {E:Env} {σ:St} {k:List Itm} {P:Program}
theorem w_raw(hP:E.P=P){op:COp}(hk:op.isRaw=true){dst:Option Nat}{us:List Nat}{l:List CR}{j:Nat}{acc:List RR}{ps:List (Nat×Nat)}{args:List AV}{rd:List (Nat×Bx)}{v:AV}{wr:List (Nat×Option Bx)}
  (ha:op.args.map (veF (lk σ.fr))=args) (hc:RawOk P op args rd (E.n0+(σ.k+1024*j)) v wr) (hu:uses (lk σ.fr) us) (hh:HasL (bk σ.bx) rd) (h:Wk E (.ops l (j+1) (accN ps ⟨true,v,rd,wr⟩ acc) ps::k) (σ.app dst ⟨true,v,rd,wr⟩)) :
  Wk E (.ops (⟨dst,none,us,op⟩::l) j acc ps::k) σ:=by
 subst hP ha
 refine w_op (r:=⟨true,v,rd,wr⟩) ⟨trivial,rfl,fun _=>.raw op _ hk hu ?_ hh.has,fun h=>by cases h⟩ (w_accN h)
 rw[Nat.add_assoc]; exact hc
theorem w_inv(hP:E.P=P){m:String}{x:Opd}{xs:List Opd}{dst:Option Nat}{us:List Nat}{l:List CR}{j:Nat}{acc:List RR}{ps:List (Nat×Nat)}{t f J:Nat}{rd:List (Nat×Bx)}{v:AV}{wr:List (Nat×Option Bx)}{args:List AV}
  (hx:veF (lk σ.fr) x = .iface t (.ptr J 0 0)) (hm:MethOk P t m f) (ha:xs.map (veF (lk σ.fr))=args) (hc:FnOk P f (.ptr J 0 0::args) rd (E.n0+(σ.k+1024*j)) v wr) (hJ:∃b y,(J,b)∈rd∧b.xs[0]?=some y) (hu:uses (lk σ.fr) us) (hh:HasL (bk σ.bx) rd)
  (h:Wk E (.ops l (j+1) (accN ps ⟨true,v,rd,wr⟩ acc) ps::k) (σ.app dst ⟨true,v,rd,wr⟩)) :
  Wk E (.ops (⟨dst,none,us,.inv m x xs⟩::l) j acc ps::k) σ:=by
 subst hP ha
 refine w_op (r:=⟨true,v,rd,wr⟩) ⟨trivial,rfl,fun _=>.inv m x xs t f J _ hu hx hm hJ (.inl ⟨?_,hh.has⟩),fun h=>by cases h⟩ (w_accN h)
 rw[Nat.add_assoc]; exact hc
end
theorem comp_cpy{P:Program}{op:Op}{x y:Opd}(h:comp P op=some (.cpy x y)):∃(c:Call) (X Y:Operand) (t:TypeId) (ts:List TypeId) (e:TypeId),op = .call c∧c.callee = .builtin .copy∧c.args.toList=[X,Y]∧c.argTypes.toList=t::ts∧opd X=some x∧opd Y=some y∧P.underlying t=some (.slice e)∧sizeB P e=some 1:=by
 unfold comp at h
 split at h
 all_goals try simp only[compCall,compLen,compApp,compMM,compInv] at h
 all_goals repeat' split at h
 all_goals first|cases h; done|(refine (map_ne h ?_).elim; intro a h; cases h; done)|skip
 rename_i c _ _ _ X Y t ts h1 h2 h3
 unfold compCpy at h
 split at h
 ·rename_i x' y' e q1 q2 q3
  split at h
  ·rename_i hq
   injection h with h
   injection h with e1 e2
   subst e1 e2
   exact⟨c,X,Y,t,ts,e,rfl,h1,h2,h3,q1,q2,q3,hq.2⟩
  ·cases h
 ·cases h
theorem raw_cpy{P:Program}{x y:Opd}{J off len:Nat}{b:Bx}{ys:List AV}{id:Nat}(hro:b.ro=false)(hfr:b.frz=false)(hle:ys.length≤len)(hof:off+ys.length≤b.xs.length)(h1:∀z∈ys,z.cells.length=1∧∀c∈z.cells,c.one=true)(h2:∀z∈b.xs,z.cells.length=1)(hpos:0<b.xs.length):
  RawOk P (.cpy x y) [.bsl J off len,.sl ys] [(J,b)] id (.int .i64 ys.length) [(J,some { b with xs:=b.xs.take off++ys++b.xs.drop (off+ys.length) })]:=by
 intro op hcomp C ρ G bx w ve o hρ ho ha hs hh hu hr
 obtain⟨c,X,Y,t,ts,e,rfl,hcal,hargs,hts,hX,hY,ht,hz⟩:=comp_cpy hcomp
 simp only[COp.args,List.map_cons,List.map_nil,List.cons.injEq,and_true] at ha
 have rX:RV G w (.bsl J off len) (ρ X):=by
  rw[←ha.1]; exact hr X (by simp[Op.operands,Call.operands,hargs]) x hX
 have rY:RV G w (.sl ys) (ρ Y):=by
  rw[←ha.2]; exact hr Y (by simp[Op.operands,Call.operands,hargs]) y hY
 have hb:=hh _ (List.mem_singleton.2 rfl)
 simp only at hb
 obtain⟨z0,hz0⟩:∃z0,b.xs[0]?=some z0:=⟨_,List.getElem?_eq_getElem hpos⟩
 obtain⟨blk,s,cur,el,k1,k2,k3,⟨k4,k5⟩,k6,k7⟩:=hs.box J b hb (hs.lies hb hz0)
 have hs1:s=1:=by rw[←(k6 0 z0 hz0).1]; exact h2 z0 (List.mem_of_getElem? hz0)
 subst hs1
 obtain⟨news,n1,n2,n3⟩:=src_ok hs rY (ys:=ys) rfl (s:=1) (fun z hz=>(h1 z hz).1) (fun z hz=>(h1 z hz).2) (tx:=t) (.inr ⟨fun _ h=>(by cases h),e,ht⟩)
 rw[Nat.mul_one] at n2
 cases rX with|bsl _ _ _ _ hone hu2 hbm hnl =>
 obtain⟨cp,cur',el',hv,hlc,hcm,hh2,hz2⟩:=hbm blk 1 k1
 rw[k2] at hh2
 injection hh2 with hh2
 injection hh2 with e1 e2
 subst e1 e2
 simp only[Nat.mul_one] at hv hz2 k7
 have hsz:b.xs.length≤cur.size:=by omega
 have hrun:=run_storeCells_at P blk off el news 0 cur w k2 (by omega) n1.one
 simp only[Nat.add_zero] at hrun
 have hfl:flat ys=ys.flatMap AV.cells:=rfl
 have hA:c.args = #[X,Y]:=by apply Array.ext'; simpa using hargs
 have hT:c.argTypes[0]?=some t:=by rw[←Array.getElem?_toList,hts]; rfl
 have hmin:Nat.min ys.length len=ys.length:=Nat.min_eq_left hle
 have hsO:(sizeOf e).run P w = .ok 1 w:=run_sizeOf hz
 have hexec:(execOp ρ o).run P w = .ok (.value (.int .i64 ys.length)) (w.setRow blk (cur.toList.take off++news++cur.toList.drop (off+news.length)).toArray):=by
  unfold execOp
  simp[ho,resolve,hcal,hA,invoke,builtin,Builtin.copy_,hT,run_underlying ht,hv,n1.len,hmin,hsO,n1.cells,hrun,goInt]
 have hget:∀k,(cur.toList.take off++news++cur.toList.drop (off+news.length)).toArray[k]?=if off≤k∧k<off+ys.length then news[k - off]? else cur[k]?:=fun k=>by
  rw[List.getElem?_toArray,List.append_assoc,n2]
  have hcs:(cur.toList.take off).length=off:=by rw[List.length_take,Array.length_toList]; omega
  by_cases q1:k<off
  ·rw[if_neg (by omega),List.getElem?_append_left (by omega),List.getElem?_take,if_pos q1,Array.getElem?_toList]
  ·rw[List.getElem?_append_right (by omega),hcs]
   by_cases q2:k<off+ys.length
   ·rw[if_pos ⟨by omega,q2⟩,List.getElem?_append_left (by omega)]
   ·rw[if_neg (by omega),List.getElem?_append_right (by omega),List.getElem?_drop,Array.getElem?_toList]
    congr 1; omega
 have hlenN:(b.xs.take off++ys++b.xs.drop (off+ys.length)).length=b.xs.length:=by
  simp only[List.length_append,List.length_take,List.length_drop]; omega
 have hgetX:∀k,(b.xs.take off++ys++b.xs.drop (off+ys.length))[k]?=if off≤k∧k<off+ys.length then ys[k - off]? else b.xs[k]?:=fun k=>by
  rw[List.append_assoc]
  have hcs:(b.xs.take off).length=off:=by rw[List.length_take]; omega
  by_cases q1:k<off
  ·rw[if_neg (by omega),List.getElem?_append_left (by omega),List.getElem?_take,if_pos q1]
  ·rw[List.getElem?_append_right (by omega),hcs]
   by_cases q2:k<off+ys.length
   ·rw[if_pos ⟨by omega,q2⟩,List.getElem?_append_left (by omega)]
   ·rw[if_neg (by omega),List.getElem?_append_right (by omega),List.getElem?_drop]
    congr 1; omega
 have hcells:∀(i:Nat) (z:AV),ys[i]?=some z→∃u,news[i]?=some u∧∀c,z.cells[0]?=some c→RV G w c u:=fun i z hz=>by
  have hzl:=(h1 z (List.mem_of_getElem? hz)).1
  obtain⟨c0,hc0⟩:∃c0,z.cells=[c0]:=List.length_eq_one_iff.1 hzl
  have hfg:(flat ys)[i]?=some c0:=by
   have:∀(l:List AV) (i:Nat),(∀z∈l,z.cells.length=1)→l[i]?=some z→(flat l)[i]?=some c0:=by
    intro l
    induction l with
    | nil=>intro i _ h; simp at h
    | cons a r ih =>
     intro i hl h
     obtain⟨a0,ha0⟩:=List.length_eq_one_iff.1 (hl a (List.mem_cons_self ..))
     simp only[flat,List.flatMap_cons,ha0,List.singleton_append] at ih ⊢
     cases i with
     | zero =>
      simp only[List.getElem?_cons_zero,Option.some.injEq] at h ⊢
      subst h
      rw[hc0] at ha0
      injection ha0 with ha0
      exact ha0.symm
     | succ i =>
      simp only[List.getElem?_cons_succ] at h ⊢
      exact ih i (fun z hz=>hl z (List.mem_cons_of_mem _ hz)) h
   exact this ys i (fun z hz=>(h1 z hz).1) hz
  obtain⟨u,u1,u2⟩:=n3 i c0 hfg
  refine⟨u,u1,fun c hc=>?_⟩
  rw[hc0] at hc
  injection hc with hc
  subst hc
  exact u2
 obtain⟨r1,r2⟩:=hs.setRow (cur':=(cur.toList.take off++news++cur.toList.drop (off+news.length)).toArray) hb k1 hro hfr k2 (by
  rw[List.size_toArray,List.length_append,List.length_append,List.length_take,List.length_drop,Array.length_toList]; omega) (b.xs.take off++ys++b.xs.drop (off+ys.length)) hlenN (fun k q hq=>by
  rw[hgetX] at hq
  split at hq
  ·rename_i hk
   refine⟨(h1 q (List.mem_of_getElem? hq)).1,fun j c hc=>?_⟩
   have hj:j=0:=by
    have:=(List.getElem?_eq_some_iff.1 hc).1
    rw[(h1 q (List.mem_of_getElem? hq)).1] at this
    omega
   subst hj
   obtain⟨u,u1,u2⟩:=hcells _ q hq
   refine⟨u,?_,u2 c hc⟩
   rw[Nat.mul_one,Nat.add_zero,hget,if_pos hk]
   exact u1
  ·rename_i hk
   obtain⟨g0,g1⟩:=k6 k q hq
   refine⟨g0,fun j c hc=>?_⟩
   obtain⟨u,g2,g3⟩:=g1 j c hc
   refine⟨u,?_,g3⟩
   have hj:j=0:=by
    have:=(List.getElem?_eq_some_iff.1 hc).1
    omega
   subst hj
   rw[Nat.mul_one,Nat.add_zero] at g2 ⊢
   rw[hget,if_neg hk]
   exact g2)
 exact⟨_,_,G,.int .i64 ys.length,hexec,.inl rfl,r1,r2,.int _ _,fun _ h=>.inl h⟩
end Go.Am
namespace Go.Am
set_option linter.all false
set_option linter.all false
open Go Go.RowKit Go.Proofs
set_option maxRecDepth 100000
def zR:List AV:=List.replicate 257 .nils
def cc112:CC:=.seq (.r [.v 2 .nilp]) (.seq (.seq (.r [.m 3 0,.n 4 3,.k 5 .rem 4 2,.k 6 .eql 5 1]) (.cond (.t 6) (.r [⟨some 7,none,[],.conv (.mki 9) (.c (.str [115,116,114,105,110,103,115,46,78,101,119,82,101,112,108,97,99,101,114,58,32,111,100,100,32,97,114,103,117,109,101,110,116,32,99,111,117,110,116]))⟩,⟨none,none,[7],.pnk (.t 7)⟩]) CC.skip)) (.seq (.r [.m 8 0,⟨some 9,none,[8],.app false (.str []) 16 (.c .nils) (.t 8)⟩,⟨some 10,none,[9],.build [.int .u32 0,.int .i32 0,.int .u32 0,.nili,.nils] [(4,1,.t 9)]⟩,.bx 11 10,.m 2 11]) CC.ret))
def cr112:List CRes:=[.tmp 2]
theorem hcr112:compRes Tryz.prog Tryz.f112.results.toList=some cr112:=by kernel_rfl
theorem hcc112:Tryz.f112.body.map (compC Tryz.prog Tryz.f112.ntmps)=some cc112:=by kernel_rfl
def cc113 : CC := .seq (.r [.v 4 (.str [])]) (.seq (.r [.m 5 0,.ck 6 5,.f 7 0 6,.m 8 0,⟨some 9,none,[8],.conv (.rcv 134) (.t 8)⟩,.c 10 133 [7,9]]) (.seq (.r [.m 11 0,.ck 12 11,.f 13 3 12,.l 14 13,.m 15 1,⟨some 16,none,[14,15],.inv "Replace" (.t 14) [.t 15]⟩,.m 4 16]) CC.ret))
def cr113:List CRes:=[.tmp 4]
theorem hcr113:compRes Tryz.prog Tryz.f113.results.toList=some cr113:=by kernel_rfl
theorem hcc113:Tryz.f113.body.map (compC Tryz.prog Tryz.f113.ntmps)=some cc113:=by kernel_rfl
def cc133:CC:=.seq (.r [.m 4 0,.ck 5 4,.f 6 0 5,.c 7 146 [6],.no 8 7]) (.cond (.t 8) (.r [.m 9 0,.m 10 1,.c 11 147 [9,10]]) CC.skip)
def cr133:List CRes:=[]
theorem hcr133:compRes Tryz.prog Tryz.f133.results.toList=some cr133:=by kernel_rfl
theorem hcc133:Tryz.f133.body.map (compC Tryz.prog Tryz.f133.ntmps)=some cc133:=by kernel_rfl
def cc134:CC:=.seq (.r [.m 2 0,.m 3 0,.c 4 148 [3],.ck 5 2,.f 6 3 5,.st 1 6 4]) (.r [.m 7 0,.ck 8 7,.f 9 4 8,⟨none,none,[9],.st 1 (.t 9) (.c .nils)⟩])
def cr134:List CRes:=[]
theorem hcr134:compRes Tryz.prog Tryz.f134.results.toList=some cr134:=by kernel_rfl
theorem hcc134:Tryz.f134.body.map (compC Tryz.prog Tryz.f134.ntmps)=some cc134:=by kernel_rfl
def cc146:CC:=.seq (.r [.v 2 (.bool false)]) (.seq (.r [.m 3 0,.ck 4 3,.f 5 0 4,.c 6 164 [5],.j 7 .neq 6 (.int .u32 0),.m 2 7]) CC.ret)
def cr146:List CRes:=[.tmp 2]
theorem hcr146:compRes Tryz.prog Tryz.f146.results.toList=some cr146:=by kernel_rfl
theorem hcc146:Tryz.f146.body.map (compC Tryz.prog Tryz.f146.ntmps)=some cc146:=by kernel_rfl
def cc148:CC:=.seq (.r [.v 2 .nili]) (.seq (.r [.m 15 0,.ck 16 15,.f 17 4 16,.l 18 17,.m 3 18]) (.seq (.seq (.r [.m 19 3,.n 20 19,.k 21 .eql 20 2,.m 22 21,.gt 22 (.m 23 3),.gt 22 ⟨some 24,none,[23],.ia 1 (.str []) (.t 23) (.c (.int .i64 0))⟩,.gt 22 (.l 25 24),.gt 22 (.ns 26 25),.gt 22 (.k 27 .gtr 26 1),.pa 28 22 27]) (.cond (.t 28) (.seq (.d [.m 29 3,⟨some 30,none,[29],.ia 1 (.str []) (.t 29) (.c (.int .i64 0))⟩,.l 31 30,.m 32 3,⟨some 33,none,[32],.ia 1 (.str []) (.t 32) (.c (.int .i64 1))⟩,.l 34 33,.c 35 168 [31,34],⟨some 36,none,[35],.conv (.mki 187) (.t 35)⟩,.m 2 36] []) CC.ret) CC.skip)) (.seq (.r [.v 4 (.bool true)]) (.seq (.seq (.r [.i 5 0]) (.block 0 (.loop (.seq (.seq (.r [.m 37 5,.m 38 3,.n 39 38,.b 40 .lss 37 39]) (.cond (.t 40) CC.skip (.exit 0))) (.seq (.block 1 (.seq (.seq (.r [.m 43 3,.m 44 5,.ia 45 1 (.str []) 43 44,.l 46 45,.ns 47 46,.k 48 .neq 47 1]) (.cond (.t 48) (.seq (.r [.m 49 3,.c 50 169 [49],⟨some 51,none,[50],.conv (.mki 189) (.t 50)⟩,.m 2 51]) CC.ret) CC.skip)) (.seq (.r [.m 52 3,.m 53 5,.k 54 .add 53 1,.ia 55 1 (.str []) 52 54,.l 56 55,.ns 57 56,.k 58 .neq 57 1]) (.cond (.t 58) (.r [.v 4 (.bool false)]) CC.skip)))) (.r [.m 41 5,.k 42 .add 41 2,.m 5 42])))))) (.seq (.seq (.r [.m 59 4]) (.cond (.t 59) (.seq CC.bad (.seq (.seq (.r [.i 61 0]) (.block 2 (.loop (.seq (.r [.k 62 .lss 61 256]) (.seq (.cond (.t 62) CC.skip (.exit 2)) (.seq (.block 3 (.seq (.r [.m 63 61,.m 7 63]) (.r [.m 64 7,.m 65 7,⟨some 66,none,[65],.conv (.int .u8) (.t 65)⟩,⟨some 67,none,[6,64],.aa 256 1 (.t 6) (.t 64)⟩,.st 1 67 66]))) (.r [.k 68 .add 61 1,.m 61 68]))))))) (.seq (.seq (.r [.m 69 3,.n 70 69,.k 71 .sub 70 2,.m 8 71]) (.block 4 (.loop (.seq (.seq (.r [.m 72 8,.k 73 .geq 72 0]) (.cond (.t 73) CC.skip (.exit 4))) (.seq (.block 5 (.seq (.r [.m 76 3,.m 77 8,.ia 78 1 (.str []) 76 77,.l 79 78,⟨some 80,none,[79],.ix (.t 79) (.c (.int .i64 0))⟩,.m 9 80]) (.seq (.r [.m 81 3,.m 82 8,.k 83 .add 82 1,.ia 84 1 (.str []) 81 83,.l 85 84,⟨some 86,none,[85],.ix (.t 85) (.c (.int .i64 0))⟩,.m 10 86]) (.r [.m 87 9,.m 88 10,⟨some 89,none,[6,87],.aa 256 1 (.t 6) (.t 87)⟩,.st 1 89 88])))) (.r [.m 74 8,.k 75 .sub 74 2,.m 8 75])))))) (.seq (.r [⟨some 90,none,[6],.conv (.mki 193) (.t 6)⟩,.m 2 90]) CC.ret)))) CC.skip)) (.seq (.r [.m 91 3,.n 92 91,.k 93 .quo 92 2,⟨some 94,none,[93],.mks (.str []) 16 (.c (.int .i64 0)) (.t 93)⟩,⟨some 95,none,[94],.build zR [(256,1,.t 94)]⟩,.al 11 (.agg zR),.st 257 11 95]) (.seq (.seq (.r [.m 96 3,.n 97 96,.k 98 .sub 97 2,.m 12 98]) (.block 6 (.loop (.seq (.seq (.r [.m 99 12,.k 100 .geq 99 0]) (.cond (.t 100) CC.skip (.exit 6))) (.seq (.block 7 (.seq (.r [.m 103 3,.m 104 12,.ia 105 1 (.str []) 103 104,.l 106 105,⟨some 107,none,[106],.ix (.t 106) (.c (.int .i64 0))⟩,.m 13 107]) (.seq (.r [.m 108 3,.m 109 12,.k 110 .add 109 1,.ia 111 1 (.str []) 108 110,.l 112 111,.m 14 112]) (.seq (.seq (.r [.m 113 13,.f 114 0 11,⟨some 115,none,[114,113],.aa 256 1 (.t 114) (.t 113)⟩,.l 116 115,⟨some 117,none,[116],.bin .eql (some [8]) (.t 116) (.c .nils)⟩]) (.cond (.t 117) (.r [.f 118 256 11,.l 119 118,.m 120 13,⟨some 121,none,[120],.bslice (.int .u8 0) 1 [(0,.t 120)]⟩,⟨some 122,none,[121],.conv .str (.t 121)⟩,⟨some 123,none,[122],.bslice (.str []) 1 [(0,.t 122)]⟩,⟨some 124,none,[119,123],.app false (.str []) 16 (.t 119) (.t 123)⟩,.f 125 256 11,.st 1 125 124]) CC.skip)) (.r [.m 126 13,.m 127 14,⟨some 128,none,[127],.conv .bytes (.t 127)⟩,.f 129 0 11,⟨some 130,none,[129,126],.aa 256 1 (.t 129) (.t 126)⟩,.st 1 130 128]))))) (.r [.m 101 12,.k 102 .sub 101 2,.m 12 102])))))) (.seq (.r [⟨some 131,none,[11],.conv (.mki 197) (.t 11)⟩,.m 2 131]) CC.ret))))))))
def cr148:List CRes:=[.tmp 2]
theorem hcr148:compRes Tryz.prog Tryz.f148.results.toList=some cr148:=by kernel_rfl
theorem hcc148:Tryz.f148.body.map (compC Tryz.prog Tryz.f148.ntmps)=some cc148:=by kernel_rfl
def cc234:CC:=.seq (.r [.v 4 (.str [])]) (.seq (.r [.m 16 1,.ns 17 16,.m 5 17]) (.seq (.r [.v 6 (.bool false)]) (.seq (.seq (.r [.m 18 0,.ck 19 18,.f 20 256 19,.l 21 20,.n 22 21,.k 23 .mul 22 8,.m 24 1,.ns 25 24,.b 26 .leq 23 25]) (.cond (.t 26) (.seq (.r [.m 27 0,.ck 28 27,.f 29 256 28,.l 30 29,.n 31 30,.i 32 0]) (.block 0 (.loop (.seq (.r [.b 33 .lss 32 31]) (.seq (.cond (.t 33) CC.skip (.exit 0)) (.seq (.block 1 (.seq (.r [.ia 34 1 (.str []) 30 32,.l 35 34,.m 8 35]) (.seq (.r [.m 36 1,.m 37 8,.c 38 236 [36,37],.m 9 38]) (.seq (.r [.m 39 9,.k 40 .neq 39 0]) (.cond (.t 40) (.seq (.d [.m 41 5,.m 42 9,.m 43 0,.m 44 8,⟨some 45,none,[44],.ix (.t 44) (.c (.int .i64 0))⟩,.ck 46 43,.f 47 0 46,⟨some 48,none,[47,45],.aa 256 1 (.t 47) (.t 45)⟩,.l 49 48,.n 50 49,.k 51 .sub 50 1,.b 52 .mul 42 51,.b 53 .add 41 52,.m 5 53] []) (.r [.v 6 (.bool true)])) CC.skip))))) (.r [.k 54 .add 32 1,.m 32 54]))))))) (.seq (.r [.i 10 0]) (.block 2 (.loop (.seq (.seq (.r [.m 55 10,.m 56 1,.ns 57 56,.b 58 .lss 55 57]) (.cond (.t 58) CC.skip (.exit 2))) (.seq (.block 3 (.seq (.r [.m 61 1,.m 62 10,⟨some 63,none,[61,62],.ix (.t 61) (.t 62)⟩,.m 11 63]) (.seq (.r [.m 64 0,.m 65 11,.ck 66 64,.f 67 0 66,⟨some 68,none,[67,65],.aa 256 1 (.t 67) (.t 65)⟩,.l 69 68,⟨some 70,none,[69],.bin .neq (some [8]) (.t 69) (.c .nils)⟩]) (.cond (.t 70) (.seq (.r [.m 71 5,.m 72 0,.m 73 11,.ck 74 72,.f 75 0 74,⟨some 76,none,[75,73],.aa 256 1 (.t 75) (.t 73)⟩,.l 77 76,.n 78 77,.k 79 .sub 78 1,.b 80 .add 71 79,.m 5 80]) (.r [.v 6 (.bool true)])) CC.skip)))) (.r [.m 59 10,.k 60 .add 59 1,.m 10 60])))))))) (.seq (.seq (.r [.m 81 6,.no 82 81]) (.cond (.t 82) (.seq (.r [.m 83 1,.m 4 83]) CC.ret) CC.skip)) (.seq (.r [.m 84 5,⟨some 85,none,[84,84],.mks (.int .u8 0) 1 (.t 84) (.t 84)⟩,.m 12 85]) (.seq (.r [.i 13 0]) (.seq (.seq (.r [.i 14 0]) (.block 4 (.loop (.seq (.seq (.r [.m 86 14,.m 87 1,.ns 88 87,.b 89 .lss 86 88]) (.cond (.t 89) CC.skip (.exit 4))) (.seq (.block 5 (.seq (.r [.m 92 1,.m 93 14,⟨some 94,none,[92,93],.ix (.t 92) (.t 93)⟩,.m 15 94]) (.seq (.r [.m 95 0,.m 96 15,.ck 97 95,.f 98 0 97,⟨some 99,none,[98,96],.aa 256 1 (.t 98) (.t 96)⟩,.l 100 99,⟨some 101,none,[100],.bin .neq (some [8]) (.t 100) (.c .nils)⟩]) (.cond (.t 101) (.d [.m 102 13,.m 103 12,.m 104 13,⟨some 105,none,[103,104],.sli 1 (.t 103) (some (.t 104)) none⟩,.m 106 0,.m 107 15,.ck 108 106,.f 109 0 108,⟨some 110,none,[109,107],.aa 256 1 (.t 109) (.t 107)⟩,.l 111 110,⟨some 112,none,[105,111],.cpy (.t 105) (.t 111)⟩,.b 113 .add 102 112,.m 13 113] (pr [(3,[0]),(4,[3]),(5,[3]),(6,[3]),(7,[3]),(8,[3]),(9,[3]),(10,[0])])) (.seq (.r [.m 114 12,.m 115 13,.m 116 15,.ia 117 1 (.int .u8 0) 114 115,.st 1 117 116]) (.r [.m 118 13,.k 119 .add 118 1,.m 13 119])))))) (.r [.m 90 14,.k 91 .add 90 1,.m 14 91])))))) (.seq (.r [.m 120 12,⟨some 121,none,[120],.conv .str (.t 120)⟩,.m 4 121]) CC.ret))))))))
def cr234:List CRes:=[.tmp 4]
theorem hcr234:compRes Tryz.prog Tryz.f234.results.toList=some cr234:=by kernel_rfl
theorem hcc234:Tryz.f234.body.map (compC Tryz.prog Tryz.f234.ntmps)=some cc234:=by kernel_rfl
end Go.Am
namespace Go.Am
set_option linter.all false
set_option linter.all false
open Go Go.RowKit Go.Proofs
set_option maxRecDepth 100000
def muL:Go.Conc.Locks.MuLink:={ lock:=165,unlock:=166,ilock:=179,iunlock:=180,lockSlow:=193,unlockSlow:=196,disable:=189,enable:=191,acquire:=192,relMerge:=194,cas32:=190,add32:=195,tMutex:=147,tIMutex:=145,tPMutex:=209,tPIMutex:=228,tPI32:=230,tUP:=165,tNoCopy:=139,tU32:=141 }
theorem muLib:Go.Conc.Locks.MuLib Tryz.prog muL :=
 ⟨by kernel_rfl,by kernel_rfl,by kernel_rfl,by kernel_rfl,by kernel_rfl,by kernel_rfl,by kernel_rfl,by kernel_rfl,by kernel_rfl,by kernel_rfl,
  by kernel_rfl,fun _=>by kernel_rfl,fun _=>by kernel_rfl,fun _=>by kernel_rfl,fun _=>by kernel_rfl,
  by kernel_rfl,fun _=>by kernel_rfl,fun _=>by kernel_rfl,fun _=>by kernel_rfl,fun _=>by kernel_rfl,
  by kernel_rfl,fun _=>by kernel_rfl,fun _=>by kernel_rfl,fun _=>by kernel_rfl,fun _=>by kernel_rfl,
  by kernel_rfl,fun _=>by kernel_rfl,fun _=>by kernel_rfl,fun _=>by kernel_rfl,fun _=>by kernel_rfl,
  by kernel_rfl,fun _=>by kernel_rfl,fun _=>by kernel_rfl,fun _=>by kernel_rfl,fun _=>by kernel_rfl,
  by kernel_rfl,fun _=>by kernel_rfl,fun _=>by kernel_rfl,fun _=>by kernel_rfl,fun _=>by kernel_rfl,
  by kernel_rfl,fun _=>by kernel_rfl,fun _=>by kernel_rfl,fun _=>by kernel_rfl,fun _=>by kernel_rfl,
  by kernel_rfl,fun _=>by kernel_rfl,fun _=>by kernel_rfl,fun _=>by kernel_rfl,fun _=>by kernel_rfl,
  by kernel_rfl⟩
end Go.Am
namespace Go.Am
set_option linter.all false
open Go Go.RowKit Go.Proofs
set_option maxRecDepth 100000
set_option linter.all false
def caB(cs:List AV)(d:AV):Bx:=⟨[.agg cs],d,false,false⟩
theorem caB_eq(cs:List AV)(d:AV):caB cs d=⟨[.agg cs],d,false,false⟩:=rfl
section
variable {P:Program} {C:Cx P} {G:Gh} {bx:Nat→Option Bx} {w:World}
theorem cell_at(hs:RS C G bx w){J:Nat}{cs:List AV}{d:AV}(hb:bx J=some (caB cs d)):∃blk s,G.bm J=some (blk,s)∧(∀off v,RV G w (.ptr J 0 off) v→v = .pointer (some ⟨blk,off,none⟩)) ∧
  ∀off c,cs[off]?=some c→(∃u,w.cell? ⟨blk,off,none⟩=some u∧RV G w c u)∧w.frozen? ⟨blk,off,none⟩=false:=by
 have hy:(caB cs d).xs[0]?=some (.agg cs):=rfl
 obtain⟨blk,s,cur,e,k1,k2,k3,⟨k4,k5⟩,k6,k7⟩:=hs.box J (caB cs d) hb (hs.lies hb hy)
 refine⟨blk,s,k1,fun off v hv=>?_,fun off c hc=>⟨?_,frozen_of_row w blk off cur e k2⟩⟩
 ·cases hv with|ptr _ _ _ _ hone hu hbm =>
  have:=hbm blk s k1
  rwa [Nat.zero_mul,Nat.zero_add] at this
 ·obtain⟨g0,g1⟩:=k6 0 (.agg cs) hy
  obtain⟨u,h1,h2⟩:=g1 off c hc
  rw[Nat.zero_mul,Nat.zero_add] at h1
  exact⟨u,by rw[cell_of_heap k2]; exact h1,h2⟩
theorem cell_set(hs:RS C G bx w){J:Nat}{cs:List AV}{d:AV}(hb:bx J=some (caB cs d)){blk s:Nat}(hbm:G.bm J=some (blk,s)){off:Nat}(hoff:off<cs.length){z:AV}{u:Value}(hz:RV G w z u)(hone:z.one=true)(hc:z.cells=[z]){t:TypeId}(hi:(P.info? t).map (·.size)=some 1):
  ∃G',RS C G' (upd bx J (some (caB (cs.set off z) d))) (w.setCell ⟨blk,off,none⟩ u)∧Evo G w G' (w.setCell ⟨blk,off,none⟩ u)∧∀i,G'.used i→G.used i:=by
 have hy:(caB cs d).xs[0]?=some (.agg cs):=rfl
 obtain⟨blk',s',h1,hptr,hcell⟩:=cell_at hs hb
 rw[hbm] at h1
 injection h1 with h1
 injection h1 with e1 e2
 subst e1 e2
 have hbx:=hs.boxNames hb
 have hv:RV G w (.ptr J 0 off) (.pointer (some ⟨blk,off,none⟩)):=.ptr J 0 off _ rfl hbx.1 fun b' s' hb'=>by
  rw[hbm] at hb'
  injection hb' with hb'
  injection hb' with e1 e2
  subst e1 e2
  rw[Nat.zero_mul,Nat.zero_add]
 have hl1:z.cells.length=1:=by rw[hc]; rfl
 obtain⟨w',G',r1,r2,r3,r4⟩:=store_ok (P:=P) hs hv hz hb hy rfl rfl hl1 (show off+1≤(AV.agg cs).cells.length from hoff) (fun c hc'=>by rw[hc] at hc'; rw[List.mem_singleton.1 hc']; exact hone) (fun h=>rfl) hi
 obtain⟨c0,hc0⟩:∃c0,cs[off]?=some c0:=⟨_,List.getElem?_eq_getElem hoff⟩
 obtain⟨⟨u0,hu0,_⟩,hfz⟩:=hcell off c0 hc0
 obtain⟨hzl,hzr⟩:=rvs_cells hz
 have hone':u.oneCell'=true:=hz.oneCell hone
 have hucells:u.cells = #[u]:=by
  cases u<;>first|rfl|(simp[Value.oneCell'] at hone')
 have hrun:(Instr.storeAt t (.pointer (some ⟨blk,off,none⟩)) u).run P w = .ok () (w.setCell ⟨blk,off,none⟩ u):=by
  simp only[Instr.storeAt,Instr.sureAddr,Sem.run_bind,Sem.run_pure,Result.andThen_ok,storeVar,run_sizeOf hi]
  rw[if_neg (by rw[hucells]; simp)]
  rw[hucells]
  simp[storeCells,Addr.add_lit,Sem.run_bind,run_store P w _ u _ hone',hu0,hfz,Result.andThen_ok]
 rw[hrun] at r1
 injection r1 with _ r1
 subst r1
 refine⟨G',?_,r3,r4⟩
 have hm:mend (.agg cs) off z = .agg (cs.set off z):=by
  simp only[mend,hc]
  congr 1
  simp only[splice,List.length_singleton]
  rw[List.set_eq_take_append_cons_drop,if_pos hoff]
  simp
 have e:({ caB cs d with xs:=(caB cs d).xs.set 0 (mend (.agg cs) off z) }:Bx)=caB (cs.set off z) d:=by rw[hm]; rfl
 rw[←e]
 exact r2
end
theorem u32info:(Tryz.prog.info? 141).map (·.size)=some 1:=by kernel_rfl
theorem i32info:(Tryz.prog.info? 21).map (·.size)=some 1:=by kernel_rfl
theorem rvsA1{G:Gh}{w:World}{a:AV}{vs:Array Value}(h:RVs G w [a] vs):∃v,vs = #[v]∧RV G w a v:=by
 obtain⟨h1,h2⟩:=h
 have h2:=h2 0 a rfl
 refine⟨vs.getD 0 undef,?_,h2⟩
 apply Array.ext
 ·simpa using h1.symm
 ·intro i q1 q2
  have:i=0:=by simp at q2; exact q2
  subst this
  simp[Array.getD,q1]
theorem rvsA2{G:Gh}{w:World}{a b:AV}{vs:Array Value}(h:RVs G w [a,b] vs):∃v u,vs = #[v,u]∧RV G w a v∧RV G w b u:=by
 obtain⟨h1,h2⟩:=h
 have h3:=h2 0 a rfl
 have h4:=h2 1 b rfl
 refine⟨vs.getD 0 undef,vs.getD 1 undef,?_,h3,h4⟩
 apply Array.ext
 ·simpa using h1.symm
 ·intro i q1 q2
  have q3:i<2:=by simpa using q2
  match i,q3 with
  | 0,_=>simp[Array.getD,q1]
  | 1,_=>simp[Array.getD,q1]
theorem raw_load{x:Opd}{J off:Nat}{cs:List AV}{d:AV}{n:Int}{id:Nat}(hc:cs[off]?=some (.int .u32 n)):RawOk Tryz.prog (.call 164 [x]) [.ptr J 0 off] [(J,caB cs d)] id (.int .u32 n) []:=by
 intro op hcomp C ρ G bx w ve o hρ ho ha hs hh hu hr
 obtain⟨c,hop,hcal,hxs⟩:=comp_call hcomp
 have hb:=hh _ (List.mem_singleton.2 rfl)
 simp only at hb
 obtain⟨blk,s,h1,hptr,hcell⟩:=cell_at hs hb
 obtain⟨⟨u,hu1,hu2⟩,hfz⟩:=hcell off _ hc
 cases hu2
 subst hop
 have hvs:RVs G w ([x].map ve) (c.args.map ρ):=rvs_of_opds hxs fun X hX x hx=>hr X (by simp[Op.operands,Call.operands]; exact .inr (by simpa using hX)) x hx
 have ha:[x].map ve=[.ptr J 0 off]:=ha
 rw[ha] at hvs
 obtain⟨v,hA,hv⟩:=rvsA1 hvs
 have hv:=hptr off _ hv
 subst hv
 have hrun:=run_call_load (P:=Tryz.prog) Tryz.func164 (by kernel_rfl) (by kernel_rfl) (by kernel_rfl) .u32 (by kernel_rfl) hu1
 refine OpOk.still hs ?_ (.int _ _) _
 unfold execOp
 simp[ho,resolve,hcal,hA,hρ,Act.eval,Deferred.ofValue,invoke,hrun]
end Go.Am
