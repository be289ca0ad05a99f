/- Parts of the proof: an abstract machine for Go functions, and what functions of the program give back (St3, St4, St5, St6, St7, Tl3, Fb, Ft, Lw3, Am60, Tl4). No condition. -/
import Derived.Test.YtgfmjhmjnnpcgaaGreatDoorXM
import Derived.Test.YtgfmjhmjnnpcgaaGreatDoorXN
import Derived.Test.YtgfmjhmjnnpcgaaGreatDoorXH
import Derived.Test.YtgfmjhmjnnpcgaaGreatDoorXE
import Derived.Test.YtgfmjhmjnnpcgaaGreatDoorRows
import Derived.Test.YtgfmjhmjnnpcgaaGreatDoorXI
import Derived.Test.YtgfmjhmjnnpcgaaGreatDoorCards
import Derived.Test.YtgfmjhmjnnpcgaaGreatDoorTie
import Derived.Deep.DeepHandedRow
import Derived.Lib.LaidTab
import Derived.LaidLaws
namespace Go.Am
set_option linter.all false
open Go Go.RowKit Go.Proofs
set_option maxRecDepth 100000
set_option linter.all false
end Go.Am
namespace Go.Am
set_option linter.all false
open Go Go.RowKit Go.Proofs
set_option maxRecDepth 100000
set_option linter.all false
theorem isS_lt{l:List Tk}{i:Nat}{c:UInt8}(h:isS (l.drop i) c=true):i<l.length:=by
 rcases Nat.lt_or_ge i l.length with h1|h1
 ·exact h1
 ·rw[List.drop_of_length_le h1] at h; cases h
def IOk(l:List Tk)(R:Option (List Fd×List Tk))(q:Bool×Nat×List Fd):Prop :=
 q.2.1≤l.length∧q.2.2.length≤q.2.1∧if q.1=true∨isS (l.drop q.2.1) 125=false then ∃n,(l.drop q.2.1).length<n+1∧pFds (n+1) q.2.2 (l.drop q.2.1)=R else R=some (q.2.2,l.drop (q.2.1+1))
theorem IOk.fst{l:List Tk}{R:Option (List Fd×List Tk)}{b:Bool}{a:Nat}{acc:List Fd}(h:IOk l R (b,a,acc))(hb:b=true∨isS (l.drop a) 125=false):∃n,(l.drop a).length<n+1∧pFds (n+1) acc (l.drop a)=R:=by
 have:=h.2.2
 rwa [if_pos hb] at this
theorem IOk.bad{l:List Tk}{R:Option (List Fd×List Tk)}{b:Bool}{a:Nat}{acc:List Fd}(h:IOk l R (b,a,acc))(hb:b=true∨isS (l.drop a) 125=false)(hp:pFd (l.drop a)=none):R=none:=by
 obtain⟨n,_,h2⟩:=h.fst hb
 rw[←h2]
 simp only[pFds,hp]
theorem IOk.next{l:List Tk}{R:Option (List Fd×List Tk)}{b:Bool}{a:Nat}{acc:List Fd}(h:IOk l R (b,a,acc))(hb:b=true∨isS (l.drop a) 125=false){f:Fd}{a':Nat}(hp:pFd (l.drop a)=some (f,l.drop a'))(h1:a<a')(h2:a'≤l.length):IOk l R (false,a',acc++[f]):=by
 obtain⟨n,h3,h4⟩:=h.fst hb
 have hl:=h.2.1
 simp only[pFds,hp] at h4
 simp only[List.length_drop] at h3
 have ha:=h.1
 simp only at ha hl
 refine⟨h2,by simp; omega,?_⟩
 simp only
 split at h4
 ·rename_i h5
  rw[if_neg (by simp[h5]),←h4,List.drop_drop]
 ·rename_i h5
  rw[if_pos (by simpa using h5)]
  obtain⟨m,rfl⟩:∃m,n=m+1:=⟨n - 1,by omega⟩
  exact⟨m,by simp only[List.length_drop]; omega,h4⟩
def OOk(l:List Tk)(q:Bool×Nat×List Ty):Prop :=
 q.2.1≤l.length∧q.2.2.length≤q.2.1∧if q.1=true∨q.2.1<l.length then ∃n,(l.drop q.2.1).length<n+1∧pTys (n+1) q.2.2 (l.drop q.2.1)=tysOf l else tysOf l=some q.2.2
theorem OOk.zero(l:List Tk):OOk l (true,0,[]):=⟨by simp,by simp,by rw[if_pos (.inl rfl)]; exact⟨l.length,by simp,by simp[tysOf]⟩⟩
theorem OOk.bad{l:List Tk}{b:Bool}{a:Nat}{acc:List Ty}(h:OOk l (b,a,acc))(hb:b=true∨a<l.length)(hp:pTy (l.drop a)=none):tysOf l=none:=by
 have:=h.2.2
 rw[if_pos hb] at this
 obtain⟨n,_,h2⟩:=this
 rw[←h2]
 simp only[pTys,hp]
theorem OOk.next{l:List Tk}{b:Bool}{a:Nat}{acc:List Ty}(h:OOk l (b,a,acc))(hb:b=true∨a<l.length){t:Ty}{a':Nat}(hp:pTy (l.drop a)=some (t,l.drop a'))(h1:a<a')(h2:a'≤l.length):OOk l (false,a',acc++[t]):=by
 have:=h.2.2
 rw[if_pos hb] at this
 obtain⟨n,h3,h4⟩:=this
 have hl:=h.2.1
 have ha:=h.1
 simp only[pTys,hp] at h4
 simp only[List.length_drop] at h3
 simp only at ha hl
 refine⟨h2,by simp; omega,?_⟩
 simp only
 split at h4
 ·rename_i h5
  have h5:l.length≤a':=by simpa using h5
  rw[if_neg (by simp; omega),←h4]
 ·rename_i h5
  have h5:a'<l.length:=by simp at h5; omega
  rw[if_pos (.inr h5)]
  obtain⟨m,rfl⟩:∃m,n=m+1:=⟨n - 1,by omega⟩
  exact⟨m,by simp only[List.length_drop]; omega,h4⟩
theorem IOk.zero{l:List Tk}{a:Nat}(h:isS (l.drop (a+2)) 123=true):IOk l (pFds ((l.drop a).length+1) [] (l.drop (a+3))) (true,a+3,[]):=by
 have:=isS_lt h
 exact⟨by simp only; omega,by simp,by rw[if_pos (.inl rfl)]; exact⟨(l.drop a).length,by simp only[List.length_drop]; omega,rfl⟩⟩
end Go.Am
namespace Go.Am
set_option linter.all false
open Go Go.RowKit Go.Proofs
set_option maxRecDepth 100000
set_option linter.all false
end Go.Am
namespace Go.Am
set_option linter.all false
open Go Go.RowKit Go.Proofs
set_option maxRecDepth 100000
set_option linter.all false
theorem at2_step{p:UInt8→Bool}{s:List UInt8}{j:Nat}{c:UInt8}(h:s[j]?=some c)(hp:p c=true):at2 p s (j+1)=at2 p s j:=by
 obtain⟨x,hx,hd⟩:=drop_cons (List.getElem?_eq_some_iff.1 h).1
 rw[h] at hx; injection hx with hx; subst hx
 unfold at2
 rw[hd,List.takeWhile_cons_of_pos hp]; simp; omega
theorem at2_stop{p:UInt8→Bool}{s:List UInt8}{j:Nat}{c:UInt8}(h:s[j]?=some c)(hp:p c=false):at2 p s j=j:=by
 obtain⟨x,hx,hd⟩:=drop_cons (List.getElem?_eq_some_iff.1 h).1
 rw[h] at hx; injection hx with hx; subst hx
 unfold at2
 rw[hd,List.takeWhile_cons_of_neg (by simp[hp])]; simp
theorem at2_end{p:UInt8→Bool}{s:List UInt8}{j:Nat}(h:s.length≤j):at2 p s j=j:=by
 unfold at2
 rw[List.drop_of_length_le h]; simp
theorem at2_slice(p:UInt8→Bool){s:List UInt8}{i k:Nat}(hk:k≤i)(hi:i≤s.length):(s.take (at2 p s i)).drop k=(s.take i).drop k++(s.drop i).takeWhile p:=by
 have h2:(s.drop i).takeWhile p=(s.drop i).take ((s.drop i).takeWhile p).length:=by
  conv=>lhs; rw[←List.take_length (l:=(s.drop i).takeWhile p)]
  have:=List.takeWhile_append_dropWhile (p:=p) (l:=s.drop i)
  conv=>rhs; rw[←this]
  rw[List.take_left',List.take_length]
  rw[this]
 unfold at2
 rw[List.take_add,List.drop_append_of_le_length (by simp; omega),←h2]
def TOk(s:List UInt8)(q:List Tk×Nat):Prop:=q.2≤s.length∧q.1.length≤300∧pToks ((s.drop q.2).length+1) q.1 (s.drop q.2)=fAll s
theorem TOk.zero(s:List UInt8):TOk s ([],0):=⟨by simp,by simp,rfl⟩
theorem TOk.pass{s:List UInt8}{acc:List Tk}{i j:Nat}(h:TOk s (acc,i))(hj:j≤s.length)(hb:blk false (s.drop i)=blk false (s.drop j)):TOk s (acc,j):=by
 refine⟨hj,h.2.1,?_⟩
 rw[←h.2.2]
 show pToks ((s.drop j).length+1) acc (s.drop j)=pToks ((s.drop i).length+1) acc (s.drop i)
 have h1:=blk_le false (s.drop i)
 have h2:=blk_le false (s.drop j)
 exact toks_fuel _ _ _ _ _ hb.symm (by omega) (by rw[←hb]; omega)
theorem TOk.blank{s:List UInt8}{acc:List Tk}{i:Nat}(h:TOk s (acc,i)){c:UInt8}{r:List UInt8}(hd:s.drop i=c::r)(hc:blC c=true):TOk s (acc,i+1):=by
 have hl:=congrArg List.length hd
 simp at hl
 have hr:s.drop (i+1)=r:=by rw[←List.drop_drop,hd]; rfl
 refine h.pass (by omega) ?_
 rw[hd,hr]
 simp[blk,hc]
theorem TOk.rem{s:List UInt8}{acc:List Tk}{i:Nat}(h:TOk s (acc,i)){r:List UInt8}(hd:s.drop i=35::r):TOk s (acc,at2 noNl s i):=by
 refine h.pass (at2_le noNl h.1).2 ?_
 rw[at2_drop,hd,List.dropWhile_cons_of_pos (by decide),←blk_rw]
 simp[blk,blC]
theorem TOk.at{s:List UInt8}{acc:List Tk}{i:Nat}(h:TOk s (acc,i)){c:UInt8}{r:List UInt8}(hd:s.drop i=c::r)(hc:blC c=false)(h35:c≠35):match pTok c r with
   | .error e=>fAll s = .error e
   | .ok p=>if 300<acc.length+1 then fAll s = .error 2 else pToks ((blk false p.2).length+1) (acc++[p.1]) (blk false p.2)=fAll s:=by
 have hb:blk false (s.drop i)=s.drop i:=by rw[hd]; simp[blk,hc,h35]
 have:=toks_at (acc:=acc) (j:=i) h.2.2 hb
 rw[hd] at this
 exact this
theorem TOk.bad{s:List UInt8}{acc:List Tk}{i:Nat}(h:TOk s (acc,i)){c:UInt8}{r:List UInt8}(hd:s.drop i=c::r)(hc:blC c=false)(h35:c≠35){e:Int}(hp:pTok c r = .error e):fAll s = .error e:=by
 have:=h.at hd hc h35
 rw[hp] at this
 exact this
theorem TOk.many{s:List UInt8}{acc:List Tk}{i:Nat}(h:TOk s (acc,i)){c:UInt8}{r:List UInt8}(hd:s.drop i=c::r)(hc:blC c=false)(h35:c≠35){p:Tk×List UInt8}(hp:pTok c r = .ok p)(hm:300<acc.length+1):fAll s = .error 2:=by
 have:=h.at hd hc h35
 rw[hp] at this
 simp only at this
 rwa [if_pos hm] at this
theorem TOk.next{s:List UInt8}{acc:List Tk}{i:Nat}(h:TOk s (acc,i)){c:UInt8}{r:List UInt8}(hd:s.drop i=c::r)(hc:blC c=false)(h35:c≠35){t:Tk}{j:Nat}(hp:pTok c r = .ok (t,s.drop j))(hj:j≤s.length)(hm:¬300<acc.length+1):TOk s (acc++[t],j):=by
 have:=h.at hd hc h35
 rw[hp] at this
 simp only at this
 rw[if_neg hm] at this
 refine⟨hj,by simp; omega,?_⟩
 rw[←this]
 show pToks ((s.drop j).length+1) (acc++[t]) (s.drop j)=_
 have h1:=blk_le false (s.drop j)
 refine toks_fuel _ _ _ _ _ (blk_blk false _).symm (by omega) (by omega)
theorem TOk.fin{s:List UInt8}{acc:List Tk}{i:Nat}(h:TOk s (acc,i))(hi:s.length≤i):fAll s = .ok acc:=by
 rw[←h.2.2]
 rw[List.drop_of_length_le hi]
 rfl
theorem tw_all{p:UInt8→Bool}{x:UInt8}:∀{r:List UInt8},x∈r.takeWhile p→p x=true
 | [],h=>by cases h
 | c::r,h=>by
  cases hc:p c with
  | true =>
   rw[List.takeWhile_cons_of_pos hc] at h
   rcases List.mem_cons.1 h with h|h
   ·rw[h]; exact hc
   ·exact tw_all h
  | false =>
   rw[List.takeWhile_cons_of_neg (by simp[hc])] at h
   cases h
theorem fName_an{c:UInt8}{r:List UInt8}(hc:isLt c=true):fName ((c::r).takeWhile anC)=if 12<((c::r).takeWhile anC).length then 2 else 0:=by
 have han:anC c=true:=by unfold anC; rw[hc]; rfl
 have hok:nameOk ((c::r).takeWhile anC)=true:=by
  rw[List.takeWhile_cons_of_pos han]
  simp only[nameOk,hc,Bool.true_and,List.all_eq_true]
  intro x hx
  exact tw_all hx
 unfold fName
 rw[if_pos hok]
theorem pTok_word{s:List UInt8}{i:Nat}{c:UInt8}{r:List UInt8}(hd:s.drop i=c::r)(hc:isLt c=true):pTok c r=if 12<((s.drop i).takeWhile anC).length then .error 2 else .ok (⟨1,(s.drop i).takeWhile anC,0⟩,s.drop (at2 anC s i)):=by
 unfold pTok
 rw[if_pos hc,at2_drop,hd,fName_an hc]
 by_cases h:12<((c::r).takeWhile anC).length
 ·rw[if_pos h,if_pos h,if_neg (by decide)]
 ·rw[if_neg h,if_neg h,if_pos rfl]
theorem pTok_sign{c:UInt8}{r:List UInt8}(h1:isLt c=false)(h2:¬(isDg c=true∨c=45))(h3:c≠34):pTok c r=if sgC c=true then .ok (⟨4,[c],0⟩,r) else .error 1:=by
 unfold pTok
 rw[if_neg (by simp[h1]),if_neg h2,if_neg h3]
theorem pTok_num2{s:List UInt8}{i:Nat}{c:UInt8}{r:List UInt8}(hd:s.drop i=c::r)(h1:isLt c=false)(h2:isDg c=true∨c=45):
  pTok c r=match intOf ((s.take (at2 isDg s (i+1))).drop i) with
   | none=>.error 1
   | some n=>.ok (⟨2,[],n⟩,s.drop (at2 isDg s (i+1))):=by
 have hl:=congrArg List.length hd
 simp at hl
 have hr:s.drop (i+1)=r:=by rw[←List.drop_drop,hd]; rfl
 have hone:(s.take (i+1)).drop i=[c]:=by
  have:s[i]?=some c:=by
   have:=congrArg (fun l=>l[0]?) hd
   simpa using this
  rw[List.take_succ,this,List.drop_append_of_le_length (by simp; omega),List.drop_of_length_le (by simp; omega)]; rfl
 rw[at2_slice isDg (by omega) (by omega),hone,hr,at2_drop,hr]
 unfold pTok
 rw[if_neg (by simp[h1]),if_pos h2]
 rfl
end Go.Am
namespace Go.Am
set_option linter.all false
open Go Go.RowKit Go.Proofs
set_option maxRecDepth 100000
set_option linter.all false
def tS(E:Env)(s:List UInt8)(acc:List Tk)(j:Nat):St :=
 ⟨[(0,true,.str s),(4,true,.bsl E.n0 0 acc.length),(5,true,.int .i64 j)],[(E.n0,some (toB acc))],1⟩
def tW(E:Env)(s:List UInt8)(acc:List Tk)(i j:Nat):St :=
 ⟨[(0,true,.str s),(4,true,.bsl E.n0 0 acc.length),(5,true,.int .i64 j),(7,true,.ptr (E.n0+1) 0 0),(8,true,.int .i64 i)],[(E.n0,some (toB acc)),(E.n0+1,some ⟨[zTk],zTk,false,false⟩)],2⟩
def tX(E:Env)(s:List UInt8)(acc:List Tk)(tx:List UInt8)(j:Nat):St :=
 ⟨[(0,true,.str s),(4,true,.bsl E.n0 0 acc.length),(5,true,.int .i64 j),(7,true,.ptr (E.n0+1) 0 0),(11,true,.str tx)],[(E.n0,some (toB acc)),(E.n0+1,some ⟨[zTk],zTk,false,false⟩)],2⟩
set_option maxHeartbeats 16000000 in
theorem rToks_ok(s:List UInt8)(id:Nat):FnOk Tryz.prog 17 [.str s] [] id (lexV (fLex s)) []:=by
 refine fn_okc Tryz.func17 hcc17 (by decide) hcr17 (by simp[Tryz.ntmps17]) fun E hP hR hl hid=>?_
 simp only[cr17] at hR
 refine w_go 4000 ?_
 simp[cc17]
 refine goc (fun g=>?_) (fun g=>?_)<;>simp
 ·rw[show fLex s = .error 2 from by unfold fLex; rw[if_pos (by simp at g; omega)]] at hR
  have hR:E.Rt=RtOk E.n0 id E.G0.used [.tmp 2,.tmp 3] [] (.tup [.nils,.int .i64 2]) []:=hR
  rw[hR]; exact rt_end (by simp<;>rfl) [] trivial (end_pure (by simp) (by simp) (by simp))
 have h20:¬2000<s.length:=by simp at g; omega
 have h8:s.length≤1099511627776:=by omega
 rw[show fLex s=fAll s from by unfold fLex; rw[if_neg h20]] at hR
 refine w_loop (X:=List Tk×Nat) (fun q=>tS E s q.1 q.2) (TOk s) (fun q=>s.length - q.2) ([],0) ?_ (TOk.zero s) ?_
 ·refine Conv.trans (Conv.voidSlot 4 (x:=.nils) (by simp) .nils zTk) ?_
  unfold tS
  have hrn:rnOk [(E.n0,E.n0+7168)]:=by simp[toB,zTk]
  refine Conv.sub [(E.n0,E.n0+7168)] hrn ?_ ?_ ?_ ?_ ?_<;>(try simp[toB,zTk])
 rintro⟨acc,i⟩ hO p hp
 have hi:=hO.1
 have hac:=hO.2.1
 simp only at hi hac
 have hi1:IntKind.i64.wrap ((i:Int)+1)=(i:Int)+1:=wrap64 (by omega)
 rcases Nat.lt_or_ge i s.length with hlt|hge
 rotate_left
 ·rw[hO.fin hge] at hR
  have hR:E.Rt=RtOk E.n0 id E.G0.used [.tmp 2,.tmp 3] [] (.tup [.sl (acc.map eTk),.int .i64 0]) []:=hR
  unfold tS
  refine w_go 4000 ?_
  simp[toB,Nat.not_lt.2 hge]
  have hrn:rnOk []:=by simp[toB,idO hid]
  rw[hR]
  refine rt_endR (by simp<;>rfl) (by simp[toB,idO hid]<;>exact⟨rfl,rfl⟩) [] hrn ⟨?_,?_,?_,?_,?_,?_⟩<;>(try simp[toB,idO hid])
 obtain⟨c,hc,hd⟩:=drop_cons hlt
 have hci:s[i]=c:=by
  rw[List.getElem?_eq_getElem hlt] at hc
  injection hc
 have b9:((c.toNat:Int)==9)=(c==9):=u8i c 9 (by decide)
 have b10:((c.toNat:Int)==10)=(c==10):=u8i c 10 (by decide)
 have b13:((c.toNat:Int)==13)=(c==13):=u8i c 13 (by decide)
 have b32:((c.toNat:Int)==32)=(c==32):=u8i c 32 (by decide)
 have b44:((c.toNat:Int)==44)=(c==44):=u8i c 44 (by decide)
 have b35:((c.toNat:Int)==35)=(c==35):=u8i c 35 (by decide)
 have b45:((c.toNat:Int)==45)=(c==45):=u8i c 45 (by decide)
 have b34:((c.toNat:Int)==34)=(c==34):=u8i c 34 (by decide)
 have hbl:blC c=(c==32||c==9||c==10||c==13||c==44):=by
  unfold blC
  cases c==9<;>cases c==10<;>cases c==13<;>cases c==32<;>cases c==44<;>rfl
 unfold tS
 refine w_go 4000 ?_
 simp[hlt,hci,b9,b10,b13,b32,b44]
 refine goc (fun g=>?_) (fun g=>?_)
 ·simp[hi1]
  refine hp _ (acc,i+1) (hO.blank hd (by rw[hbl]; exact g)) (by simp; omega) ?_
  unfold tS
  have hrn:rnOk [(E.n0,E.n0)]:=by simp[toB,zTk]
  refine Conv.sub [(E.n0,E.n0)] hrn ?_ ?_ ?_ ?_ ?_<;>(try simp[toB,zTk])
 rw[←hbl] at g
 simp[b35]
 refine goc (fun g2=>?_) (fun g2=>?_)
 ·have g2:c=35:=by simpa using g2
  subst g2
  have hrem:=hO.rem hd
  have h1:=at2_le noNl hi
  have hrem1:at2 noNl s (i+1)=at2 noNl s i:=at2_step hc (by decide)
  have h2:=at2_le noNl (show i+1≤s.length by omega)
  simp
  refine w_loop (X:=Nat) (fun j=>tS E s acc j) (fun j=>j≤s.length∧at2 noNl s j=at2 noNl s i) (fun j=>s.length - j) i ?_ ⟨hi,rfl⟩ ?_
  ·unfold tS
   have hrn:rnOk [(E.n0,E.n0)]:=by simp[toB,zTk]
   refine Conv.sub [(E.n0,E.n0)] hrn ?_ ?_ ?_ ?_ ?_<;>(try simp[toB,zTk])
  rintro j ⟨hj,hja⟩ p2 hp2
  have hj1:IntKind.i64.wrap ((j:Int)+1)=(j:Int)+1:=wrap64 (by omega)
  rcases Nat.lt_or_ge j s.length with hjl|hjl
  rotate_left
  ·have hje:=at2_end (p:=noNl) hjl
   have hg:s[j]?=none:=List.getElem?_eq_none_iff.2 hjl
   unfold tS
   refine w_go 4000 ?_
   simp[Nat.not_lt.2 hjl,hg]
   have hji:at2 noNl s i=j:=by omega
   rw[hji] at hrem
   refine hp _ (acc,j) hrem (by simp; omega) ?_
   unfold tS
   have hrn:rnOk [(E.n0,E.n0)]:=by simp[toB,zTk]
   refine Conv.sub [(E.n0,E.n0)] hrn ?_ ?_ ?_ ?_ ?_<;>(try simp[toB,zTk])
  obtain⟨d,hdj,hdd⟩:=drop_cons hjl
  have hcj:s[j]=d:=by
   rw[List.getElem?_eq_getElem hjl] at hdj
   injection hdj
  have d10:((d.toNat:Int)==10)=(d==10):=u8i d 10 (by decide)
  unfold tS
  refine w_go 4000 ?_
  simp[hjl,hcj]
  refine goc (fun g3=>?_) (fun g3=>?_)
  ·have g3:noNl d=true:=by
    unfold noNl
    simp only[bne,d10] at g3 ⊢
    exact g3
   simp[hj1]
   refine hp2 _ (j+1) ⟨hjl,by rw[at2_step hdj g3]; exact hja⟩ (by omega) ?_
   unfold tS
   have hrn:rnOk [(E.n0,E.n0)]:=by simp[toB,zTk]
   refine Conv.sub [(E.n0,E.n0)] hrn ?_ ?_ ?_ ?_ ?_<;>(try simp[toB,zTk])
  ·have g3:noNl d=false:=by
    unfold noNl
    simp only[bne,d10] at g3 ⊢
    exact g3
   have hji:at2 noNl s i=j:=by rw[←hja]; exact at2_stop hdj g3
   rw[hji] at hrem
   simp
   refine hp _ (acc,j) hrem (by simp; omega) ?_
   unfold tS
   have hrn:rnOk [(E.n0,E.n0)]:=by simp[toB,zTk]
   refine Conv.sub [(E.n0,E.n0)] hrn ?_ ?_ ?_ ?_ ?_<;>(try simp[toB,zTk])
 have h35:c≠35:=by simpa using g2
 simp
 (refine w_call hP rfl (rLetter_ok c _) (by simp[b45,b34]) (by simp[b45,b34]<;>rfl) ?_; refine w_go 4000 ?_; simp[b45,b34])
 refine goc (fun gl=>?_) (fun gl=>?_)
 ·have han:anC c=true:=by unfold anC; rw[gl]; rfl
  have hpt:=pTok_word hd gl
  have hle:=at2_le anC hi
  have hlo:i+1≤at2 anC s i:=by rw[←at2_step hc han]; exact (at2_le anC hlt).1
  have hsl:=at2_slice anC (Nat.le_refl i) hi
  rw[show (s.take i).drop i=[] from List.drop_of_length_le (by simp; omega),List.nil_append] at hsl
  simp
  refine w_loop (X:=Nat) (fun j=>tW E s acc i j) (fun j=>(i≤j∧j≤s.length)∧at2 anC s j=at2 anC s i) (fun j=>s.length - j) i ?_ ⟨⟨Nat.le_refl i,hi⟩,rfl⟩ ?_
  ·unfold tW
   have hrn:rnOk [(E.n0,E.n0),(E.n0+1,E.n0+28673)]:=by simp[toB,zTk]
   refine Conv.sub [(E.n0,E.n0),(E.n0+1,E.n0+28673)] hrn ?_ ?_ ?_ ?_ ?_<;>(try simp[toB,zTk])
  rintro j ⟨⟨hij,hj⟩,hja⟩ p2 hp2
  have hj1:IntKind.i64.wrap ((j:Int)+1)=(j:Int)+1:=wrap64 (by omega)
  rcases Nat.lt_or_ge j s.length with hjl|hjl
  rotate_left
  ·have hje:=at2_end (p:=anC) hjl
   have hg:s[j]?=none:=List.getElem?_eq_none_iff.2 hjl
   have hji:at2 anC s i=j:=by omega
   rw[hji] at hpt hsl hlo
   unfold tW
   refine w_go 4000 ?_
   simp[Nat.not_lt.2 hjl,hg]
   (refine w_callg hP (by simp[hg]) rfl (fun hc=>⟨rLetter_ok 0 _,by revert hc; simp[hg]; try grind,by simp[hg]⟩) ?_; refine w_go 4000 ?_; simp[hg])
   (refine w_callg hP (by simp[hg,hsl,zTk]) rfl (fun hc=>⟨rDigit_ok 0 _,by revert hc; simp[hg,hsl,zTk]; try grind,by simp[hg,hsl,zTk]⟩) ?_; refine w_go 4000 ?_; simp[hg,hsl,zTk])
   refine⟨by omega,?_⟩
   refine goc (fun g3=>?_) (fun g3=>?_)
   ·simp
    rw[if_pos (by simp at g3; omega)] at hpt
    rw[hO.bad hd g h35 (hpt)] at hR
    have hR:E.Rt=RtOk E.n0 id E.G0.used [.tmp 2,.tmp 3] [] (.tup [.nils,.int .i64 2]) []:=hR
    rw[hR]; exact rt_end (by simp<;>rfl) [] trivial (end_pure (by simp) (by simp) (by simp))
   ·rw[if_neg (by simp at g3; omega)] at hpt
    simp[toB]
    refine⟨⟨by omega,by omega⟩,?_⟩
    refine goc (fun gm=>?_) (fun gm=>?_)
    ·simp
     rw[hO.many hd g h35 hpt (by simp at gm; omega)] at hR
     have hR:E.Rt=RtOk E.n0 id E.G0.used [.tmp 2,.tmp 3] [] (.tup [.nils,.int .i64 2]) []:=hR
     rw[hR]; exact rt_end (by simp<;>rfl) [] trivial (end_pure (by simp) (by simp) (by simp))
    ·simp
     refine hp _ (acc++[⟨1,(s.drop i).takeWhile anC,0⟩],j) (hO.next hd g h35 hpt (by omega) (by simp at gm; omega)) (by simp; omega) ?_
     unfold tS
     have hrn:rnOk [(E.n0,E.n0+29698)]:=by simp[toB,eTk]
     refine Conv.sub [(E.n0,E.n0+29698)] hrn ?_ ?_ ?_ ?_ ?_<;>(try simp[toB,eTk])
     all_goals exact renL_pure rfl (pureL_append (pure_tks acc) (pure_tks [⟨1,(s.drop i).takeWhile anC,0⟩]))
  obtain⟨d,hdj,hdd⟩:=drop_cons hjl
  have hcj:s[j]=d:=by
   rw[List.getElem?_eq_getElem hjl] at hdj
   injection hdj
  unfold tW
  refine w_go 4000 ?_
  simp[hjl,hcj]
  (refine w_callg hP (by simp[hjl,hcj]) rfl (fun hc=>⟨rLetter_ok d _,by revert hc; simp[hjl,hcj]; try grind,by simp[hjl,hcj]⟩) ?_; refine w_go 4000 ?_; simp[hjl,hcj])
  (refine w_callg hP (by simp[hjl,hcj]) rfl (fun hc=>⟨rDigit_ok d _,by revert hc; simp[hjl,hcj]; try grind,by simp[hjl,hcj]⟩) ?_; refine w_go 4000 ?_; simp[hjl,hcj])
  refine goc (fun g4=>?_) (fun g4=>?_)
  ·simp[hj1]
   refine hp2 _ (j+1) ⟨⟨by omega,hjl⟩,by rw[at2_step hdj (p:=anC) g4]; exact hja⟩ (by omega) ?_
   unfold tW
   have hrn:rnOk [(E.n0,E.n0),(E.n0+1,E.n0+1)]:=by simp[toB,zTk]
   refine Conv.sub [(E.n0,E.n0),(E.n0+1,E.n0+1)] hrn ?_ ?_ ?_ ?_ ?_<;>(try simp[toB,zTk])
  ·have hji:at2 anC s i=j:=by rw[←hja]; exact at2_stop hdj g4
   rw[hji] at hpt hsl hlo
   simp[hsl,zTk]
   refine⟨by omega,?_⟩
   refine goc (fun g3=>?_) (fun g3=>?_)
   ·simp
    rw[if_pos (by simp at g3; omega)] at hpt
    rw[hO.bad hd g h35 (hpt)] at hR
    have hR:E.Rt=RtOk E.n0 id E.G0.used [.tmp 2,.tmp 3] [] (.tup [.nils,.int .i64 2]) []:=hR
    rw[hR]; exact rt_end (by simp<;>rfl) [] trivial (end_pure (by simp) (by simp) (by simp))
   ·rw[if_neg (by simp at g3; omega)] at hpt
    simp[toB]
    refine⟨⟨by omega,by omega⟩,?_⟩
    refine goc (fun gm=>?_) (fun gm=>?_)
    ·simp
     rw[hO.many hd g h35 hpt (by simp at gm; omega)] at hR
     have hR:E.Rt=RtOk E.n0 id E.G0.used [.tmp 2,.tmp 3] [] (.tup [.nils,.int .i64 2]) []:=hR
     rw[hR]; exact rt_end (by simp<;>rfl) [] trivial (end_pure (by simp) (by simp) (by simp))
    ·simp
     refine hp _ (acc++[⟨1,(s.drop i).takeWhile anC,0⟩],j) (hO.next hd g h35 hpt (by omega) (by simp at gm; omega)) (by simp; omega) ?_
     unfold tS
     have hrn:rnOk [(E.n0,E.n0+29698)]:=by simp[toB,eTk]
     refine Conv.sub [(E.n0,E.n0+29698)] hrn ?_ ?_ ?_ ?_ ?_<;>(try simp[toB,eTk])
     all_goals exact renL_pure rfl (pureL_append (pure_tks acc) (pure_tks [⟨1,(s.drop i).takeWhile anC,0⟩]))
 have hlt0:isLt c=false:=gl
 simp
 (refine w_call hP rfl (rDigit_ok c _) (by simp[b45,b34]) (by simp[b45,b34]<;>rfl) ?_; refine w_go 4000 ?_; simp[b45,b34])
 refine goc (fun gn=>?_) (fun gn=>?_)
 ·have gn2:isDg c=true∨c=45:=by simpa using gn
  have hpt:=pTok_num2 hd hlt0 gn2
  have hi1l:i+1≤s.length:=hlt
  have hlo:=(at2_le isDg hi1l).1
  simp[hi1]
  refine w_loop (X:=Nat) (fun j=>tW E s acc i j) (fun j=>(i+1≤j∧j≤s.length)∧at2 isDg s j=at2 isDg s (i+1)) (fun j=>s.length - j) (i+1) ?_ ⟨⟨Nat.le_refl _,hi1l⟩,rfl⟩ ?_
  ·unfold tW
   have hrn:rnOk [(E.n0,E.n0),(E.n0+1,E.n0+28673)]:=by simp[toB,zTk]
   refine Conv.sub [(E.n0,E.n0),(E.n0+1,E.n0+28673)] hrn ?_ ?_ ?_ ?_ ?_<;>(try simp[toB,zTk])
  rintro j ⟨⟨hij,hj⟩,hja⟩ p2 hp2
  have hj1:IntKind.i64.wrap ((j:Int)+1)=(j:Int)+1:=wrap64 (by omega)
  rcases Nat.lt_or_ge j s.length with hjl|hjl
  rotate_left
  ·have hje:=at2_end (p:=isDg) hjl
   have hg:s[j]?=none:=List.getElem?_eq_none_iff.2 hjl
   have hji:at2 isDg s (i+1)=j:=by omega
   rw[hji] at hpt hlo
   obtain⟨D,hD⟩:∃D,D=(s.take j).drop i:=⟨_,rfl⟩
   have hDl:D.length≤1099511627776:=by rw[hD]; simp; omega
   have hIO:=fun id=>intOf_ok D id hDl
   rw[←hD] at hpt
   cases hio:intOf D with
   | none =>
    rw[hio] at hpt hIO
    have hpt:pTok c (s.drop (i+1)) = .error 1:=hpt
    have hIO:∀id,FnOk Tryz.prog 42 [.str D] [] id (.tup [.int .i64 0,.bool false]) []:=hIO
    unfold tW
    refine w_go 4000 ?_
    simp[Nat.not_lt.2 hjl,hg]
    (refine w_callg hP (by simp[hg,←hD]) rfl (fun hc=>⟨rDigit_ok 0 _,by revert hc; simp[hg,←hD]; try grind,by simp[hg,←hD]⟩) ?_; refine w_go 4000 ?_; simp[hg,←hD])
    refine⟨by omega,?_⟩
    (refine w_call hP rfl (hIO _) (by simp) (by simp<;>rfl) ?_; refine w_go 4000 ?_; simp)
    rw[hO.bad hd g h35 hpt] at hR
    have hR:E.Rt=RtOk E.n0 id E.G0.used [.tmp 2,.tmp 3] [] (.tup [.nils,.int .i64 1]) []:=hR
    rw[hR]; exact rt_end (by simp<;>rfl) [] trivial (end_pure (by simp) (by simp) (by simp))
   | some n =>
    rw[hio] at hpt hIO
    have hpt:pTok c (s.drop (i+1)) = .ok (⟨2,[],n⟩,s.drop j):=hpt
    have hIO:∀id,FnOk Tryz.prog 42 [.str D] [] id (.tup [.int .i64 n,.bool true]) []:=hIO
    unfold tW
    refine w_go 4000 ?_
    simp[Nat.not_lt.2 hjl,hg]
    (refine w_callg hP (by simp[hg,←hD]) rfl (fun hc=>⟨rDigit_ok 0 _,by revert hc; simp[hg,←hD]; try grind,by simp[hg,←hD]⟩) ?_; refine w_go 4000 ?_; simp[hg,←hD])
    refine⟨by omega,?_⟩
    (refine w_call hP rfl (hIO _) (by simp[toB,zTk]) (by simp[toB,zTk]<;>rfl) ?_; refine w_go 4000 ?_; simp[toB,zTk])
    refine⟨⟨by omega,by omega⟩,?_⟩
    refine goc (fun gm=>?_) (fun gm=>?_)
    ·simp
     rw[hO.many hd g h35 hpt (by simp at gm; omega)] at hR
     have hR:E.Rt=RtOk E.n0 id E.G0.used [.tmp 2,.tmp 3] [] (.tup [.nils,.int .i64 2]) []:=hR
     rw[hR]; exact rt_end (by simp<;>rfl) [] trivial (end_pure (by simp) (by simp) (by simp))
    ·simp
     refine hp _ (acc++[⟨2,[],n⟩],j) (hO.next hd g h35 hpt (by omega) (by simp at gm; omega)) (by simp; omega) ?_
     unfold tS
     have hrn:rnOk [(E.n0,E.n0+28674)]:=by simp[toB,eTk]
     refine Conv.sub [(E.n0,E.n0+28674)] hrn ?_ ?_ ?_ ?_ ?_<;>(try simp[toB,eTk])
     all_goals exact renL_pure rfl (pureL_append (pure_tks acc) (pure_tks [⟨2,[],n⟩]))
  obtain⟨d,hdj,hdd⟩:=drop_cons hjl
  have hcj:s[j]=d:=by
   rw[List.getElem?_eq_getElem hjl] at hdj
   injection hdj
  cases g4:isDg d with
  | true =>
   have hDd:∀id,FnOk Tryz.prog 41 [.int .u8 d.toNat] [] id (.bool true) []:=fun id=>g4▸rDigit_ok d id
   unfold tW
   refine w_go 4000 ?_
   simp[hjl,hcj]
   (refine w_callg hP (by simp[hjl,hcj,hj1]) rfl (fun hc=>⟨hDd _,by revert hc; simp[hjl,hcj,hj1]; try grind,by simp[hjl,hcj,hj1]⟩) ?_; refine w_go 4000 ?_; simp[hjl,hcj,hj1])
   refine hp2 _ (j+1) ⟨⟨by omega,hjl⟩,by rw[at2_step hdj (p:=isDg) g4]; exact hja⟩ (by omega) ?_
   unfold tW
   have hrn:rnOk [(E.n0,E.n0),(E.n0+1,E.n0+1)]:=by simp[toB,zTk]
   refine Conv.sub [(E.n0,E.n0),(E.n0+1,E.n0+1)] hrn ?_ ?_ ?_ ?_ ?_<;>(try simp[toB,zTk])
  | false =>
   have hDd:∀id,FnOk Tryz.prog 41 [.int .u8 d.toNat] [] id (.bool false) []:=fun id=>g4▸rDigit_ok d id
   have hji:at2 isDg s (i+1)=j:=by rw[←hja]; exact at2_stop hdj g4
   rw[hji] at hpt hlo
   obtain⟨D,hD⟩:∃D,D=(s.take j).drop i:=⟨_,rfl⟩
   have hDl:D.length≤1099511627776:=by rw[hD]; simp; omega
   have hIO:=fun id=>intOf_ok D id hDl
   rw[←hD] at hpt
   cases hio:intOf D with
   | none =>
    rw[hio] at hpt hIO
    have hpt:pTok c (s.drop (i+1)) = .error 1:=hpt
    have hIO:∀id,FnOk Tryz.prog 42 [.str D] [] id (.tup [.int .i64 0,.bool false]) []:=hIO
    unfold tW
    refine w_go 4000 ?_
    simp[hjl,hcj]
    (refine w_callg hP (by simp[hjl,hcj,←hD]) rfl (fun hc=>⟨hDd _,by revert hc; simp[hjl,hcj,←hD]; try grind,by simp[hjl,hcj,←hD]⟩) ?_; refine w_go 4000 ?_; simp[hjl,hcj,←hD])
    refine⟨by omega,?_⟩
    (refine w_call hP rfl (hIO _) (by simp) (by simp<;>rfl) ?_; refine w_go 4000 ?_; simp)
    rw[hO.bad hd g h35 hpt] at hR
    have hR:E.Rt=RtOk E.n0 id E.G0.used [.tmp 2,.tmp 3] [] (.tup [.nils,.int .i64 1]) []:=hR
    rw[hR]; exact rt_end (by simp<;>rfl) [] trivial (end_pure (by simp) (by simp) (by simp))
   | some n =>
    rw[hio] at hpt hIO
    have hpt:pTok c (s.drop (i+1)) = .ok (⟨2,[],n⟩,s.drop j):=hpt
    have hIO:∀id,FnOk Tryz.prog 42 [.str D] [] id (.tup [.int .i64 n,.bool true]) []:=hIO
    unfold tW
    refine w_go 4000 ?_
    simp[hjl,hcj]
    (refine w_callg hP (by simp[hjl,hcj,←hD]) rfl (fun hc=>⟨hDd _,by revert hc; simp[hjl,hcj,←hD]; try grind,by simp[hjl,hcj,←hD]⟩) ?_; refine w_go 4000 ?_; simp[hjl,hcj,←hD])
    refine⟨by omega,?_⟩
    (refine w_call hP rfl (hIO _) (by simp[toB,zTk]) (by simp[toB,zTk]<;>rfl) ?_; refine w_go 4000 ?_; simp[toB,zTk])
    refine⟨⟨by omega,by omega⟩,?_⟩
    refine goc (fun gm=>?_) (fun gm=>?_)
    ·simp
     rw[hO.many hd g h35 hpt (by simp at gm; omega)] at hR
     have hR:E.Rt=RtOk E.n0 id E.G0.used [.tmp 2,.tmp 3] [] (.tup [.nils,.int .i64 2]) []:=hR
     rw[hR]; exact rt_end (by simp<;>rfl) [] trivial (end_pure (by simp) (by simp) (by simp))
    ·simp
     refine hp _ (acc++[⟨2,[],n⟩],j) (hO.next hd g h35 hpt (by omega) (by simp at gm; omega)) (by simp; omega) ?_
     unfold tS
     have hrn:rnOk [(E.n0,E.n0+28674)]:=by simp[toB,eTk]
     refine Conv.sub [(E.n0,E.n0+28674)] hrn ?_ ?_ ?_ ?_ ?_<;>(try simp[toB,eTk])
     all_goals exact renL_pure rfl (pureL_append (pure_tks acc) (pure_tks [⟨2,[],n⟩]))
 have hnd:¬(isDg c=true∨c=45):=by
  simp at gn
  rintro (e|e)
  ·rw[gn.1] at e; cases e
  ·exact gn.2 e
 simp[b34]
 refine goc (fun gq=>?_) (fun gq=>?_)
 ·have gq2:c=34:=by simpa using gq
  have hpt:=pTok_text (r:=s.drop (i+1)) gq2
  have hi1l:i+1≤s.length:=hlt
  simp[hi1]
  refine w_loop (X:=List UInt8×Nat) (fun q=>tX E s acc q.1 q.2) (fun q=>(i+1≤q.2∧q.2≤s.length)∧q.1.length≤q.2∧pTq false q.1 (s.drop q.2)=pTq false [] (s.drop (i+1))) (fun q=>s.length - q.2) ([],i+1) ?_ ⟨⟨Nat.le_refl _,hi1l⟩,by simp,rfl⟩ ?_
  ·unfold tX
   have hrn:rnOk [(E.n0,E.n0),(E.n0+1,E.n0+28673)]:=by simp[toB,zTk]
   refine Conv.sub [(E.n0,E.n0),(E.n0+1,E.n0+28673)] hrn ?_ ?_ ?_ ?_ ?_<;>(try simp[toB,zTk])
  rintro⟨tx,j⟩ ⟨⟨hij,hj⟩,htl,hjq⟩ p2 hp2
  simp only at hij hj htl hjq
  have hj1:IntKind.i64.wrap ((j:Int)+1)=(j:Int)+1:=wrap64 (by omega)
  rcases Nat.lt_or_ge j s.length with hjl|hjl
  rotate_left
  ·have hg:s[j]?=none:=List.getElem?_eq_none_iff.2 hjl
   have hje:j=s.length:=by omega
   rw[List.drop_of_length_le hjl] at hjq
   have hjq:none=pTq false [] (s.drop (i+1)):=hjq
   unfold textT at hpt
   rw[←hjq] at hpt
   rw[hO.bad hd g h35 hpt] at hR
   have hR:E.Rt=RtOk E.n0 id E.G0.used [.tmp 2,.tmp 3] [] (.tup [.nils,.int .i64 1]) []:=hR
   unfold tX
   refine w_go 4000 ?_
   simp[Nat.not_lt.2 hjl,hg,hje]
   rw[hR]; exact rt_end (by simp<;>rfl) [] trivial (end_pure (by simp) (by simp) (by simp))
  obtain⟨d,hdj,hdd⟩:=drop_cons hjl
  have hcj:s[j]=d:=by
   rw[List.getElem?_eq_getElem hjl] at hdj
   injection hdj
  have d34:((d.toNat:Int)==34)=(d==34):=u8i d 34 (by decide)
  have hone:(s.take (j+1)).drop j=[d]:=by
   rw[List.take_succ,hdj,List.drop_append_of_le_length (by simp; omega),List.drop_of_length_le (by simp; omega)]; rfl
  rw[hdd] at hjq
  by_cases h34:d=34
  ·subst h34
   have hjq:some (tx,s.drop (j+1))=pTq false [] (s.drop (i+1)):=hjq
   unfold textT at hpt
   rw[←hjq] at hpt
   simp only at hpt
   have hne:((j:Int)==(s.length:Int))=false:=by simp; omega
   unfold tX
   refine w_go 4000 ?_
   simp[hjl,hcj,hne,hj1]
   refine goc (fun g3=>?_) (fun g3=>?_)
   ·simp
    rw[if_pos (by simp at g3; omega)] at hpt
    rw[hO.bad hd g h35 (hpt)] at hR
    have hR:E.Rt=RtOk E.n0 id E.G0.used [.tmp 2,.tmp 3] [] (.tup [.nils,.int .i64 2]) []:=hR
    rw[hR]; exact rt_end (by simp<;>rfl) [] trivial (end_pure (by simp) (by simp) (by simp))
   ·rw[if_neg (by simp at g3; omega)] at hpt
    simp[toB,zTk]
    refine⟨⟨by omega,by omega⟩,?_⟩
    refine goc (fun gm=>?_) (fun gm=>?_)
    ·simp
     rw[hO.many hd g h35 hpt (by simp at gm; omega)] at hR
     have hR:E.Rt=RtOk E.n0 id E.G0.used [.tmp 2,.tmp 3] [] (.tup [.nils,.int .i64 2]) []:=hR
     rw[hR]; exact rt_end (by simp<;>rfl) [] trivial (end_pure (by simp) (by simp) (by simp))
    ·simp
     refine hp _ (acc++[⟨3,tx,0⟩],(j+1)) (hO.next hd g h35 hpt (by omega) (by simp at gm; omega)) (by simp; omega) ?_
     unfold tS
     have hrn:rnOk [(E.n0,E.n0+26626)]:=by simp[toB,eTk]
     refine Conv.sub [(E.n0,E.n0+26626)] hrn ?_ ?_ ?_ ?_ ?_<;>(try simp[toB,eTk])
     all_goals exact renL_pure rfl (pureL_append (pure_tks acc) (pure_tks [⟨3,tx,0⟩]))
  unfold tX
  refine w_go 4000 ?_
  simp[hjl,hcj]
  refine goc_true (by simp only[bne,d34]; simpa using h34) ?_
  simp[hj1,hone]
  refine⟨⟨⟨by omega,by omega⟩,by omega⟩,?_⟩
  by_cases h10:d=10
  ·subst h10
   have hjq:none=pTq false [] (s.drop (i+1)):=hjq
   unfold textT at hpt
   rw[←hjq] at hpt
   refine goc_true (by rfl) ?_
   simp
   rw[hO.bad hd g h35 (hpt)] at hR
   have hR:E.Rt=RtOk E.n0 id E.G0.used [.tmp 2,.tmp 3] [] (.tup [.nils,.int .i64 1]) []:=hR
   rw[hR]; exact rt_end (by simp<;>rfl) [] trivial (end_pure (by simp) (by simp) (by simp))
  refine goc_false (by simpa using h10) ?_
  simp
  by_cases h92:d=92
  rotate_left
  ·refine goc_false (by simpa using h92) ?_
   have hjq:pTq false (tx++[d]) (s.drop (j+1))=pTq false [] (s.drop (i+1)):=by
    rw[←hjq]
    conv=>rhs; unfold pTq
    rw[if_neg h10,if_neg h34,if_neg h92]
   simp[hj1]
   refine⟨by omega,?_⟩
   refine hp2 _ (tx++[d],j+1) ⟨⟨by simp only; omega,by simp only; omega⟩,by simp; omega,hjq⟩ (by simp only; omega) ?_
   unfold tX
   have hrn:rnOk [(E.n0,E.n0),(E.n0+1,E.n0+1)]:=by simp[toB,zTk]
   refine Conv.sub [(E.n0,E.n0),(E.n0+1,E.n0+1)] hrn ?_ ?_ ?_ ?_ ?_<;>(try simp[toB,zTk])
  subst h92
  have hjq:pTq true tx (s.drop (j+1))=pTq false [] (s.drop (i+1)):=hjq
  refine goc_true (by rfl) ?_
  simp[hj1]
  rcases Nat.lt_or_ge (j+1) s.length with hj2|hj2
  rotate_left
  ·have hje:(j:Int)+1=(s.length:Int):=by omega
   rw[List.drop_of_length_le hj2] at hjq
   have hjq:none=pTq false [] (s.drop (i+1)):=hjq
   unfold textT at hpt
   rw[←hjq] at hpt
   refine goc_true (by simpa using hje) ?_
   simp
   rw[hO.bad hd g h35 (hpt)] at hR
   have hR:E.Rt=RtOk E.n0 id E.G0.used [.tmp 2,.tmp 3] [] (.tup [.nils,.int .i64 1]) []:=hR
   rw[hR]; exact rt_end (by simp<;>rfl) [] trivial (end_pure (by simp) (by simp) (by simp))
  have hje:¬(j:Int)+1=(s.length:Int):=by omega
  obtain⟨e,hej,hed⟩:=drop_cons hj2
  have hce:s[j+1]=e:=by
   rw[List.getElem?_eq_getElem hj2] at hej
   injection hej
  have e34:((e.toNat:Int)==34)=(e==34):=u8i e 34 (by decide)
  have e92:((e.toNat:Int)==92)=(e==92):=u8i e 92 (by decide)
  have e110:((e.toNat:Int)==110)=(e==110):=u8i e 110 (by decide)
  have hone2:(s.take (j+1+1)).drop (j+1)=[e]:=by
   rw[List.take_succ,hej,List.drop_append_of_le_length (by simp; omega),List.drop_of_length_le (by simp; omega)]; rfl
  have hj3:IntKind.i64.wrap ((j:Int)+1+1)=(j:Int)+2:=by rw[wrap64 (by omega)]; omega
  have hn1:((j:Int)+1).toNat=j+1:=by omega
  have hn2:((j:Int)+2).toNat=j+1+1:=by omega
  rw[hed] at hjq
  refine goc_false (by simpa using hje) ?_
  simp[hn1,hj2,hce]
  refine⟨by omega,?_⟩
  by_cases k34:e=34
  ·subst k34
   have hjq:pTq false (tx++[34]) (s.drop (j+1+1))=pTq false [] (s.drop (i+1)):=hjq
   refine goc_true (by rfl) ?_
   simp[hj3,hn1,hn2,hone2]
   refine⟨by omega,by omega,?_⟩
   refine hp2 _ (tx++[34],j+2) ⟨⟨by simp only; omega,by simp only; omega⟩,by simp; omega,hjq⟩ (by simp only; omega) ?_
   unfold tX
   have hrn:rnOk [(E.n0,E.n0),(E.n0+1,E.n0+1)]:=by simp[toB,zTk]
   refine Conv.sub [(E.n0,E.n0),(E.n0+1,E.n0+1)] hrn ?_ ?_ ?_ ?_ ?_<;>(try simp[toB,zTk])
  refine goc_false (by rw[e34]; simpa using k34) ?_
  simp
  by_cases k92:e=92
  ·subst k92
   have hjq:pTq false (tx++[92]) (s.drop (j+1+1))=pTq false [] (s.drop (i+1)):=hjq
   refine goc_true (by rfl) ?_
   simp[hj3,hn1,hn2,hone2]
   refine⟨by omega,by omega,?_⟩
   refine hp2 _ (tx++[92],j+2) ⟨⟨by simp only; omega,by simp only; omega⟩,by simp; omega,hjq⟩ (by simp only; omega) ?_
   unfold tX
   have hrn:rnOk [(E.n0,E.n0),(E.n0+1,E.n0+1)]:=by simp[toB,zTk]
   refine Conv.sub [(E.n0,E.n0),(E.n0+1,E.n0+1)] hrn ?_ ?_ ?_ ?_ ?_<;>(try simp[toB,zTk])
  refine goc_false (by rw[e92]; simpa using k92) ?_
  simp
  by_cases k110:e=110
  ·subst k110
   have hjq:pTq false (tx++[10]) (s.drop (j+1+1))=pTq false [] (s.drop (i+1)):=hjq
   refine goc_true (by rfl) ?_
   simp[hj3,hn1,hn2,hone2]
   refine⟨by omega,?_⟩
   refine hp2 _ (tx++[10],j+2) ⟨⟨by simp only; omega,by simp only; omega⟩,by simp; omega,hjq⟩ (by simp only; omega) ?_
   unfold tX
   have hrn:rnOk [(E.n0,E.n0),(E.n0+1,E.n0+1)]:=by simp[toB,zTk]
   refine Conv.sub [(E.n0,E.n0),(E.n0+1,E.n0+1)] hrn ?_ ?_ ?_ ?_ ?_<;>(try simp[toB,zTk])
  refine goc_false (by rw[e110]; simpa using k110) ?_
  simp
  have hjq:none=pTq false [] (s.drop (i+1)):=by
   rw[←hjq]
   unfold pTq
   rw[if_neg (by simp[k34,k92]),if_neg k110]
  unfold textT at hpt
  rw[←hjq] at hpt
  rw[hO.bad hd g h35 (hpt)] at hR
  have hR:E.Rt=RtOk E.n0 id E.G0.used [.tmp 2,.tmp 3] [] (.tup [.nils,.int .i64 1]) []:=hR
  rw[hR]; exact rt_end (by simp<;>rfl) [] trivial (end_pure (by simp) (by simp) (by simp))
 have h34:c≠34:=by simpa using gq
 have hone:(s.take (i+1)).drop i=[c]:=by
  rw[List.take_succ,hc,List.drop_append_of_le_length (by simp; omega),List.drop_of_length_le (by simp; omega)]; rfl
 have hpt:=pTok_sign (r:=s.drop (i+1)) hlt0 hnd h34
 simp[hi1,hone]
 refine⟨⟨⟨by omega,by omega⟩,by omega⟩,?_⟩
 have hS:=fun id=>rSign_ok [c] id
 rw[show (decide ([c].length=1)&&[c].all sgC)=sgC c from by simp] at hS
 (refine w_call hP rfl (hS _) (by simp[hi1,hone]) (by simp[hi1,hone]<;>rfl) ?_; refine w_go 4000 ?_; simp[hi1,hone])
 refine goc (fun g3=>?_) (fun g3=>?_)
 ·rw[if_pos g3] at hpt
  simp[hi1,hone,toB,zTk]
  refine⟨⟨⟨by omega,by omega⟩,by omega⟩,?_⟩
  refine⟨⟨by omega,by omega⟩,?_⟩
  refine goc (fun gm=>?_) (fun gm=>?_)
  ·simp
   rw[hO.many hd g h35 hpt (by simp at gm; omega)] at hR
   have hR:E.Rt=RtOk E.n0 id E.G0.used [.tmp 2,.tmp 3] [] (.tup [.nils,.int .i64 2]) []:=hR
   rw[hR]; exact rt_end (by simp<;>rfl) [] trivial (end_pure (by simp) (by simp) (by simp))
  ·simp
   refine hp _ (acc++[⟨4,[c],0⟩],(i+1)) (hO.next hd g h35 hpt (by omega) (by simp at gm; omega)) (by simp; omega) ?_
   unfold tS
   have hrn:rnOk [(E.n0,E.n0+65537)]:=by simp[toB,eTk]
   refine Conv.sub [(E.n0,E.n0+65537)] hrn ?_ ?_ ?_ ?_ ?_<;>(try simp[toB,eTk])
   all_goals exact renL_pure rfl (pureL_append (pure_tks acc) (pure_tks [⟨4,[c],0⟩]))
 ·rw[if_neg (by simp[g3])] at hpt
  simp
  rw[hO.bad hd g h35 (hpt)] at hR
  have hR:E.Rt=RtOk E.n0 id E.G0.used [.tmp 2,.tmp 3] [] (.tup [.nils,.int .i64 1]) []:=hR
  rw[hR]; exact rt_end (by simp<;>rfl) [] trivial (end_pure (by simp) (by simp) (by simp))
end Go.Am
namespace Go.Am
set_option linter.all false
open Go Go.RowKit Go.Proofs
set_option maxRecDepth 100000
set_option linter.all false
set_option maxHeartbeats 8000000 in
theorem LexTells_ok(s:List UInt8)(l:List Tk)(id:Nat):FnOk Tryz.prog 4 [.str s,.sl (l.map eTk)] [] id (.bool true) []:=by
 have hB:=fun id=>lexBegun_ok id
 have hPr:=fun id=>tPrint_ok l id
 have hR1:=fun id=>Read_ok s id
 have hR2:=fun id=>rToks_ok s id
 have hC1:=fun id=>tCheck_ok l id
 have hC2:=fun id=>CheckTokens_ok l id
 obtain⟨v,e,m,hv,hm,hl,_⟩:=lex_case s
 have hS:=fun id=>sameT_any hm hm (by omega) id
 rw[decide_eq_true rfl] at hS
 rw[hv] at hR1 hR2
 by_cases hc:fTks l=0
 ·obtain⟨q1,q2⟩:=(fTks_all l).1 hc
  have q3:=wSum_le (l:=l) q2
  have hBy:=fun id=>rBytes_ok l id (fun t ht hk=>by
   have h:=q2 t ht
   obtain⟨k,tx,n⟩:=t
   simp only at hk
   subst hk
   unfold fTk at h
   obtain⟨h1,h⟩:=ite0 h (by decide)
   obtain⟨h2,h⟩:=ite0 h (by decide)
   simp at h
   simp only
   omega) (by omega) (by omega)
  rw[tPr_ok hc] at hPr
  rw[hc] at hC1 hC2
  refine fn_okc Tryz.func4 hcc4 (by decide) hcr4 (by simp[Tryz.ntmps4]) fun E hP hR hl hid=>?_
  simp only[cr4] at hR
  refine w_go 4000 ?_
  simp[cc4]
  (refine w_call hP rfl (hR1 _) (by simp) (by simp<;>rfl) ?_; refine w_go 4000 ?_; simp)
  (refine w_call hP rfl (hPr _) (by simp) (by simp<;>rfl) ?_; refine w_go 4000 ?_; simp)
  (refine w_call hP rfl (hR2 _) (by simp) (by simp<;>rfl) ?_; refine w_go 4000 ?_; simp)
  (refine w_call hP rfl (hC2 _) (by simp) (by simp<;>rfl) ?_; refine w_go 4000 ?_; simp)
  (refine w_call hP rfl (hBy _) (by simp) (by simp<;>rfl) ?_; refine w_go 4000 ?_; simp)
  (refine w_call hP rfl (hB _) (by simp) (by simp<;>rfl) ?_; refine w_go 4000 ?_; simp)
  (refine w_callg hP (by simp) rfl (fun hc=>⟨hC1 _,by revert hc; simp; try grind,by simp⟩) ?_; refine w_go 4000 ?_; simp)
  (refine w_callg hP (by simp) rfl (fun hc=>⟨hS _,by revert hc; simp; try grind,by simp⟩) ?_; refine w_go 4000 ?_; simp)
  rw[hR]; exact rt_end (by simp<;>rfl) [] trivial (end_pure (by simp) (by simp) (by simp))
 ·rw[tPr_no hc] at hPr
  refine fn_okc Tryz.func4 hcc4 (by decide) hcr4 (by simp[Tryz.ntmps4]) fun E hP hR hl hid=>?_
  simp only[cr4] at hR
  refine w_go 4000 ?_
  simp[cc4]
  (refine w_call hP rfl (hR1 _) (by simp) (by simp<;>rfl) ?_; refine w_go 4000 ?_; simp)
  (refine w_call hP rfl (hPr _) (by simp) (by simp<;>rfl) ?_; refine w_go 4000 ?_; simp)
  (refine w_call hP rfl (hR2 _) (by simp) (by simp<;>rfl) ?_; refine w_go 4000 ?_; simp)
  (refine w_call hP rfl (hC2 _) (by simp) (by simp<;>rfl) ?_; refine w_go 4000 ?_; simp)
  refine goc_false (by simpa using hc) ?_
  simp
  (refine w_call hP rfl (hB _) (by simp) (by simp<;>rfl) ?_; refine w_go 4000 ?_; simp)
  (refine w_callg hP (by simp) rfl (fun hc=>⟨hC1 _,by revert hc; simp; try grind,by simp⟩) ?_; refine w_go 4000 ?_; simp)
  (refine w_callg hP (by simp) rfl (fun hc=>⟨hS _,by revert hc; simp; try grind,by simp⟩) ?_; refine w_go 4000 ?_; simp)
  rw[hR]; exact rt_end (by simp<;>rfl) [] trivial (end_pure (by simp) (by simp) (by simp))
theorem tok_self(m:List Tk)(h:m.length≤300)(id:Nat):FnOk Tryz.prog 15 [.sl (m.map eTk),.sl (m.map eTk)] [] id (.bool true) []:=by
 have:=SameTokens_ok m m id (by omega)
 rwa [decide_eq_true rfl] at this
set_option maxHeartbeats 8000000 in
theorem LexBack_ok(s:List UInt8)(l:List Tk)(id:Nat):FnOk Tryz.prog 5 [.str s,.sl (l.map eTk)] [] id (.bool true) []:=by
 have hB:=fun id=>lexBegun_ok id
 have hP1:=fun id=>tPrint_ok l id
 have hR2:=fun id=>Read_ok s id
 cases hs:fLex s with
 | error e =>
  rw[hs] at hR2
  have hR2:∀id,FnOk Tryz.prog 13 [.str s] [] id (.tup [.nils,.int .i64 e]) []:=hR2
  have hne:=fLex_ne hs
  clear hs
  by_cases hc:fTks l=0
  ·rw[tPr_ok hc] at hP1
   by_cases hl8:(tkB l).length≤2000
   ·have hRl:=fun id=>Read_ok (tkB l) id
    rw[lex_print hc hl8] at hRl
    have hRl:∀id,FnOk Tryz.prog 13 [.str (tkB l)] [] id (.tup [.sl (l.map eTk),.int .i64 0]) []:=hRl
    have hS:=fun id=>tok_self l ((fTks_all l).1 hc).1 id
    refine fn_okc Tryz.func5 hcc5 (by decide) hcr5 (by simp[Tryz.ntmps5]) fun E hP hR hl hid=>?_
    simp only[cr5] at hR
    refine w_go 4000 ?_
    simp[cc5]
    (refine w_call hP rfl (hB _) (by simp) (by simp<;>rfl) ?_; refine w_go 4000 ?_; simp)
    (refine w_call hP rfl (hP1 _) (by simp[hl8]) (by simp[hl8]<;>rfl) ?_; refine w_go 4000 ?_; simp[hl8])
    refine goc_true (by simp; omega) ?_
    simp
    (refine w_call hP rfl (hRl _) (by simp) (by simp<;>rfl) ?_; refine w_go 4000 ?_; simp)
    (refine w_callg hP (by simp) rfl (fun hc=>⟨hS _,by revert hc; simp; try grind,by simp⟩) ?_; refine w_go 4000 ?_; simp)
    (refine w_call hP rfl (hR2 _) (by simp) (by simp<;>rfl) ?_; refine w_go 4000 ?_; simp)
    refine goc_true (by simpa using hne) ?_
    simp
    rw[hR]; exact rt_end (by simp<;>rfl) [] trivial (end_pure (by simp) (by simp) (by simp))
   ·skip
    refine fn_okc Tryz.func5 hcc5 (by decide) hcr5 (by simp[Tryz.ntmps5]) fun E hP hR hl hid=>?_
    simp only[cr5] at hR
    refine w_go 4000 ?_
    simp[cc5]
    (refine w_call hP rfl (hB _) (by simp) (by simp<;>rfl) ?_; refine w_go 4000 ?_; simp)
    (refine w_call hP rfl (hP1 _) (by simp) (by simp<;>rfl) ?_; refine w_go 4000 ?_; simp)
    refine goc_false (by simp; omega) ?_
    simp
    (refine w_call hP rfl (hR2 _) (by simp) (by simp<;>rfl) ?_; refine w_go 4000 ?_; simp)
    refine goc_true (by simpa using hne) ?_
    simp
    rw[hR]; exact rt_end (by simp<;>rfl) [] trivial (end_pure (by simp) (by simp) (by simp))
  ·rw[tPr_no hc] at hP1
   refine fn_okc Tryz.func5 hcc5 (by decide) hcr5 (by simp[Tryz.ntmps5]) fun E hP hR hl hid=>?_
   simp only[cr5] at hR
   refine w_go 4000 ?_
   simp[cc5]
   (refine w_call hP rfl (hB _) (by simp) (by simp<;>rfl) ?_; refine w_go 4000 ?_; simp)
   (refine w_call hP rfl (hP1 _) (by simp) (by simp<;>rfl) ?_; refine w_go 4000 ?_; simp)
   refine goc_false (by simpa using hc) ?_
   simp
   (refine w_call hP rfl (hR2 _) (by simp) (by simp<;>rfl) ?_; refine w_go 4000 ?_; simp)
   refine goc_true (by simpa using hne) ?_
   simp
   rw[hR]; exact rt_end (by simp<;>rfl) [] trivial (end_pure (by simp) (by simp) (by simp))
 | ok m =>
  rw[hs] at hR2
  have hR2:∀id,FnOk Tryz.prog 13 [.str s] [] id (.tup [.sl (m.map eTk),.int .i64 0]) []:=hR2
  have hf2:=lex_back hs
  have hm3:=((fTks_all m).1 hf2).1
  have t2:=fun id=>tPrint_ok m id
  rw[tPr_ok hf2] at t2
  have t2:∀id,FnOk Tryz.prog 16 [.sl (m.map eTk)] [] id (.tup [.str (tkB m),.int .i64 0]) []:=t2
  clear hs
  by_cases hm8:(tkB m).length≤2000
  ·have t3:=fun id=>Read_ok (tkB m) id
   rw[lex_print hf2 hm8] at t3
   have t3:∀id,FnOk Tryz.prog 13 [.str (tkB m)] [] id (.tup [.sl (m.map eTk),.int .i64 0]) []:=t3
   have t4:=fun id=>tok_self m hm3 id
   by_cases hc:fTks l=0
   ·rw[tPr_ok hc] at hP1
    by_cases hl8:(tkB l).length≤2000
    ·have hRl:=fun id=>Read_ok (tkB l) id
     rw[lex_print hc hl8] at hRl
     have hRl:∀id,FnOk Tryz.prog 13 [.str (tkB l)] [] id (.tup [.sl (l.map eTk),.int .i64 0]) []:=hRl
     have hS:=fun id=>tok_self l ((fTks_all l).1 hc).1 id
     refine fn_okc Tryz.func5 hcc5 (by decide) hcr5 (by simp[Tryz.ntmps5]) fun E hP hR hl hid=>?_
     simp only[cr5] at hR
     refine w_go 4000 ?_
     simp[cc5]
     (refine w_call hP rfl (hB _) (by simp) (by simp<;>rfl) ?_; refine w_go 4000 ?_; simp)
     (refine w_call hP rfl (hP1 _) (by simp[hl8]) (by simp[hl8]<;>rfl) ?_; refine w_go 4000 ?_; simp[hl8])
     refine goc_true (by simp; omega) ?_
     simp
     (refine w_call hP rfl (hRl _) (by simp) (by simp<;>rfl) ?_; refine w_go 4000 ?_; simp)
     (refine w_callg hP (by simp) rfl (fun hc=>⟨hS _,by revert hc; simp; try grind,by simp⟩) ?_; refine w_go 4000 ?_; simp)
     (refine w_call hP rfl (hR2 _) (by simp) (by simp<;>rfl) ?_; refine w_go 4000 ?_; simp)
     (refine w_call hP rfl (t2 _) (by simp) (by simp<;>rfl) ?_; refine w_go 4000 ?_; simp)
     refine goc_false (by simp; omega) ?_
     simp
     (refine w_call hP rfl (t3 _) (by simp) (by simp<;>rfl) ?_; refine w_go 4000 ?_; simp)
     (refine w_callg hP (by simp) rfl (fun hc=>⟨t4 _,by revert hc; simp; try grind,by simp⟩) ?_; refine w_go 4000 ?_; simp)
     rw[hR]; exact rt_end (by simp<;>rfl) [] trivial (end_pure (by simp) (by simp) (by simp))
    ·skip
     refine fn_okc Tryz.func5 hcc5 (by decide) hcr5 (by simp[Tryz.ntmps5]) fun E hP hR hl hid=>?_
     simp only[cr5] at hR
     refine w_go 4000 ?_
     simp[cc5]
     (refine w_call hP rfl (hB _) (by simp) (by simp<;>rfl) ?_; refine w_go 4000 ?_; simp)
     (refine w_call hP rfl (hP1 _) (by simp) (by simp<;>rfl) ?_; refine w_go 4000 ?_; simp)
     refine goc_false (by simp; omega) ?_
     simp
     (refine w_call hP rfl (hR2 _) (by simp) (by simp<;>rfl) ?_; refine w_go 4000 ?_; simp)
     (refine w_call hP rfl (t2 _) (by simp) (by simp<;>rfl) ?_; refine w_go 4000 ?_; simp)
     refine goc_false (by simp; omega) ?_
     simp
     (refine w_call hP rfl (t3 _) (by simp) (by simp<;>rfl) ?_; refine w_go 4000 ?_; simp)
     (refine w_callg hP (by simp) rfl (fun hc=>⟨t4 _,by revert hc; simp; try grind,by simp⟩) ?_; refine w_go 4000 ?_; simp)
     rw[hR]; exact rt_end (by simp<;>rfl) [] trivial (end_pure (by simp) (by simp) (by simp))
   ·rw[tPr_no hc] at hP1
    refine fn_okc Tryz.func5 hcc5 (by decide) hcr5 (by simp[Tryz.ntmps5]) fun E hP hR hl hid=>?_
    simp only[cr5] at hR
    refine w_go 4000 ?_
    simp[cc5]
    (refine w_call hP rfl (hB _) (by simp) (by simp<;>rfl) ?_; refine w_go 4000 ?_; simp)
    (refine w_call hP rfl (hP1 _) (by simp) (by simp<;>rfl) ?_; refine w_go 4000 ?_; simp)
    refine goc_false (by simpa using hc) ?_
    simp
    (refine w_call hP rfl (hR2 _) (by simp) (by simp<;>rfl) ?_; refine w_go 4000 ?_; simp)
    (refine w_call hP rfl (t2 _) (by simp) (by simp<;>rfl) ?_; refine w_go 4000 ?_; simp)
    refine goc_false (by simp; omega) ?_
    simp
    (refine w_call hP rfl (t3 _) (by simp) (by simp<;>rfl) ?_; refine w_go 4000 ?_; simp)
    (refine w_callg hP (by simp) rfl (fun hc=>⟨t4 _,by revert hc; simp; try grind,by simp⟩) ?_; refine w_go 4000 ?_; simp)
    rw[hR]; exact rt_end (by simp<;>rfl) [] trivial (end_pure (by simp) (by simp) (by simp))
  ·skip
   by_cases hc:fTks l=0
   ·rw[tPr_ok hc] at hP1
    by_cases hl8:(tkB l).length≤2000
    ·have hRl:=fun id=>Read_ok (tkB l) id
     rw[lex_print hc hl8] at hRl
     have hRl:∀id,FnOk Tryz.prog 13 [.str (tkB l)] [] id (.tup [.sl (l.map eTk),.int .i64 0]) []:=hRl
     have hS:=fun id=>tok_self l ((fTks_all l).1 hc).1 id
     refine fn_okc Tryz.func5 hcc5 (by decide) hcr5 (by simp[Tryz.ntmps5]) fun E hP hR hl hid=>?_
     simp only[cr5] at hR
     refine w_go 4000 ?_
     simp[cc5]
     (refine w_call hP rfl (hB _) (by simp) (by simp<;>rfl) ?_; refine w_go 4000 ?_; simp)
     (refine w_call hP rfl (hP1 _) (by simp[hl8]) (by simp[hl8]<;>rfl) ?_; refine w_go 4000 ?_; simp[hl8])
     refine goc_true (by simp; omega) ?_
     simp
     (refine w_call hP rfl (hRl _) (by simp) (by simp<;>rfl) ?_; refine w_go 4000 ?_; simp)
     (refine w_callg hP (by simp) rfl (fun hc=>⟨hS _,by revert hc; simp; try grind,by simp⟩) ?_; refine w_go 4000 ?_; simp)
     (refine w_call hP rfl (hR2 _) (by simp) (by simp<;>rfl) ?_; refine w_go 4000 ?_; simp)
     (refine w_call hP rfl (t2 _) (by simp) (by simp<;>rfl) ?_; refine w_go 4000 ?_; simp)
     refine goc_true (by simp; omega) ?_
     simp
     rw[hR]; exact rt_end (by simp<;>rfl) [] trivial (end_pure (by simp) (by simp) (by simp))
    ·skip
     refine fn_okc Tryz.func5 hcc5 (by decide) hcr5 (by simp[Tryz.ntmps5]) fun E hP hR hl hid=>?_
     simp only[cr5] at hR
     refine w_go 4000 ?_
     simp[cc5]
     (refine w_call hP rfl (hB _) (by simp) (by simp<;>rfl) ?_; refine w_go 4000 ?_; simp)
     (refine w_call hP rfl (hP1 _) (by simp) (by simp<;>rfl) ?_; refine w_go 4000 ?_; simp)
     refine goc_false (by simp; omega) ?_
     simp
     (refine w_call hP rfl (hR2 _) (by simp) (by simp<;>rfl) ?_; refine w_go 4000 ?_; simp)
     (refine w_call hP rfl (t2 _) (by simp) (by simp<;>rfl) ?_; refine w_go 4000 ?_; simp)
     refine goc_true (by simp; omega) ?_
     simp
     rw[hR]; exact rt_end (by simp<;>rfl) [] trivial (end_pure (by simp) (by simp) (by simp))
   ·rw[tPr_no hc] at hP1
    refine fn_okc Tryz.func5 hcc5 (by decide) hcr5 (by simp[Tryz.ntmps5]) fun E hP hR hl hid=>?_
    simp only[cr5] at hR
    refine w_go 4000 ?_
    simp[cc5]
    (refine w_call hP rfl (hB _) (by simp) (by simp<;>rfl) ?_; refine w_go 4000 ?_; simp)
    (refine w_call hP rfl (hP1 _) (by simp) (by simp<;>rfl) ?_; refine w_go 4000 ?_; simp)
    refine goc_false (by simpa using hc) ?_
    simp
    (refine w_call hP rfl (hR2 _) (by simp) (by simp<;>rfl) ?_; refine w_go 4000 ?_; simp)
    (refine w_call hP rfl (t2 _) (by simp) (by simp<;>rfl) ?_; refine w_go 4000 ?_; simp)
    refine goc_true (by simp; omega) ?_
    simp
    rw[hR]; exact rt_end (by simp<;>rfl) [] trivial (end_pure (by simp) (by simp) (by simp))
end Go.Am
namespace Go.Proofs.YtgfmjhmjnnpcgaaGreatDoor
open Go Go.RowKit Go.Am
set_option maxRecDepth 100000
theorem Tryz.own:ownKnob Tryz.prog.godebug=none:=by kernel_rfl
theorem Tryz.laidOut:laidOutB Tryz.prog=true:=by kernel_rfl
noncomputable def tys(fn:Func):List TypeId:=closeT Tryz.prog 8 fn.params.toList
end Go.Proofs.YtgfmjhmjnnpcgaaGreatDoor
namespace Go.Proofs.YtgfmjhmjnnpcgaaGreatDoor
open Go Go.RowKit Go.Am
set_option maxRecDepth 100000
theorem fits_tk{n:Nat}{x:AV}(h:Fits Tryz.prog n 62 x):∃t:Tk,x=eTk t:=by
 obtain⟨m,ys,rfl,rfl,h0⟩:=fits_st Tryz.underlying62 h
 obtain⟨a,ys,rfl,ha,h0⟩:=fitsL_cons h0
 obtain⟨b,ys,rfl,hb,h0⟩:=fitsL_cons h0
 obtain⟨c,ys,rfl,hc,h0⟩:=fitsL_cons h0
 obtain rfl:=fitsL_nil h0
 obtain⟨a,rfl,_⟩:=fits_int Tryz.underlying3 ha
 obtain⟨b,rfl,_⟩:=fits_str Tryz.underlying9 hb
 obtain⟨c,rfl,_⟩:=fits_int Tryz.underlying3 hc
 exact⟨⟨a,b,c⟩,rfl⟩
theorem fits_tks{n:Nat}{x:AV}(h:Fits Tryz.prog n 22 x):∃l:List Tk,x = .sl (l.map eTk):=by
 obtain⟨k,xs,rfl,rfl,hl,hx⟩:=fits_sl Tryz.underlying22 h
 obtain⟨l,rfl⟩:=exists_map fun y hy=>fits_tk (hx y hy)
 exact⟨l,rfl⟩
end Go.Proofs.YtgfmjhmjnnpcgaaGreatDoor
namespace Go.Proofs.YtgfmjhmjnnpcgaaGreatDoor
open Go Go.RowKit Go.Am
set_option maxRecDepth 100000
theorem laid_mem{P:Program}{W:World}:∀{l:List (String×DataW Unit)} {ps:List MemPlace},DataW.LaidVars P W l ps→∀x∈l,∃g t cs fuel p,P.globalNamed x.1=some g∧(P.globals[g]?).map (·.type)=some t∧W.var? P x.1=some cs∧DataW.trod (fun _=>()) P W 0 (fun _=>true) false fuel t cs.toList=some (x.2,p)
 | [],_,_,x,hx=>by cases hx
 | (n,d)::r,ps,⟨g,t,cs,fuel,p,q,h1,h2,h3,h4,h5,_⟩,x,hx=>by
  rcases List.mem_cons.1 hx with rfl|hx
  ·exact⟨g,t,cs,fuel,p,h1,h2,h3,h4⟩
  ·exact laid_mem h5 x hx
theorem err_cell{P:Program}{W:World}{g t:Nat}{name T:String}{m:Array (String×TypeId)}{cs:Array Value}{d:DataW Unit}{fuel:Nat}{p:List MemPlace}(hu:P.underlying t=some (.interface m))(hg:P.globalNamed name=some g)(hv:W.var? P name=some cs)
  (h:DataW.trod (fun _=>()) P W 0 (fun _=>true) false fuel t cs.toList=some (.iface T d,p)):∃v,W.cell? ⟨g,0,none⟩=some v∧(v = .nilIface∨∃te pe,v = .iface te pe):=by
 have hc:∃u v,cs.toList=[.iface u v]:=by
  cases fuel with
  | zero=>cases h
  | succ fuel =>
   simp only[DataW.trod,hu] at h
   split at h
   all_goals first|cases h; done|exact⟨_,_,by assumption⟩|(simp_all; done)|skip
 obtain⟨u,v,hc⟩:=hc
 refine⟨.iface u v,?_,.inr ⟨u,v,rfl⟩⟩
 unfold World.var? at hv
 rw[hg] at hv
 simp only[Option.bind_some] at hv
 unfold World.cell?
 split at hv
 ·rename_i cs' e f hh
  injection hv with hv
  subst hv
  rw[hh]
  have:cs' = #[.iface u v]:=by cases cs'; simp at hc ⊢; exact hc
  rw[this]; rfl
 ·cases hv
noncomputable abbrev laidA:List (String×DataW Unit):=Rows.schemaTurnedUptoRow.laid
theorem laid_plain{W:World}(h:laidMetH Tryz.prog laidA W):laidMet Tryz.prog laidA W:=h
theorem tabs_laid{W:World}(h:laidMetH Tryz.prog laidA W):Tabs Tryz.prog W:=by
 obtain⟨ps,hv,_,_⟩:=laid_plain h
 refine⟨fun t ht g hg=>?_,fun n hn g hg=>?_⟩
 ·skip
  rw [show t = ("internal/strconv.uint64pow10", .u64, Lib.pow10Tab) by simpa [tabL] using ht]
  obtain ⟨g', t', cs, fuel, p, h1, h2, h3, h4⟩ := laid_mem hv ("internal/strconv.uint64pow10", Lib.tabData .u64 Lib.pow10Tab) (.tail _ (.tail _ (.head _)))
  obtain rfl := Option.some.inj ((show Tryz.prog.globalNamed "internal/strconv.uint64pow10" = some 3 by kernel_rfl).symm.trans h1)
  obtain rfl:=Option.some.inj ((show (Tryz.prog.globals[3]?).map (·.type)=some 206 by kernel_rfl).symm.trans h2)
  unfold Lib.TabIs
  rw[h3,←Lib.cells_of_tab Tryz.underlying206 Tryz.underlying178 (by kernel_rfl) (by kernel_rfl) h4]
 ·simp only[errL,List.mem_cons,List.not_mem_nil,or_false] at hn
  rcases hn with rfl|rfl
  ·skip
   obtain ⟨g', t', cs, fuel, p, h1, h2, h3, h4⟩ := laid_mem hv ("strconv.ErrSyntax", Rows.laid_strconv_ErrSyntax) (.tail _ (.tail _ (.tail _ (.tail _ (.head _)))))
   obtain rfl := Option.some.inj ((show (Tryz.prog.globalNamed "strconv.ErrSyntax") = some 1 by kernel_rfl).symm.trans h1)
   obtain rfl:=Option.some.inj ((show (Tryz.prog.globals[1]?).map (·.type)=some 125 by kernel_rfl).symm.trans h2)
   obtain rfl:=Option.some.inj (h1.symm.trans hg)
   exact err_cell Tryz.underlying125 h1 h3 h4
  ·skip
   obtain ⟨g', t', cs, fuel, p, h1, h2, h3, h4⟩ := laid_mem hv ("strconv.ErrRange", Rows.laid_strconv_ErrRange) (.tail _ (.tail _ (.tail _ (.head _))))
   obtain rfl := Option.some.inj ((show (Tryz.prog.globalNamed "strconv.ErrRange") = some 2 by kernel_rfl).symm.trans h1)
   obtain rfl:=Option.some.inj ((show (Tryz.prog.globals[2]?).map (·.type)=some 125 by kernel_rfl).symm.trans h2)
   obtain rfl:=Option.some.inj (h1.symm.trans hg)
   exact err_cell Tryz.underlying125 h1 h3 h4
def cellsD:DataW Unit→Array Value
 | .agg l=>(l.map fun | .lit (.int k n)=>Value.int k n|_=>undef).toArray
 | _=>#[]
def strD:DataW Unit→Value
 | .iface _ (.ptr (.agg [.lit (.string s)]))=>.string ⟨⟨s⟩⟩
 | _=>undef
def layCells(vs:Array Value):Obj→Obj
 | .cells _ t frozen=>.cells vs t frozen
 | o=>o
noncomputable def laidHeap(h:Array Obj):Array Obj :=
 (((((h.modify 3 (layCells (cellsD Rows.laid_internal_strconv_uint64pow10))).modify 4 (layCells (cellsD Rows.laid_math_bits_deBruijn32tab))).modify 5 (layCells (cellsD Rows.laid_math_bits_deBruijn64tab))).modify
  1 (layCells #[.iface 224 (.pointer (some ⟨h.size,0,none⟩))])).modify 2 (layCells #[.iface 224 (.pointer (some ⟨h.size+1,0,none⟩))])) ++
  #[.cells #[strD Rows.laid_strconv_ErrSyntax] 226 (0,0),.cells #[strD Rows.laid_strconv_ErrRange] 226 (0,0)]
noncomputable def laidWorld(os:Os):World :=
 { World.holding Tryz.prog os ⟨#[],#[],[]⟩ with heap:=laidHeap (World.holding Tryz.prog os ⟨#[],#[],[]⟩).heap }
end Go.Proofs.YtgfmjhmjnnpcgaaGreatDoor
namespace Go.Am
set_option linter.all false
set_option linter.all false
open Go Go.RowKit
theorem w_callRg{E:Env}{σ:St}{k:List Itm}{P:Program}(hP:E.P=P){dst:Option Nat}{g:Option (Nat×Bool)}{us:List Nat}{f:Nat}{xs:List Opd}{l:List CR}{j:Nat}{acc:List RR}{ps:List (Nat×Nat)}{args args':List AV}{fz rd:List (Nat×Bx)}{v:AV}{wr:List (Nat×Option Bx)}
  (hg:gokF (lk σ.fr) g) (ht:cndF (lk σ.fr) g=true) (ha:xs.map (veF (lk σ.fr))=args) (hc:FnOk P f args' rd (E.n0+(σ.k+1024*j)) v wr) (hr:RsvIs (bk σ.bx) args args' fz) (hu:uses (lk σ.fr) us) (hh:HasL (bk σ.bx) rd) (hd:apartL (keysR rd) (keysR fz))
  (h:Wk E (.ops l (j+1) (accN ps ⟨true,v,fz++rd,wrF fz++wr⟩ acc) ps::k) (σ.app dst ⟨true,v,fz++rd,wrF fz++wr⟩)) :
  Wk E (.ops (⟨dst,g,us,.call f xs⟩::l) j acc ps::k) σ:=by
 subst hP ha
 refine w_op (r:=⟨true,v,fz++rd,wrF fz++wr⟩) ⟨hg,ht.symm,fun _=>.call f xs _ hu (.inr ⟨rd,wr,?_⟩),fun h=>by cases h⟩ (w_accN h)
 rw[hr.eq,Nat.add_assoc]
 exact⟨hr.1,hc,hh.has,fun q hq q1 hq1 e=>apartL_iff.1 hd q.1 (List.mem_map.2 ⟨q,hq,rfl⟩) (List.mem_map.2 ⟨q1,hq1,e.symm⟩),rfl,rfl⟩
end Go.Am
namespace Go.Am
set_option linter.all false
open Go Go.RowKit Go.Proofs
set_option maxRecDepth 100000
set_option linter.all false
set_option maxHeartbeats 8000000 in
theorem LexBlank_ok(s c:List UInt8)(id:Nat)(hs8:s.length≤140737488355328)(hc8:c.length≤140737488355328):FnOk Tryz.prog 6 [.str s,.str c] [] id (.bool true) []:=by
 have hB:=fun id=>lexBegun_ok id
 have hR1:=fun id=>Read_ok s id
 have h10:∀d:UInt8,(((d.toNat:Int)==(10:Int))=true↔d=10):=fun d=>by
  rw[beq_iff_eq]
  constructor
  ·intro h
   have h:d.toNat=10:=by omega
   exact UInt8.toNat_inj.1 h
  ·intro h
   subst h; rfl
 refine fn_okc Tryz.func6 hcc6 (by decide) hcr6 (by simp[Tryz.ntmps6]) fun E hP hR hl hid=>?_
 simp only[cr6] at hR
 refine w_go 4000 ?_
 simp[cc6]
 (refine w_call hP rfl (hB _) (by simp) (by simp<;>rfl) ?_; refine w_go 4000 ?_; simp)
 refine w_loop (X:=Nat) (fun i=>⟨[(0,true,.str s),(1,true,.str c),(5,true,.int .i64 i)],[],0⟩) (fun i=>i≤c.length∧∀d∈c.take i,d≠10) (fun i=>c.length - i) 0 ?_ ⟨by omega,by simp⟩ ?_
 ·have hrn:rnOk []:=by simp
  refine Conv.sub [] hrn ?_ ?_ ?_ ?_ ?_<;>(try simp)
 rintro i ⟨hi,hf⟩ p hp
 rcases Nat.lt_or_ge i c.length with h|h
 ·obtain⟨d,hd,hdr⟩:=drop_cons h
  have hi1:IntKind.i64.wrap ((i:Int)+1)=((i+1:Nat):Int):=wrap64 (by omega)
  have hst:c.take (i+1)=c.take i++[d]:=by rw[List.take_succ,hd]; rfl
  refine w_go 4000 ?_
  simp[h,hd]
  refine goc (fun g=>?_) (fun g=>?_)<;>simp
  ·rw[hR]; exact rt_end (by simp<;>rfl) [] trivial (end_pure (by simp) (by simp) (by simp))
  ·have g:d≠10:=fun q=>by have:=(h10 d).2 q; simp_all
   refine hp _ (i+1) ⟨h,?_⟩ (by omega) ?_
   ·rw[hst]
    intro x hx
    rcases List.mem_append.1 hx with hx|hx
    ·exact hf x hx
    ·obtain rfl:=List.mem_singleton.1 hx
     exact g
   have hrn:rnOk []:=by simp[hi1]
   refine Conv.sub [] hrn ?_ ?_ ?_ ?_ ?_<;>(try simp[hi1])
 rw[List.take_of_length_le h] at hf
 have hw1:IntKind.i64.wrap ((s.length:Int)+c.length)=(s.length:Int)+c.length:=wrap64 (by omega)
 have hw2:IntKind.i64.wrap ((s.length:Int)+c.length+9)=(s.length:Int)+c.length+9:=wrap64 (by omega)
 by_cases h8:s.length+c.length+9≤2000
 rotate_left
 ·refine w_go 4000 ?_
  simp[Nat.not_lt.2 h,hw1,hw2]
  refine goc_true (by simp; omega) ?_
  simp
  rw[hR]; exact rt_end (by simp<;>rfl) [] trivial (end_pure (by simp) (by simp) (by simp))
 obtain⟨v,e,m,hv,hm,hl,hx⟩:=lex_case s
 have hA:=fun id=>Read_ok ([44,35,32]++c++[10,9]++s) id
 rw[lex_ahead hf h8,hv] at hA
 rw[hv] at hR1
 obtain⟨v',e',m',hv',hm',hl',hx'⟩:=lex_case (s++[10,35]++c)
 have hD:=fun id=>Read_ok (s++[10,35]++c) id
 rw[hv'] at hD
 have hS:=fun id=>sameT_any hm hm (by omega) id
 rw[decide_eq_true rfl] at hS
 rw[show [44,35,32]++c++[10,9]++s=44::35::32::(c++10::9::s) by simp] at hA
 rw[show s++[10,35]++c=s++10::35::c by simp] at hD
 rcases hx with⟨hx,rfl,rfl⟩|⟨hx,hne,rfl,rfl⟩
 ·rw[show fLex (s++[10,35]++c) = .ok m from lex_behind hf h8 hx] at hv'
  obtain⟨rfl,rfl⟩:v' = .sl (m.map eTk)∧e'=0:=by
   injection hv' with hv'
   injection hv' with h1 h2
   injection h2 with h2
   injection h2 with _ h2
   exact⟨h1.symm,h2.symm⟩
  refine w_go 4000 ?_
  simp[Nat.not_lt.2 h,hw1,hw2]
  refine goc_false (by simp; omega) ?_
  simp
  (refine w_call hP rfl (hR1 _) (by simp) (by simp<;>rfl) ?_; refine w_go 4000 ?_; simp)
  refine⟨by omega,by omega,by omega,?_⟩
  (refine w_call hP rfl (hA _) (by simp) (by simp<;>rfl) ?_; refine w_go 4000 ?_; simp)
  refine⟨by omega,by omega,?_⟩
  (refine w_call hP rfl (hD _) (by simp) (by simp<;>rfl) ?_; refine w_go 4000 ?_; simp)
  (refine w_callg hP (by simp) rfl (fun hc=>⟨hS _,by revert hc; simp; try grind,by simp⟩) ?_; refine w_go 4000 ?_; simp)
  (refine w_callg hP (by simp) rfl (fun hc=>⟨hS _,by revert hc; simp; try grind,by simp⟩) ?_; refine w_go 4000 ?_; simp)
  rw[hR]; exact rt_end (by simp<;>rfl) [] trivial (end_pure (by simp) (by simp) (by simp))
 ·refine w_go 4000 ?_
  simp[Nat.not_lt.2 h,hw1,hw2]
  refine goc_false (by simp; omega) ?_
  simp
  (refine w_call hP rfl (hR1 _) (by simp) (by simp<;>rfl) ?_; refine w_go 4000 ?_; simp)
  refine⟨by omega,by omega,by omega,?_⟩
  (refine w_call hP rfl (hA _) (by simp) (by simp<;>rfl) ?_; refine w_go 4000 ?_; simp)
  refine⟨by omega,by omega,?_⟩
  (refine w_call hP rfl (hD _) (by simp) (by simp<;>rfl) ?_; refine w_go 4000 ?_; simp)
  (refine w_callg hP (by simp) rfl (fun hc=>⟨hS _,by revert hc; simp; try grind,by simp⟩) ?_; refine w_go 4000 ?_; simp)
  refine w_callg hP (by simp) rfl (v:=.bool false) (rd:=[]) (fun hh=>by simp[hne] at hh) ?_
  refine w_go 4000 ?_
  simp[hne]
  rw[hR]; exact rt_end (by simp<;>rfl) [] trivial (end_pure (by simp; exact hne) (by simp) (by simp))
set_option maxHeartbeats 8000000 in
theorem LexParts_ok(s t:List UInt8)(id:Nat)(hs8:s.length≤140737488355328)(ht8:t.length≤140737488355328):FnOk Tryz.prog 3 [.str s,.str t] [] id (.bool true) []:=by
 have hB:=fun id=>lexBegun_ok id
 have hR1:=fun id=>Read_ok s id
 have hR2:=fun id=>Read_ok t id
 obtain⟨v,e,m,hv,hm,hl,hx⟩:=lex_case s
 obtain⟨v',e',m',hv',hm',hl',hx'⟩:=lex_case t
 rw[hv] at hR1
 rw[hv'] at hR2
 have hw1:IntKind.i64.wrap ((s.length:Int)+t.length)=(s.length:Int)+t.length:=wrap64 (by omega)
 have hw2:IntKind.i64.wrap ((s.length:Int)+t.length+1)=(s.length:Int)+t.length+1:=wrap64 (by omega)
 rcases hx with⟨hx,rfl,rfl⟩|⟨hx,hne,rfl,rfl⟩<;>rcases hx' with⟨hx',rfl,rfl⟩|⟨hx',hne',rfl,rfl⟩
 ·have hw3:IntKind.i64.wrap ((m.length:Int)+m'.length)=(m.length:Int)+m'.length:=wrap64 (by omega)
  by_cases h8:s.length+t.length+1≤2000∧m.length+m'.length≤300
  ·have hD:=fun id=>Read_ok (s++10::t) id
   rw[lex_line hx hx' h8.1 h8.2] at hD
   have hD:∀id,FnOk Tryz.prog 13 [.str (s++10::t)] [] id (.tup [.sl ((m++m').map eTk),.int .i64 0]) []:=hD
   have hS:=fun id=>SameTokens_ok (m++m') (m++m') id (by simp; omega)
   rw[decide_eq_true rfl] at hS
   rw[List.map_append] at hD hS
   refine fn_okc Tryz.func3 hcc3 (by decide) hcr3 (by simp[Tryz.ntmps3]) fun E hP hR hl hid=>?_
   simp only[cr3] at hR
   refine w_go 4000 ?_
   simp[cc3]
   (refine w_call hP rfl (hR1 _) (by simp) (by simp<;>rfl) ?_; refine w_go 4000 ?_; simp)
   (refine w_call hP rfl (hR2 _) (by simp) (by simp<;>rfl) ?_; refine w_go 4000 ?_; simp)
   (refine w_call hP rfl (hB _) (by simp) (by simp<;>rfl) ?_; refine w_go 4000 ?_; simp)
   refine goc_false (by simp[hw1,hw2,hw3]; omega) ?_
   simp
   refine⟨by omega,by omega,?_⟩
   (refine w_call hP rfl (hD _) (by simp[eTk]) (by simp[eTk]<;>rfl) ?_; refine w_go 4000 ?_; simp[eTk])
   refine⟨⟨by omega,by omega⟩,⟨by omega,by omega⟩,?_⟩
   refine w_callRg hP (by simp) (by simp) rfl (hS _) (by simp<;>exact⟨List.take_of_length_le (by simp),rfl⟩) (by simp) (by simp<;>rfl) (by simp) ?_
   refine w_go 4000 ?_
   simp
   rw[hR]; exact rt_end (by simp<;>rfl) [] trivial (end_pure (by simp) (by simp) (by simp))
  ·refine fn_okc Tryz.func3 hcc3 (by decide) hcr3 (by simp[Tryz.ntmps3]) fun E hP hR hl hid=>?_
   simp only[cr3] at hR
   refine w_go 4000 ?_
   simp[cc3]
   (refine w_call hP rfl (hR1 _) (by simp) (by simp<;>rfl) ?_; refine w_go 4000 ?_; simp)
   (refine w_call hP rfl (hR2 _) (by simp) (by simp<;>rfl) ?_; refine w_go 4000 ?_; simp)
   (refine w_call hP rfl (hB _) (by simp) (by simp<;>rfl) ?_; refine w_go 4000 ?_; simp)
   refine goc_true (by simp[hw1,hw2,hw3]; omega) ?_
   simp
   rw[hR]; exact rt_end (by simp<;>rfl) [] trivial (end_pure (by simp) (by simp) (by simp))
 all_goals
  refine fn_okc Tryz.func3 hcc3 (by decide) hcr3 (by simp[Tryz.ntmps3]) fun E hP hR hl hid=>?_
  simp only[cr3] at hR
  refine w_go 4000 ?_
  simp[cc3]
  (refine w_call hP rfl (hR1 _) (by simp) (by simp<;>rfl) ?_; refine w_go 4000 ?_; simp)
  (refine w_call hP rfl (hR2 _) (by simp) (by simp<;>rfl) ?_; refine w_go 4000 ?_; simp)
  (refine w_call hP rfl (hB _) (by simp) (by simp<;>rfl) ?_; refine w_go 4000 ?_; simp)
 all_goals
  refine goc_true (by first|(simp[hne,hne']; done)|(simp[hne]; done)|(simp[hne']; done)) ?_
  simp
 ·rw[hR]; exact rt_end (by simp<;>rfl) [] trivial (end_pure (by simp) (by simp) (by simp))
 ·rw[hR]; exact rt_end (by simp<;>rfl) [] trivial (end_pure (by simp) (by simp) (by simp))
 ·rw[hR]; exact rt_end (by simp<;>rfl) [] trivial (end_pure (by simp) (by simp) (by simp))
end Go.Am
