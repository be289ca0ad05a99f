/- Parts of the proof: an abstract machine for Go functions, and what functions of the program give back (Lx1, Lx2, Lx3). No condition. -/
import Derived.Test.YtgfmjhmjnnpcgaaGreatDoorYB
namespace Go.Am
set_option linter.all false
open Go Go.RowKit Go.Proofs
set_option maxRecDepth 100000
set_option linter.all false
structure Tk where
 kind:Int
 text:List UInt8
 n:Int
def blC(c:UInt8):Bool:=c==9||c==10||c==13||c==32||c==44
def blk:Bool→List UInt8→List UInt8
 | _,[]=>[]
 | false,c::r=>if blC c=true then blk false r else if c=35 then blk true r else c::r
 | true,c::r=>if c=10 then blk false r else blk true r
def sgC(c:UInt8):Bool:=[123,125,40,41,58,91,93].contains c
def pTq:Bool→List UInt8→List UInt8→Option (List UInt8×List UInt8)
 | _,_,[]=>none
 | false,acc,c::r=>if c=10 then none else if c=34 then some (acc,r) else if c=92 then pTq true acc r else pTq false (acc++[c]) r
 | true,acc,c::r=>if c=34∨c=92 then pTq false (acc++[c]) r else if c=110 then pTq false (acc++[10]) r else none
def numW(c:UInt8)(r:List UInt8):List UInt8:=c::r.takeWhile isDg
def pTok(c:UInt8)(r:List UInt8):Except Int (Tk×List UInt8) :=
 if isLt c=true then (if fName ((c::r).takeWhile anC)=0 then .ok (⟨1,(c::r).takeWhile anC,0⟩,(c::r).dropWhile anC) else .error (fName ((c::r).takeWhile anC)))
 else if isDg c=true∨c=45 then (match intOf (numW c r) with
  | none=>.error 1
  | some n=>.ok (⟨2,[],n⟩,r.dropWhile isDg))
 else if c=34 then (match pTq false [] r with
  | none=>.error 1
  | some p=>if 40<p.1.length then .error 2 else .ok (⟨3,p.1,0⟩,p.2))
 else if sgC c=true then .ok (⟨4,[c],0⟩,r)
 else .error 1
def pToks:Nat→List Tk→List UInt8→Except Int (List Tk)
 | 0,_,_=>.error 1
 | n+1,acc,s=>match blk false s with
  | []=>.ok acc
  | c::r=>match pTok c r with
   | .error e=>.error e
   | .ok p=>if 300<acc.length+1 then .error 2 else pToks n (acc++[p.1]) p.2
def fAll(s:List UInt8):Except Int (List Tk):=pToks (s.length+1) [] s
def fLex(s:List UInt8):Except Int (List Tk):=if 2000<s.length then .error 2 else fAll s
theorem blk_le:∀(b:Bool) (s:List UInt8),(blk b s).length≤s.length
 | false,[]=>Nat.le_refl _
 | true,[]=>Nat.le_refl _
 | false,c::r=>by
  have h1:=blk_le false r
  have h2:=blk_le true r
  unfold blk
  split
  ·simp; omega
  ·split
   ·simp; omega
   ·exact Nat.le_refl _
 | true,c::r=>by
  have h1:=blk_le false r
  have h2:=blk_le true r
  unfold blk
  split<;>(simp; omega)
theorem blk_suf:∀(b:Bool) (s:List UInt8),blk b s <:+ s
 | false,[]=>List.suffix_refl _
 | true,[]=>List.suffix_refl _
 | false,c::r=>by
  have h1:=blk_suf false r
  have h2:=blk_suf true r
  unfold blk
  split
  ·exact h1.trans (List.suffix_cons c r)
  ·split
   ·exact h2.trans (List.suffix_cons c r)
   ·exact List.suffix_refl _
 | true,c::r=>by
  have h1:=blk_suf false r
  have h2:=blk_suf true r
  unfold blk
  split
  ·exact h1.trans (List.suffix_cons c r)
  ·exact h2.trans (List.suffix_cons c r)
theorem blk_head:∀(b:Bool) (s:List UInt8) (c:UInt8) (r:List UInt8),blk b s=c::r→blC c=false∧c≠35
 | false,[],c,r,h=>by cases h
 | true,[],c,r,h=>by cases h
 | false,d::t,c,r,h=>by
  unfold blk at h
  split at h
  ·exact blk_head false t c r h
  ·rename_i h1
   split at h
   ·exact blk_head true t c r h
   ·rename_i h2
    injection h with h3 h4
    subst h3
    exact⟨by simpa using h1,h2⟩
 | true,d::t,c,r,h=>by
  unfold blk at h
  split at h
  ·exact blk_head false t c r h
  ·exact blk_head true t c r h
theorem blk_fix{c:UInt8}{r:List UInt8}(h1:blC c=false)(h2:c≠35):blk false (c::r)=c::r:=by
 unfold blk
 rw[if_neg (by simp[h1]),if_neg h2]
theorem blk_blk(b:Bool)(s:List UInt8):blk false (blk b s)=blk b s:=by
 cases h:blk b s with
 | nil=>rfl
 | cons c r=>exact blk_fix (blk_head b s c r h).1 (blk_head b s c r h).2
theorem pTq_lt:∀(b:Bool) (acc s t u:List UInt8),pTq b acc s=some (t,u)→u.length<s.length∧u <:+ s
 | false,acc,[],t,u,h=>by cases h
 | true,acc,[],t,u,h=>by cases h
 | false,acc,c::r,t,u,h=>by
  unfold pTq at h
  split at h
  ·cases h
  split at h
  ·simp only[Option.some.injEq,Prod.mk.injEq] at h
   rw[←h.2]; exact⟨by simp,List.suffix_cons c r⟩
  split at h
  ·have:=pTq_lt true acc r t u h
   exact⟨by simp; omega,this.2.trans (List.suffix_cons c r)⟩
  ·have:=pTq_lt false _ r t u h
   exact⟨by simp; omega,this.2.trans (List.suffix_cons c r)⟩
 | true,acc,c::r,t,u,h=>by
  unfold pTq at h
  split at h
  ·have:=pTq_lt false _ r t u h
   exact⟨by simp; omega,this.2.trans (List.suffix_cons c r)⟩
  split at h
  ·have:=pTq_lt false _ r t u h
   exact⟨by simp; omega,this.2.trans (List.suffix_cons c r)⟩
  ·cases h
theorem isLt_an{c:UInt8}(h:isLt c=true):anC c=true:=by unfold anC; rw[h]; rfl
theorem pTok_lt{c:UInt8}{r u:List UInt8}{t:Tk}(h:pTok c r = .ok (t,u)):u.length≤r.length∧u <:+ r:=by
 unfold pTok at h
 split at h
 ·rename_i h1
  split at h
  ·injection h with h
   rw[Prod.mk.injEq] at h
   rw[←h.2,List.dropWhile_cons_of_pos (isLt_an h1)]
   exact⟨(List.dropWhile_suffix _).length_le,List.dropWhile_suffix _⟩
  ·cases h
 split at h
 ·split at h
  ·cases h
  ·injection h with h
   rw[Prod.mk.injEq] at h
   rw[←h.2]
   exact⟨(List.dropWhile_suffix _).length_le,List.dropWhile_suffix _⟩
 split at h
 ·split at h
  ·cases h
  ·rename_i p hp
   split at h
   ·cases h
   ·injection h with h
    rw[Prod.mk.injEq] at h
    obtain⟨p1,p2⟩:=p
    have:=pTq_lt _ _ _ _ _ hp
    rw[←h.2]; exact⟨by simp only; omega,this.2⟩
 split at h
 ·injection h with h
  rw[Prod.mk.injEq] at h
  rw[←h.2]; exact⟨Nat.le_refl _,List.suffix_refl _⟩
 ·cases h
inductive RdT:List UInt8→List Tk→Prop
 | nil {s:List UInt8}:blk false s=[]→RdT s []
 | cons {s r u:List UInt8} {c:UInt8} {t:Tk} {l:List Tk}:blk false s=c::r→pTok c r = .ok (t,u)→RdT u l→RdT s (t::l)
theorem rd_toks:∀(n:Nat) (s:List UInt8) (acc l:List Tk),pToks n acc s = .ok l→acc.length≤300→∃l',l=acc++l'∧RdT s l'∧l.length≤300
 | 0,s,acc,l,h,_=>by cases h
 | n+1,s,acc,l,h,ha=>by
  unfold pToks at h
  split at h
  ·rename_i hb
   injection h with h
   exact⟨[],by rw[h]; simp,.nil hb,by rw[←h]; exact ha⟩
  ·rename_i c r hb
   split at h
   ·cases h
   ·rename_i p hp
    split at h
    ·cases h
    ·obtain⟨l',h1,h2,h3⟩:=rd_toks n p.2 (acc++[p.1]) l h (by simp; omega)
     exact⟨p.1::l',by rw[h1]; simp,.cons hb hp h2,h3⟩
theorem toks_rd{s:List UInt8}{l:List Tk}(h:RdT s l):∀(n:Nat) (acc:List Tk),s.length<n→acc.length+l.length≤300→pToks n acc s = .ok (acc++l):=by
 induction h with
 | nil hb =>
  intro n acc hn hl
  obtain⟨n,rfl⟩:=Nat.exists_eq_succ_of_ne_zero (show n≠0 by omega)
  simp only[Nat.succ_eq_add_one,pToks]
  rw[hb]; simp
 | @cons s r u c t l hb hp _ ih =>
  intro n acc hn hl
  obtain⟨n,rfl⟩:=Nat.exists_eq_succ_of_ne_zero (show n≠0 by omega)
  have h1:=blk_le false s
  have h2:=pTok_lt hp
  rw[hb] at h1
  simp only[List.length_cons] at h1 hl
  simp only[Nat.succ_eq_add_one,pToks]
  rw[hb]
  simp only
  rw[hp]
  simp only
  rw[if_neg (by omega),ih n (acc++[t]) (by omega) (by simp; omega)]
  simp
theorem fLex_ok(s:List UInt8)(l:List Tk):fLex s = .ok l↔s.length≤2000∧RdT s l∧l.length≤300:=by
 unfold fLex fAll
 constructor
 ·intro h
  split at h
  ·cases h
  ·obtain⟨l',h1,h2,h3⟩:=rd_toks _ _ _ _ h (by simp)
   rw[List.nil_append] at h1
   subst h1
   exact⟨by omega,h2,h3⟩
 ·rintro⟨h1,h2,h3⟩
  rw[if_neg (by omega),toks_rd h2 _ _ (by omega) (by simpa using h3)]
  simp
end Go.Am
namespace Go.Am
set_option linter.all false
open Go Go.RowKit Go.Proofs
set_option maxRecDepth 100000
set_option linter.all false
def fTk(t:Tk):Int :=
 if t.kind<1∨4<t.kind then 7
 else if (t.kind=2∧t.text≠[])∨(t.kind≠2∧t.n≠0) then 1
 else if t.kind=1 then fName t.text
 else if t.kind=2 then (if -999999999≤t.n∧t.n≤999999999 then 0 else 3)
 else if t.kind=3 then (if 40<t.text.length then 2 else 0)
 else (if t.text.length=1∧t.text.all sgC=true then 0 else 1)
def lQ(c:UInt8):List UInt8:=if c=34 then [92,34] else if c=92 then [92,92] else if c=10 then [92,110] else [c]
def lQs(s:List UInt8):List UInt8:=s.flatMap lQ
def wrTk(t:Tk):List UInt8:=if t.kind=2 then Lib.itoa t.n else if t.kind=3 then 34::lQs t.text++[34] else t.text
def tkB(l:List Tk):List UInt8:=Lib.join (l.map wrTk) [32]
theorem tkB_nil:tkB []=[]:=rfl
theorem tkB_cons(t:Tk)(l:List Tk):tkB (t::l)=wrTk t++l.flatMap fun x=>32::wrTk x:=by
 unfold tkB
 cases l with
 | nil=>simp[Lib.join]
 | cons u l =>
  have key:∀(l:List (List UInt8)) (a:List UInt8),Lib.join (a::l) [32]=a++l.flatMap fun x=>32::x:=fun l=>by
   induction l with
   | nil=>intro a; simp[Lib.join]
   | cons b l ih =>
    intro a
    have:=ih b
    simp[Lib.join] at this ⊢
    try rw[this]
  rw[List.map_cons,key]
  simp[List.flatMap_map]
end Go.Am
namespace Go.Am
set_option linter.all false
open Go Go.RowKit Go.Proofs
set_option maxRecDepth 100000
set_option linter.all false
theorem toks_fuel:∀(n m:Nat) (acc:List Tk) (s t:List UInt8),blk false s=blk false t→(blk false s).length<n→(blk false s).length<m→pToks n acc s=pToks m acc t
 | 0,_,_,_,_,_,h,_=>by omega
 | _,0,_,_,_,_,_,h=>by omega
 | n+1,m+1,acc,s,t,he,hn,hm=>by
  unfold pToks
  rw[←he]
  cases hb:blk false s with
  | nil=>rfl
  | cons c r =>
   simp only
   rw[hb] at hn hm
   simp only[List.length_cons] at hn hm
   cases hp:pTok c r with
   | error e=>rfl
   | ok p =>
    simp only
    obtain⟨k,u⟩:=p
    have h1:=pTok_lt hp
    have h2:=blk_le false u
    rw[toks_fuel n m (acc++[k]) u u rfl (by omega) (by omega)]
end Go.Am
