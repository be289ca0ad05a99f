/- Parts of the proof: an abstract machine for Go functions, and what functions of the program give back (Lx1, Lx2, Lx3). No condition. -/
import Derived.Test.YtgfmjhmjnnpcgaaGreatDoorYB
namespace Go.Am
set_option linter.all false
open Go Go.RowKit Go.Proofs
set_option maxRecDepth 100000
set_option linter.all false
structure Tk where
 kind:Int
 text:List UInt8
 n:Int
def blC(c:UInt8):Bool:=c==9||c==10||c==13||c==32||c==44
def blk:Bool→List UInt8→List UInt8
 | _,[]=>[]
 | false,c::r=>if blC c=true then blk false r else if c=35 then blk true r else c::r
 | true,c::r=>if c=10 then blk false r else blk true r
def sgC(c:UInt8):Bool:=[123,125,40,41,58,91,93].contains c
def pTq:Bool→List UInt8→List UInt8→Option (List UInt8×List UInt8)
 | _,_,[]=>none
 | false,acc,c::r=>if c=10 then none else if c=34 then some (acc,r) else if c=92 then pTq true acc r else pTq false (acc++[c]) r
 | true,acc,c::r=>if c=34∨c=92 then pTq false (acc++[c]) r else if c=110 then pTq false (acc++[10]) r else none
def numW(c:UInt8)(r:List UInt8):List UInt8:=c::r.takeWhile isDg
def pTok(c:UInt8)(r:List UInt8):Except Int (Tk×List UInt8) :=
 if isLt c=true then (if fName ((c::r).takeWhile anC)=0 then .ok (⟨1,(c::r).takeWhile anC,0⟩,(c::r).dropWhile anC) else .error (fName ((c::r).takeWhile anC)))
 else if isDg c=true∨c=45 then (match intOf (numW c r) with
  | none=>.error 1
  | some n=>.ok (⟨2,[],n⟩,r.dropWhile isDg))
 else if c=34 then (match pTq false [] r with
  | none=>.error 1
  | some p=>if 40<p.1.length then .error 2 else .ok (⟨3,p.1,0⟩,p.2))
 else if sgC c=true then .ok (⟨4,[c],0⟩,r)
 else .error 1
def pToks:Nat→List Tk→List UInt8→Except Int (List Tk)
 | 0,_,_=>.error 1
 | n+1,acc,s=>match blk false s with
  | []=>.ok acc
  | c::r=>match pTok c r with
   | .error e=>.error e
   | .ok p=>if 300<acc.length+1 then .error 2 else pToks n (acc++[p.1]) p.2
def fAll(s:List UInt8):Except Int (List Tk):=pToks (s.length+1) [] s
def fLex(s:List UInt8):Except Int (List Tk):=if 2000<s.length then .error 2 else fAll s
theorem blk_le:∀(b:Bool) (s:List UInt8),(blk b s).length≤s.length
 | false,[]=>Nat.le_refl _
 | true,[]=>Nat.le_refl _
 | false,c::r=>by
  have h1:=blk_le false r
  have h2:=blk_le true r
  unfold blk
  split
  ·simp; omega
  ·split
   ·simp; omega
   ·exact Nat.le_refl _
 | true,c::r=>by
  have h1:=blk_le false r
  have h2:=blk_le true r
  unfold blk
  split<;>(simp; omega)
theorem blk_suf:∀(b:Bool) (s:List UInt8),blk b s <:+ s
 | false,[]=>List.suffix_refl _
 | true,[]=>List.suffix_refl _
 | false,c::r=>by
  have h1:=blk_suf false r
  have h2:=blk_suf true r
  unfold blk
  split
  ·exact h1.trans (List.suffix_cons c r)
  ·split
   ·exact h2.trans (List.suffix_cons c r)
   ·exact List.suffix_refl _
 | true,c::r=>by
  have h1:=blk_suf false r
  have h2:=blk_suf true r
  unfold blk
  split
  ·exact h1.trans (List.suffix_cons c r)
  ·exact h2.trans (List.suffix_cons c r)
theorem blk_head:∀(b:Bool) (s:List UInt8) (c:UInt8) (r:List UInt8),blk b s=c::r→blC c=false∧c≠35
 | false,[],c,r,h=>by cases h
 | true,[],c,r,h=>by cases h
 | false,d::t,c,r,h=>by
  unfold blk at h
  split at h
  ·exact blk_head false t c r h
  ·rename_i h1
   split at h
   ·exact blk_head true t c r h
   ·rename_i h2
    injection h with h3 h4
    subst h3
    exact⟨by simpa using h1,h2⟩
 | true,d::t,c,r,h=>by
  unfold blk at h
  split at h
  ·exact blk_head false t c r h
  ·exact blk_head true t c r h
theorem blk_fix{c:UInt8}{r:List UInt8}(h1:blC c=false)(h2:c≠35):blk false (c::r)=c::r:=by
 unfold blk
 rw[if_neg (by simp[h1]),if_neg h2]
theorem blk_blk(b:Bool)(s:List UInt8):blk false (blk b s)=blk b s:=by
 cases h:blk b s with
 | nil=>rfl
 | cons c r=>exact blk_fix (blk_head b s c r h).1 (blk_head b s c r h).2
theorem pTq_lt:∀(b:Bool) (acc s t u:List UInt8),pTq b acc s=some (t,u)→u.length<s.length∧u <:+ s
 | false,acc,[],t,u,h=>by cases h
 | true,acc,[],t,u,h=>by cases h
 | false,acc,c::r,t,u,h=>by
  unfold pTq at h
  split at h
  ·cases h
  split at h
  ·simp only[Option.some.injEq,Prod.mk.injEq] at h
   rw[←h.2]; exact⟨by simp,List.suffix_cons c r⟩
  split at h
  ·have:=pTq_lt true acc r t u h
   exact⟨by simp; omega,this.2.trans (List.suffix_cons c r)⟩
  ·have:=pTq_lt false _ r t u h
   exact⟨by simp; omega,this.2.trans (List.suffix_cons c r)⟩
 | true,acc,c::r,t,u,h=>by
  unfold pTq at h
  split at h
  ·have:=pTq_lt false _ r t u h
   exact⟨by simp; omega,this.2.trans (List.suffix_cons c r)⟩
  split at h
  ·have:=pTq_lt false _ r t u h
   exact⟨by simp; omega,this.2.trans (List.suffix_cons c r)⟩
  ·cases h
theorem isLt_an{c:UInt8}(h:isLt c=true):anC c=true:=by unfold anC; rw[h]; rfl
theorem pTok_lt{c:UInt8}{r u:List UInt8}{t:Tk}(h:pTok c r = .ok (t,u)):u.length≤r.length∧u <:+ r:=by
 unfold pTok at h
 split at h
 ·rename_i h1
  split at h
  ·injection h with h
   rw[Prod.mk.injEq] at h
   rw[←h.2,List.dropWhile_cons_of_pos (isLt_an h1)]
   exact⟨(List.dropWhile_suffix _).length_le,List.dropWhile_suffix _⟩
  ·cases h
 split at h
 ·split at h
  ·cases h
  ·injection h with h
   rw[Prod.mk.injEq] at h
   rw[←h.2]
   exact⟨(List.dropWhile_suffix _).length_le,List.dropWhile_suffix _⟩
 split at h
 ·split at h
  ·cases h
  ·rename_i p hp
   split at h
   ·cases h
   ·injection h with h
    rw[Prod.mk.injEq] at h
    obtain⟨p1,p2⟩:=p
    have:=pTq_lt _ _ _ _ _ hp
    rw[←h.2]; exact⟨by simp only; omega,this.2⟩
 split at h
 ·injection h with h
  rw[Prod.mk.injEq] at h
  rw[←h.2]; exact⟨Nat.le_refl _,List.suffix_refl _⟩
 ·cases h
inductive RdT:List UInt8→List Tk→Prop
 | nil {s:List UInt8}:blk false s=[]→RdT s []
 | cons {s r u:List UInt8} {c:UInt8} {t:Tk} {l:List Tk}:blk false s=c::r→pTok c r = .ok (t,u)→RdT u l→RdT s (t::l)
theorem rd_toks:∀(n:Nat) (s:List UInt8) (acc l:List Tk),pToks n acc s = .ok l→acc.length≤300→∃l',l=acc++l'∧RdT s l'∧l.length≤300
 | 0,s,acc,l,h,_=>by cases h
 | n+1,s,acc,l,h,ha=>by
  unfold pToks at h
  split at h
  ·rename_i hb
   injection h with h
   exact⟨[],by rw[h]; simp,.nil hb,by rw[←h]; exact ha⟩
  ·rename_i c r hb
   split at h
   ·cases h
   ·rename_i p hp
    split at h
    ·cases h
    ·obtain⟨l',h1,h2,h3⟩:=rd_toks n p.2 (acc++[p.1]) l h (by simp; omega)
     exact⟨p.1::l',by rw[h1]; simp,.cons hb hp h2,h3⟩
theorem toks_rd{s:List UInt8}{l:List Tk}(h:RdT s l):∀(n:Nat) (acc:List Tk),s.length<n→acc.length+l.length≤300→pToks n acc s = .ok (acc++l):=by
 induction h with
 | nil hb =>
  intro n acc hn hl
  obtain⟨n,rfl⟩:=Nat.exists_eq_succ_of_ne_zero (show n≠0 by omega)
  simp only[Nat.succ_eq_add_one,pToks]
  rw[hb]; simp
 | @cons s r u c t l hb hp _ ih =>
  intro n acc hn hl
  obtain⟨n,rfl⟩:=Nat.exists_eq_succ_of_ne_zero (show n≠0 by omega)
  have h1:=blk_le false s
  have h2:=pTok_lt hp
  rw[hb] at h1
  simp only[List.length_cons] at h1 hl
  simp only[Nat.succ_eq_add_one,pToks]
  rw[hb]
  simp only
  rw[hp]
  simp only
  rw[if_neg (by omega),ih n (acc++[t]) (by omega) (by simp; omega)]
  simp
theorem fLex_ok(s:List UInt8)(l:List Tk):fLex s = .ok l↔s.length≤2000∧RdT s l∧l.length≤300:=by
 unfold fLex fAll
 constructor
 ·intro h
  split at h
  ·cases h
  ·obtain⟨l',h1,h2,h3⟩:=rd_toks _ _ _ _ h (by simp)
   rw[List.nil_append] at h1
   subst h1
   exact⟨by omega,h2,h3⟩
 ·rintro⟨h1,h2,h3⟩
  rw[if_neg (by omega),toks_rd h2 _ _ (by omega) (by simpa using h3)]
  simp
theorem rd_blk{s t:List UInt8}{l:List Tk}(h:blk false s=blk false t)(hs:RdT s l):RdT t l:=by
 cases hs with
 | nil h1=>exact .nil (by rw[←h]; exact h1)
 | cons h1 h2 h3=>exact .cons (by rw[←h]; exact h1) h2 h3
end Go.Am
namespace Go.Am
set_option linter.all false
open Go Go.RowKit Go.Proofs
set_option maxRecDepth 100000
set_option linter.all false
def fTk(t:Tk):Int :=
 if t.kind<1∨4<t.kind then 7
 else if (t.kind=2∧t.text≠[])∨(t.kind≠2∧t.n≠0) then 1
 else if t.kind=1 then fName t.text
 else if t.kind=2 then (if -999999999≤t.n∧t.n≤999999999 then 0 else 3)
 else if t.kind=3 then (if 40<t.text.length then 2 else 0)
 else (if t.text.length=1∧t.text.all sgC=true then 0 else 1)
def fTkL:List Tk→Int
 | []=>0
 | t::l=>if fTk t≠0 then fTk t else fTkL l
def fTks(l:List Tk):Int:=if 300<l.length then 2 else fTkL l
def lQ(c:UInt8):List UInt8:=if c=34 then [92,34] else if c=92 then [92,92] else if c=10 then [92,110] else [c]
def lQs(s:List UInt8):List UInt8:=s.flatMap lQ
def wrTk(t:Tk):List UInt8:=if t.kind=2 then Lib.itoa t.n else if t.kind=3 then 34::lQs t.text++[34] else t.text
def tkB(l:List Tk):List UInt8:=Lib.join (l.map wrTk) [32]
theorem fTkL_all:∀l:List Tk,fTkL l=0↔∀t∈l,fTk t=0
 | []=>by simp[fTkL]
 | t::l=>by
  have:=fTkL_all l
  unfold fTkL
  split
  ·rename_i h
   constructor
   ·intro h2; exact (h h2).elim
   ·intro h2; exact (h (h2 t (List.mem_cons_self ..))).elim
  ·rename_i h
   rw[this]
   simp at h
   simp[h]
theorem fTks_all(l:List Tk):fTks l=0↔l.length≤300∧∀t∈l,fTk t=0:=by
 unfold fTks
 split
 ·constructor
  ·intro h; cases h
  ·rintro⟨h,_⟩; omega
 ·rw[fTkL_all]
  constructor
  ·intro h; exact⟨by omega,h⟩
  ·rintro⟨_,h⟩; exact h
theorem tkB_nil:tkB []=[]:=rfl
theorem tkB_cons(t:Tk)(l:List Tk):tkB (t::l)=wrTk t++l.flatMap fun x=>32::wrTk x:=by
 unfold tkB
 cases l with
 | nil=>simp[Lib.join]
 | cons u l =>
  have key:∀(l:List (List UInt8)) (a:List UInt8),Lib.join (a::l) [32]=a++l.flatMap fun x=>32::x:=fun l=>by
   induction l with
   | nil=>intro a; simp[Lib.join]
   | cons b l ih =>
    intro a
    have:=ih b
    simp[Lib.join] at this ⊢
    try rw[this]
  rw[List.map_cons,key]
  simp[List.flatMap_map]
theorem pTq_q:∀(s acc x:List UInt8),pTq false acc (lQs s++34::x)=some (acc++s,x)
 | [],acc,x=>by simp[lQs,pTq]
 | c::s,acc,x=>by
  have ih:=pTq_q s (acc++[c]) x
  have e:lQs (c::s)++34::x=lQ c++(lQs s++34::x):=by simp[lQs]
  have e2:acc++c::s=acc++[c]++s:=by simp
  rw[e,e2,←ih]
  unfold lQ
  by_cases h1:c=34
  ·subst h1; simp[pTq]
  rw[if_neg h1]
  by_cases h2:c=92
  ·subst h2; simp[pTq]
  rw[if_neg h2]
  by_cases h3:c=10
  ·subst h3; simp[pTq]
  rw[if_neg h3]
  simp[pTq,h1,h2,h3]
theorem tw_end{p:UInt8→Bool}{a:List UInt8}(h:∀c∈a,p c=true){x:List UInt8}(hx:∀c r,x=c::r→p c=false):(a++x).takeWhile p=a∧(a++x).dropWhile p=x:=by
 induction a with
 | nil =>
  cases x with
  | nil=>exact⟨rfl,rfl⟩
  | cons c r =>
   have:=hx c r rfl
   simp[this]
 | cons d a ih =>
  have h1:=h d (List.mem_cons_self ..)
  have h2:=ih fun c hc=>h c (List.mem_cons_of_mem _ hc)
  rw[List.cons_append,List.takeWhile_cons_of_pos h1,List.dropWhile_cons_of_pos h1,h2.1,h2.2]
  exact⟨rfl,rfl⟩
theorem lt_bl:∀c:UInt8,isLt c=true→blC c=false∧c≠35∧isDg c=false∧c≠45∧c≠34:=by
 intro c h
 have h:((97≤c.toNat∧c.toNat≤122)∨(65≤c.toNat∧c.toNat≤90))∨c.toNat=95:=by simpa [isLt] using h
 have key:∀d:UInt8,c=d→c.toNat=d.toNat:=fun d e=>by rw[e]
 refine⟨?_,?_,?_,?_,?_⟩
 ·unfold blC
  simp only[Bool.or_eq_false_iff,beq_eq_false_iff_ne]
  refine⟨⟨⟨⟨?_,?_⟩,?_⟩,?_⟩,?_⟩<;>(intro e; have:=key _ e; simp at this; omega)
 ·intro e; have:=key _ e; simp at this; omega
 ·unfold isDg; simp; omega
 ·intro e; have:=key _ e; simp at this; omega
 ·intro e; have:=key _ e; simp at this; omega
theorem dg_bl:∀c:UInt8,isDg c=true∨c=45→blC c=false∧c≠35∧isLt c=false:=by
 intro c h
 have h:45≤c.toNat∧c.toNat≤57:=by
  rcases h with h|rfl
  ·simp[isDg] at h; omega
  ·decide
 have key:∀d:UInt8,c=d→c.toNat=d.toNat:=fun d e=>by rw[e]
 refine⟨?_,?_,?_⟩
 ·unfold blC
  simp only[Bool.or_eq_false_iff,beq_eq_false_iff_ne]
  refine⟨⟨⟨⟨?_,?_⟩,?_⟩,?_⟩,?_⟩<;>(intro e; have:=key _ e; simp at this; omega)
 ·intro e; have:=key _ e; simp at this; omega
 ·unfold isLt; simp; omega
theorem sg_bl{c:UInt8}(h:sgC c=true):blC c=false∧c≠35∧isLt c=false∧isDg c=false∧c≠45∧c≠34:=by
 have h:c=123∨c=125∨c=40∨c=41∨c=58∨c=91∨c=93:=by simpa [sgC] using h
 rcases h with rfl|rfl|rfl|rfl|rfl|rfl|rfl<;>decide
theorem itoa_num(n:Int):∃c r,Lib.itoa n=c::r∧(isDg c=true∨c=45)∧∀d∈r,isDg d=true:=by
 unfold Lib.itoa
 split
 ·exact⟨45,_,rfl,.inr rfl,fun d hd=>decD_dg _ d hd⟩
 ·cases h:Lib.decDigits n.toNat with
  | nil=>exact (decD_ne _ h).elim
  | cons c r =>
   have:=decD_dg n.toNat
   rw[h] at this
   exact⟨c,r,rfl,.inl (this c (List.mem_cons_self ..)),fun d hd=>this d (List.mem_cons_of_mem _ hd)⟩
def endT(x:List UInt8):Prop:=∀c r,x=c::r→c=32
theorem wr_read{t:Tk}(h:fTk t=0){x:List UInt8}(hx:endT x):∃c r,wrTk t++x=c::r∧blC c=false∧c≠35∧pTok c r = .ok (t,x):=by
 have han:∀c r,x=c::r→anC c=false:=fun c r e=>by rw[hx c r e]; decide
 have hdg:∀c r,x=c::r→isDg c=false:=fun c r e=>by rw[hx c r e]; decide
 obtain⟨k,tx,n⟩:=t
 unfold fTk at h
 simp only at h
 split at h
 ·cases h
 rename_i h0
 split at h
 ·cases h
 rename_i h1
 split at h
 ·rename_i hk
  subst hk
  have hn:n=0:=by
   apply Classical.byContradiction
   intro q
   exact h1 (.inr ⟨by decide,q⟩)
  subst hn
  have hok:nameOk tx=true:=by
   unfold fName at h
   split at h
   ·cases h
   ·split at h
    ·assumption
    ·cases h
  cases tx with
  | nil=>cases hok
  | cons c r =>
   simp only[nameOk,Bool.and_eq_true,List.all_eq_true] at hok
   obtain⟨b1,b2,b3,b4,b5⟩:=lt_bl c hok.1
   have hall:∀d∈c::r,anC d=true:=fun d hd=>by
    rcases List.mem_cons.1 hd with rfl|hd
    ·exact isLt_an hok.1
    ·exact hok.2 d hd
   obtain⟨e1,e2⟩:=tw_end hall han
   refine⟨c,r++x,by simp[wrTk],b1,b2,?_⟩
   unfold pTok
   rw[←List.cons_append,e1,e2,if_pos hok.1,if_pos h]
 split at h
 ·rename_i hk
  subst hk
  have ht:tx=[]:=by
   apply Classical.byContradiction
   intro q
   exact h1 (.inl ⟨rfl,q⟩)
  subst ht
  split at h
  ·rename_i hr
   obtain⟨c,r,e,hc,hd⟩:=itoa_num n
   obtain⟨b1,b2,b3⟩:=dg_bl c hc
   obtain⟨e1,e2⟩:=tw_end hd hdg
   refine⟨c,r++x,by simp[wrTk,e],b1,b2,?_⟩
   unfold pTok
   rw[if_neg (by simp[b3]),if_pos hc]
   have hw:numW c (r++x)=Lib.itoa n:=by unfold numW; rw[e1,e]
   rw[hw,intOf_itoa hr,e2]
  ·cases h
 rename_i hk2
 have hn:n=0:=by
  apply Classical.byContradiction
  intro q
  exact h1 (.inr ⟨hk2,q⟩)
 subst hn
 split at h
 ·rename_i hk
  subst hk
  split at h
  ·cases h
  ·rename_i hl
   refine⟨34,lQs tx++34::x,by simp[wrTk],by decide,by decide,?_⟩
   unfold pTok
   rw[if_neg (by decide),if_neg (by decide),if_pos rfl,pTq_q,List.nil_append]
   simp only
   rw[if_neg hl]
 rename_i hk1 hk3
 split at h
 ·rename_i hs
  obtain⟨hl,ha⟩:=hs
  obtain⟨c,rfl⟩:=List.length_eq_one_iff.1 hl
  have hc:sgC c=true:=by simpa using ha
  obtain⟨b1,b2,b3,b4,b5,b6⟩:=sg_bl hc
  have hk:k=4:=by omega
  subst hk
  refine⟨c,x,by simp[wrTk],b1,b2,?_⟩
  unfold pTok
  rw[if_neg (by simp[b3]),if_neg (by simp[b4,b5]),if_neg b6,if_pos hc]
 ·cases h
theorem rd_more:∀l:List Tk,(∀t∈l,fTk t=0)→RdT (l.flatMap fun x=>32::wrTk x) l
 | [],_=>.nil rfl
 | t::l,h=>by
  have h1:=h t (List.mem_cons_self ..)
  have ih:=rd_more l fun x hx=>h x (List.mem_cons_of_mem _ hx)
  have hx:endT (l.flatMap fun x=>32::wrTk x):=by
   intro c r e
   cases l with
   | nil=>cases e
   | cons u l=>simp only[List.flatMap_cons,List.cons_append] at e; injection e with e1 e2; exact e1.symm
  obtain⟨c,r,e,b1,b2,hp⟩:=wr_read h1 hx
  rw[List.flatMap_cons,List.cons_append,e]
  refine .cons ?_ hp ih
  show blk false (32::c::r)=c::r
  rw[show blk false (32::c::r)=blk false (c::r) from by simp[blk,blC]]
  exact blk_fix b1 b2
theorem rd_wr{l:List Tk}(h:∀t∈l,fTk t=0):RdT (tkB l) l:=by
 have:=rd_more l h
 cases l with
 | nil=>exact .nil rfl
 | cons t l =>
  refine rd_blk ?_ this
  rw[tkB_cons,List.flatMap_cons,List.cons_append]
  simp[blk,blC]
theorem lex_print{l:List Tk}(h:fTks l=0)(h8:(tkB l).length≤2000):fLex (tkB l) = .ok l:=by
 obtain⟨h1,h2⟩:=(fTks_all l).1 h
 exact (fLex_ok _ l).2 ⟨h8,rd_wr h2,h1⟩
end Go.Am
namespace Go.Am
set_option linter.all false
open Go Go.RowKit Go.Proofs
set_option maxRecDepth 100000
set_option linter.all false
theorem toks_fuel:∀(n m:Nat) (acc:List Tk) (s t:List UInt8),blk false s=blk false t→(blk false s).length<n→(blk false s).length<m→pToks n acc s=pToks m acc t
 | 0,_,_,_,_,_,h,_=>by omega
 | _,0,_,_,_,_,_,h=>by omega
 | n+1,m+1,acc,s,t,he,hn,hm=>by
  unfold pToks
  rw[←he]
  cases hb:blk false s with
  | nil=>rfl
  | cons c r =>
   simp only
   rw[hb] at hn hm
   simp only[List.length_cons] at hn hm
   cases hp:pTok c r with
   | error e=>rfl
   | ok p =>
    simp only
    obtain⟨k,u⟩:=p
    have h1:=pTok_lt hp
    have h2:=blk_le false u
    rw[toks_fuel n m (acc++[k]) u u rfl (by omega) (by omega)]
end Go.Am
