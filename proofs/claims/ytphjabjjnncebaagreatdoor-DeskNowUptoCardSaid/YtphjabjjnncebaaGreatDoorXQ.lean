/- Parts of the proof: an abstract machine for Go functions, and what functions of the program give back (Sx1, Qx1, Sx2, Qx2, Dp1, Dw3, CcY, CcX, Ex1, Ex2, Ex3, Ex4, Ex5). No condition. -/
import Derived.Test.YtphjabjjnncebaaGreatDoorXP
import Derived.Test.YtphjabjjnncebaaGreatDoorXI
import Derived.Test.YtphjabjjnncebaaGreatDoorXJ
import Derived.Test.YtphjabjjnncebaaGreatDoorXO
import Derived.Test.YtphjabjjnncebaaGreatDoorXG
import Derived.Test.YtphjabjjnncebaaGreatDoorProg
import Derived.KernelRfl
import Derived.Test.YtphjabjjnncebaaGreatDoorXF
import Derived.Test.YtphjabjjnncebaaGreatDoorXE
set_option maxRecDepth 100000
set_option linter.all false
set_option maxHeartbeats 8000000
namespace Go.Am
open Go Go.Proofs Go.RowKit Go.Proofs.Tryz
def isS(l:List Tk)(c:UInt8):Bool:=match l with
 | t::_=>t.kind==4&&t.text==[c]
 | []=>false
def isW(l:List Tk):Bool:=match l with
 | t::_=>t.kind==1
 | []=>false
def txt(l:List Tk):List UInt8:=match l with
 | t::_=>t.text
 | []=>[]
def tkW(s:List UInt8):Tk:=⟨1,s,0⟩
def tkS(c:UInt8):Tk:=⟨4,[c],0⟩
def B3a{α:Type}(f:Nat->α->Int):∀(l:List α) (i:Nat),D0 f l i=0↔∀k x,l[k]?=some x->f (i+k) x=0
 | [],i=>by simp[D0]
 | x::l,i=>by
  have ih:=B3a f l (i+1);unfold D0;split
  ·rename_i h;constructor
   ·intro q; exact (h q).elim
   ·intro q; exact (h (q 0 x rfl)).elim
  ·rename_i h;have h:f i x=0:=(v_ h);rw[ih];constructor
   ·intro q k y hy;cases k with
    | zero=>injection hy with hy; rw[←hy]; exact h
    | succ k=>rw[show i+(k+1)=i+1+k by omega]; exact q k y hy
   ·intro q k y hy;rw[show i+1+k=i+(k+1) by omega]; exact q (k+1) y hy
def A9S{p:Prop}[Decidable p]{a b:Int}(h:(if p then a else b)=0)(ha:a≠0):¬p/\b=0:=by
 split at h
 ·exact (ha h).elim
 ·exact⟨‹_›,h⟩
def C18{a b:Int}(h:(if a≠0 then a else b)=0):a=0/\b=0:=by
 split at h
 ·exact (‹a≠0› h).elim
 ·exact⟨by simpa using ‹¬a≠0›,h⟩
def C5j{α:Type}{l:List α}{x:α}(h:x∈l):∃i:Nat,l[i]?=some x:=by
 obtain⟨i,hi,e⟩:=List.getElem_of_mem h;exact⟨i,by rw[zc hi,e]⟩
def B1W{s:List UInt8}(h:H2 s=0):fTk (tkW s)=0:=by simp[fTk,tkW,h]
def C19{s:List UInt8}(h:H2 s=0):s.length<=12:=by
 unfold H2 at h;split at h
 ·cases h
 ·omega
def B3b(l:List Tk):Nat:=(l.map λt=>(A2o t).length+1).sum
def C3f(l:List Tk):(tkB l).length<=B3b l:=by
 cases l with
 | nil=>simp[C3e]
 | cons t l =>
  rw[C17];have:(l.flatMap λx=>32::A2o x).length=B3b l:=by
   induction l with
   | nil=>rfl
   | cons u l ih=>simp[B3b] at ih ⊢; omega
  rw[zx,this];simp[B3b]
def isV(l:List Tk):Bool:=match l with
 | t::_=>t.kind==2||t.kind==3
 | []=>false
def C8L(nm:List UInt8)(l:List Tk):Ag:=match l with
 | t::_=>⟨nm,t.kind==3,t.text,t.n⟩
 | []=>⟨nm,false,[],0⟩
def pAg(l:List Tk):Option (Ag×List Tk):=if isW l=true/\isS (l.drop 1) 58=true/\isV (l.drop 2)=true then some (C8L (txt l) (l.drop 2),l.drop 3) else none
def A21:Nat->List Ag->List Tk->Option (List Ag×List Tk)
 | 0,_,_=>none
 | n+1,acc,l=>match pAg l with
  | none=>none
  | some p=>if isS p.2 41=true then some (acc++[p.1],p.2.drop 1) else A21 n (acc++[p.1]) p.2
def A32(l:List Tk):Option (List Ag×List Tk):=if isS l 40=true then A21 (l.length+1) [] (l.drop 1) else some ([],l)
def pHd(l:List Tk):Option (List UInt8×List UInt8×List Tk) :=
 if isW l=true then (if isS (l.drop 1) 58=true then (if isW (l.drop 2)=true then some (txt l,txt (l.drop 2),l.drop 3) else none) else some ([],txt l,l.drop 1)) else none
mutual
def A22:Nat->List Tk->Option (C4×List Tk)
 | 0,_=>none
 | n+1,l=>match pHd l with
  | none=>none
  | some (a,nm,u)=>match A32 u with
   | none=>none
   | some (xs,v)=>if isS v 123=true then (match x7 n v with
     | none=>none
     | some (k,w)=>some (.mk a nm xs k,w)) else some (.mk a nm xs [],v)
def x7:Nat->List Tk->Option (List C4×List Tk)
 | 0,_=>none
 | n+1,l=>if isS l 123=true then U0 n [] (l.drop 1) else none
def U0:Nat->List C4->List Tk->Option (List C4×List Tk)
 | 0,_,_=>none
 | n+1,acc,l=>match A22 n l with
  | none=>none
  | some (s,u)=>if isS u 125=true then some (acc++[s],u.drop 1) else U0 n (acc++[s]) u
end
def B1X(l:List Tk):Option (List C4):=match x7 (3*l.length+3) l with
 | none=>none
 | some (q,u)=>if u=[] then some q else none
def A3d(o:Option (List C4)):Except Int (List C4):=match o with
 | none=>.error 1
 | some q=>if I8 q=0 then .ok q else .error (I8 q)
def A36(s:List UInt8):Except Int (List C4):=match A5c s with
 | .error e=>.error e
 | .ok l=>A3d (B1X l)
def tkV(a:Ag):Tk:=if a.isText=true then ⟨3,a.text,0⟩ else ⟨2,[],a.n⟩
def B3c(a:Ag):List Tk:=[tkW a.name,tkS 58,tkV a]
def C1A(a nm:List UInt8):List Tk:=if a≠[] then [tkW a,tkS 58,tkW nm] else [tkW nm]
def g9(x:List Ag):List Tk:=if x≠[] then tkS 40::(x.flatMap B3c++[tkS 41]) else []
mutual
def A0n:C4->List Tk
 | .mk a n x k=>C1A a n++g9 x++A0H k
def A0H:List C4->List Tk
 | []=>[]
 | s::r=>tkS 123::(A0n s++tkL r++[tkS 125])
def tkL:List C4->List Tk
 | []=>[]
 | s::r=>A0n s++tkL r
end
def U5(l:List C4):List Tk:=tkS 123::(tkL l++[tkS 125])
def B8P(k:List C4):A0H k=if k≠[] then U5 k else []:=by
 cases k with
 | nil=>rfl
 | cons s r=>simp[A0H,U5,tkL]
def AgP(a:Ag):Prop:=H2 a.name=0/\A8R a=0
mutual
def C5k:C4->Prop
 | .mk a n x k=>(a≠[]->H2 a=0)/\H2 n=0/\(∀y∈x,AgP y)/\B3d k
def B3d:List C4->Prop
 | []=>True
 | s::r=>C5k s/\B3d r
end
def C5l{a:Ag}(h:A8R a=0):(a.isText=true/\a.n=0/\a.text.length<=40)\/(a.isText=false/\a.text=[]/\-999999999<=a.n/\a.n<=999999999):=by
 unfold A8R at h;obtain⟨h1,h⟩:=A9S h d_;obtain⟨h2,h⟩:=A9S h d_;obtain⟨h3,_⟩:=A9S h d_;have h3:=zl h3;cases ht:a.isText with
 | true =>
  refine .inl ⟨rfl,?_,o_⟩;apply zl;intro q;exact h1 (.inl ⟨ht,q⟩)
 | false =>
  refine .inr ⟨rfl,?_,h3⟩;apply zl;intro q;exact h1 (.inr ⟨ht,q⟩)
structure C7B(s:C4)(ah:List C4):Prop where
 name:H2 s.name=0
 al:s.alias≠[]->H2 s.alias=0
 args:Z4 s.args=0
 once:(ah.any fun x=>C7 x==C7 s)=false
def B5B{s:C4}{ah:List C4}:A3T s ah=0↔C7B s ah:=by
 constructor
 ·intro h;unfold A3T at h;obtain⟨h1,h⟩:=C18 h;split at h
  ·rename_i q; exact (q.2 h).elim
  rename_i h2;obtain⟨h3,h⟩:=C18 h;obtain⟨h4,_⟩:=A9S h d_;refine⟨h1,λq=>zl λq2=>h2 ⟨q,q2⟩,h3,v_ h4⟩
 ·rintro⟨h1,h2,h3,h4⟩;unfold A3T;rw[zf (v_ h1),zf (by rintro⟨q1,q2⟩; exact q2 (h2 q1)),zf (v_ h3),zf (by rw[h4]; simp)]
def B8Q{l:List Ag}(h:Z4 l=0):l.length<=5/\∀a∈l,AgP a:=by
 unfold Z4 at h;obtain⟨h1,h⟩:=A9S h d_;refine⟨o_,λa ha=>?_⟩;obtain⟨i,hi⟩:=C5j ha;have:=(B3a _ _ _).1 h i a hi;rw[xe] at this;unfold A2z at this;obtain⟨h2,h3⟩:=C18 this;obtain⟨_,h4⟩:=A9S h3 d_;exact⟨h2,h4⟩
mutual
def C3g:∀(s:C4) (ah:List C4),A3T s ah=0->B6C s=0->C5k s
 | .mk a n x k,ah,h1,h2=>by
  have h:=B5B.1 h1;exact⟨h.al,h.name,(B8Q h.args).2,A8s k [] h2⟩
def A8s:∀(l ah:List C4),S1 l ah=0->B3d l
 | [],_,_=>trivial
 | s::r,ah,h=>by
  simp only[S1] at h;obtain⟨h1,h⟩:=C18 h;obtain⟨h2,h⟩:=C18 h;exact⟨C3g s ah h1 h2,A8s r _ h⟩
end
def C5m{a:Ag}(h:A8R a=0):fTk (tkV a)=0:=by
 rcases C5l h with⟨h1,h2,h3⟩|⟨h1,h2,h3⟩
 ·unfold tkV; rw[zj h1]; simp[fTk]; omega
 ·unfold tkV; rw[zf (t_ h1)]; simp[fTk]; omega
def A3e{c:UInt8}(h:sgC c=true):fTk (tkS c)=0:=by simp[fTk,tkS,h]
def A3f(l:List Tk):Prop:=∀t∈l,fTk t=0
def A3f.app{a b:List Tk}(h1:A3f a)(h2:A3f b):A3f (a++b):=λt ht=>by
 rcases zp.1 ht with h|h
 ·exact h1 t h
 ·exact h2 t h
def A3f.cons{a:Tk}{b:List Tk}(h1:fTk a=0)(h2:A3f b):A3f (a::b):=λt ht=>by
 rcases zh.1 ht with rfl|h
 ·exact h1
 ·exact h2 t h
def A3f.nil:A3f []:=λt ht=>by cases ht
def C1B{x:List Ag}(h:∀y∈x,AgP y):A3f (g9 x):=by
 unfold g9;split
 ·refine .cons (A3e d_) (.app ?_ (.cons (A3e d_) .nil));intro t ht;obtain⟨a,ha,hm⟩:=we.1 ht;exact (A3f.cons (B1W (h a ha).1) (.cons (A3e d_) (.cons (C5m (h a ha).2) .nil))) t hm
 ·exact .nil
mutual
def B6Z:∀s:C4,C5k s->A3f (A0n s)
 | .mk a n x k,h=>by
  have h1:A3f (C1A a n):=by
   unfold C1A;split
   ·rename_i ha; exact .cons (B1W (h.1 ha)) (.cons (A3e d_) (.cons (B1W h.2.1) .nil))
   ·exact .cons (B1W h.2.1) .nil
  unfold A0n;exact (h1.app (C1B h.2.2.1)).app (C1C k h.2.2.2)
def C1C:∀k:List C4,B3d k->A3f (A0H k)
 | [],_=>.nil
 | s::r,h=>by
  unfold A0H;exact .cons (A3e d_) (((B6Z s h.1).app (C1D r h.2)).app (.cons (A3e d_) .nil))
def C1D:∀k:List C4,B3d k->A3f (tkL k)
 | [],_=>.nil
 | s::r,h=>by
  unfold tkL;exact (B6Z s h.1).app (C1D r h.2)
end
def B3e{l:List C4}:I8 l=0↔l≠[]/\W4 5 l<=40/\deepL 5 l<=5/\S1 l []=0:=by
 unfold I8;constructor
 ·intro h;obtain⟨h1,h⟩:=A9S h d_;obtain⟨h2,h⟩:=A9S h d_;exact⟨h1,o_,o_,h⟩
 ·rintro⟨h1,h2,h3,h4⟩;rw[zf h1,zf o_,h4]
def C3h{l:List C4}(h:I8 l=0):A3f (U5 l) :=
 .cons (A3e d_) ((C1D l (A8s l [] (B3e.1 h).2.2.2)).app (.cons (A3e d_) .nil))
def C1E{s:List UInt8}{l:List C4}(h:A36 s = .ok l):I8 l=0:=by
 unfold A36 at h;split at h
 ·cases h
 ·unfold A3d at h;split at h
  ·cases h
  ·split at h
   ·rename_i h2;injection h with h
    rw[←h]; exact h2
   ·cases h
def B3f:List Bt->List Bt->Bool
 | _,[]=>false
 | ah,b::r=>(ah.any λx=>x.number==b.number)||B3f (ah++[b]) r
def opE(l:List Ty)(d:Dk):Int:=if H3 l≠0 then H3 l else if H5 d≠0 then H5 d else if B3f [] (L7 d.seg)=true then 6 else Z0 ⟨l,[]⟩ (Q4 (L7 d.seg))
def opS(l:List Ty)(d:Dk):H7:=x6 ⟨l,[]⟩ (Q4 (L7 d.seg))
structure DOk(l:List Ty)(d:Dk):Prop where
 types:H3 l=0
 disk:H5 d=0
 once:B3f [] (L7 d.seg)=false
 all:Z0 ⟨l,[]⟩ (Q4 (L7 d.seg))=0
def A5e{l:List Ty}{d:Dk}:opE l d=0↔DOk l d:=by
 unfold opE;constructor
 ·intro h;by_cases h1:H3 l=0
  rotate_left
  ·rw[zj h1] at h; exact absurd h h1
  by_cases h2:H5 d=0
  rotate_left
  ·rw[zf (v_ h1),zj h2] at h; exact absurd h h2
  rw[zf (v_ h1),zf (v_ h2)] at h;split at h
  ·cases h
  ·rename_i h3;exact⟨h1,h2,v_ h3,h⟩
 ·rintro⟨h1,h2,h3,h4⟩;rw[zf (v_ h1),zf (v_ h2),zf (t_ h3),h4]
theorem A6Z{s:H7}{e:Ev}{r:List Ev}:Z0 s (e::r)=if A2L s e≠0 then A2L s e else Z0 (A35 s e) r:=rfl
def C1F{a b:List Ev}:∀{s:H7},Z0 s (a++b)=0->Z0 s a=0:=by
 induction a with
 | nil=>intro s _; rfl
 | cons e r ih =>
  intro s h;rw[yz,A6Z] at h;rw[A6Z];by_cases hr:A2L s e=0
  ·rw[zf (v_ hr)] at h ⊢;exact ih h
  ·rw[zj hr] at h;exact absurd h hr
def C1G(a b:List Bt):Q4 (a++b)=Q4 a++Q4 b:=by simp[Q4]
def Z1(l:List Ty)(d:Dk)(at_:Nat):H7:=x6 ⟨l,[]⟩ (Q4 ((L7 d.seg).take at_))
def A7h{d:Dk}(h:H5 d=0):(L7 d.seg).length<=3200/\∀b∈L7 d.seg,J0 b=0:=by
 have g:=C39 h;constructor
 ·have h8:=g.h8;have h4:=g.h4;generalize d.seg=l at *;have:∀l:List (List UInt8),(∀s∈l,s.length<=400)->(L7 l).length<=400*l.length:=λl=>by
   induction l with
   | nil=>intro _; simp[L7]
   | cons s r ih =>
    intro h;have h1:=B9z s;have h2:=h s (za ..);have h3:=ih λx hx=>h x (zb _ hx);simp only[L7,xx,zx,zt] at h3 ⊢; omega
  have:=this l h4;omega
 ·intro b hb;obtain⟨s,hs,hb⟩:=we.1 hb;exact (Y8 s 0 o_).2.2.2.2.2.2 b hb
def A2Q{b:Bt}(h:J0 b=0):b.events.length<=8/\∀e∈b.events,o6 e=0:=by
 unfold J0 at h;split at h
 ·cases h
 split at h
 ·cases h
 split at h
 ·cases h
 rename_i h8;exact⟨o_,A1h.1 h⟩
def C1H{e:Ev}(h:o6 e=0):I64 e.n:=by
 unfold o6 at h;split at h
 ·contradiction
 split at h
 ·cases h
 rename_i hq;unfold I64; omega
def A8t{l:List Bt}(h:∀b∈l,J0 b=0):∀e∈Q4 l,I64 e.n:=λe he=>by
 obtain⟨b,hb,he⟩:=we.1 he;exact C1H ((A2Q (h b hb)).2 e he)
def opV(e:Int)(id:Nat):AV:=if e=0 then .ptr id 0 0 else .nilp
def opW(e:Int)(s:H7)(bs:List Bt)(id:Nat):List (Nat×Option Bx):=if e=0 then [(id,some (bxO s bs))] else []
def B1Y(l:List Ty)(d:Dk)(id:Nat):A2 prog 46 [.sl (l.map I7),eDk d] [] id (.tup [opV (opE l d) id,.int .i64 (opE l d)]) (opW (opE l d) (opS l d) (L7 d.seg) id):=by
 have hC:=λid=>A45 l id;have hO:=λid=>C36 d id;unfold eDk at hO ⊢;by_cases h1:H3 l=0
 rotate_left
 ·have e:opE l d=H3 l:=by unfold opE; rw[zj h1]
  rw[e];have e1:opV (H3 l) id = .nilp:=by unfold opV; rw[zf h1]
  have e2:opW (H3 l) (opS l d) (L7 d.seg) id=[]:=by unfold opW; rw[zf h1]
  rw[e1,e2];refine w46.e.1 λE hP hR hl hid=>?_;simp[w46];(refine yH rfl (hC _) ?_; simp);refine A7 (v_ h1) ?_;simp;exact yP hR
 rw[h1] at hC;by_cases h2:H5 d=0
 rotate_left
 ·have e:opE l d=H5 d:=by unfold opE; rw[zf (v_ h1),zj h2]
  rw[e];have e1:opV (H5 d) id = .nilp:=by unfold opV; rw[zf h2]
  have e2:opW (H5 d) (opS l d) (L7 d.seg) id=[]:=by unfold opW; rw[zf h2]
  rw[e1,e2];simp only[zf h2] at hO;refine w46.e.1 λE hP hR hl hid=>?_;simp[w46];(refine yH rfl (hC _) ?_; simp);(refine yH rfl (hO _) ?_; simp);refine A7 (v_ h2) ?_;simp;exact yP hR
 simp only[zj h2] at hO;rw[h2] at hO;have hbs:=A7h h2;have hev:=A8t hbs.2;have hop:opE l d=if B3f [] (L7 d.seg)=true then 6 else Z0 ⟨l,[]⟩ (Q4 (L7 d.seg)):=by
  unfold opE; rw[zf (v_ h1),zf (v_ h2)]
 have hos:opS l d=x6 ⟨l,[]⟩ (Q4 (L7 d.seg)):=rfl;rw[hop,hos];generalize L7 d.seg=bs at *;refine w46.e.1 λE hP hR hl hid=>?_;simp[w46];(refine yH rfl (hC _) ?_; simp);(refine yH rfl (hO _) ?_; simp);refine C1 (X:=Nat) (λi=>⟨[(0,true,.sl (l.map I7)),(7,true,.sl (bs.map eBt)),(28,true,.sl (bs.map eBt)),(29,true,.int .i64 bs.length),(30,true,.int .i64 i)],[],0⟩)
  (λi=>i<=bs.length/\B3f (bs.take i) (bs.drop i)=B3f [] bs) (λi=>bs.length - i) 0 ?_ ⟨o_,s_⟩ ?_
 ·exact yW [] trivial
 rintro i ⟨hi,hf⟩ p hp;rcases yi i bs.length with h|h
 ·obtain⟨b,hb,hd⟩:=A8 h;have hi1:IntKind.i64.wrap ((i:Int)+1)=((i+1:Nat):Int):=wrap64 o_;have hst:bs.take (i+1)=bs.take i++[b]:=by rw[vh,hb]; rfl
  have hli:bs[i]=b:=by
   rw[zc h] at hb;injection hb
  rw[hd] at hf;simp only[B3f] at hf;have hcf:=λj id=>B03 104 j (eBt b) (.agg [.int .i64 0,.nils]) b.number (B2w b) (λx id=>C02 x b j id) (bs.take i) id (by rw[zz]; omega);have htl:(bs.take i).length=i:=by rw[zz]; omega
  unfold eBt at hcf;rw[yy] at hcf;refine A3 4000 ?_;simp[h,hli,eBt];refine⟨o_,?_⟩;(refine yH rfl (hcf _ _) ?_; simp);refine D4 (λg=>?_) (λg=>?_)
  ·simp;rw[g,qq] at hf;rw[zj hf.symm] at hR;have e1:opV 6 id = .nilp:=rfl;have e2:opW 6 (x6 ⟨l,[]⟩ (Q4 bs)) bs id=[]:=rfl;rw[e1,e2] at hR;exact yP hR
  ·simp;rw[g,Bool.false_or,←hst] at hf;refine hp _ (i+1) ⟨h,hf⟩ o_ ?_;exact yW [] hi1
 ·rw[zo h] at hf;have hdf:B3f [] bs=false:=hf.symm;have hE:=λj id=>B0L j .nils .nils rfl rfl bs bs.length (zy _) id o_ λb hb=>(A2Q (hbs.2 b hb)).1;rw[sr] at hE;have hel:=A8j (l:=bs) λb hb=>(A2Q (hbs.2 b hb)).1;have hA:=λid=>C0n l (Q4 bs) id hev o_;have hat:atE l (Q4 bs) ((Q4 bs).length:Int)=Z0 ⟨l,[]⟩ (Q4 bs):=by
   unfold atE;rw[zf (v_ h1),zf o_];simp
  have has:atS l (Q4 bs) ((Q4 bs).length:Int)=x6 ⟨l,[]⟩ (Q4 bs):=by
   unfold atS;simp
  rw[hat,has] at hA;rw[zf (t_ hdf)] at hR;unfold bxQ at hE;unfold A1a at hA;refine A3 4000 ?_;simp[ux.2 h];(refine yH rfl (hE _ _) ?_; simp);(refine yH rfl (hA _) ?_; simp);by_cases h3:Z0 ⟨l,[]⟩ (Q4 bs)=0
  ·rw[h3] at hR ⊢;have e1:opV 0 id = .ptr id 0 0:=rfl;have e2:opW 0 (x6 ⟨l,[]⟩ (Q4 bs)) bs id=[(id,some (bxO (x6 ⟨l,[]⟩ (Q4 bs)) bs))]:=rfl;rw[e1,e2] at hR;unfold bxO bxQ at hR;simp[B51,B52];exact yF hR [(id,E.n0+3072)] (A4 hid)
  ·have e1:opV (Z0 ⟨l,[]⟩ (Q4 bs)) id = .nilp:=(by unfold opV; rw[zf h3]);have e2:opW (Z0 ⟨l,[]⟩ (Q4 bs)) (x6 ⟨l,[]⟩ (Q4 bs)) bs id=[]:=(by unfold opW; rw[zf h3]);rw[e1,e2] at hR;refine⟨⟨A5V _ _,A5W _ _⟩,?_⟩;refine A7 (v_ h3) ?_;simp;exact yP hR
def B6a:CC:=(.r [.al 4 (.int .i64 0)])
def B6b:CC:=(.r [.m 8 0,.c 9 108 [8],.m 7 9,.e 10 7 0,.e 11 7 1,.m 5 10,.st 1 4 11])
def B6c:CC:=(.r [.l 12 4,.k 13 .neq 12 0])
def B6d:CC:=(.r [.m 16 5,⟨some 17,none,[16],.build [.nils] [(0,1,.t 16)]⟩,.bx 18 17,.m 6 18])
def A5f:CC:=(.r [.m 19 1,.m 20 6,⟨some 21,none,[19,20],.callv (.t 19) [.t 20]⟩])
def A5g:CC:=(.r [.m 22 6,.c 23 110 [22]])
def B6e:CC:=(.r [.si 1 4 0])
def B6f:CC:=(.seq (.r [.l 14 4,.st 1 4 14]) CC.ret)
def C7C:CC:=.seq B6a (.seq B6b (.seq (.seq B6c (.cond (.t 13) B6f CC.skip)) (.seq CC.bad (.seq B6d (.seq A5f (.seq A5g (.seq B6e CC.ret)))))))
def C7D:List s8:=[.cell 4 false 1]
def C7E:N9 prog f52.results.toList=some C7D:=by kernel_rfl
def C7F:f52.body.map (C8 prog f52.ntmps)=some C7C:=by kernel_rfl
def B6g:CC:=(.r [.bx 2 0,.al 4 (.agg [.int .i64 0,.int .i64 0,.str [],.nils,.nils]),.al 5 (.bool false)])
def B6h:CC:=(.r [.L 8 2 2,⟨some 9,none,[8],.build [.nils,.nils,.int .i64 0] [(0,2,.t 8)]⟩,.bx 10 9,.m 6 10])
def B0W:CC:=(.r [.m 11 6,.m 12 1,.m 13 6,⟨some 14,none,[13],.conv (.rcv 122) (.t 13)⟩,.c 15 121 [11,12,14],.st 5 4 15,⟨none,none,[5],.st 1 (.t 5) (.c (.bool true))⟩])
def C7G:CC:=.seq B6g (.seq CC.bad (.seq B6h (.seq B0W CC.ret)))
def C7H:List s8:=[.cell 4 true 5,.cell 5 false 1]
def C7I:N9 prog f60.results.toList=some C7H:=by kernel_rfl
def C7J:f60.body.map (C8 prog f60.ntmps)=some C7G:=by kernel_rfl
def B1Z:CC:=(.r [.al 2 (.agg [.int .i64 0,.int .i64 0,.str [],.nils,.nils]),.al 3 (.bool false)])
def B1a:CC:=(.r [.m 6 0,⟨some 7,none,[6],.build [.str []] [(0,1,.t 6)]⟩,.bx 8 7,.m 4 8])
def B1b:CC:=(.r [.m 9 4,.c 10 173 [9],.st 5 2 10])
def B1c:CC:=(.r [.m 11 4,.ck 12 11,.f 13 0 12,.l 14 13,.j 15 .neq 14 (.str [])])
def B1d:CC:=(.r [.c 16 174 []])
def B1e:CC:=(.r [.L 17 5 2,.st 5 2 17,⟨none,none,[3],.st 1 (.t 3) (.c (.bool true))⟩])
def C4Z:CC:=.seq B1Z (.seq CC.bad (.seq B1a (.seq B1b (.seq (.seq B1c (.cond (.t 15) B1d CC.skip)) (.seq B1e CC.ret)))))
def C4a:List s8:=[.cell 2 true 5,.cell 3 false 1]
def C5n:N9 prog f103.results.toList=some C4a:=by kernel_rfl
def C5o:f103.body.map (C8 prog f103.ntmps)=some C4Z:=by kernel_rfl
def B1f:CC:=(.seq (.r [.m 8 1,⟨some 9,none,[8],.conv (.ta 31) (.t 8)⟩,.m 7 9,.e 10 7 0,.e 11 7 1,.m 2 10,.m 3 11]) (.seq (.seq (.r [.m 12 3,.no 13 12]) (.cond (.t 13) (.r [.m 14 1,⟨none,none,[14],.pnk (.t 14)⟩]) CC.skip)) (.r [.m 15 2,.st 1 0 15])))
def C4b:CC:=.seq CC.bad (.seq (.r [.m 5 1,⟨some 6,none,[5],.bin .neq (some [7]) (.t 5) (.c .nili)⟩]) (.cond (.t 6) B1f CC.skip))
def C5p:f109.body.map (C8 prog f109.ntmps)=some C4b:=by kernel_rfl
def B1g:CC:=(.seq (.seq (.r [.m 9 2,⟨some 10,none,[9],.conv (.ta 173) (.t 9)⟩,.m 8 10,.e 11 8 0,.e 12 8 1,.al 3 (.agg []),.st 0 3 11,.m 4 12]) (.seq (.r [.m 13 4,.no 14 13]) (.cond (.t 14) (.r [.m 15 2,⟨none,none,[15],.pnk (.t 15)⟩]) CC.skip))) (.r [⟨some 16,none,[],.build [.int .i64 0,.int .i64 0,.str [],.nils,.nils] []⟩,.st 5 0 16,⟨none,none,[1],.st 1 (.t 1) (.c (.bool false))⟩]))
def C4c:CC:=.seq CC.bad (.seq (.r [.m 6 2,⟨some 7,none,[6],.bin .neq (some [7]) (.t 6) (.c .nili)⟩]) (.cond (.t 7) B1g CC.skip))
def C5q:f120.body.map (C8 prog f120.ntmps)=some C4c:=by kernel_rfl
def B1h:CC:=(.r [.al 2 .nils,.al 3 (.int .i64 0)])
def B1i:CC:=(.r [.m 6 0,⟨some 7,none,[6],.build [.str [],.int .i64 0] [(0,1,.t 6)]⟩,.bx 8 7,.m 4 8])
def A8u:CC:=(.r [.m 9 4,.c 10 248 [9]])
def A8v:CC:=(.r [.m 11 4,.ck 12 11,.f 13 1 12,.l 14 13,.m 15 0,.ns 16 15,.b 17 .lss 14 16])
def A0j:CC:=(.d [.l 20 2,.m 21 4,.c 22 249 [21],⟨some 23,none,[22],.bslice (.agg [.int .i64 0,.str [],.int .i64 0]) 1 [(0,.t 22)]⟩,⟨some 24,none,[20,23],.app false (.agg [.int .i64 0,.str [],.int .i64 0]) 32 (.t 20) (.t 23)⟩,.st 1 2 24] [(0,2),(0,3)])
def B1j:CC:=(.r [.l 25 2,.n 26 25,.k 27 .gtr 26 300])
def A6a:CC:=(.r [⟨some 28,none,[],.call 250 [.c (.int .i64 2)]⟩])
def B1k:CC:=(.r [.m 18 4,.c 19 248 [18]])
def A8w:CC:=(.r [.l 29 2,.st 1 2 29,.si 1 3 0])
def B5C:CC:=.block 1 (.seq A0j (.seq B1j (.cond (.t 27) A6a CC.skip)))
def A6b:CC:=.seq (.seq A8v (.cond (.t 17) CC.skip (.exit 0))) (.seq B5C B1k)
def C4d:CC:=.seq B1h (.seq CC.bad (.seq B1i (.seq (.seq A8u (.block 0 (.loop A6b))) (.seq A8w CC.ret))))
def C1I:List s8:=[.cell 2 false 1,.cell 3 false 1]
def C1J:N9 prog f175.results.toList=some C1I:=by kernel_rfl
def C5r:f175.body.map (C8 prog f175.ntmps)=some C4d:=by kernel_rfl
def A8x:CC:=(.seq (.r [.m 9 2,⟨some 10,none,[9],.conv (.ta 31) (.t 9)⟩,.m 8 10,.e 11 8 0,.e 12 8 1,.m 3 11,.m 4 12]) (.seq (.seq (.r [.m 13 4,.no 14 13]) (.cond (.t 14) (.r [.m 15 2,⟨none,none,[15],.pnk (.t 15)⟩]) CC.skip)) (.r [.m 16 3,⟨none,none,[0],.st 1 (.t 0) (.c .nils)⟩,.st 1 1 16])))
def C4e:CC:=.seq CC.bad (.seq (.r [.m 6 2,⟨some 7,none,[6],.bin .neq (some [7]) (.t 6) (.c .nili)⟩]) (.cond (.t 7) A8x CC.skip))
def C5s:f247.body.map (C8 prog f247.ntmps)=some C4e:=by kernel_rfl
def bR(s:H7)(m:Nat):Bx:=⟨[.agg [.sl (s.types.map I7),.sl (s.things.map W3),.int .i64 m]],.agg [.sl (s.types.map I7),.sl (s.things.map W3),.int .i64 0],false,false⟩
theorem x8(s:H7)(m:Nat):bR s m=⟨[.agg [.sl (s.types.map I7),.sl (s.things.map W3),.int .i64 m]],.agg [.sl (s.types.map I7),.sl (s.things.map W3),.int .i64 0],false,false⟩:=rfl
def tm:AV:=.iface 173 (.agg [])
def rnR(s:H7)(J m w:Nat)(v:AV):Except AV (AV×List (Nat×Option Bx)):=if m+w<=2000 then .ok (v,[(J,some (bR s (m+w)))]) else .error tm
def L4{s:H7}{J m w:Nat}{v:AV}(h:m+w<=2000):rnR s J m w v = .ok (v,[(J,some (bR s (m+w)))]):=zj h
def J7{s:H7}{J m w:Nat}{v:AV}(h:¬m+w<=2000):rnR s J m w v = .error tm:=zf h
def B6i(s:H7)(J m:Nat)(k n:Int)(tx:List UInt8)(id:Nat)(hm:m<=2000):Y4 prog 186 [.ptr J 0 0,.agg [.int .i64 k,.int .i64 n,.str tx,.nils,.nils]] [(J,bR s m)] id (rnR s J m 1 (.agg [.int .i64 k,.int .i64 n,.str tx,.nils,.nils])):=by
 have hw:IntKind.i64.wrap ((m:Int)+1)=((m+1:Nat):Int):=wrap64 o_;rw[x8];refine A3K w186.hf w186.hc w186.hn w186.hr (by simp[ntmps186]) λE hP hR hPn hl hid hB hu=>?_;refine A3 74 ?_;simp[w186];have hJ:=hl (J,_) (za ..);simp only at hJ;have J1:=lf hJ;simp[J1,hw];refine⟨λh=>?_,λh=>?_⟩
 ·refine A3 9 ?_;simp;refine B18 f_ s_ ⟨s_,hPn _ _ (J7 o_) rfl (t_ J1)⟩
 ·refine A3 4000 ?_;simp[J1];have hrn:F3 []:=by simp[bR,J1,A4 hid]
  refine hR _ _ _ (L4 o_) ?_;refine E6 (by simp[bR,J1,A4 hid]<;>rfl) [] hrn ⟨?_,?_,?_,?_,?_,?_⟩<;>(try simp[bR,J1,A4 hid])
inductive D6 where
 | mk (kind n:Int) (text:List UInt8) (keys:List (List UInt8)) (list:List D6)
mutual
def eO:D6->AV
 | .mk k n t ks l=>.agg [.int .i64 k,.int .i64 n,.str t,.sl (ks.map .str),.sl (eOs l)]
def eOs:List D6->List AV
 | []=>[]
 | o::r=>eO o::eOs r
end
def B6j(l:List D6):eOs l=l.map eO:=by
 induction l with
 | nil=>rfl
 | cons o r ih=>simp[eOs,ih]
def A0o(k n:Int)(t:List UInt8)(ks:List (List UInt8))(l:List D6):eO (.mk k n t ks l) = .agg [.int .i64 k,.int .i64 n,.str t,.sl (ks.map .str),.sl (l.map eO)]:=by
 simp[eO,B6j]
def X8(l:List (List UInt8)):F1 (l.map AV.str)=true:=E4 (λ_=>rfl) l
mutual
def A4B:∀o:D6,(eO o).pureB=true
 | .mk k n t ks l=>by simp[eO,X8,B3g l]
def B3g:∀l:List D6,F1 (eOs l)=true
 | []=>rfl
 | o::r=>by simp[eOs,A4B o,B3g r]
end
def A0I(l:List D6):F1 (l.map eO)=true:=E4 A4B l
def X9:D6:=.mk 1 0 [] [] []
def j0(n:Int):D6:=.mk 2 n [] [] []
def Y0(t:List UInt8):D6:=.mk 3 0 t [] []
def N7(l:List D6):D6:=.mk 4 0 [] [] l
def V9(ks:List (List UInt8))(l:List D6):D6:=.mk 5 0 [] ks l
def thA(s:H7)(kd id:Int):Option Tg:=if F4 s.things kd id=true then s.things[C3 s.things kd id]? else none
def A5h(s:H7)(t:Tg)(name:List UInt8):Option (Fd×Cl) :=
 match (D7 s.types t.type)[(B9 (λf=>f.name==name) (D7 s.types t.type) 0).toNat]?,t.cells[(B9 (λf=>f.name==name) (D7 s.types t.type) 0).toNat]? with
 | some f,some c=>some (f,c)
 | _,_=>none
def A1q(args:List Ag)(ids:List Int):List Int:=match args with
 | []=>ids
 | a::_=>ids.take a.n.toNat
def thW(s:H7)(g:Tg->Nat)(kd id:Int):Nat:=match thA s kd id with
 | none=>1
 | some u=>1+g u
def thO(s:H7)(ks:List (List UInt8))(g:Tg->List D6)(kd id:Int):D6:=match thA s kd id with
 | none=>X9
 | some u=>V9 ks (g u)
mutual
def wS(s:H7):C4->Tg->Nat
 | .mk _ name args kids,t=>if name=tId then 1 else match A5h s t name with
  | none=>1
  | some (f,c)=>if f.kind=1\/f.kind=2 then 1
   else if f.kind=4 then 1+((A1q args c.ids).map (thW s (wL s kids) (B7 s.types f.of))).sum
   else match c.ids with
    | []=>1
    | x::_=>thW s (wL s kids) (B7 s.types f.of) x
def wL(s:H7):List C4->Tg->Nat
 | [],_=>0
 | a::r,t=>wS s a t+wL s r t
end
mutual
def oS(s:H7):C4->Tg->D6
 | .mk _ name args kids,t=>if name=tId then j0 t.id else match A5h s t name with
  | none=>X9
  | some (f,c)=>if f.kind=1 then j0 c.n else if f.kind=2 then Y0 c.text
   else if f.kind=4 then N7 ((A1q args c.ids).map (thO s (kids.map C7) (oL s kids) (B7 s.types f.of)))
   else match c.ids with
    | []=>X9
    | x::_=>thO s (kids.map C7) (oL s kids) (B7 s.types f.of) x
def oL(s:H7):List C4->Tg->List D6
 | [],_=>[]
 | a::r,t=>oS s a t::oL s r t
end
def A6c(s:H7)(t:Tg):∀l:List C4,wL s l t=(l.map λx=>wS s x t).sum
 | []=>by simp[wL]
 | a::r=>by simp[wL,A6c s t r]
def A1T(s:H7)(t:Tg):∀l:List C4,oL s l t=l.map λx=>oS s x t
 | []=>by simp[oL]
 | a::r=>by simp[oL,A1T s t r]
def B3h{l:List Nat}(i:Nat):(l.take i).sum<=l.sum:=by
 have:l.sum=(l.take i).sum+(l.drop i).sum:=by rw[←qe,xf]
 omega
def A23{α:Type}{l:List α}{i:Nat}{x:α}(f:α->Nat)(hx:l[i]?=some x):((l.take (i+1)).map f).sum=((l.take i).map f).sum+f x:=by
 rw[vh,hx]; simp
def A6d{α:Type}{l:List α}{i:Nat}(f:α->Nat):((l.take i).map f).sum<=(l.map f).sum:=by
 rw[yy]; exact B3h i
def A0J{s:H7}{J m:Nat}(k n:Int)(tx:List UInt8)(id:Nat)(h:m+1<=2000):A2 prog 186 [.ptr J 0 0,.agg [.int .i64 k,.int .i64 n,.str tx,.nils,.nils]] [(J,bR s m)] id (.agg [.int .i64 k,.int .i64 n,.str tx,.nils,.nils]) [(J,some (bR s (m+1)))]:=by
 have:=B6i s J m k n tx id o_;rw[L4 h] at this; exact this
def A2p{s:H7}{J m:Nat}(k n:Int)(tx:List UInt8)(id:Nat)(hm:m<=2000)(h:¬m+1<=2000):Y4 prog 186 [.ptr J 0 0,.agg [.int .i64 k,.int .i64 n,.str tx,.nils,.nils]] [(J,bR s m)] id (.error tm):=by
 have:=B6i s J m k n tx id hm;rw[J7 h] at this; exact this
def bP(J:Nat):Bx:=⟨[.ptr J 0 0],.ptr J 0 0,false,false⟩
def bT(t:Tg):Bx:=⟨[W3 t],.agg [.int .i64 0,.int .i64 0,.nils],false,false⟩
def C1K(s:H7)(t:Tg)(l:List C4)(J A B m:Nat)(id:Nat)(d1:J≠A)(d2:J≠B)(d3:A≠B)(hm:m<=2000)(hl8:l.length<=1000000)
  (hdo:∀x∈l,∀m id,m<=2000->Y4 prog 255 [C6 x,.ptr A 0 0,.ptr B 0 0] [(J,bR s m),(A,bP J),(B,bT t)] id (rnR s J m (wS s x t) (eO (oS s x t)))) :
  Y4 prog 121 [.ptr J 0 0,.sl (l.map C6),.fn 255 [.ptr A 0 0,.ptr B 0 0]] [(J,bR s m),(A,bP J),(B,bT t)] id (rnR s J m (1+wL s l t) (eO (V9 (l.map C7) (oL s l t)))):=by
 have hsum:=A6c s t l;refine w121.x.1 λE hP hR hPn hl hid hB hu=>?_;simp[w121];have hJ:=hl (J,_) (za ..);simp only at hJ;have J1:=lf hJ;have hA:=hl (A,_) (zb _ (za ..));simp only at hA;have A1:=lf hA;have hB:=hl (B,_) (zb _ (zb _ (za ..)));simp only at hB;have B1:=lf hB;by_cases h1:m+1<=2000
 rotate_left
 ·refine D3 hP rfl (A2p 5 0 [] _ hm h1) (by simp[J1,A1,B1,d1,d2,d3]) (by simp[J1,A1,B1,d1,d2,d3]<;>rfl) (λpv hpv=>⟨by simp[J1,A1,B1,d1,d2,d3],by injection hpv with hpv; subst hpv; exact hPn _ _ (J7 o_) rfl (by simp[J1,A1,B1,d1,d2,d3])⟩) (λv wr h=>by cases h)
 (refine D9 hP rfl (A0J 5 0 [] _ h1) (by simp[J1,A1,B1,d1,d2,d3]) (by simp[J1,A1,B1,d1,d2,d3]<;>rfl) ?_; refine A3 4000 ?_; simp[J1,A1,B1,d1,d2,d3]);refine C1 (X:=Nat) (λi=>⟨[(2,true,.fn 255 [.ptr A 0 0,.ptr B 0 0]),(6,true,.ptr E.n0 0 0),(7,true,.ptr (E.n0+1) 0 0),(13,true,.sl (l.map C6)),(14,true,.int .i64 l.length),(15,true,.int .i64 i)],
   [(J,some (bR s (m+1+((l.take i).map λx=>wS s x t).sum))),(A,some (bP J)),(B,some (bT t)),(E.n0,some ⟨[.agg [.int .i64 0,.int .i64 0,.str [],.nils,.nils]],.agg [.int .i64 0,.int .i64 0,.str [],.nils,.nils],false,false⟩),(E.n0+1,some ⟨[.agg [.int .i64 5,.int .i64 0,.str [],.bsl (E.n0+2) 0 i,.bsl (E.n0+3) 0 i]],.agg [.int .i64 0,.int .i64 0,.str [],.nils,.nils],false,false⟩),(E.n0+2,some ⟨((l.map C7).map .str).take i,.str [],false,false⟩),(E.n0+3,some ⟨((oL s l t).map eO).take i,.agg [.int .i64 0,.int .i64 0,.str [],.nils,.nils],false,false⟩)],4⟩)
  (λi=>i<=l.length/\m+1+((l.take i).map λx=>wS s x t).sum<=2000) (λi=>l.length - i) 0 ?_ ⟨o_,m_⟩ ?_
 ·refine D5.trans (D5.voidBox (E.n0+4096) (by simp; rfl) rfl (.agg [.int .i64 5,.int .i64 0,.str [],.nils,.nils] [.int .i64 5,.int .i64 0,.str [],.bsl (E.n0+9216) 0 0,.nils] rfl (λm x y h1 h2=>?_)) (.str [])) (D5.trans (D5.voidBox (E.n0+4096) (by simp; rfl) rfl (.agg [.int .i64 5,.int .i64 0,.str [],.bsl (E.n0+9216) 0 0,.nils] [.int .i64 5,.int .i64 0,.str [],.bsl (E.n0+9216) 0 0,.bsl (E.n0+9217) 0 0] rfl (λm x y h1 h2=>?_)) (.agg [.int .i64 0,.int .i64 0,.str [],.nils,.nils])) ?_)
  ·match m,h1,h2 with
   | 0,h1,h2|1,h1,h2|2,h1,h2|4,h1,h2=>simp at h1 h2; exact .inl (h1.symm.trans h2)
   | 3,h1,h2=>simp at h1 h2; exact .inr ⟨h1.symm,h2.symm⟩
   | m+5,h1,h2=>simp at h1
  ·match m,h1,h2 with
   | 0,h1,h2|1,h1,h2|2,h1,h2|3,h1,h2=>simp at h1 h2; exact .inl (h1.symm.trans h2)
   | 4,h1,h2=>simp at h1 h2; exact .inr ⟨h1.symm,h2.symm⟩
   | m+5,h1,h2=>simp at h1
  ·refine yV [(E.n0,E.n0),(E.n0+1,E.n0+4096),(E.n0+2,E.n0+9216),(E.n0+3,E.n0+9217)] (by simp[bR,bP,bT,J1,A1,B1,d1,d2,d3,zu d1,zu d2,zu d3]) λhrn=>⟨?_,?_,?_,?_,?_⟩<;>(try simp[bR,bP,bT,J1,A1,B1,d1,d2,d3,zu d1,zu d2,zu d3])
 ·rintro i ⟨hi,hm2⟩ p hp;refine A3 4000 ?_;simp;refine D4 (λh=>?_) (λh=>?_)
  ·have h:=zr h;obtain⟨x,hx,hd⟩:=A8 h;have hi1:IntKind.i64.wrap ((i:Int)+1)=((i+1:Nat):Int):=wrap64 o_;have hxm:=zg hx;have hst:=A23 (λx=>wS s x t) hx;have hCa:=A47 x;rw[F5] at hCa;have hdx:=hdo x hxm;have hk1:((l.map C7).map AV.str).take (i+1)=((l.map C7).map AV.str).take i++[.str (C7 x)]:=K5 (t_ hx);have ho1:((oL s l t).map eO).take (i+1)=((oL s l t).map eO).take i++[eO (oS s x t)]:=K5 (by rw[A1T]; simp[hx]);have hlo:(oL s l t).length=l.length:=(by rw[A1T]; simp);obtain⟨ok,on,ot,oks,ols,hoe⟩:∃(a b:Int) (c:List UInt8) (d:List (List UInt8)) (e:List D6),eO (oS s x t) = .agg [.int .i64 a,.int .i64 b,.str c,.sl (d.map .str),.sl (e.map eO)]:=by
    cases oS s x t with|mk a b c d e=>exact⟨a,b,c,d,e,A0o a b c d e⟩
   rw[hoe,F5] at hdx;rw[hoe] at ho1;simp only[vq] at *;simp[hx,F5 x,J1,A1,B1,d1,d2,d3,zu d1,zu d2,zu d3];refine⟨h,?_⟩;(refine yC rfl (hCa _) ?_; simp[J1,A1,B1,d1,d2,d3,zu d1,zu d2,zu d3]);refine⟨⟨o_,o_,o_⟩,?_⟩;have hsl:=A6d (l:=l) (i:=i+1) (λx=>wS s x t);by_cases h2:m+1+((l.take i).map λx=>wS s x t).sum+wS s x t<=2000
   ·have hd2:∀id,A2 prog 255 _ _ id _ _:=λid=>by
     have:=hdx (m+1+((l.take i).map λx=>wS s x t).sum) id hm2;rw[L4 h2] at this; exact this
    simp only[yy] at *;refine F9 hP rfl rfl (hd2 _) s_ (by simp[J1,A1,B1,d1,d2,d3,zu d1,zu d2,zu d3]<;>rfl) ?_;refine A3 4000 ?_;simp[J1,A1,B1,d1,d2,d3,zu d1,zu d2,zu d3];refine⟨⟨o_,o_,o_⟩,?_⟩;have hst2:(List.take (i+1) (List.map (λx=>wS s x t) l)).sum=(List.take i (List.map (λx=>wS s x t) l)).sum+wS s x t:=(by simpa only[yy] using hst);refine hp _ (i+1) ⟨h,o_⟩ o_ ?_;refine yV [(E.n0,E.n0),(E.n0+1,E.n0+1),(E.n0+2,E.n0+10244),(E.n0+3,E.n0+19460)] (by simp[hi1,bR,bP,bT,hst2,hk1,ho1,J1,A1,B1,d1,d2,d3,zu d1,zu d2,zu d3]) λhrn=>⟨?_,?_,?_,?_,?_⟩<;>(try simp[hi1,bR,bP,bT,hst2,hk1,ho1,J1,A1,B1,d1,d2,d3,zu d1,zu d2,zu d3]);refine⟨o_,B4 rfl (B3 (by rw[←yy]; exact E4 (λ_=>rfl) _) rfl),B4 rfl (B3 (by rw[←yy]; exact A0I _) (by simp[X8,A0I]))⟩
   ·have hd2:∀id,Y4 prog 255 _ _ id _:=λid=>by
     have:=hdx (m+1+((l.take i).map λx=>wS s x t).sum) id hm2;rw[J7 h2] at this; exact this
    simp only[yy] at *;refine A2D hP rfl rfl (hd2 _) s_ (by simp[J1,A1,B1,d1,d2,d3,zu d1,zu d2,zu d3]<;>rfl) (λpv hpv=>⟨by simp[J1,A1,B1,d1,d2,d3,zu d1,zu d2,zu d3],by injection hpv with hpv; subst hpv; exact hPn _ _ (J7 o_) rfl (by simp[J1,A1,B1,d1,d2,d3,zu d1,zu d2,zu d3])⟩) (λv wr h=>by cases h)
  ·have h:¬i<l.length:=zq h;have hil:i=l.length:=o_;subst hil;simp[J1,A1,B1,d1,d2,d3,zu d1,zu d2,zu d3];have hlo:(oL s l t).length=l.length:=(by rw[A1T]; simp);have hsa:(List.take l.length (List.map (λx=>wS s x t) l)).sum=wL s l t:=(by rw[hsum,zm s_]);have hka:List.take l.length (List.map (AV.str∘C7) l)=List.map (AV.str∘C7) l:=zm s_;have hoa:List.take l.length ((oL s l t).map eO)=(oL s l t).map eO:=zm (t_ hlo);simp only[yy] at hm2;rw[hsa] at hm2;unfold V9 at hR;rw[A0o,vq] at hR;have hrn:F3 []:=(by simp[bR,bP,bT,hsa,hka,hoa,hlo,J1,A1,B1,d1,d2,d3,zu d1,zu d2,zu d3,A4 hid]);refine hR _ _ _ (L4 o_) ?_;refine I6 (by simp[bR,bP,bT,hsa,hka,hoa,hlo,J1,A1,B1,d1,d2,d3,zu d1,zu d2,zu d3,A4 hid]<;>rfl) (by simp[bR,bP,bT,hsa,hka,hoa,hlo,J1,A1,B1,d1,d2,d3,zu d1,zu d2,zu d3,A4 hid]<;>exact⟨rfl,rfl⟩) [] hrn ⟨?_,?_,?_,?_,?_,?_⟩<;>(try simp[bR,bP,bT,hsa,hka,hoa,hlo,J1,A1,B1,d1,d2,d3,zu d1,zu d2,zu d3,A4 hid])
   ·exact⟨A5 _ (E4 (λ_=>rfl) _),A5 _ (A0I _)⟩
   ·omega
@[simp] theorem C7K (S:Nat->Prop):E8 S []:=A5 _ rfl
@[simp] theorem C2W (S:Nat->Prop) (l:List C4):E8 S (l.map (AV.str∘C7)):=A5 _ (E4 (λ_=>rfl) l)
@[simp] theorem C5t (S:Nat->Prop) (l:List (List UInt8)):E8 S (l.map .str):=A5 _ (X8 l)
@[simp] theorem C5u (S:Nat->Prop) (l:List D6):E8 S (l.map eO):=A5 _ (A0I l)
attribute [simp] X8 A0I
def Y4.nrm{P:Program}{f:Nat}{args:List AV}{rd:List (Nat×Bx)}{id:Nat}{s:H7}{J m w:Nat}{v:AV}(h:Y4 P f args rd id (rnR s J m w v)):Y4 P f args rd id (rnR s J m w v.nrm):=by
 by_cases k:m+w<=2000
 ·rw[L4 k] at h ⊢; exact A2.nrm h
 ·rw[J7 k] at h ⊢; exact h
def B3i(s:H7)(J m:Nat)(id:Nat)(hm:m<=2000):Y4 prog 254 [.ptr J 0 0] [(J,bR s m)] id (rnR s J m 1 (eO X9)):=by
 refine Y4.nrm (v:=.agg [.int .i64 1,.int .i64 0,.str [],.nils,.nils]) ?_;refine w254.x.1 λE hP hR hPn hl hid hB hu=>?_;simp[w254];have hJ:=hl (J,_) (za ..);simp only at hJ;have J1:=lf hJ;by_cases h1:m+1<=2000
 rotate_left
 ·refine D3 hP rfl (A2p 1 0 [] _ hm h1) (t_ J1) (by simp[J1]<;>rfl) (λpv hpv=>⟨t_ J1,by injection hpv with hpv; subst hpv; exact hPn _ _ (J7 h1) rfl (t_ J1)⟩) (λv wr h=>by cases h)
 (refine D9 hP rfl (A0J 1 0 [] _ h1) (t_ J1) (by simp[J1]<;>rfl) ?_; refine A3 4000 ?_; simp[J1]);have hrn:F3 []:=by simp[bR,J1,A4 hid]
 refine hR _ _ _ (L4 h1) ?_;refine E6 (by simp[bR,J1,A4 hid]<;>rfl) [] hrn ⟨?_,?_,?_,?_,?_,?_⟩<;>(try simp[bR,J1,A4 hid])
def B8R{s:H7}{t:Tg}{x:C4}{J A B m w:Nat}{o:D6}(id:Nat)(d1:J≠A)(d2:J≠B)(d3:A≠B)
  (hF:∀id,Y4 prog 256 [.ptr J 0 0,W3 t,C6 x] [(J,bR s m)] id (rnR s J m w (eO o))) :
  Y4 prog 255 [C6 x,.ptr A 0 0,.ptr B 0 0] [(J,bR s m),(A,bP J),(B,bT t)] id (rnR s J m w (eO o)):=by
 obtain⟨ok,on,ot,oks,ols,hoe⟩:∃(a b:Int) (c:List UInt8) (d:List (List UInt8)) (e:List D6),eO o = .agg [.int .i64 a,.int .i64 b,.str c,.sl (d.map .str),.sl (e.map eO)]:=by
  cases o with|mk a b c d e=>exact⟨a,b,c,d,e,A0o a b c d e⟩
 have hTg:W3 t = .agg [.int .i64 t.type,.int .i64 t.id,.sl (t.cells.map eCl)]:=rfl;unfold bP bT;simp only[hoe,F5 x,hTg] at *;refine w255.x.1 λE hP hR hPn hl hid hB hu=>?_;simp[w255];have hJ:=hl (J,_) (za ..);simp only at hJ;have J1:=lf hJ;have hA:=hl (A,_) (zb _ (za ..));simp only at hA;have A1:=lf hA;have hB:=hl (B,_) (zb _ (zb _ (za ..)));simp only at hB;have B1:=lf hB;simp[J1,A1,B1,d1,d2,d3,zu d1,zu d2,zu d3];by_cases h1:m+w<=2000
 rotate_left
 ·simp only[J7 h1] at hF;refine D3 hP rfl (hF _) (by simp[J1,A1,B1,d1,d2,d3,zu d1,zu d2,zu d3]) (by simp[J1,A1,B1,d1,d2,d3,zu d1,zu d2,zu d3]<;>rfl) (λpv hpv=>⟨by simp[J1,A1,B1,d1,d2,d3,zu d1,zu d2,zu d3],by injection hpv with hpv; subst hpv; exact hPn _ _ (J7 h1) rfl (by simp[J1,A1,B1,d1,d2,d3,zu d1,zu d2,zu d3])⟩) (λv wr h=>by cases h)
 have hF1:∀id,A2 prog 256 _ _ id _ _:=λid=>by
  have:=hF id;rw[L4 h1] at this; exact this
 (refine yC rfl (hF1 _) ?_; simp[J1,A1,B1,d1,d2,d3,zu d1,zu d2,zu d3]);have hrn:F3 []:=by simp[bR,J1,A1,B1,d1,d2,d3,zu d1,zu d2,zu d3,A4 hid]
 refine hR _ _ _ (L4 h1) ?_;refine E6 (by simp[bR,J1,A1,B1,d1,d2,d3,zu d1,zu d2,zu d3,A4 hid]<;>rfl) [] hrn ⟨?_,?_,?_,?_,?_,?_⟩<;>(try simp[bR,J1,A1,B1,d1,d2,d3,zu d1,zu d2,zu d3,A4 hid])
def B3j{s:H7}{kids:List C4}{J m:Nat}{kd tid:Int}(id:Nat)(hm:m<=2000)(h12:s.things.length<=1000)(hk8:kids.length<=1000000)
  (hF:∀u,thA s kd tid=some u->∀x∈kids,∀m id,m<=2000->Y4 prog 256 [.ptr J 0 0,W3 u,C6 x] [(J,bR s m)] id (rnR s J m (wS s x u) (eO (oS s x u)))) :
  Y4 prog 188 [.ptr J 0 0,.int .i64 kd,.int .i64 tid,.sl (kids.map C6)] [(J,bR s m)] id (rnR s J m (thW s (wL s kids) kd tid) (eO (thO s (kids.map C7) (oL s kids) kd tid))):=by
 have hFi:=λid=>B04 s kd tid id o_;unfold H4 at hFi;cases hb:F4 s.things kd tid with
 | false =>
  have ht:thA s kd tid=none:=by unfold thA; rw[hb]; rfl
  have e1:thW s (wL s kids) kd tid=1:=by unfold thW; rw[ht]
  have e2:thO s (kids.map C7) (oL s kids) kd tid=X9:=by unfold thO; rw[ht]
  rw[hb] at hFi;rw[e1,e2];have hN:=λid=>B3i s J m id hm;have hoe:eO X9 = .agg [.int .i64 1,.int .i64 0,.str [],.sl [],.sl []]:=rfl;rw[hoe] at hN ⊢;rw[x8] at *;refine w188.x.1 λE hP hR hPn hl hid hB hu=>?_;simp[w188];have hJ:=hl (J,_) (za ..);simp only at hJ;have J1:=lf hJ;simp[J1];(refine yC rfl (hFi _) ?_; simp[J1]);by_cases h1:m+1<=2000
  rotate_left
  ·simp only[J7 h1] at hN;refine D3 hP rfl (hN _) (t_ J1) (by simp[J1]<;>rfl) (λpv hpv=>⟨t_ J1,by injection hpv with hpv; subst hpv; exact hPn _ _ (J7 h1) rfl (t_ J1)⟩) (λv wr h=>by cases h)
  have hN1:∀id,A2 prog 254 _ _ id _ _:=λid=>by
   have:=hN id;rw[L4 h1] at this; exact this
  (refine yC rfl (hN1 _) ?_; simp[J1]);have hrn:F3 []:=by simp[bR,J1,A4 hid]
  refine hR _ _ _ (L4 h1) ?_;refine E6 (by simp[bR,J1,A4 hid]<;>rfl) [] hrn ⟨?_,?_,?_,?_,?_,?_⟩<;>(try simp[bR,J1,A4 hid])
 | true =>
  obtain⟨u,hus⟩:∃u,s.things[C3 s.things kd tid]?=some u:=by
   unfold F4 at hb;simp at hb;exact⟨_,zc hb.1⟩
  have hlt:=(ze.1 hus).1;have ht:thA s kd tid=some u:=by unfold thA; rw[hb,zj rfl,hus]
  have e1:thW s (wL s kids) kd tid=1+wL s kids u:=by unfold thW; rw[ht]
  have e2:thO s (kids.map C7) (oL s kids) kd tid=V9 (kids.map C7) (oL s kids u):=by unfold thO; rw[ht]
  rw[hb] at hFi;rw[e1,e2];have hP2:=λA B id (d1:J≠A) (d2:J≠B) (d3:A≠B)=>C1K s u kids J A B m id d1 d2 d3 hm hk8 λx hx m id hm=>B8R id d1 d2 d3 λid=>hF u ht x hx m id hm;unfold V9 at hP2 ⊢;rw[A0o] at hP2 ⊢;have hTu:W3 u = .agg [.int .i64 u.type,.int .i64 u.id,.sl (u.cells.map eCl)]:=rfl;unfold bP bT at hP2;rw[hTu] at hP2;rw[x8] at *;generalize hv:(AV.agg [.int .i64 5,.int .i64 0,.str [],.sl ((kids.map C7).map .str),.sl ((oL s kids u).map eO)])=V at hP2 ⊢;refine w188.x.1 λE hP hR hPn hl hid hB hu=>?_;simp[w188];have hJ:=hl (J,_) (za ..);simp only at hJ;have J1:=lf hJ;simp[J1];(refine yC rfl (hFi _) ?_; simp[hus,hTu,J1]);refine⟨hlt,?_⟩;have hP3:=λid=>hP2 E.n0 (E.n0+24576) id (t_ J1) (t_ J1) o_;by_cases h1:m+(1+wL s kids u)<=2000
  rotate_left
  ·simp only[J7 h1] at hP3;refine D3 hP rfl (hP3 _) (t_ J1) (by simp[J1]<;>rfl) (λpv hpv=>⟨t_ J1,by injection hpv with hpv; subst hpv; exact hPn _ _ (J7 h1) rfl (t_ J1)⟩) (λv wr h=>by cases h)
  have hP4:∀id,A2 prog 121 _ _ id _ _:=λid=>by
   have:=hP3 id;rw[L4 h1] at this; exact this
  rw[←hv] at hP4;(refine yC rfl (hP4 _) ?_; simp[J1]);rw[←hv] at hR;have hrn:F3 []:=by simp[bR,J1,A4 hid]
  refine hR _ _ _ (L4 h1) ?_;refine E6 (by simp[bR,J1,A4 hid]<;>rfl) [] hrn ⟨?_,?_,?_,?_,?_,?_⟩<;>(try simp[bR,J1,A4 hid])
mutual
def B5D:∀o:D6,(eO o).nrm=eO o
 | .mk k n t ks l=>by
  have h1:A3I (ks.map AV.str)=ks.map AV.str:=by
   induction ks with
   | nil=>rfl
   | cons a r ih=>simp[A3I,AV.nrm,ih]
  simp[eO,AV.nrm,A3I,h1,B1l l]
def B1l:∀l:List D6,A3I (eOs l)=eOs l
 | []=>rfl
 | o::r=>by simp[eOs,A3I,B5D o,B1l r]
end
def B6k{s:H7}{kids:List C4}{ids:List Int}{J m:Nat}{kd:Int}{W:Int->Nat}{O:Int->D6}(id:Nat)(hm:m<=2000)(hi8:ids.length<=1000000)
  (hT:∀x∈ids,∀m id,m<=2000->Y4 prog 188 [.ptr J 0 0,.int .i64 kd,.int .i64 x,.sl (kids.map C6)] [(J,bR s m)] id (rnR s J m (W x) (eO (O x)))) :
  Y4 prog 189 [.ptr J 0 0,.int .i64 kd,.sl (ids.map eI),.sl (kids.map C6)] [(J,bR s m)] id (rnR s J m (1+(ids.map W).sum) (eO (N7 (ids.map O)))):=by
 have hres:(AV.agg [.int .i64 4,.int .i64 0,.str [],.nils,.sl ((ids.map O).map eO)]).nrm=eO (N7 (ids.map O)):=by
  have:=B1l (ids.map O);rw[B6j] at this;unfold N7;rw[A0o];simp[AV.nrm,A3I] at this ⊢;exact this
 rw[←hres];refine Y4.nrm ?_;refine w189.x.1 λE hP hR hPn hl hid hB hu=>?_;simp[w189];have hJ:=hl (J,_) (za ..);simp only at hJ;have J1:=lf hJ;by_cases h1:m+1<=2000
 rotate_left
 ·refine D3 hP rfl (A2p 4 0 [] _ hm h1) (t_ J1) (by simp[J1]<;>rfl) (λpv hpv=>⟨t_ J1,by injection hpv with hpv; subst hpv; exact hPn _ _ (J7 o_) rfl (t_ J1)⟩) (λv wr h=>by cases h)
 (refine D9 hP rfl (A0J 4 0 [] _ h1) (t_ J1) (by simp[J1]<;>rfl) ?_; refine A3 4000 ?_; simp[J1]);refine C1 (X:=Nat) (λi=>⟨[(0,true,.ptr J 0 0),(1,true,.int .i64 kd),(3,true,.sl (kids.map C6)),(8,true,.ptr E.n0 0 0),(9,true,.ptr (E.n0+1) 0 0),(15,true,.sl (ids.map eI)),(16,true,.int .i64 ids.length),(17,true,.int .i64 i)],
   [(J,some (bR s (m+1+((ids.take i).map W).sum))),(E.n0,some ⟨[.agg [.int .i64 0,.int .i64 0,.str [],.nils,.nils]],.agg [.int .i64 0,.int .i64 0,.str [],.nils,.nils],false,false⟩),(E.n0+1,some ⟨[.agg [.int .i64 4,.int .i64 0,.str [],.nils,.bsl (E.n0+2) 0 i]],.agg [.int .i64 0,.int .i64 0,.str [],.nils,.nils],false,false⟩),(E.n0+2,some ⟨((ids.map O).map eO).take i,.agg [.int .i64 0,.int .i64 0,.str [],.nils,.nils],false,false⟩)],3⟩)
  (λi=>i<=ids.length/\m+1+((ids.take i).map W).sum<=2000) (λi=>ids.length - i) 0 ?_ ⟨o_,m_⟩ ?_
 ·refine D5.trans (D5.voidBox (E.n0+4096) (by simp; rfl) rfl (.agg [.int .i64 4,.int .i64 0,.str [],.nils,.nils] [.int .i64 4,.int .i64 0,.str [],.nils,.bsl (E.n0+9216) 0 0] rfl (λm x y h1 h2=>?_)) (.agg [.int .i64 0,.int .i64 0,.str [],.nils,.nils])) ?_
  ·match m,h1,h2 with
   | 0,h1,h2|1,h1,h2|2,h1,h2|3,h1,h2=>simp at h1 h2; exact .inl (h1.symm.trans h2)
   | 4,h1,h2=>simp at h1 h2; exact .inr ⟨h1.symm,h2.symm⟩
   | m+5,h1,h2=>simp at h1
  ·refine yV [(E.n0,E.n0),(E.n0+1,E.n0+4096),(E.n0+2,E.n0+9216)] (by simp[bR,J1]) λhrn=>⟨?_,?_,?_,?_,?_⟩<;>(try simp[bR,J1])
 ·rintro i ⟨hi,hm2⟩ p hp;refine A3 4000 ?_;simp;refine D4 (λh=>?_) (λh=>?_)
  ·have h:=zr h;obtain⟨x,hx,hd⟩:=A8 h;have hi1:IntKind.i64.wrap ((i:Int)+1)=((i+1:Nat):Int):=wrap64 o_;have hxm:=zg hx;have hst:=A23 W hx;have hdx:=hT x hxm;have ho1:((ids.map O).map eO).take (i+1)=((ids.map O).map eO).take i++[eO (O x)]:=K5 (t_ hx);obtain⟨ok,on,ot,oks,ols,hoe⟩:∃(a b:Int) (c:List UInt8) (d:List (List UInt8)) (e:List D6),eO (O x) = .agg [.int .i64 a,.int .i64 b,.str c,.sl (d.map .str),.sl (e.map eO)]:=by
    cases O x with|mk a b c d e=>exact⟨a,b,c,d,e,A0o a b c d e⟩
   rw[hoe] at ho1;simp only[hoe] at hdx;have hsl:=A6d (l:=ids) (i:=i+1) W;have heI:eI x = .int .i64 x:=rfl;simp[hx,heI,J1];refine⟨h,?_⟩;by_cases h2:m+1+((ids.take i).map W).sum+W x<=2000
   ·have hd2:∀id,A2 prog 188 _ _ id _ _:=λid=>by
     have:=hdx (m+1+((ids.take i).map W).sum) id hm2;rw[L4 h2] at this; exact this
    have hst2:(List.take (i+1) (List.map W ids)).sum=(List.take i (List.map W ids)).sum+W x:=(by simpa only[yy] using hst);simp only[yy,vq] at *;(refine yC rfl (hd2 _) ?_; simp[J1]);refine⟨⟨o_,o_,o_⟩,?_⟩;refine hp _ (i+1) ⟨h,o_⟩ o_ ?_;refine yV [(E.n0,E.n0),(E.n0+1,E.n0+1),(E.n0+2,E.n0+12291)] (by simp[hi1,bR,hst2,ho1,J1]) λhrn=>⟨?_,?_,?_,?_,?_⟩<;>(try simp[hi1,bR,hst2,ho1,J1]);exact⟨o_,B4 rfl (B3 (by rw[←yy]; exact E4 (λ_=>A4B _) _) (by simp[X8,A0I]))⟩
   ·have hd2:∀id,Y4 prog 188 _ _ id _:=λid=>by
     have:=hdx (m+1+((ids.take i).map W).sum) id hm2;rw[J7 h2] at this; exact this
    simp only[yy,vq] at *;refine D3 hP rfl (hd2 _) (t_ J1) (by simp[J1]<;>rfl) (λpv hpv=>⟨t_ J1,by injection hpv with hpv; subst hpv; exact hPn _ _ (J7 o_) rfl (t_ J1)⟩) (λv wr h=>by cases h)
  ·have h:¬i<ids.length:=zq h;have hil:i=ids.length:=o_;subst hil;simp[J1];have hsa:(List.take ids.length (List.map W ids)).sum=(List.map W ids).sum:=(by rw[zm s_]);have hoa:List.take ids.length (List.map (eO∘O) ids)=List.map (eO∘O) ids:=zm s_;simp only[yy,vq] at *;rw[hsa] at hm2;have hrn:F3 []:=(by simp[bR,hsa,hoa,J1,A4 hid]);refine hR _ _ _ (L4 o_) ?_;refine I6 (by simp[bR,hsa,hoa,J1,A4 hid]<;>rfl) (by simp[bR,hsa,hoa,J1,A4 hid]<;>exact⟨rfl,rfl⟩) [] hrn ⟨?_,?_,?_,?_,?_,?_⟩<;>(try simp[bR,hsa,hoa,J1,A4 hid])
   ·exact A5 _ (E4 (λ_=>A4B _) _)
   ·omega
end Go.Am
