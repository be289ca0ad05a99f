/- Parts of the proof: an abstract machine for Go functions, and what functions of the program give back (Sx1, Qx1, Sx2, Qx2, Dp1, Dw3, CcY, CcX, Ex1, Ex2, Ex3, Ex4, Ex5). No condition. -/
import Derived.Test.YtphjabjjnncebaaGreatDoorXP
import Derived.Test.YtphjabjjnncebaaGreatDoorXI
import Derived.Test.YtphjabjjnncebaaGreatDoorXJ
import Derived.Test.YtphjabjjnncebaaGreatDoorXO
import Derived.Test.YtphjabjjnncebaaGreatDoorXG
import Derived.Test.YtphjabjjnncebaaGreatDoorProg
import Derived.KernelRfl
import Derived.Test.YtphjabjjnncebaaGreatDoorXF
import Derived.Test.YtphjabjjnncebaaGreatDoorXE
set_option maxRecDepth 100000
set_option linter.all false
set_option maxHeartbeats 8000000
namespace Go.Am
open Go Go.Proofs Go.RowKit Go.Proofs.Tryz
def isS(l:List Tk)(c:UInt8):Bool:=match l with
 | t::_=>t.kind==4&&t.text==[c]
 | []=>false
def isW(l:List Tk):Bool:=match l with
 | t::_=>t.kind==1
 | []=>false
def txt(l:List Tk):List UInt8:=match l with
 | t::_=>t.text
 | []=>[]
def tkW(s:List UInt8):Tk:=⟨1,s,0⟩
def tkS(c:UInt8):Tk:=⟨4,[c],0⟩
def B4G{α:Type}(f:Nat->α->Int):∀(l:List α) (i:Nat),D2 f l i=0↔∀k x,l[k]?=some x->f (i+k) x=0
 | [],i=>by simp[D2]
 | x::l,i=>by
  have ih:=B4G f l (i+1);unfold D2;split
  ·rename_i h;constructor
   ·intro q; exact (h q).elim
   ·intro q; exact (h (q 0 x rfl)).elim
  ·rename_i h;have h:f i x=0:=(v_ h);rw[ih];constructor
   ·intro q k y hy;cases k with
    | zero=>injection hy with hy; rw[←hy]; exact h
    | succ k=>rw[show i+(k+1)=i+1+k by omega]; exact q k y hy
   ·intro q k y hy;rw[show i+1+k=i+(k+1) by omega]; exact q (k+1) y hy
def A9m{p:Prop}[Decidable p]{a b:Int}(h:(if p then a else b)=0)(ha:a≠0):¬p/\b=0:=by
 split at h
 ·exact (ha h).elim
 ·exact⟨‹_›,h⟩
def C1z{a b:Int}(h:(if a≠0 then a else b)=0):a=0/\b=0:=by
 split at h
 ·exact (‹a≠0› h).elim
 ·exact⟨by simpa using ‹¬a≠0›,h⟩
def C6o{α:Type}{l:List α}{x:α}(h:x∈l):∃i:Nat,l[i]?=some x:=by
 obtain⟨i,hi,e⟩:=List.getElem_of_mem h;exact⟨i,by rw[zc hi,e]⟩
def B1y{s:List UInt8}(h:H8 s=0):fTk (tkW s)=0:=by simp[fTk,tkW,h]
def C20{s:List UInt8}(h:H8 s=0):s.length<=12:=by
 unfold H8 at h;split at h
 ·cases h
 ·omega
def B4H(l:List Tk):Nat:=(l.map λt=>(A35 t).length+1).sum
def C4c(l:List Tk):(tkB l).length<=B4H l:=by
 cases l with
 | nil=>simp[C4b]
 | cons t l =>
  rw[C1y];have:(l.flatMap λx=>32::A35 x).length=B4H l:=by
   induction l with
   | nil=>rfl
   | cons u l ih=>simp[B4H] at ih ⊢; omega
  rw[zu,this];simp[B4H]
def isV(l:List Tk):Bool:=match l with
 | t::_=>t.kind==2||t.kind==3
 | []=>false
def C9Q(nm:List UInt8)(l:List Tk):Ag:=match l with
 | t::_=>⟨nm,t.kind==3,t.text,t.n⟩
 | []=>⟨nm,false,[],0⟩
def pAg(l:List Tk):Option (Ag×List Tk):=if isW l=true/\isS (l.drop 1) 58=true/\isV (l.drop 2)=true then some (C9Q (txt l) (l.drop 2),l.drop 3) else none
def A2A:Nat->List Ag->List Tk->Option (List Ag×List Tk)
 | 0,_,_=>none
 | n+1,acc,l=>match pAg l with
  | none=>none
  | some p=>if isS p.2 41=true then some (acc++[p.1],p.2.drop 1) else A2A n (acc++[p.1]) p.2
def A3I(l:List Tk):Option (List Ag×List Tk):=if isS l 40=true then A2A (l.length+1) [] (l.drop 1) else some ([],l)
def pHd(l:List Tk):Option (List UInt8×List UInt8×List Tk) :=
 if isW l=true then (if isS (l.drop 1) 58=true then (if isW (l.drop 2)=true then some (txt l,txt (l.drop 2),l.drop 3) else none) else some ([],txt l,l.drop 1)) else none
mutual
def A2B:Nat->List Tk->Option (C5×List Tk)
 | 0,_=>none
 | n+1,l=>match pHd l with
  | none=>none
  | some (a,nm,u)=>match A3I u with
   | none=>none
   | some (xs,v)=>if isS v 123=true then (match z6 n v with
     | none=>none
     | some (k,w)=>some (.mk a nm xs k,w)) else some (.mk a nm xs [],v)
def z6:Nat->List Tk->Option (List C5×List Tk)
 | 0,_=>none
 | n+1,l=>if isS l 123=true then U0 n [] (l.drop 1) else none
def U0:Nat->List C5->List Tk->Option (List C5×List Tk)
 | 0,_,_=>none
 | n+1,acc,l=>match A2B n l with
  | none=>none
  | some (s,u)=>if isS u 125=true then some (acc++[s],u.drop 1) else U0 n (acc++[s]) u
end
def B1z(l:List Tk):Option (List C5):=match z6 (3*l.length+3) l with
 | none=>none
 | some (q,u)=>if u=[] then some q else none
def A3r(o:Option (List C5)):Except Int (List C5):=match o with
 | none=>.error 1
 | some q=>if J6 q=0 then .ok q else .error (J6 q)
def A1a(s:List UInt8):Except Int (List C5):=match A5n s with
 | .error e=>.error e
 | .ok l=>A3r (B1z l)
def tkV(a:Ag):Tk:=if a.isText=true then ⟨3,a.text,0⟩ else ⟨2,[],a.n⟩
def B4I(a:Ag):List Tk:=[tkW a.name,tkS 58,tkV a]
def C21(a nm:List UInt8):List Tk:=if a≠[] then [tkW a,tkS 58,tkW nm] else [tkW nm]
def j8(x:List Ag):List Tk:=if x≠[] then tkS 40::(x.flatMap B4I++[tkS 41]) else []
mutual
def A0p:C5->List Tk
 | .mk a n x k=>C21 a n++j8 x++A0J k
def A0J:List C5->List Tk
 | []=>[]
 | s::r=>tkS 123::(A0p s++tkL r++[tkS 125])
def tkL:List C5->List Tk
 | []=>[]
 | s::r=>A0p s++tkL r
end
def U4(l:List C5):List Tk:=tkS 123::(tkL l++[tkS 125])
def B99(k:List C5):A0J k=if k≠[] then U4 k else []:=by
 cases k with
 | nil=>rfl
 | cons s r=>simp[A0J,U4,tkL]
def AgP(a:Ag):Prop:=H8 a.name=0/\A8l a=0
mutual
def C6p:C5->Prop
 | .mk a n x k=>(a≠[]->H8 a=0)/\H8 n=0/\(∀y∈x,AgP y)/\B4J k
def B4J:List C5->Prop
 | []=>True
 | s::r=>C6p s/\B4J r
end
def C6q{a:Ag}(h:A8l a=0):(a.isText=true/\a.n=0/\a.text.length<=40)\/(a.isText=false/\a.text=[]/\-999999999<=a.n/\a.n<=999999999):=by
 unfold A8l at h;obtain⟨h1,h⟩:=A9m h d_;obtain⟨h2,h⟩:=A9m h d_;obtain⟨h3,_⟩:=A9m h d_;have h3:=zk h3;cases ht:a.isText with
 | true =>
  refine .inl ⟨rfl,?_,o_⟩;apply zk;intro q;exact h1 (.inl ⟨ht,q⟩)
 | false =>
  refine .inr ⟨rfl,?_,h3⟩;apply zk;intro q;exact h1 (.inr ⟨ht,q⟩)
structure C8F(s:C5)(ah:List C5):Prop where
 name:H8 s.name=0
 al:s.alias≠[]->H8 s.alias=0
 args:Z8 s.args=0
 once:(ah.any fun x=>C8 x==C8 s)=false
def B5v{s:C5}{ah:List C5}:A3i s ah=0↔C8F s ah:=by
 constructor
 ·intro h;unfold A3i at h;obtain⟨h1,h⟩:=C1z h;split at h
  ·rename_i q; exact (q.2 h).elim
  rename_i h2;obtain⟨h3,h⟩:=C1z h;obtain⟨h4,_⟩:=A9m h d_;refine⟨h1,λq=>zk λq2=>h2 ⟨q,q2⟩,h3,v_ h4⟩
 ·rintro⟨h1,h2,h3,h4⟩;unfold A3i;rw[zf (v_ h1),zf (by rintro⟨q1,q2⟩; exact q2 (h2 q1)),zf (v_ h3),zf (by rw[h4]; simp)]
def B9A{l:List Ag}(h:Z8 l=0):l.length<=5/\∀a∈l,AgP a:=by
 unfold Z8 at h;obtain⟨h1,h⟩:=A9m h d_;refine⟨o_,λa ha=>?_⟩;obtain⟨i,hi⟩:=C6o ha;have:=(B4G _ _ _).1 h i a hi;rw[yy] at this;unfold A3F at this;obtain⟨h2,h3⟩:=C1z this;obtain⟨_,h4⟩:=A9m h3 d_;exact⟨h2,h4⟩
mutual
def C4d:∀(s:C5) (ah:List C5),A3i s ah=0->B6u s=0->C6p s
 | .mk a n x k,ah,h1,h2=>by
  have h:=B5v.1 h1;exact⟨h.al,h.name,(B9A h.args).2,A9A k [] h2⟩
def A9A:∀(l ah:List C5),S4 l ah=0->B4J l
 | [],_,_=>trivial
 | s::r,ah,h=>by
  simp only[S4] at h;obtain⟨h1,h⟩:=C1z h;obtain⟨h2,h⟩:=C1z h;exact⟨C4d s ah h1 h2,A9A r _ h⟩
end
def C6r{a:Ag}(h:A8l a=0):fTk (tkV a)=0:=by
 rcases C6q h with⟨h1,h2,h3⟩|⟨h1,h2,h3⟩
 ·unfold tkV; rw[zj h1]; simp[fTk]; omega
 ·unfold tkV; rw[zf (t_ h1)]; simp[fTk]; omega
def A3s{c:UInt8}(h:sgC c=true):fTk (tkS c)=0:=by simp[fTk,tkS,h]
def A3t(l:List Tk):Prop:=∀t∈l,fTk t=0
def A3t.app{a b:List Tk}(h1:A3t a)(h2:A3t b):A3t (a++b):=λt ht=>by
 rcases zr.1 ht with h|h
 ·exact h1 t h
 ·exact h2 t h
def A3t.cons{a:Tk}{b:List Tk}(h1:fTk a=0)(h2:A3t b):A3t (a::b):=λt ht=>by
 rcases zi.1 ht with rfl|h
 ·exact h1
 ·exact h2 t h
def A3t.nil:A3t []:=λt ht=>by cases ht
def C22{x:List Ag}(h:∀y∈x,AgP y):A3t (j8 x):=by
 unfold j8;split
 ·refine .cons (A3s d_) (.app ?_ (.cons (A3s d_) .nil));intro t ht;obtain⟨a,ha,hm⟩:=xz.1 ht;exact (A3t.cons (B1y (h a ha).1) (.cons (A3s d_) (.cons (C6r (h a ha).2) .nil))) t hm
 ·exact .nil
mutual
def B7I:∀s:C5,C6p s->A3t (A0p s)
 | .mk a n x k,h=>by
  have h1:A3t (C21 a n):=by
   unfold C21;split
   ·rename_i ha; exact .cons (B1y (h.1 ha)) (.cons (A3s d_) (.cons (B1y h.2.1) .nil))
   ·exact .cons (B1y h.2.1) .nil
  unfold A0p;exact (h1.app (C22 h.2.2.1)).app (C23 k h.2.2.2)
def C23:∀k:List C5,B4J k->A3t (A0J k)
 | [],_=>.nil
 | s::r,h=>by
  unfold A0J;exact .cons (A3s d_) (((B7I s h.1).app (C24 r h.2)).app (.cons (A3s d_) .nil))
def C24:∀k:List C5,B4J k->A3t (tkL k)
 | [],_=>.nil
 | s::r,h=>by
  unfold tkL;exact (B7I s h.1).app (C24 r h.2)
end
def B4K{l:List C5}:J6 l=0↔l≠[]/\W8 5 l<=40/\deepL 5 l<=5/\S4 l []=0:=by
 unfold J6;constructor
 ·intro h;obtain⟨h1,h⟩:=A9m h d_;obtain⟨h2,h⟩:=A9m h d_;exact⟨h1,o_,o_,h⟩
 ·rintro⟨h1,h2,h3,h4⟩;rw[zf h1,zf o_,h4]
def C4e{l:List C5}(h:J6 l=0):A3t (U4 l) :=
 .cons (A3s d_) ((C24 l (A9A l [] (B4K.1 h).2.2.2)).app (.cons (A3s d_) .nil))
def C25{s:List UInt8}{l:List C5}(h:A1a s = .ok l):J6 l=0:=by
 unfold A1a at h;split at h
 ·cases h
 ·unfold A3r at h;split at h
  ·cases h
  ·split at h
   ·rename_i h2;injection h with h
    rw[←h]; exact h2
   ·cases h
def A6m:List Bt->List Bt->Bool
 | _,[]=>false
 | ah,b::r=>(ah.any λx=>x.number==b.number)||A6m (ah++[b]) r
def opE(l:List Ty)(d:Dk):Int:=if H9 l≠0 then H9 l else if F3 d≠0 then F3 d else if A6m [] (F1 d.seg)=true then 6 else V0 ⟨l,[]⟩ (P3 (F1 d.seg))
def opS(l:List Ty)(d:Dk):H6:=Z4 ⟨l,[]⟩ (P3 (F1 d.seg))
structure DOk(l:List Ty)(d:Dk):Prop where
 types:H9 l=0
 disk:F3 d=0
 once:A6m [] (F1 d.seg)=false
 all:V0 ⟨l,[]⟩ (P3 (F1 d.seg))=0
def z7{l:List Ty}{d:Dk}:opE l d=0↔DOk l d:=by
 unfold opE;constructor
 ·intro h;by_cases h1:H9 l=0
  rotate_left
  ·rw[zj h1] at h; exact absurd h h1
  by_cases h2:F3 d=0
  rotate_left
  ·rw[zf (v_ h1),zj h2] at h; exact absurd h h2
  rw[zf (v_ h1),zf (v_ h2)] at h;split at h
  ·cases h
  ·rename_i h3;exact⟨h1,h2,v_ h3,h⟩
 ·rintro⟨h1,h2,h3,h4⟩;rw[zf (v_ h1),zf (v_ h2),zf (t_ h3),h4]
theorem A2Z{s:H6}{e:Ev}{r:List Ev}:V0 s (e::r)=if A14 s e≠0 then A14 s e else V0 (A1i s e) r:=rfl
def C26{a b:List Ev}:∀{s:H6},V0 s a=0->V0 s (a++b)=V0 (Z4 s a) b:=by
 induction a with
 | nil=>intro s _; rfl
 | cons e r ih =>
  intro s h;rw[A2Z] at h;rw[yw,A2Z];by_cases hr:A14 s e=0
  ·rw[zf (v_ hr)] at h ⊢;exact ih h
  ·rw[zj hr] at h;exact absurd h hr
def C27{a b:List Ev}:∀{s:H6},V0 s (a++b)=0->V0 s a=0:=by
 induction a with
 | nil=>intro s _; rfl
 | cons e r ih =>
  intro s h;rw[yw,A2Z] at h;rw[A2Z];by_cases hr:A14 s e=0
  ·rw[zf (v_ hr)] at h ⊢;exact ih h
  ·rw[zj hr] at h;exact absurd h hr
def C28(s:H6)(a b:List Ev):Z4 s (a++b)=Z4 (Z4 s a) b:=by
 induction a generalizing s with
 | nil=>rfl
 | cons e r ih=>exact ih _
def A9B(a b:List Bt):P3 (a++b)=P3 a++P3 b:=by simp[P3]
def B4L(b:Bt):P3 [b]=b.events:=by simp[P3]
def C29(ah a:List Bt)(b:Bt):A6m ah (a++[b])=(A6m ah a||(ah++a).any λx=>x.number==b.number):=by
 induction a generalizing ah with
 | nil=>simp[A6m]
 | cons x r ih=>simp[A6m,ih,Bool.or_assoc]
def o5(l:List Ty)(d:Dk)(at_:Nat):H6:=Z4 ⟨l,[]⟩ (P3 ((F1 d.seg).take at_))
def A5p{d:Dk}(h:F3 d=0):(F1 d.seg).length<=3200/\∀b∈F1 d.seg,I7 b=0:=by
 have g:=B1e h;constructor
 ·have h8:=g.h8;have h4:=g.h4;generalize d.seg=l at *;have:∀l:List (List UInt8),(∀s∈l,s.length<=400)->(F1 l).length<=400*l.length:=λl=>by
   induction l with
   | nil=>intro _; simp[F1]
   | cons s r ih =>
    intro h;have h1:=C0m s;have h2:=h s (za ..);have h3:=ih λx hx=>h x (zb _ hx);simp only[F1,xo,zu,zt] at h3 ⊢; omega
  have:=this l h4;omega
 ·intro b hb;obtain⟨s,hs,hb⟩:=xz.1 hb;exact (M9 s 0 o_).2.2.2.2.2.2 b hb
def A2a{b:Bt}(h:I7 b=0):b.events.length<=8/\∀e∈b.events,Y0 e=0:=by
 unfold I7 at h;split at h
 ·cases h
 split at h
 ·cases h
 split at h
 ·cases h
 rename_i h8;exact⟨o_,A1n.1 h⟩
def C2A{e:Ev}(h:Y0 e=0):I64 e.n:=by
 unfold Y0 at h;split at h
 ·contradiction
 split at h
 ·cases h
 rename_i hq;unfold I64; omega
def A9C{l:List Bt}(h:∀b∈l,I7 b=0):∀e∈P3 l,I64 e.n:=λe he=>by
 obtain⟨b,hb,he⟩:=xz.1 he;exact C2A ((A2a (h b hb)).2 e he)
def opV(e:Int)(id:Nat):AV:=if e=0 then .ptr id 0 0 else .nilp
def opW(e:Int)(s:H6)(bs:List Bt)(id:Nat):List (Nat×Option Bx):=if e=0 then [(id,some (bxO s bs))] else []
def B20(l:List Ty)(d:Dk)(id:Nat):A2 prog 46 [.sl (l.map I9),eDk d] [] id (.tup [opV (opE l d) id,.int .i64 (opE l d)]) (opW (opE l d) (opS l d) (F1 d.seg) id):=by
 have hC:=λid=>A4J l id;have hO:=λid=>C43 d id;unfold eDk at hO ⊢;by_cases h1:H9 l=0
 rotate_left
 ·have e:opE l d=H9 l:=by unfold opE; rw[zj h1]
  rw[e];have e1:opV (H9 l) id = .nilp:=by unfold opV; rw[zf h1]
  have e2:opW (H9 l) (opS l d) (F1 d.seg) id=[]:=by unfold opW; rw[zf h1]
  rw[e1,e2];refine w46.e.1 λE hP hR hl hid=>?_;simp[w46];(refine yH rfl (hC _) ?_; simp);refine A7 (v_ h1) ?_;simp;exact yP hR
 rw[h1] at hC;by_cases h2:F3 d=0
 rotate_left
 ·have e:opE l d=F3 d:=by unfold opE; rw[zf (v_ h1),zj h2]
  rw[e];have e1:opV (F3 d) id = .nilp:=by unfold opV; rw[zf h2]
  have e2:opW (F3 d) (opS l d) (F1 d.seg) id=[]:=by unfold opW; rw[zf h2]
  rw[e1,e2];simp only[zf h2] at hO;refine w46.e.1 λE hP hR hl hid=>?_;simp[w46];(refine yH rfl (hC _) ?_; simp);(refine yH rfl (hO _) ?_; simp);refine A7 (v_ h2) ?_;simp;exact yP hR
 simp only[zj h2] at hO;rw[h2] at hO;have hbs:=A5p h2;have hev:=A9C hbs.2;have hop:opE l d=if A6m [] (F1 d.seg)=true then 6 else V0 ⟨l,[]⟩ (P3 (F1 d.seg)):=by
  unfold opE; rw[zf (v_ h1),zf (v_ h2)]
 have hos:opS l d=Z4 ⟨l,[]⟩ (P3 (F1 d.seg)):=rfl;rw[hop,hos];generalize F1 d.seg=bs at *;refine w46.e.1 λE hP hR hl hid=>?_;simp[w46];(refine yH rfl (hC _) ?_; simp);(refine yH rfl (hO _) ?_; simp);refine B9 (X:=Nat) (λi=>⟨[(0,true,.sl (l.map I9)),(7,true,.sl (bs.map v7)),(28,true,.sl (bs.map v7)),(29,true,.int .i64 bs.length),(30,true,.int .i64 i)],[],0⟩)
  (λi=>i<=bs.length/\A6m (bs.take i) (bs.drop i)=A6m [] bs) (λi=>bs.length - i) 0 ?_ ⟨o_,s_⟩ ?_
 ·exact yW [] trivial
 rintro i ⟨hi,hf⟩ p hp;rcases yd i bs.length with h|h
 ·obtain⟨b,hb,hd⟩:=A5 h;have hi1:IntKind.i64.wrap ((i:Int)+1)=((i+1:Nat):Int):=wrap64 o_;have hst:bs.take (i+1)=bs.take i++[b]:=by rw[wi,hb]; rfl
  have hli:bs[i]=b:=by
   rw[zc h] at hb;injection hb
  rw[hd] at hf;simp only[A6m] at hf;have hcf:=λj id=>B0R 104 j (v7 b) (.agg [.int .i64 0,.nils]) b.number (B3U b) (λx id=>C0r x b j id) (bs.take i) id (by rw[zy]; omega);have htl:(bs.take i).length=i:=by rw[zy]; omega
  unfold v7 at hcf;rw[yt] at hcf;refine A3 4000 ?_;simp[h,hli,v7];refine⟨o_,?_⟩;(refine yH rfl (hcf _ _) ?_; simp);refine D0 (λg=>?_) (λg=>?_)
  ·simp;rw[g,qt] at hf;rw[zj hf.symm] at hR;have e1:opV 6 id = .nilp:=rfl;have e2:opW 6 (Z4 ⟨l,[]⟩ (P3 bs)) bs id=[]:=rfl;rw[e1,e2] at hR;exact yP hR
  ·simp;rw[g,Bool.false_or,←hst] at hf;refine hp _ (i+1) ⟨h,hf⟩ o_ ?_;refine yV [] s_ λhrn=>⟨?_,?_,?_,?_,?_⟩<;>(try simp[hi1])
 ·rw[zp h] at hf;have hdf:A6m [] bs=false:=hf.symm;have hE:=λj id=>B0j j .nils .nils rfl rfl bs bs.length (zx _) id o_ λb hb=>(A2a (hbs.2 b hb)).1;rw[uh] at hE;have hel:=A91 (l:=bs) λb hb=>(A2a (hbs.2 b hb)).1;have hA:=λid=>C1d l (P3 bs) id hev o_;have hat:atE l (P3 bs) ((P3 bs).length:Int)=V0 ⟨l,[]⟩ (P3 bs):=by
   unfold atE;rw[zf (v_ h1),zf o_];simp
  have has:atS l (P3 bs) ((P3 bs).length:Int)=Z4 ⟨l,[]⟩ (P3 bs):=by
   unfold atS;simp
  rw[hat,has] at hA;rw[zf (t_ hdf)] at hR;unfold bxQ at hE;unfold A17 at hA;refine A3 4000 ?_;simp[to.2 h];(refine yH rfl (hE _ _) ?_; simp);(refine yH rfl (hA _) ?_; simp);by_cases h3:V0 ⟨l,[]⟩ (P3 bs)=0
  ·rw[h3] at hR ⊢;have e1:opV 0 id = .ptr id 0 0:=rfl;have e2:opW 0 (Z4 ⟨l,[]⟩ (P3 bs)) bs id=[(id,some (bxO (Z4 ⟨l,[]⟩ (P3 bs)) bs))]:=rfl;rw[e1,e2] at hR;unfold bxO bxQ at hR;simp[B5k,B5l];refine yE hR [(id,E.n0+3072)] s_ λhrn=>⟨?_,?_,?_,?_,?_,?_⟩<;>(try simp[I5 hid])
  ·have e1:opV (V0 ⟨l,[]⟩ (P3 bs)) id = .nilp:=(by unfold opV; rw[zf h3]);have e2:opW (V0 ⟨l,[]⟩ (P3 bs)) (Z4 ⟨l,[]⟩ (P3 bs)) bs id=[]:=(by unfold opW; rw[zf h3]);rw[e1,e2] at hR;refine⟨⟨A5f _ _,A5g _ _⟩,?_⟩;refine A7 (v_ h3) ?_;simp;exact yP hR
def B7J:CC:=(.r [.al 4 (.int .i64 0)])
def B7K:CC:=(.r [.m 8 0,.c 9 108 [8],.m 7 9,.e 10 7 0,.e 11 7 1,.m 5 10,.st 1 4 11])
def B7L:CC:=(.r [.l 12 4,.k 13 .neq 12 0])
def B7M:CC:=(.r [.m 16 5,⟨some 17,none,[16],.build [.nils] [(0,1,.t 16)]⟩,.bx 18 17,.m 6 18])
def A5q:CC:=(.r [.m 19 1,.m 20 6,⟨some 21,none,[19,20],.callv (.t 19) [.t 20]⟩])
def A5r:CC:=(.r [.m 22 6,.c 23 110 [22]])
def B7N:CC:=(.r [.si 1 4 0])
def B7O:CC:=(.seq (.r [.l 14 4,.st 1 4 14]) CC.ret)
def C8G:CC:=.seq B7J (.seq B7K (.seq (.seq B7L (.cond (.t 13) B7O CC.skip)) (.seq CC.bad (.seq B7M (.seq A5q (.seq A5r (.seq B7N CC.ret)))))))
def C8H:List t8:=[.cell 4 false 1]
def C8I:N9 prog f52.results.toList=some C8H:=by kernel_rfl
def C8J:f52.body.map (C9 prog f52.ntmps)=some C8G:=by kernel_rfl
def B7P:CC:=(.r [.bx 2 0,.al 4 (.agg [.int .i64 0,.int .i64 0,.str [],.nils,.nils]),.al 5 (.bool false)])
def B7Q:CC:=(.r [.L 8 2 2,⟨some 9,none,[8],.build [.nils,.nils,.int .i64 0] [(0,2,.t 8)]⟩,.bx 10 9,.m 6 10])
def B0v:CC:=(.r [.m 11 6,.m 12 1,.m 13 6,⟨some 14,none,[13],.conv (.rcv 122) (.t 13)⟩,.c 15 121 [11,12,14],.st 5 4 15,⟨none,none,[5],.st 1 (.t 5) (.c (.bool true))⟩])
def C8K:CC:=.seq B7P (.seq CC.bad (.seq B7Q (.seq B0v CC.ret)))
def C8L:List t8:=[.cell 4 true 5,.cell 5 false 1]
def C8M:N9 prog f60.results.toList=some C8L:=by kernel_rfl
def C8N:f60.body.map (C9 prog f60.ntmps)=some C8K:=by kernel_rfl
def B21:CC:=(.r [.al 2 (.agg [.int .i64 0,.int .i64 0,.str [],.nils,.nils]),.al 3 (.bool false)])
def B22:CC:=(.r [.m 6 0,⟨some 7,none,[6],.build [.str []] [(0,1,.t 6)]⟩,.bx 8 7,.m 4 8])
def B23:CC:=(.r [.m 9 4,.c 10 173 [9],.st 5 2 10])
def B24:CC:=(.r [.m 11 4,.ck 12 11,.f 13 0 12,.l 14 13,.j 15 .neq 14 (.str [])])
def B25:CC:=(.r [.c 16 174 []])
def B26:CC:=(.r [.L 17 5 2,.st 5 2 17,⟨none,none,[3],.st 1 (.t 3) (.c (.bool true))⟩])
def C5c:CC:=.seq B21 (.seq CC.bad (.seq B22 (.seq B23 (.seq (.seq B24 (.cond (.t 15) B25 CC.skip)) (.seq B26 CC.ret)))))
def C5d:List t8:=[.cell 2 true 5,.cell 3 false 1]
def C6s:N9 prog f103.results.toList=some C5d:=by kernel_rfl
def C6t:f103.body.map (C9 prog f103.ntmps)=some C5c:=by kernel_rfl
def B27:CC:=(.seq (.r [.m 8 1,⟨some 9,none,[8],.conv (.ta 31) (.t 8)⟩,.m 7 9,.e 10 7 0,.e 11 7 1,.m 2 10,.m 3 11]) (.seq (.seq (.r [.m 12 3,.no 13 12]) (.cond (.t 13) (.r [.m 14 1,⟨none,none,[14],.pnk (.t 14)⟩]) CC.skip)) (.r [.m 15 2,.st 1 0 15])))
def C5e:CC:=.seq CC.bad (.seq (.r [.m 5 1,⟨some 6,none,[5],.bin .neq (some [7]) (.t 5) (.c .nili)⟩]) (.cond (.t 6) B27 CC.skip))
def C6u:f109.body.map (C9 prog f109.ntmps)=some C5e:=by kernel_rfl
def B28:CC:=(.seq (.seq (.r [.m 9 2,⟨some 10,none,[9],.conv (.ta 173) (.t 9)⟩,.m 8 10,.e 11 8 0,.e 12 8 1,.al 3 (.agg []),.st 0 3 11,.m 4 12]) (.seq (.r [.m 13 4,.no 14 13]) (.cond (.t 14) (.r [.m 15 2,⟨none,none,[15],.pnk (.t 15)⟩]) CC.skip))) (.r [⟨some 16,none,[],.build [.int .i64 0,.int .i64 0,.str [],.nils,.nils] []⟩,.st 5 0 16,⟨none,none,[1],.st 1 (.t 1) (.c (.bool false))⟩]))
def C5f:CC:=.seq CC.bad (.seq (.r [.m 6 2,⟨some 7,none,[6],.bin .neq (some [7]) (.t 6) (.c .nili)⟩]) (.cond (.t 7) B28 CC.skip))
def C6v:f120.body.map (C9 prog f120.ntmps)=some C5f:=by kernel_rfl
def B29:CC:=(.r [.al 2 .nils,.al 3 (.int .i64 0)])
def B2A:CC:=(.r [.m 6 0,⟨some 7,none,[6],.build [.str [],.int .i64 0] [(0,1,.t 6)]⟩,.bx 8 7,.m 4 8])
def A9D:CC:=(.r [.m 9 4,.c 10 248 [9]])
def A9E:CC:=(.r [.m 11 4,.ck 12 11,.f 13 1 12,.l 14 13,.m 15 0,.ns 16 15,.b 17 .lss 14 16])
def A0l:CC:=(.d [.l 20 2,.m 21 4,.c 22 249 [21],⟨some 23,none,[22],.bslice (.agg [.int .i64 0,.str [],.int .i64 0]) 1 [(0,.t 22)]⟩,⟨some 24,none,[20,23],.app false (.agg [.int .i64 0,.str [],.int .i64 0]) 32 (.t 20) (.t 23)⟩,.st 1 2 24] [(0,2),(0,3)])
def B2B:CC:=(.r [.l 25 2,.n 26 25,.k 27 .gtr 26 300])
def A6n:CC:=(.r [⟨some 28,none,[],.call 250 [.c (.int .i64 2)]⟩])
def B2C:CC:=(.r [.m 18 4,.c 19 248 [18]])
def A9F:CC:=(.r [.l 29 2,.st 1 2 29,.si 1 3 0])
def B5w:CC:=.block 1 (.seq A0l (.seq B2B (.cond (.t 27) A6n CC.skip)))
def A6o:CC:=.seq (.seq A9E (.cond (.t 17) CC.skip (.exit 0))) (.seq B5w B2C)
def C5g:CC:=.seq B29 (.seq CC.bad (.seq B2A (.seq (.seq A9D (.block 0 (.loop A6o))) (.seq A9F CC.ret))))
def C2B:List t8:=[.cell 2 false 1,.cell 3 false 1]
def C2C:N9 prog f175.results.toList=some C2B:=by kernel_rfl
def C6w:f175.body.map (C9 prog f175.ntmps)=some C5g:=by kernel_rfl
def A9G:CC:=(.seq (.r [.m 9 2,⟨some 10,none,[9],.conv (.ta 31) (.t 9)⟩,.m 8 10,.e 11 8 0,.e 12 8 1,.m 3 11,.m 4 12]) (.seq (.seq (.r [.m 13 4,.no 14 13]) (.cond (.t 14) (.r [.m 15 2,⟨none,none,[15],.pnk (.t 15)⟩]) CC.skip)) (.r [.m 16 3,⟨none,none,[0],.st 1 (.t 0) (.c .nils)⟩,.st 1 1 16])))
def C5h:CC:=.seq CC.bad (.seq (.r [.m 6 2,⟨some 7,none,[6],.bin .neq (some [7]) (.t 6) (.c .nili)⟩]) (.cond (.t 7) A9G CC.skip))
def C6x:f247.body.map (C9 prog f247.ntmps)=some C5h:=by kernel_rfl
def bR(s:H6)(m:Nat):Bx:=⟨[.agg [.sl (s.types.map I9),.sl (s.things.map Q9),.int .i64 m]],.agg [.sl (s.types.map I9),.sl (s.things.map Q9),.int .i64 0],false,false⟩
theorem z8(s:H6)(m:Nat):bR s m=⟨[.agg [.sl (s.types.map I9),.sl (s.things.map Q9),.int .i64 m]],.agg [.sl (s.types.map I9),.sl (s.things.map Q9),.int .i64 0],false,false⟩:=rfl
def tm:AV:=.iface 173 (.agg [])
def rnR(s:H6)(J m w:Nat)(v:AV):Except AV (AV×List (Nat×Option Bx)):=if m+w<=2000 then .ok (v,[(J,some (bR s (m+w)))]) else .error tm
def L6{s:H6}{J m w:Nat}{v:AV}(h:m+w<=2000):rnR s J m w v = .ok (v,[(J,some (bR s (m+w)))]):=zj h
def K7{s:H6}{J m w:Nat}{v:AV}(h:¬m+w<=2000):rnR s J m w v = .error tm:=zf h
def B7R(s:H6)(J m:Nat)(k n:Int)(tx:List UInt8)(id:Nat)(hm:m<=2000):Z0 prog 186 [.ptr J 0 0,.agg [.int .i64 k,.int .i64 n,.str tx,.nils,.nils]] [(J,bR s m)] id (rnR s J m 1 (.agg [.int .i64 k,.int .i64 n,.str tx,.nils,.nils])):=by
 have hw:IntKind.i64.wrap ((m:Int)+1)=((m+1:Nat):Int):=wrap64 o_;rw[z8];refine A3Y w186.hf w186.hc w186.hn w186.hr (by simp[ntmps186]) λE hP hR hPn hl hid hB hu=>?_;refine A3 74 ?_;simp[w186];have hJ:=hl (J,_) (za ..);simp only at hJ;have J1:=lf hJ;simp[J1,hw];refine⟨λh=>?_,λh=>?_⟩
 ·refine A3 9 ?_;simp;refine B1W f_ s_ ⟨s_,hPn _ _ (K7 o_) rfl (t_ J1)⟩
 ·refine A3 4000 ?_;simp[J1];have hrn:F7 []:=by simp
  refine hR _ _ _ (L6 o_) ?_;refine F5 f_ [] hrn ⟨?_,?_,?_,?_,?_,?_⟩<;>(try simp[bR,J1])
inductive D8 where
 | mk (kind n:Int) (text:List UInt8) (keys:List (List UInt8)) (list:List D8)
mutual
def eO:D8->AV
 | .mk k n t ks l=>.agg [.int .i64 k,.int .i64 n,.str t,.sl (ks.map .str),.sl (eOs l)]
def eOs:List D8->List AV
 | []=>[]
 | o::r=>eO o::eOs r
end
def B7S(l:List D8):eOs l=l.map eO:=by
 induction l with
 | nil=>rfl
 | cons o r ih=>simp[eOs,ih]
def A0q(k n:Int)(t:List UInt8)(ks:List (List UInt8))(l:List D8):eO (.mk k n t ks l) = .agg [.int .i64 k,.int .i64 n,.str t,.sl (ks.map .str),.sl (l.map eO)]:=by
 simp[eO,B7S]
def Y4(l:List (List UInt8)):F8 (l.map AV.str)=true:=E9 (λ_=>rfl) l
mutual
def A4R:∀o:D8,(eO o).pureB=true
 | .mk k n t ks l=>by simp[eO,Y4,B4M l]
def B4M:∀l:List D8,F8 (eOs l)=true
 | []=>rfl
 | o::r=>by simp[eOs,A4R o,B4M r]
end
def A0K(l:List D8):F8 (l.map eO)=true:=E9 A4R l
def Y5:D8:=.mk 1 0 [] [] []
def j9(n:Int):D8:=.mk 2 n [] [] []
def Y6(t:List UInt8):D8:=.mk 3 0 t [] []
def N7(l:List D8):D8:=.mk 4 0 [] [] l
def W5(ks:List (List UInt8))(l:List D8):D8:=.mk 5 0 [] ks l
def thA(s:H6)(kd id:Int):Option Tg:=if F2 s.things kd id=true then s.things[C3 s.things kd id]? else none
def A5s(s:H6)(t:Tg)(name:List UInt8):Option (Fd×Cl) :=
 match (D5 s.types t.type)[(E0 (λf=>f.name==name) (D5 s.types t.type) 0).toNat]?,t.cells[(E0 (λf=>f.name==name) (D5 s.types t.type) 0).toNat]? with
 | some f,some c=>some (f,c)
 | _,_=>none
def A1z(args:List Ag)(ids:List Int):List Int:=match args with
 | []=>ids
 | a::_=>ids.take a.n.toNat
def thW(s:H6)(g:Tg->Nat)(kd id:Int):Nat:=match thA s kd id with
 | none=>1
 | some u=>1+g u
def thO(s:H6)(ks:List (List UInt8))(g:Tg->List D8)(kd id:Int):D8:=match thA s kd id with
 | none=>Y5
 | some u=>W5 ks (g u)
mutual
def wS(s:H6):C5->Tg->Nat
 | .mk _ name args kids,t=>if name=tId then 1 else match A5s s t name with
  | none=>1
  | some (f,c)=>if f.kind=1\/f.kind=2 then 1
   else if f.kind=4 then 1+((A1z args c.ids).map (thW s (wL s kids) (B8 s.types f.of))).sum
   else match c.ids with
    | []=>1
    | x::_=>thW s (wL s kids) (B8 s.types f.of) x
def wL(s:H6):List C5->Tg->Nat
 | [],_=>0
 | a::r,t=>wS s a t+wL s r t
end
mutual
def oS(s:H6):C5->Tg->D8
 | .mk _ name args kids,t=>if name=tId then j9 t.id else match A5s s t name with
  | none=>Y5
  | some (f,c)=>if f.kind=1 then j9 c.n else if f.kind=2 then Y6 c.text
   else if f.kind=4 then N7 ((A1z args c.ids).map (thO s (kids.map C8) (oL s kids) (B8 s.types f.of)))
   else match c.ids with
    | []=>Y5
    | x::_=>thO s (kids.map C8) (oL s kids) (B8 s.types f.of) x
def oL(s:H6):List C5->Tg->List D8
 | [],_=>[]
 | a::r,t=>oS s a t::oL s r t
end
def A6p(s:H6)(t:Tg):∀l:List C5,wL s l t=(l.map λx=>wS s x t).sum
 | []=>by simp[wL]
 | a::r=>by simp[wL,A6p s t r]
def A1b(s:H6)(t:Tg):∀l:List C5,oL s l t=l.map λx=>oS s x t
 | []=>by simp[oL]
 | a::r=>by simp[oL,A1b s t r]
def B4N{l:List Nat}(i:Nat):(l.take i).sum<=l.sum:=by
 have:l.sum=(l.take i).sum+(l.drop i).sum:=by rw[←qh,yu]
 omega
def A2C{α:Type}{l:List α}{i:Nat}{x:α}(f:α->Nat)(hx:l[i]?=some x):((l.take (i+1)).map f).sum=((l.take i).map f).sum+f x:=by
 rw[wi,hx]; simp
def A6q{α:Type}{l:List α}{i:Nat}(f:α->Nat):((l.take i).map f).sum<=(l.map f).sum:=by
 rw[yt]; exact B4N i
def A0L{s:H6}{J m:Nat}(k n:Int)(tx:List UInt8)(id:Nat)(h:m+1<=2000):A2 prog 186 [.ptr J 0 0,.agg [.int .i64 k,.int .i64 n,.str tx,.nils,.nils]] [(J,bR s m)] id (.agg [.int .i64 k,.int .i64 n,.str tx,.nils,.nils]) [(J,some (bR s (m+1)))]:=by
 have:=B7R s J m k n tx id o_;rw[L6 h] at this; exact this
def A36{s:H6}{J m:Nat}(k n:Int)(tx:List UInt8)(id:Nat)(hm:m<=2000)(h:¬m+1<=2000):Z0 prog 186 [.ptr J 0 0,.agg [.int .i64 k,.int .i64 n,.str tx,.nils,.nils]] [(J,bR s m)] id (.error tm):=by
 have:=B7R s J m k n tx id hm;rw[K7 h] at this; exact this
def bP(J:Nat):Bx:=⟨[.ptr J 0 0],.ptr J 0 0,false,false⟩
def bT(t:Tg):Bx:=⟨[Q9 t],.agg [.int .i64 0,.int .i64 0,.nils],false,false⟩
def C2D(s:H6)(t:Tg)(l:List C5)(J A B m:Nat)(id:Nat)(d1:J≠A)(d2:J≠B)(d3:A≠B)(hm:m<=2000)(hl8:l.length<=1000000)
  (hdo:∀x∈l,∀m id,m<=2000->Z0 prog 255 [C6 x,.ptr A 0 0,.ptr B 0 0] [(J,bR s m),(A,bP J),(B,bT t)] id (rnR s J m (wS s x t) (eO (oS s x t)))) :
  Z0 prog 121 [.ptr J 0 0,.sl (l.map C6),.fn 255 [.ptr A 0 0,.ptr B 0 0]] [(J,bR s m),(A,bP J),(B,bT t)] id (rnR s J m (1+wL s l t) (eO (W5 (l.map C8) (oL s l t)))):=by
 have hsum:=A6p s t l;refine w121.x.1 λE hP hR hPn hl hid hB hu=>?_;simp[w121];have hJ:=hl (J,_) (za ..);simp only at hJ;have J1:=lf hJ;have hA:=hl (A,_) (zb _ (za ..));simp only at hA;have A1:=lf hA;have hB:=hl (B,_) (zb _ (zb _ (za ..)));simp only at hB;have B1:=lf hB;by_cases h1:m+1<=2000
 rotate_left
 ·refine D6 hP rfl (A36 5 0 [] _ hm h1) s_ (by simp[J1]<;>rfl) (λpv hpv=>⟨s_,by injection hpv with hpv; subst hpv; exact hPn _ _ (K7 o_) rfl (by simp[J1,A1,B1,d1,d2,d3])⟩) (λv wr h=>by cases h)
 (refine E5 hP rfl (A0L 5 0 [] _ h1) s_ (by simp[J1]<;>rfl) ?_; refine A3 4000 ?_; simp);refine B9 (X:=Nat) (λi=>⟨[(2,true,.fn 255 [.ptr A 0 0,.ptr B 0 0]),(6,true,.ptr E.n0 0 0),(7,true,.ptr (E.n0+1) 0 0),(13,true,.sl (l.map C6)),(14,true,.int .i64 l.length),(15,true,.int .i64 i)],
   [(J,some (bR s (m+1+((l.take i).map λx=>wS s x t).sum))),(A,some (bP J)),(B,some (bT t)),(E.n0,some ⟨[.agg [.int .i64 0,.int .i64 0,.str [],.nils,.nils]],.agg [.int .i64 0,.int .i64 0,.str [],.nils,.nils],false,false⟩),(E.n0+1,some ⟨[.agg [.int .i64 5,.int .i64 0,.str [],.bsl (E.n0+2) 0 i,.bsl (E.n0+3) 0 i]],.agg [.int .i64 0,.int .i64 0,.str [],.nils,.nils],false,false⟩),(E.n0+2,some ⟨((l.map C8).map .str).take i,.str [],false,false⟩),(E.n0+3,some ⟨((oL s l t).map eO).take i,.agg [.int .i64 0,.int .i64 0,.str [],.nils,.nils],false,false⟩)],4⟩)
  (λi=>i<=l.length/\m+1+((l.take i).map λx=>wS s x t).sum<=2000) (λi=>l.length - i) 0 ?_ ⟨o_,m_⟩ ?_
 ·refine D9.trans (D9.voidBox (E.n0+4096) (by simp; rfl) rfl (.agg [.int .i64 5,.int .i64 0,.str [],.nils,.nils] [.int .i64 5,.int .i64 0,.str [],.bsl (E.n0+9216) 0 0,.nils] rfl (λm x y h1 h2=>?_)) (.str [])) (D9.trans (D9.voidBox (E.n0+4096) (by simp; rfl) rfl (.agg [.int .i64 5,.int .i64 0,.str [],.bsl (E.n0+9216) 0 0,.nils] [.int .i64 5,.int .i64 0,.str [],.bsl (E.n0+9216) 0 0,.bsl (E.n0+9217) 0 0] rfl (λm x y h1 h2=>?_)) (.agg [.int .i64 0,.int .i64 0,.str [],.nils,.nils])) ?_)
  ·match m,h1,h2 with
   | 0,h1,h2|1,h1,h2|2,h1,h2|4,h1,h2=>simp at h1 h2; exact .inl (h1.symm.trans h2)
   | 3,h1,h2=>simp at h1 h2; exact .inr ⟨h1.symm,h2.symm⟩
   | m+5,h1,h2=>simp at h1
  ·match m,h1,h2 with
   | 0,h1,h2|1,h1,h2|2,h1,h2|3,h1,h2=>simp at h1 h2; exact .inl (h1.symm.trans h2)
   | 4,h1,h2=>simp at h1 h2; exact .inr ⟨h1.symm,h2.symm⟩
   | m+5,h1,h2=>simp at h1
  ·refine yV [(E.n0,E.n0),(E.n0+1,E.n0+4096),(E.n0+2,E.n0+9216),(E.n0+3,E.n0+9217)] s_ λhrn=>⟨?_,?_,?_,?_,?_⟩<;>(try simp[bR,bP,bT,J1,A1,B1,d1,d2,d3,yc d1,yc d2,yc d3])
 ·rintro i ⟨hi,hm2⟩ p hp;refine A3 4000 ?_;simp;refine D0 (λh=>?_) (λh=>?_)
  ·have h:=zq h;obtain⟨x,hx,hd⟩:=A5 h;have hi1:IntKind.i64.wrap ((i:Int)+1)=((i+1:Nat):Int):=wrap64 o_;have hxm:=zg hx;have hst:=A2C (λx=>wS s x t) hx;have hCa:=A4M x;rw[H0] at hCa;have hdx:=hdo x hxm;have hk1:((l.map C8).map AV.str).take (i+1)=((l.map C8).map AV.str).take i++[.str (C8 x)]:=L0 (t_ hx);have ho1:((oL s l t).map eO).take (i+1)=((oL s l t).map eO).take i++[eO (oS s x t)]:=L0 (by rw[A1b]; simp[hx]);have hlo:(oL s l t).length=l.length:=(by rw[A1b]; simp);obtain⟨ok,on,ot,oks,ols,hoe⟩:∃(a b:Int) (c:List UInt8) (d:List (List UInt8)) (e:List D8),eO (oS s x t) = .agg [.int .i64 a,.int .i64 b,.str c,.sl (d.map .str),.sl (e.map eO)]:=by
    cases oS s x t with|mk a b c d e=>exact⟨a,b,c,d,e,A0q a b c d e⟩
   rw[hoe,H0] at hdx;rw[hoe] at ho1;simp only[vm] at *;simp[hx,H0 x,J1,A1,B1];refine⟨h,?_⟩;(refine yC rfl (hCa _) ?_; simp[J1,A1,B1]);refine⟨⟨o_,o_,o_⟩,?_⟩;have hsl:=A6q (l:=l) (i:=i+1) (λx=>wS s x t);by_cases h2:m+1+((l.take i).map λx=>wS s x t).sum+wS s x t<=2000
   ·have hd2:∀id,A2 prog 255 _ _ id _ _:=λid=>by
     have:=hdx (m+1+((l.take i).map λx=>wS s x t).sum) id hm2;rw[L6 h2] at this; exact this
    simp only[yt] at *;refine E8 hP rfl rfl (hd2 _) s_ (by simp[J1,A1,B1,yc d1,yc d2,yc d3]<;>rfl) ?_;refine A3 4000 ?_;simp[J1,A1,B1];refine⟨⟨o_,o_,o_⟩,?_⟩;have hst2:(List.take (i+1) (List.map (λx=>wS s x t) l)).sum=(List.take i (List.map (λx=>wS s x t) l)).sum+wS s x t:=(by simpa only[yt] using hst);refine hp _ (i+1) ⟨h,o_⟩ o_ ?_;refine yV [(E.n0,E.n0),(E.n0+1,E.n0+1),(E.n0+2,E.n0+10244),(E.n0+3,E.n0+19460)] s_ λhrn=>⟨?_,?_,?_,?_,?_⟩<;>(try simp[hi1,bR,bP,bT,hst2,hk1,ho1,J1,A1,B1,d1,d2,d3,yc d1,yc d2,yc d3]);refine⟨o_,B4 rfl (B3 (by rw[←yt]; exact E9 (λ_=>rfl) _) rfl),B4 rfl (B3 (by rw[←yt]; exact A0K _) (by simp[Y4,A0K]))⟩
   ·have hd2:∀id,Z0 prog 255 _ _ id _:=λid=>by
     have:=hdx (m+1+((l.take i).map λx=>wS s x t).sum) id hm2;rw[K7 h2] at this; exact this
    simp only[yt] at *;refine A2P hP rfl rfl (hd2 _) s_ (by simp[J1,A1,B1,yc d1,yc d2,yc d3]<;>rfl) (λpv hpv=>⟨by simp[J1,A1,B1],by injection hpv with hpv; subst hpv; exact hPn _ _ (K7 o_) rfl (by simp[J1,A1,B1,d1,d2,d3,yc d1,yc d2,yc d3])⟩) (λv wr h=>by cases h)
  ·have h:¬i<l.length:=zo h;have hil:i=l.length:=o_;subst hil;simp[J1,A1,B1];have hlo:(oL s l t).length=l.length:=(by rw[A1b]; simp);have hsa:(List.take l.length (List.map (λx=>wS s x t) l)).sum=wL s l t:=(by rw[hsum,zm s_]);have hka:List.take l.length (List.map (AV.str∘C8) l)=List.map (AV.str∘C8) l:=zm s_;have hoa:List.take l.length ((oL s l t).map eO)=(oL s l t).map eO:=zm (t_ hlo);simp only[yt] at hm2;rw[hsa] at hm2;unfold W5 at hR;rw[A0q,vm] at hR;have hrn:F7 []:=s_;refine hR _ _ _ (L6 o_) ?_;refine J0 f_ (by simp[hka,hoa,hlo,J1,A1,B1]<;>exact⟨rfl,rfl⟩) [] hrn ⟨?_,?_,?_,?_,?_,?_⟩<;>(try simp[bR,bP,bT,hsa,hoa,J1,A1,B1,d1,d2,d3,yc d1,yc d2,yc d3])
   ·exact⟨A4 _ (E9 (λ_=>rfl) _),A4 _ (A0K _)⟩
   ·omega
@[simp] theorem C8O (S:Nat->Prop):F4 S []:=A4 _ rfl
@[simp] theorem C3U (S:Nat->Prop) (l:List C5):F4 S (l.map (AV.str∘C8)):=A4 _ (E9 (λ_=>rfl) l)
@[simp] theorem C6y (S:Nat->Prop) (l:List (List UInt8)):F4 S (l.map .str):=A4 _ (Y4 l)
@[simp] theorem C6z (S:Nat->Prop) (l:List D8):F4 S (l.map eO):=A4 _ (A0K l)
attribute [simp] Y4 A0K
def Z0.nrm{P:Program}{f:Nat}{args:List AV}{rd:List (Nat×Bx)}{id:Nat}{s:H6}{J m w:Nat}{v:AV}(h:Z0 P f args rd id (rnR s J m w v)):Z0 P f args rd id (rnR s J m w v.nrm):=by
 by_cases k:m+w<=2000
 ·rw[L6 k] at h ⊢; exact A2.nrm h
 ·rw[K7 k] at h ⊢; exact h
def B4O(s:H6)(J m:Nat)(id:Nat)(hm:m<=2000):Z0 prog 254 [.ptr J 0 0] [(J,bR s m)] id (rnR s J m 1 (eO Y5)):=by
 refine Z0.nrm (v:=.agg [.int .i64 1,.int .i64 0,.str [],.nils,.nils]) ?_;refine w254.x.1 λE hP hR hPn hl hid hB hu=>?_;simp[w254];have hJ:=hl (J,_) (za ..);simp only at hJ;have J1:=lf hJ;by_cases h1:m+1<=2000
 rotate_left
 ·refine D6 hP rfl (A36 1 0 [] _ hm h1) s_ (by simp[J1]<;>rfl) (λpv hpv=>⟨s_,by injection hpv with hpv; subst hpv; exact hPn _ _ (K7 h1) rfl (t_ J1)⟩) (λv wr h=>by cases h)
 (refine E5 hP rfl (A0L 1 0 [] _ h1) s_ (by simp[J1]<;>rfl) ?_; refine A3 4000 ?_; simp[J1]);have hrn:F7 []:=by simp
 refine hR _ _ _ (L6 h1) ?_;refine F5 f_ [] hrn ⟨?_,?_,?_,?_,?_,?_⟩<;>(try simp[bR,J1])
def B9B{s:H6}{t:Tg}{x:C5}{J A B m w:Nat}{o:D8}(id:Nat)(d1:J≠A)(d2:J≠B)(d3:A≠B)
  (hF:∀id,Z0 prog 256 [.ptr J 0 0,Q9 t,C6 x] [(J,bR s m)] id (rnR s J m w (eO o))) :
  Z0 prog 255 [C6 x,.ptr A 0 0,.ptr B 0 0] [(J,bR s m),(A,bP J),(B,bT t)] id (rnR s J m w (eO o)):=by
 obtain⟨ok,on,ot,oks,ols,hoe⟩:∃(a b:Int) (c:List UInt8) (d:List (List UInt8)) (e:List D8),eO o = .agg [.int .i64 a,.int .i64 b,.str c,.sl (d.map .str),.sl (e.map eO)]:=by
  cases o with|mk a b c d e=>exact⟨a,b,c,d,e,A0q a b c d e⟩
 have hTg:Q9 t = .agg [.int .i64 t.type,.int .i64 t.id,.sl (t.cells.map eCl)]:=rfl;unfold bP bT;simp only[hoe,H0 x,hTg] at *;refine w255.x.1 λE hP hR hPn hl hid hB hu=>?_;simp[w255];have hJ:=hl (J,_) (za ..);simp only at hJ;have J1:=lf hJ;have hA:=hl (A,_) (zb _ (za ..));simp only at hA;have A1:=lf hA;have hB:=hl (B,_) (zb _ (zb _ (za ..)));simp only at hB;have B1:=lf hB;simp[A1,B1,yc d1,yc d2,yc d3];by_cases h1:m+w<=2000
 rotate_left
 ·simp only[K7 h1] at hF;refine D6 hP rfl (hF _) s_ (by simp[J1]<;>rfl) (λpv hpv=>⟨s_,by injection hpv with hpv; subst hpv; exact hPn _ _ (K7 h1) rfl (by simp[J1,A1,B1,d1,d2,d3,yc d1,yc d2,yc d3])⟩) (λv wr h=>by cases h)
 have hF1:∀id,A2 prog 256 _ _ id _ _:=λid=>by
  have:=hF id;rw[L6 h1] at this; exact this
 (refine yC rfl (hF1 _) ?_; simp[J1]);have hrn:F7 []:=by simp
 refine hR _ _ _ (L6 h1) ?_;refine F5 f_ [] hrn ⟨?_,?_,?_,?_,?_,?_⟩<;>(try simp[bR,J1,A1,B1,d1,d2,d3,yc d1,yc d2,yc d3])
def B4P{s:H6}{kids:List C5}{J m:Nat}{kd tid:Int}(id:Nat)(hm:m<=2000)(h12:s.things.length<=1000)(hk8:kids.length<=1000000)
  (hF:∀u,thA s kd tid=some u->∀x∈kids,∀m id,m<=2000->Z0 prog 256 [.ptr J 0 0,Q9 u,C6 x] [(J,bR s m)] id (rnR s J m (wS s x u) (eO (oS s x u)))) :
  Z0 prog 188 [.ptr J 0 0,.int .i64 kd,.int .i64 tid,.sl (kids.map C6)] [(J,bR s m)] id (rnR s J m (thW s (wL s kids) kd tid) (eO (thO s (kids.map C8) (oL s kids) kd tid))):=by
 have hFi:=λid=>B0S s kd tid id o_;unfold H4 at hFi;cases hb:F2 s.things kd tid with
 | false =>
  have ht:thA s kd tid=none:=by unfold thA; rw[hb]; rfl
  have e1:thW s (wL s kids) kd tid=1:=by unfold thW; rw[ht]
  have e2:thO s (kids.map C8) (oL s kids) kd tid=Y5:=by unfold thO; rw[ht]
  rw[hb] at hFi;rw[e1,e2];have hN:=λid=>B4O s J m id hm;have hoe:eO Y5 = .agg [.int .i64 1,.int .i64 0,.str [],.sl [],.sl []]:=rfl;rw[hoe] at hN ⊢;rw[z8] at *;refine w188.x.1 λE hP hR hPn hl hid hB hu=>?_;simp[w188];have hJ:=hl (J,_) (za ..);simp only at hJ;have J1:=lf hJ;simp[J1];(refine yC rfl (hFi _) ?_; simp);by_cases h1:m+1<=2000
  rotate_left
  ·simp only[K7 h1] at hN;refine D6 hP rfl (hN _) s_ (by simp[J1]<;>rfl) (λpv hpv=>⟨s_,by injection hpv with hpv; subst hpv; exact hPn _ _ (K7 h1) rfl (t_ J1)⟩) (λv wr h=>by cases h)
  have hN1:∀id,A2 prog 254 _ _ id _ _:=λid=>by
   have:=hN id;rw[L6 h1] at this; exact this
  (refine yC rfl (hN1 _) ?_; simp[J1]);have hrn:F7 []:=by simp
  refine hR _ _ _ (L6 h1) ?_;refine F5 f_ [] hrn ⟨?_,?_,?_,?_,?_,?_⟩<;>(try simp[bR,J1])
 | true =>
  obtain⟨u,hus⟩:∃u,s.things[C3 s.things kd tid]?=some u:=by
   unfold F2 at hb;simp at hb;exact⟨_,zc hb.1⟩
  have hlt:=(ze.1 hus).1;have ht:thA s kd tid=some u:=by unfold thA; rw[hb,zj rfl,hus]
  have e1:thW s (wL s kids) kd tid=1+wL s kids u:=by unfold thW; rw[ht]
  have e2:thO s (kids.map C8) (oL s kids) kd tid=W5 (kids.map C8) (oL s kids u):=by unfold thO; rw[ht]
  rw[hb] at hFi;rw[e1,e2];have hP2:=λA B id (d1:J≠A) (d2:J≠B) (d3:A≠B)=>C2D s u kids J A B m id d1 d2 d3 hm hk8 λx hx m id hm=>B9B id d1 d2 d3 λid=>hF u ht x hx m id hm;unfold W5 at hP2 ⊢;rw[A0q] at hP2 ⊢;have hTu:Q9 u = .agg [.int .i64 u.type,.int .i64 u.id,.sl (u.cells.map eCl)]:=rfl;unfold bP bT at hP2;rw[hTu] at hP2;rw[z8] at *;generalize hv:(AV.agg [.int .i64 5,.int .i64 0,.str [],.sl ((kids.map C8).map .str),.sl ((oL s kids u).map eO)])=V at hP2 ⊢;refine w188.x.1 λE hP hR hPn hl hid hB hu=>?_;simp[w188];have hJ:=hl (J,_) (za ..);simp only at hJ;have J1:=lf hJ;simp[J1];(refine yC rfl (hFi _) ?_; simp[hus,hTu,J1]);refine⟨hlt,?_⟩;have hP3:=λid=>hP2 E.n0 (E.n0+24576) id (t_ J1) (t_ J1) o_;by_cases h1:m+(1+wL s kids u)<=2000
  rotate_left
  ·simp only[K7 h1] at hP3;refine D6 hP rfl (hP3 _) s_ (by simp[J1]<;>rfl) (λpv hpv=>⟨s_,by injection hpv with hpv; subst hpv; exact hPn _ _ (K7 h1) rfl (t_ J1)⟩) (λv wr h=>by cases h)
  have hP4:∀id,A2 prog 121 _ _ id _ _:=λid=>by
   have:=hP3 id;rw[L6 h1] at this; exact this
  rw[←hv] at hP4;(refine yC rfl (hP4 _) ?_; simp[J1]);rw[←hv] at hR;have hrn:F7 []:=by simp
  refine hR _ _ _ (L6 h1) ?_;refine F5 f_ [] hrn ⟨?_,?_,?_,?_,?_,?_⟩<;>(try simp[bR,J1])
mutual
def B5x:∀o:D8,(eO o).nrm=eO o
 | .mk k n t ks l=>by
  have h1:A3W (ks.map AV.str)=ks.map AV.str:=by
   induction ks with
   | nil=>rfl
   | cons a r ih=>simp[A3W,AV.nrm,ih]
  simp[eO,AV.nrm,A3W,h1,B2D l]
def B2D:∀l:List D8,A3W (eOs l)=eOs l
 | []=>rfl
 | o::r=>by simp[eOs,A3W,B5x o,B2D r]
end
def B7T{s:H6}{kids:List C5}{ids:List Int}{J m:Nat}{kd:Int}{W:Int->Nat}{O:Int->D8}(id:Nat)(hm:m<=2000)(hi8:ids.length<=1000000)
  (hT:∀x∈ids,∀m id,m<=2000->Z0 prog 188 [.ptr J 0 0,.int .i64 kd,.int .i64 x,.sl (kids.map C6)] [(J,bR s m)] id (rnR s J m (W x) (eO (O x)))) :
  Z0 prog 189 [.ptr J 0 0,.int .i64 kd,.sl (ids.map eI),.sl (kids.map C6)] [(J,bR s m)] id (rnR s J m (1+(ids.map W).sum) (eO (N7 (ids.map O)))):=by
 have hres:(AV.agg [.int .i64 4,.int .i64 0,.str [],.nils,.sl ((ids.map O).map eO)]).nrm=eO (N7 (ids.map O)):=by
  have:=B2D (ids.map O);rw[B7S] at this;unfold N7;rw[A0q];simp[AV.nrm,A3W] at this ⊢;exact this
 rw[←hres];refine Z0.nrm ?_;refine w189.x.1 λE hP hR hPn hl hid hB hu=>?_;simp[w189];have hJ:=hl (J,_) (za ..);simp only at hJ;have J1:=lf hJ;by_cases h1:m+1<=2000
 rotate_left
 ·refine D6 hP rfl (A36 4 0 [] _ hm h1) s_ (by simp[J1]<;>rfl) (λpv hpv=>⟨s_,by injection hpv with hpv; subst hpv; exact hPn _ _ (K7 o_) rfl (t_ J1)⟩) (λv wr h=>by cases h)
 (refine E5 hP rfl (A0L 4 0 [] _ h1) s_ (by simp[J1]<;>rfl) ?_; refine A3 4000 ?_; simp);refine B9 (X:=Nat) (λi=>⟨[(0,true,.ptr J 0 0),(1,true,.int .i64 kd),(3,true,.sl (kids.map C6)),(8,true,.ptr E.n0 0 0),(9,true,.ptr (E.n0+1) 0 0),(15,true,.sl (ids.map eI)),(16,true,.int .i64 ids.length),(17,true,.int .i64 i)],
   [(J,some (bR s (m+1+((ids.take i).map W).sum))),(E.n0,some ⟨[.agg [.int .i64 0,.int .i64 0,.str [],.nils,.nils]],.agg [.int .i64 0,.int .i64 0,.str [],.nils,.nils],false,false⟩),(E.n0+1,some ⟨[.agg [.int .i64 4,.int .i64 0,.str [],.nils,.bsl (E.n0+2) 0 i]],.agg [.int .i64 0,.int .i64 0,.str [],.nils,.nils],false,false⟩),(E.n0+2,some ⟨((ids.map O).map eO).take i,.agg [.int .i64 0,.int .i64 0,.str [],.nils,.nils],false,false⟩)],3⟩)
  (λi=>i<=ids.length/\m+1+((ids.take i).map W).sum<=2000) (λi=>ids.length - i) 0 ?_ ⟨o_,m_⟩ ?_
 ·refine D9.trans (D9.voidBox (E.n0+4096) (by simp; rfl) rfl (.agg [.int .i64 4,.int .i64 0,.str [],.nils,.nils] [.int .i64 4,.int .i64 0,.str [],.nils,.bsl (E.n0+9216) 0 0] rfl (λm x y h1 h2=>?_)) (.agg [.int .i64 0,.int .i64 0,.str [],.nils,.nils])) ?_
  ·match m,h1,h2 with
   | 0,h1,h2|1,h1,h2|2,h1,h2|3,h1,h2=>simp at h1 h2; exact .inl (h1.symm.trans h2)
   | 4,h1,h2=>simp at h1 h2; exact .inr ⟨h1.symm,h2.symm⟩
   | m+5,h1,h2=>simp at h1
  ·refine yV [(E.n0,E.n0),(E.n0+1,E.n0+4096),(E.n0+2,E.n0+9216)] s_ λhrn=>⟨?_,?_,?_,?_,?_⟩<;>(try simp[bR,J1])
 ·rintro i ⟨hi,hm2⟩ p hp;refine A3 4000 ?_;simp;refine D0 (λh=>?_) (λh=>?_)
  ·have h:=zq h;obtain⟨x,hx,hd⟩:=A5 h;have hi1:IntKind.i64.wrap ((i:Int)+1)=((i+1:Nat):Int):=wrap64 o_;have hxm:=zg hx;have hst:=A2C W hx;have hdx:=hT x hxm;have ho1:((ids.map O).map eO).take (i+1)=((ids.map O).map eO).take i++[eO (O x)]:=L0 (t_ hx);obtain⟨ok,on,ot,oks,ols,hoe⟩:∃(a b:Int) (c:List UInt8) (d:List (List UInt8)) (e:List D8),eO (O x) = .agg [.int .i64 a,.int .i64 b,.str c,.sl (d.map .str),.sl (e.map eO)]:=by
    cases O x with|mk a b c d e=>exact⟨a,b,c,d,e,A0q a b c d e⟩
   rw[hoe] at ho1;simp only[hoe] at hdx;have hsl:=A6q (l:=ids) (i:=i+1) W;have heI:eI x = .int .i64 x:=rfl;simp[hx,heI,J1];refine⟨h,?_⟩;by_cases h2:m+1+((ids.take i).map W).sum+W x<=2000
   ·have hd2:∀id,A2 prog 188 _ _ id _ _:=λid=>by
     have:=hdx (m+1+((ids.take i).map W).sum) id hm2;rw[L6 h2] at this; exact this
    have hst2:(List.take (i+1) (List.map W ids)).sum=(List.take i (List.map W ids)).sum+W x:=(by simpa only[yt] using hst);simp only[yt,vm] at *;(refine yC rfl (hd2 _) ?_; simp[J1]);refine⟨⟨o_,o_,o_⟩,?_⟩;refine hp _ (i+1) ⟨h,o_⟩ o_ ?_;refine yV [(E.n0,E.n0),(E.n0+1,E.n0+1),(E.n0+2,E.n0+12291)] s_ λhrn=>⟨?_,?_,?_,?_,?_⟩<;>(try simp[hi1,bR,hst2,ho1,J1]);exact⟨o_,B4 rfl (B3 (by rw[←yt]; exact E9 (λ_=>A4R _) _) (by simp[Y4,A0K]))⟩
   ·have hd2:∀id,Z0 prog 188 _ _ id _:=λid=>by
     have:=hdx (m+1+((ids.take i).map W).sum) id hm2;rw[K7 h2] at this; exact this
    simp only[yt,vm] at *;refine D6 hP rfl (hd2 _) s_ f_ (λpv hpv=>⟨t_ J1,by injection hpv with hpv; subst hpv; exact hPn _ _ (K7 o_) rfl (t_ J1)⟩) (λv wr h=>by cases h)
  ·have h:¬i<ids.length:=zo h;have hil:i=ids.length:=o_;subst hil;simp[J1];have hsa:(List.take ids.length (List.map W ids)).sum=(List.map W ids).sum:=(by rw[zm s_]);have hoa:List.take ids.length (List.map (eO∘O) ids)=List.map (eO∘O) ids:=zm s_;simp only[yt,vm] at *;rw[hsa] at hm2;have hrn:F7 []:=s_;refine hR _ _ _ (L6 o_) ?_;refine J0 f_ (by simp[hoa,J1]<;>exact⟨rfl,rfl⟩) [] hrn ⟨?_,?_,?_,?_,?_,?_⟩<;>(try simp[bR,hsa,J1])
   ·exact A4 _ (E9 (λ_=>A4R _) _)
   ·omega
end Go.Am
