/- Parts of the proof: an abstract machine for Go functions, and what functions of the program give back (Do10, Do11, Ra1, Do12, Ra2, Ra3, Ra4, Ra5, Do13, Ra2b, So1, St6). No condition. -/
import Derived.Test.YtphjabjjnncebaaGreatDoorXL
import Derived.Test.YtphjabjjnncebaaGreatDoorXJ
set_option maxRecDepth 100000
set_option linter.all false
set_option maxHeartbeats 1000000
namespace Go.Am
open Go Go.Proofs Go.RowKit Go.Proofs.Tryz
def B0H{q:Nat×Bx}:∀{l:List (Nat×Bx)},q∈l->(q.1,some q.2)∈C5 l
 | p::l,h=>by
  obtain⟨i,b⟩:=p;rcases zh.1 h with rfl|h
  ·exact za ..
  ·exact zb _ (B0H h)
def A8e:∀{l:List (Nat×Bx)},(C5 l).map Prod.fst=l.map Prod.fst
 | []=>rfl
 | (i,b)::l=>by simp[C5,A8e (l:=l)]
def B6H{l:List (Nat×Bx)}(hn:(l.map Prod.fst).Nodup){q:Nat×Bx}(h:q∈l):bk (C5 l) q.1=some q.2 :=
 A2C (by rw[A8e]; exact hn) (B0H h)
def A0b{R:Rn}{S:Nat->Prop}{bx':List (Nat×Option Bx)}{fin:Nat->Option Bx}:∀{a b:List Nat},A2A R S bx' fin a->A2A R S bx' fin b->A2A R S bx' fin (a++b)
 | [],_,_,h=>h
 | _::_,_,h1,h=>⟨h1.1,A0b h1.2 h⟩
def A3X{E:O8}{id:Nat}{rd:List (Nat×Bx)}{wr bx':List (Nat×Option Bx)}{rn:List (Nat×Nat)}{hrn:F3 rn}(hh:J8 E.β rd)(hu:∀z,E.G0.used z->z<id\/id+1024<=z)
  (hk:∀z,z<E.n0->(z<id\/id+1024<=z)->lkN rn z=none) (hg:∀z,z<E.n0->T6 rn z=false):∀{rest:List (Nat×Bx)},(∀q∈rest,q∈rd/\E9 (bk (C5 rd)) wr q.1=some q.2/\bk bx' q.1=some q.2)->A2A (P0 E.n0 rn hrn) E.G0.used bx' (E9 (bk (C5 rd)) wr) (rest.map (·.1))
 | [],_=>trivial
 | q::rest,h=>by
  obtain⟨h1,h2,h3⟩:=h q (za ..);refine⟨?_,A3X hh hu hk hg λq hq=>h q (zb _ hq)⟩;rw[h2];have hus:=E.rs0.boxNames (hh q h1);have hlt:=E.old _ hus.1;refine⟨q.1,q.2,?_,h3,BxR.same λi x hx=>L5 (B5y hu hk) x (hus.2 i x hx)⟩;show rnF E.n0 rn q.1=some q.1;unfold rnF;rw[hk _ hlt (hu _ hus.1)];simp[hlt,hg _ hlt]
def A1S{n0:Nat}{bx:List (Nat×Option Bx)}:∀{a b:List (Nat×Option Bx)},H9 n0 bx a->H9 n0 bx b->H9 n0 bx (a++b)
 | [],_,_,h=>h
 | _::_,_,h1,h=>⟨h1.1,A1S h1.2 h⟩
def x4{n0:Nat}{bx:List (Nat×Option Bx)}:∀{l:List (Nat×Bx)},(∀q∈l,J3 q.1 bx)->H9 n0 bx (C5 l)
 | [],_=>trivial
 | (i,b)::l,h=>⟨.inr (h _ (za ..)),x4 λq hq=>h q (zb _ hq)⟩
def A2k{rest:List (Nat×Bx)}(hn:(rest.map Prod.fst).Nodup){q:Nat×Bx}(hq:q∈rest):∀{pre:List (Nat×Option Bx)},(∀p∈pre,q.1≠p.1)->bk (pre++C5 rest) q.1=some q.2
 | [],_=>B6H hn hq
 | p::pre,h=>by
  rw[yz,A5E (h p (za ..))];exact A2k hn hq λp hp=>h p (zb _ hp)
def A48{rest:List (Nat×Bx)}{pre:List (Nat×Option Bx)}(hn:(rest.map Prod.fst).Nodup)(h:∀q∈rest,∀p∈pre,q.1≠p.1):s9 (bk (pre++C5 rest)) rest :=
 s9.of λq hq=>A2k hn hq (h q hq)
def C0L(l:List Ty)(S:List H0)(e:Ev)(i0:Int)(D T:Nat)(id:Nat)(hk:e.kind=2)(hfB:F4 (S.map H0.t) e.type e.id=true)(hS:∀o∈S,o.Ok)(h5:l.length<=1000)(hS8:S.length<=1000)(d1:D≠T)(hnd:((I4 S).map Prod.fst).Nodup)(dD:∀q∈I4 S,q.1≠D)(dT:∀q∈I4 S,q.1≠T)
  (hok:∀t∈S.map H0.t,0<=t.type/\t.type.toNat<l.length/\t.cells.length=(D7 l t.type).length/\t.cells.length<=1000000/\∀c∈t.cells,c.ids.length<=6) (hm:T7 (U4 l e) l (S.map H0.t)=false) :
  A2 prog 195 [.ptr D 0 0] ((D,S2 l (.bsl T 0 S.length) e i0)::(T,P5 S)::I4 S) id (.int .i64 4) [(D,some (S2 l (.bsl T 0 S.length) e (C3 (S.map H0.t) e.type e.id)))]:=by
 have hF:=λid=>S8 l S T e.type e.id id o_;have hM:=λi id=>B0G l S e i D T id hS h5 o_ hok;rw[hm] at hM;generalize hrest:I4 S=rest at *;unfold P5 S2 eD at *;refine w195.b.1 λE hP hR hl hid hB hu=>?_;simp[w195,C5];have hD:=hl (D,_) (za ..);simp only at hD;have D1:=lf hD;have hT:=hl (T,_) (zb _ (za ..));simp only at hT;have T1:=lf hT;have hTn:∀x∈S.map W5,B2 E.G0.used x:=B8 hB (zb _ (za ..));(refine yC rfl (hF _) ?_; simp[D1,T1,d1,d1.symm]);refine A0 (t_ hk) ?_;simp[D1,T1,d1,d1.symm];refine A0 (t_ hk) ?_;simp[D1,T1,d1,d1.symm];refine A0 (t_ hk) ?_;simp[D1,T1,d1,d1.symm];refine A0 (t_ hfB) ?_;simp[D1,T1,d1,d1.symm];refine H8 hP (by simp[D1,T1,d1,d1.symm]) rfl (λhc=>⟨hM (C3 (S.map H0.t) e.type e.id) _,by simp[D1,T1,d1,d1.symm]; simp[hk],?_⟩) ?_
 ·refine⟨s_,by simp[D1,T1,d1,d1.symm],A48 (pre:=[_,_,_]) hnd λq hq p hp=>?_⟩;simp only[zh,yv,or_false] at hp;rcases hp with rfl|rfl|rfl
  ·exact dD q hq
  ·exact dD q hq
  ·exact dT q hq
 refine A3 4000 ?_;simp[D1,T1,d1,d1.symm];refine A7 (t_ hk) ?_;simp[D1,T1,d1,d1.symm];rw[hR];have hrn:F3 []:=trivial;refine E6 f_ [] hrn ⟨?_,?_,?_,?_,?_,?_⟩
 ·simp
 ·show A2A _ _ _ _ ([D,T]++(rest.map (·.1)++[D]));refine A0b ?_ (A0b (A3X hB hu (λz _ _=>rfl) (λz _=>rfl) λq hq=>⟨zb _ (zb _ hq),?_,?_⟩) ?_)
  ·simp[C5,D1,T1,d1,d1.symm];all_goals exact yO hu hTn
  ·simp only[E9];rw[B6 _ _ _ (dD q hq)];refine A2k (pre:=[_,_]) hnd hq λp hp=>?_;simp only[zh,yv,or_false] at hp;rcases hp with rfl|rfl
   ·exact dD q hq
   ·exact dT q hq
  ·refine A2k (pre:=[_,_,_]) hnd hq λp hp=>?_;simp only[zh,yv,or_false] at hp;rcases hp with rfl|rfl|rfl
   ·exact dD q hq
   ·exact dD q hq
   ·exact dT q hq
  ·simp[C5,D1,T1,d1,d1.symm]
 ·show H9 _ _ ([_,_,_]++C5 rest);refine A1S ?_ (x4 λq hq=>R0.2 (zw.2 ⟨q,zb _ (zb _ hq),rfl⟩));simp[C5,D1,T1,d1,d1.symm]
 ·simp[C5]
 ·simp
 ·simp
def C3J(l:List Ty)(S:List H0)(e:Ev)(i0:Int)(D T:Nat)(id:Nat)(hk:e.kind=2)(hfB:F4 (S.map H0.t) e.type e.id=true)(hS:∀o∈S,o.Ok)(h5:l.length<=1000)(hS8:S.length<=1000)(d1:D≠T)(hnd:((I4 S).map Prod.fst).Nodup)(dD:∀q∈I4 S,q.1≠D)(dT:∀q∈I4 S,q.1≠T)
  (hok:∀t∈S.map H0.t,0<=t.type/\t.type.toNat<l.length/\t.cells.length=(D7 l t.type).length/\t.cells.length<=1000000/\∀c∈t.cells,c.ids.length<=6) (hm:T7 (U4 l e) l (S.map H0.t)=true) :
  A2 prog 195 [.ptr D 0 0] ((D,S2 l (.bsl T 0 S.length) e i0)::(T,P5 S)::I4 S) id (.int .i64 0) [(D,some (S2 l (.bsl id 0 (S.length - 1)) e (C3 (S.map H0.t) e.type e.id))),(T,none),(id,some ⟨(S.map W5).take (C3 (S.map H0.t) e.type e.id)++(S.map W5).drop (C3 (S.map H0.t) e.type e.id+1),zT,false,false⟩)]:=by
 have hF:=λid=>S8 l S T e.type e.id id o_;have hM:=λi id=>B0G l S e i D T id hS h5 o_ hok;rw[hm] at hM;generalize hrest:I4 S=rest at *;unfold P5 S2 eD at *;refine w195.b.1 λE hP hR hl hid hB hu=>?_;simp[w195,C5];have hD:=hl (D,_) (za ..);simp only at hD;have D1:=lf hD;have hT:=hl (T,_) (zb _ (za ..));simp only at hT;have T1:=lf hT;have hTn:∀x∈S.map W5,B2 E.G0.used x:=B8 hB (zb _ (za ..));(refine yC rfl (hF _) ?_; simp[D1,T1,d1,d1.symm]);refine A0 (t_ hk) ?_;simp[D1,T1,d1,d1.symm];refine A0 (t_ hk) ?_;simp[D1,T1,d1,d1.symm];refine A0 (t_ hk) ?_;simp[D1,T1,d1,d1.symm];refine A0 (t_ hfB) ?_;simp[D1,T1,d1,d1.symm];refine H8 hP (by simp[D1,T1,d1,d1.symm]) rfl (λhc=>⟨hM (C3 (S.map H0.t) e.type e.id) _,by simp[D1,T1,d1,d1.symm]; simp[hk],?_⟩) ?_
 ·refine⟨s_,by simp[D1,T1,d1,d1.symm],A48 (pre:=[_,_,_]) hnd λq hq p hp=>?_⟩;simp only[zh,yv,or_false] at hp;rcases hp with rfl|rfl|rfl
  ·exact dD q hq
  ·exact dD q hq
  ·exact dT q hq
 refine A3 4000 ?_;simp[D1,T1,d1,d1.symm];refine A7 (t_ hk) ?_;simp[D1,T1,d1,d1.symm];have hlt:C3 (S.map H0.t) e.type e.id<S.length:=by unfold F4 at hfB; simp at hfB; exact hfB.1
 have hw1:IntKind.i64.wrap ((C3 (S.map H0.t) e.type e.id:Int)+1)=(C3 (S.map H0.t) e.type e.id:Int)+1:=wrap64 o_;have hDl:=λid=>B4x S T (C3 (S.map H0.t) e.type e.id) id hlt o_;rw[hw1];generalize C3 (S.map H0.t) e.type e.id=m at *;(refine yC rfl (hDl _) ?_; simp[D1,T1,d1,d1.symm]);rw[hR];have hrn:F3 [(id,E.n0+91136)]:=by simp
 have hn9:∀q∈rest,q.1≠E.n0+91136:=λq hq=>by have:=(hl q (zb _ (zb _ hq))).1; omega
 have hni:∀q∈rest,q.1≠id:=λq hq=>by have:=(hl q (zb _ (zb _ hq))).2; omega
 have hlk:∀z,z<E.n0->(z<id\/id+1024<=z)->lkN [(id,E.n0+91136)] z=none:=λz h1 h2=>by
  have a1:z≠id:=by omega
  simp[lkN,a1]
 have hgn:∀z,z<E.n0->T6 [(id,E.n0+91136)] z=false:=λz h1=>by
  have a1:z≠E.n0+91136:=by omega
  simp[T6,a1]
 refine E6 f_ [(id,E.n0+91136)] hrn ⟨?_,?_,?_,?_,?_,?_⟩
 ·simp
 ·show A2A _ _ _ _ ([D,T]++(rest.map (·.1)++[D,T,id]));refine A0b ?_ (A0b (A3X hB hu hlk hgn λq hq=>⟨zb _ (zb _ hq),?_,?_⟩) ?_)
  ·simp[C5,A4 hid,D1,T1,d1,d1.symm]
  ·simp only[E9];rw[B6 _ _ _ (hni q hq),B6 _ _ _ (dT q hq),B6 _ _ _ (dD q hq)];refine A2k (pre:=[_,_]) hnd hq λp hp=>?_;simp only[zh,yv,or_false] at hp;rcases hp with rfl|rfl
   ·exact dD q hq
   ·exact dT q hq
  ·refine A2k (pre:=[_,_,_,_,_,_]) hnd hq λp hp=>?_;simp only[zh,yv,or_false] at hp;rcases hp with rfl|rfl|rfl|rfl|rfl|rfl
   ·exact dD q hq
   ·exact hn9 q hq
   ·exact dT q hq
   ·exact dD q hq
   ·exact dD q hq
   ·exact dT q hq
  ·simp[C5,A4 hid,D1,T1,d1,d1.symm];all_goals exact u5 (j8 hu hlk λx hx=>hTn x (xq hx)) (j8 hu hlk λx hx=>hTn x (xn hx))
 ·show H9 _ _ ([_,_,_,_,_,_]++C5 rest);refine A1S ?_ (x4 λq hq=>R0.2 (zw.2 ⟨q,zb _ (zb _ hq),rfl⟩));simp[C5,D1,T1,d1,d1.symm]
 ·simp[C5]
 ·simp
 ·simp
def A2.setD{P:Program}{f:Nat}{args:List AV}{D:Nat}{x:Bx}{o:Option Bx}{rd:List (Nat×Bx)}{id:Nat}{res:AV}{wr:List (Nat×Option Bx)}(h:A2 P f args ((D,x)::rd) id res ((D,o)::wr))(x':Bx)(h1:x'.xs=x.xs)(h2:x'.sz=x.sz)(h3:x'.ro=x.ro)(h4:x'.frz=x.frz)(hne:∀q∈rd,q.1≠D):
  A2 P f args ((D,x')::rd) id res ((D,o)::wr):=by
 refine⟨h.1,λC G bx w vs nb hs hv hh hnb hid=>?_⟩;have hD:bx D=some x':=hh (D,x') (za ..);have s1:RS C G (T4 bx D (some x)) w:=by
  refine⟨hs.below,hs.size,hs.fzok,hs.fzold,λi y hy hn=>?_,λi y hy hn=>?_,hs.nlu,hs.used,hs.inj,hs.rows⟩
  ·by_cases e:i=D
   ·subst e;rw[C2] at hy;injection hy with hy
    subst hy;have:=hs.box i x' hD hn;rw[h1,h2,h3,h4] at this;exact this
   ·rw[B6 _ _ _ e] at hy; exact hs.box i y hy hn
  ·by_cases e:i=D
   ·subst e;rw[C2] at hy;injection hy with hy
    subst hy;have:=hs.nil i x' hD hn;rw[h1,h3] at this;exact this
   ·rw[B6 _ _ _ e] at hy; exact hs.nil i y hy hn
 have:=h.2 C G _ w vs nb s1 hv (λq hq=>by
  rcases zh.1 hq with rfl|hq
  ·exact C2 ..
  ·rw[B6 _ _ _ (hne q hq)]; exact hh q (zb _ hq)) hnb hid
 refine Calls.mono this λe w' hq=>?_;obtain⟨v,G',q1,q2,q3⟩:=hq;refine⟨v,G',q1,?_,q3⟩;have e1:T4 (T4 bx D (some x)) D o=T4 bx D o:=by
  funext y
  by_cases e:y=D
  ·subst e; rw[C2,C2]
  ·rw[B6 _ _ _ e,B6 _ _ _ e,B6 _ _ _ e]
 simp only[E9] at q2 ⊢;rw[e1] at q2;exact q2
def x5(l:List Ty)(e:Ev):Int:=if p9 e≠0 then p9 e else if ¬(0<=e.type/\e.type<=(l.length:Int) - 1) then 5 else if ¬(1<=e.id/\e.id<=999) then 3 else 0
def eS0:AV:=.agg [.nils,.nils]
def C0M(l:List Ty)(e:Ev)(T n:Nat)(id:Nat)(hl8:l.length<=1000)(hw:x5 l e≠0):
  A2 prog 126 [.agg [.sl (l.map I7),.bsl T 0 n],S7 e] [] id (.tup [eS0,.int .i64 (x5 l e)]) []:=by
 have hFm:=λid=>j9 e id;have hw1:IntKind.i64.wrap ((l.length:Int) - 1)=(l.length:Int) - 1:=wrap64 o_;unfold S7 eS0 at *;refine w126.b.1 λE hP hR hl hid hB hu=>?_;simp[w126];(refine yH rfl (hFm _) ?_; simp);refine D4 (λh=>?_) (λh=>?_)<;>simp
 ·refine A7 h ?_;simp;exact yP hR (h1:=by simp; unfold x5; simp at h; simp[h])
 have hf:p9 e=0:=by simpa using h
 rw[hw1];(refine yH rfl (F6 _ _ _ _) ?_; simp);refine D4 (λh1=>?_) (λh1=>?_)<;>simp
 ·exact yP hR (h1:=by simp; unfold x5; simp at h1; simp[hf]; omega)
 (refine yH rfl (F6 _ _ _ _) ?_; simp);refine D4 (λh2=>?_) (λh2=>?_)<;>simp
 ·exact yP hR (h1:=by simp; unfold x5; simp at h1 h2; simp[hf]; omega)
 exfalso;apply hw;unfold x5;simp at h1 h2;rw[zf o_,zf o_,zf o_]
def B1N(l:List Ty)(S:List H0)(e:Ev)(i0:Int)(D T c:Nat)(id:Nat)(xs:List AV)(w:Int)(hk:3<=e.kind)(hfB:F4 (S.map H0.t) e.type e.id=true)(hS8:S.length<=1000)(d1:D≠T)(d2:D≠c)(d3:T≠c)
  (hCh:∀id,A2 prog 263 [.ptr D 0 0] [(D,S2 l (.bsl T 0 S.length) e (C3 (S.map H0.t) e.type e.id)),(T,P5 S),(c,⟨xs,zC,false,false⟩)] id (.int .i64 w) []) :
  A2 prog 195 [.ptr D 0 0] [(D,S2 l (.bsl T 0 S.length) e i0),(T,P5 S),(c,⟨xs,zC,false,false⟩)] id (.int .i64 w) [(D,some (S2 l (.bsl T 0 S.length) e (C3 (S.map H0.t) e.type e.id)))]:=by
 have hF:=λid=>S8 l S T e.type e.id id o_;have hk1:e.kind≠1:=by omega
 have hk2:e.kind≠2:=by omega
 unfold P5 S2 eD at *;refine w195.b.1 λE hP hR hl hid hB hu=>?_;simp[w195];have hD:=hl (D,_) (za ..);simp only at hD;have D1:=lf hD;have hT:=hl (T,_) (zb _ (za ..));simp only at hT;have T1:=lf hT;have hc:=hl (c,_) (zb _ (zb _ (za ..)));simp only at hc;have c1:=lf hc;have hTn:∀x∈S.map W5,B2 E.G0.used x:=B8 hB (zb _ (za ..));have hXn:∀x∈xs,B2 E.G0.used x:=B8 hB (zb _ (zb _ (za ..)));(refine yC rfl (hF _) ?_; simp[D1,T1,c1,d1,d1.symm,d2,d2.symm,d3,d3.symm]);refine A0 (t_ hk1) ?_;simp[D1,T1,c1,d1,d1.symm,d2,d2.symm,d3,d3.symm];refine A0 (t_ hk1) ?_;simp[D1,T1,c1,d1,d1.symm,d2,d2.symm,d3,d3.symm];refine A0 (t_ hk1) ?_;simp[D1,T1,c1,d1,d1.symm,d2,d2.symm,d3,d3.symm];refine A0 (t_ hfB) ?_;simp[D1,T1,c1,d1,d1.symm,d2,d2.symm,d3,d3.symm];refine H8 hP (v:=.bool false) (rd:=[]) (by simp[D1,T1,c1,d1,d1.symm,d2,d2.symm,d3,d3.symm]) rfl (λhc=>by simp[hk2] at hc) ?_;refine A3 4000 ?_;simp[D1,T1,c1,d1,d1.symm,d2,d2.symm,d3,d3.symm];refine A0 (t_ hk2) ?_;simp[D1,T1,c1,d1,d1.symm,d2,d2.symm,d3,d3.symm];(refine yC rfl (hCh _) ?_; simp[D1,T1,c1,d1,d1.symm,d2,d2.symm,d3,d3.symm]);refine yE hR [] (by simp[D1,T1,c1,d1,d1.symm,d2,d2.symm,d3,d3.symm,A4 hid]) λhrn=>⟨?_,?_,?_,?_,?_,?_⟩<;>(try simp[D1,T1,c1,d1,d1.symm,d2,d2.symm,d3,d3.symm,A4 hid]);exact⟨by exact yO hu hTn,by exact yO hu hXn⟩
def C3K(l:List Ty)(S:List H0)(e:Ev)(i0:Int)(D T c:Nat)(id:Nat)(xs:List AV)(k:Nat)(a b io:AV)(hx:xs[k]?=some (.agg [a,b,io]))(n:Int)(t:List UInt8)(hk:3<=e.kind)(hfB:F4 (S.map H0.t) e.type e.id=true)(hS8:S.length<=1000)(d1:D≠T)(d2:D≠c)(d3:T≠c)
  (hCh:∀id,A2 prog 263 [.ptr D 0 0] [(D,S2 l (.bsl T 0 S.length) e (C3 (S.map H0.t) e.type e.id)),(T,P5 S),(c,⟨xs,zC,false,false⟩)] id (.int .i64 0) [(c,some ⟨xs.set k (.agg [.int .i64 n,.str t,io]),zC,false,false⟩)]) :
  A2 prog 195 [.ptr D 0 0] [(D,S2 l (.bsl T 0 S.length) e i0),(T,P5 S),(c,⟨xs,zC,false,false⟩)] id (.int .i64 0) [(D,some (S2 l (.bsl T 0 S.length) e (C3 (S.map H0.t) e.type e.id))),(c,some ⟨xs.set k (.agg [.int .i64 n,.str t,io]),zC,false,false⟩)]:=by
 have hF:=λid=>S8 l S T e.type e.id id o_;have hk1:e.kind≠1:=by omega
 have hk2:e.kind≠2:=by omega
 unfold P5 S2 eD at *;refine w195.b.1 λE hP hR hl hid hB hu=>?_;simp[w195];have hD:=hl (D,_) (za ..);simp only at hD;have D1:=lf hD;have hT:=hl (T,_) (zb _ (za ..));simp only at hT;have T1:=lf hT;have hc:=hl (c,_) (zb _ (zb _ (za ..)));simp only at hc;have c1:=lf hc;have hTn:∀x∈S.map W5,B2 E.G0.used x:=B8 hB (zb _ (za ..));have hXn:∀x∈xs,B2 E.G0.used x:=B8 hB (zb _ (zb _ (za ..)));(refine yC rfl (hF _) ?_; simp[D1,T1,c1,d1,d1.symm,d2,d2.symm,d3,d3.symm]);refine A0 (t_ hk1) ?_;simp[D1,T1,c1,d1,d1.symm,d2,d2.symm,d3,d3.symm];refine A0 (t_ hk1) ?_;simp[D1,T1,c1,d1,d1.symm,d2,d2.symm,d3,d3.symm];refine A0 (t_ hk1) ?_;simp[D1,T1,c1,d1,d1.symm,d2,d2.symm,d3,d3.symm];refine A0 (t_ hfB) ?_;simp[D1,T1,c1,d1,d1.symm,d2,d2.symm,d3,d3.symm];refine H8 hP (v:=.bool false) (rd:=[]) (by simp[D1,T1,c1,d1,d1.symm,d2,d2.symm,d3,d3.symm]) rfl (λhc=>by simp[hk2] at hc) ?_;refine A3 4000 ?_;simp[D1,T1,c1,d1,d1.symm,d2,d2.symm,d3,d3.symm];refine A0 (t_ hk2) ?_;simp[D1,T1,c1,d1,d1.symm,d2,d2.symm,d3,d3.symm];(refine yC rfl (hCh _) ?_; simp[D1,T1,c1,d1,d1.symm,d2,d2.symm,d3,d3.symm]);refine yE hR [] (by simp[D1,T1,c1,d1,d1.symm,d2,d2.symm,d3,d3.symm,A4 hid]) λhrn=>⟨?_,?_,?_,?_,?_,?_⟩<;>(try simp[D1,T1,c1,d1,d1.symm,d2,d2.symm,d3,d3.symm,A4 hid]);have hio:B2 E.G0.used io:=by have:=hXn _ (zg hx); simp[B2,E8] at this; exact this.2.2
 refine⟨by exact yO hu hTn,I9 (A3J hu (by simp[B2,E8]; exact hio) λz h1 h2=>rfl) k (by exact yO hu hXn)⟩
def C3L(l:List Ty)(S:List H0)(e:Ev)(i0:Int)(D T c:Nat)(id:Nat)(xs:List AV)(k:Nat)(n:Int)(t:List UInt8)(ys:List Int)(hk:3<=e.kind)(hfB:F4 (S.map H0.t) e.type e.id=true)(hS8:S.length<=1000)(d1:D≠T)(d2:D≠c)(d3:T≠c)
  (hCh:∀id,A2 prog 263 [.ptr D 0 0] [(D,S2 l (.bsl T 0 S.length) e (C3 (S.map H0.t) e.type e.id)),(T,P5 S),(c,⟨xs,zC,false,false⟩)] id (.int .i64 0) [(c,some ⟨xs.set k (.agg [.int .i64 n,.str t,.bsl id 0 ys.length]),zC,false,false⟩),(id,some ⟨ys.map eI,.int .i64 0,false,false⟩)]) :
  A2 prog 195 [.ptr D 0 0] [(D,S2 l (.bsl T 0 S.length) e i0),(T,P5 S),(c,⟨xs,zC,false,false⟩)] id (.int .i64 0) [(D,some (S2 l (.bsl T 0 S.length) e (C3 (S.map H0.t) e.type e.id))),(c,some ⟨xs.set k (.agg [.int .i64 n,.str t,.bsl id 0 ys.length]),zC,false,false⟩),(id,some ⟨ys.map eI,.int .i64 0,false,false⟩)]:=by
 have hF:=λid=>S8 l S T e.type e.id id o_;have hk1:e.kind≠1:=by omega
 have hk2:e.kind≠2:=by omega
 unfold P5 S2 eD at *;refine w195.b.1 λE hP hR hl hid hB hu=>?_;simp[w195];have hD:=hl (D,_) (za ..);simp only at hD;have D1:=lf hD;have hT:=hl (T,_) (zb _ (za ..));simp only at hT;have T1:=lf hT;have hc:=hl (c,_) (zb _ (zb _ (za ..)));simp only at hc;have c1:=lf hc;have hTn:∀x∈S.map W5,B2 E.G0.used x:=B8 hB (zb _ (za ..));have hXn:∀x∈xs,B2 E.G0.used x:=B8 hB (zb _ (zb _ (za ..)));(refine yC rfl (hF _) ?_; simp[D1,T1,c1,d1,d1.symm,d2,d2.symm,d3,d3.symm]);refine A0 (t_ hk1) ?_;simp[D1,T1,c1,d1,d1.symm,d2,d2.symm,d3,d3.symm];refine A0 (t_ hk1) ?_;simp[D1,T1,c1,d1,d1.symm,d2,d2.symm,d3,d3.symm];refine A0 (t_ hk1) ?_;simp[D1,T1,c1,d1,d1.symm,d2,d2.symm,d3,d3.symm];refine A0 (t_ hfB) ?_;simp[D1,T1,c1,d1,d1.symm,d2,d2.symm,d3,d3.symm];refine H8 hP (v:=.bool false) (rd:=[]) (by simp[D1,T1,c1,d1,d1.symm,d2,d2.symm,d3,d3.symm]) rfl (λhc=>by simp[hk2] at hc) ?_;refine A3 4000 ?_;simp[D1,T1,c1,d1,d1.symm,d2,d2.symm,d3,d3.symm];refine A0 (t_ hk2) ?_;simp[D1,T1,c1,d1,d1.symm,d2,d2.symm,d3,d3.symm];(refine yC rfl (hCh _) ?_; simp[D1,T1,c1,d1,d1.symm,d2,d2.symm,d3,d3.symm]);refine yE hR [(id,E.n0+82944)] (by simp[D1,T1,c1,d1,d1.symm,d2,d2.symm,d3,d3.symm,A4 hid]) λhrn=>⟨?_,?_,?_,?_,?_,?_⟩<;>(try simp[D1,T1,c1,d1,d1.symm,d2,d2.symm,d3,d3.symm,A4 hid]);exact⟨by exact yO hu hTn,I9 (by simp[A4 hid]) k (by exact yO hu hXn)⟩
def C3M(l:List Ty)(S:List H0)(e:Ev)(i0:Int)(D T c:Nat)(id:Nat)(xs:List AV)(k:Nat)(n:Int)(t:List UInt8)(ys:List Int)(I:Nat)(BI:List Int)(d4:D≠I)(d5:T≠I)(d6:c≠I)(hk:3<=e.kind)(hfB:F4 (S.map H0.t) e.type e.id=true)(hS8:S.length<=1000)(d1:D≠T)(d2:D≠c)(d3:T≠c)
  (hCh:∀id,A2 prog 263 [.ptr D 0 0] [(D,S2 l (.bsl T 0 S.length) e (C3 (S.map H0.t) e.type e.id)),(T,P5 S),(c,⟨xs,zC,false,false⟩),(I,⟨BI.map eI,.int .i64 0,false,false⟩)] id (.int .i64 0) [(I,none),(c,some ⟨xs.set k (.agg [.int .i64 n,.str t,.bsl id 0 ys.length]),zC,false,false⟩),(id,some ⟨ys.map eI,.int .i64 0,false,false⟩)]) :
  A2 prog 195 [.ptr D 0 0] [(D,S2 l (.bsl T 0 S.length) e i0),(T,P5 S),(c,⟨xs,zC,false,false⟩),(I,⟨BI.map eI,.int .i64 0,false,false⟩)] id (.int .i64 0) [(D,some (S2 l (.bsl T 0 S.length) e (C3 (S.map H0.t) e.type e.id))),(I,none),(c,some ⟨xs.set k (.agg [.int .i64 n,.str t,.bsl id 0 ys.length]),zC,false,false⟩),(id,some ⟨ys.map eI,.int .i64 0,false,false⟩)]:=by
 have hF:=λid=>S8 l S T e.type e.id id o_;have hk1:e.kind≠1:=by omega
 have hk2:e.kind≠2:=by omega
 unfold P5 S2 eD at *;refine w195.b.1 λE hP hR hl hid hB hu=>?_;simp[w195];have hD:=hl (D,_) (za ..);simp only at hD;have D1:=lf hD;have hT:=hl (T,_) (zb _ (za ..));simp only at hT;have T1:=lf hT;have hc:=hl (c,_) (zb _ (zb _ (za ..)));simp only at hc;have c1:=lf hc;have hI:=hl (I,_) (zb _ (zb _ (zb _ (za ..))));simp only at hI;have I1:=lf hI;have hTn:∀x∈S.map W5,B2 E.G0.used x:=B8 hB (zb _ (za ..));have hXn:∀x∈xs,B2 E.G0.used x:=B8 hB (zb _ (zb _ (za ..)));(refine yC rfl (hF _) ?_; simp[D1,T1,c1,d1,d1.symm,d2,d2.symm,d3,d3.symm,I1,d4,d4.symm,d5,d5.symm,d6,d6.symm]);refine A0 (t_ hk1) ?_;simp[D1,T1,c1,d1,d1.symm,d2,d2.symm,d3,d3.symm,I1,d4,d4.symm,d5,d5.symm,d6,d6.symm];refine A0 (t_ hk1) ?_;simp[D1,T1,c1,d1,d1.symm,d2,d2.symm,d3,d3.symm,I1,d4,d4.symm,d5,d5.symm,d6,d6.symm];refine A0 (t_ hk1) ?_;simp[D1,T1,c1,d1,d1.symm,d2,d2.symm,d3,d3.symm,I1,d4,d4.symm,d5,d5.symm,d6,d6.symm];refine A0 (t_ hfB) ?_;simp[D1,T1,c1,d1,d1.symm,d2,d2.symm,d3,d3.symm,I1,d4,d4.symm,d5,d5.symm,d6,d6.symm];refine H8 hP (v:=.bool false) (rd:=[]) (by simp[D1,T1,c1,d1,d1.symm,d2,d2.symm,d3,d3.symm,I1,d4,d4.symm,d5,d5.symm,d6,d6.symm]) rfl (λhc=>by simp[hk2] at hc) ?_;refine A3 4000 ?_;simp[D1,T1,c1,d1,d1.symm,d2,d2.symm,d3,d3.symm,I1,d4,d4.symm,d5,d5.symm,d6,d6.symm];refine A0 (t_ hk2) ?_;simp[D1,T1,c1,d1,d1.symm,d2,d2.symm,d3,d3.symm,I1,d4,d4.symm,d5,d5.symm,d6,d6.symm];(refine yC rfl (hCh _) ?_; simp[D1,T1,c1,d1,d1.symm,d2,d2.symm,d3,d3.symm,I1,d4,d4.symm,d5,d5.symm,d6,d6.symm]);refine yE hR [(id,E.n0+82944)] (by simp[D1,T1,c1,d1,d1.symm,d2,d2.symm,d3,d3.symm,I1,d4,d4.symm,d5,d5.symm,d6,d6.symm,A4 hid]) λhrn=>⟨?_,?_,?_,?_,?_,?_⟩<;>(try simp[D1,T1,c1,d1,d1.symm,d2,d2.symm,d3,d3.symm,I1,d4,d4.symm,d5,d5.symm,d6,d6.symm,A4 hid]);exact⟨by exact yO hu hTn,I9 (by simp[A4 hid]) k (by exact yO hu hXn)⟩
def C0N(l:List Ty)(S:List H0)(e:Ev)(T:Nat)(id:Nat)(k n:Nat)(m:Int)(hl8:l.length<=1000)(hf0:p9 e=0)(h0:0<=e.type)(h1:e.type<=(l.length:Int) - 1)(h2:1<=e.id)(h3:e.id<=999)
  (hDo:∀D id,(∀q∈[(T,P5 S)],q.1≠D)->A2 prog 195 [.ptr D 0 0] ((D,S2 l (.bsl T 0 S.length) e 0)::[(T,P5 S)]) id (.int .i64 0) ((D,some (S2 l (.bsl id 0 (S.length+1)) e m))::[(T,none),(id,some ⟨(S.map W5).take k++.agg [.int .i64 e.type,.int .i64 e.id,.bsl (id+1) 0 n]::(S.map W5).drop k,zT,false,false⟩),(id+1,some ⟨List.replicate n zC,zC,false,false⟩)])) :
  A2 prog 126 [.agg [.sl (l.map I7),.bsl T 0 S.length],S7 e] [(T,P5 S)] id (.tup [.agg [.sl (l.map I7),(.bsl id 0 (S.length+1))],.int .i64 0]) ([(T,none),(id,some ⟨(S.map W5).take k++.agg [.int .i64 e.type,.int .i64 e.id,.bsl (id+1) 0 n]::(S.map W5).drop k,zT,false,false⟩),(id+1,some ⟨List.replicate n zC,zC,false,false⟩)]):=by
 have hFm:=λid=>j9 e id;have hw1:IntKind.i64.wrap ((l.length:Int) - 1)=(l.length:Int) - 1:=wrap64 o_;replace hDo:=λD id hne=>(hDo D id hne).setD ⟨[eD l (.bsl T 0 S.length) e 0],eD l (.bsl T 0 S.length) e 0,false,false⟩ rfl rfl rfl rfl hne;unfold P5 S2 eD S7 at *;refine w126.b.1 λE hP hR hl hid hB hu=>?_;simp[w126,C5];have hT:=hl (T,_) (za ..);simp only at hT;have T1:=lf hT;have hTn:∀x∈S.map W5,B2 E.G0.used x:=B8 hB (za ..);(refine yC rfl (hFm _) ?_; simp[T1]);refine A0 (t_ hf0) ?_;simp[T1];rw[hw1];(refine D9 hP rfl (F6 _ _ _ _) (t_ T1) (by simp[T1]<;>rfl) ?_; refine A3 4000 ?_; simp[T1]);refine A0 m_ ?_;simp[T1];(refine D9 hP rfl (F6 _ _ _ _) (t_ T1) (by simp[T1]<;>rfl) ?_; refine A3 4000 ?_; simp[T1]);refine A0 m_ ?_;simp[T1];refine A0 (t_ hf0) ?_;simp[T1];(refine D9 hP rfl (hDo _ _ (by exactλq hq=>by have:=(hl q hq).1; omega)) (t_ T1) (by simp[T1]<;>rfl) ?_; refine A3 4000 ?_; simp[T1]);have hlk:∀z,z<E.n0->(z<id\/id+1024<=z)->lkN [(id,E.n0+32768),(id+1,E.n0+32769)] z=none:=λz h1 h2=>by
  have a1:z≠id:=by omega
  have a2:z≠id+1:=by omega
  simp[lkN,a1,a2]
 have hp0:∀R S,N8 R S (List.replicate n zC) (List.replicate n zC):=λR S=>B4 rfl (A4v λi x hx=>by rw[vp] at hx; split at hx<;>simp at hx; subst hx; rfl);have hrn:F3 [(id,E.n0+32768),(id+1,E.n0+32768+1)]:=by simp[hp0,A6B hT.2,A42 hT.2,yq,T1,A4 hid,A3L hid,A1g hid,A0W hid,A0X hid,p8 hid]
 rw[hR];refine E6 f_ [(id,E.n0+32768),(id+1,E.n0+32768+1)] hrn ⟨?_,?_,?_,?_,?_,?_⟩<;>(try simp[hp0,A6B hT.2,A42 hT.2,yq,T1,A4 hid,A3L hid,A1g hid,A0W hid,A0X hid,p8 hid]);exact u5 (j8 hu hlk λx hx=>hTn x (xq hx)) (.cons _ _ _ _ (by simp[A4 hid,A3L hid,A1g hid,A0W hid,A0X hid,p8 hid]) (j8 hu hlk λx hx=>hTn x (xn hx)))
def C0O(l:List Ty)(S:List H0)(e:Ev)(T:Nat)(id:Nat)(c:Nat)(xs:List AV)(k:Nat)(a b io:AV)(hx:xs[k]?=some (.agg [a,b,io]))(n:Int)(t:List UInt8)(d3:T≠c)(m:Int)(hl8:l.length<=1000)(hf0:p9 e=0)(h0:0<=e.type)(h1:e.type<=(l.length:Int) - 1)(h2:1<=e.id)(h3:e.id<=999)
  (hDo:∀D id,(∀q∈[(T,P5 S),(c,⟨xs,zC,false,false⟩)],q.1≠D)->A2 prog 195 [.ptr D 0 0] ((D,S2 l (.bsl T 0 S.length) e 0)::[(T,P5 S),(c,⟨xs,zC,false,false⟩)]) id (.int .i64 0) ((D,some (S2 l (.bsl T 0 S.length) e m))::[(c,some ⟨xs.set k (.agg [.int .i64 n,.str t,io]),zC,false,false⟩)])) :
  A2 prog 126 [.agg [.sl (l.map I7),.bsl T 0 S.length],S7 e] [(T,P5 S),(c,⟨xs,zC,false,false⟩)] id (.tup [.agg [.sl (l.map I7),(.bsl T 0 S.length)],.int .i64 0]) ([(c,some ⟨xs.set k (.agg [.int .i64 n,.str t,io]),zC,false,false⟩)]):=by
 have hFm:=λid=>j9 e id;have hw1:IntKind.i64.wrap ((l.length:Int) - 1)=(l.length:Int) - 1:=wrap64 o_;replace hDo:=λD id hne=>(hDo D id hne).setD ⟨[eD l (.bsl T 0 S.length) e 0],eD l (.bsl T 0 S.length) e 0,false,false⟩ rfl rfl rfl rfl hne;unfold P5 S2 eD S7 at *;refine w126.b.1 λE hP hR hl hid hB hu=>?_;simp[w126,C5];have hT:=hl (T,_) (za ..);simp only at hT;have T1:=lf hT;have hTn:∀x∈S.map W5,B2 E.G0.used x:=B8 hB (za ..);have hc:=hl (c,_) (zb _ (za ..));simp only at hc;have c1:=lf hc;have hXn:∀x∈xs,B2 E.G0.used x:=B8 hB (zb _ (za ..));(refine yC rfl (hFm _) ?_; simp[T1,c1,d3,d3.symm]);refine A0 (t_ hf0) ?_;simp[T1,c1,d3,d3.symm];rw[hw1];(refine D9 hP rfl (F6 _ _ _ _) (by simp[T1,c1,d3,d3.symm]) (by simp[T1,c1,d3,d3.symm]<;>rfl) ?_; refine A3 4000 ?_; simp[T1,c1,d3,d3.symm]);refine A0 m_ ?_;simp[T1,c1,d3,d3.symm];(refine D9 hP rfl (F6 _ _ _ _) (by simp[T1,c1,d3,d3.symm]) (by simp[T1,c1,d3,d3.symm]<;>rfl) ?_; refine A3 4000 ?_; simp[T1,c1,d3,d3.symm]);refine A0 m_ ?_;simp[T1,c1,d3,d3.symm];refine A0 (t_ hf0) ?_;simp[T1,c1,d3,d3.symm];(refine D9 hP rfl (hDo _ _ (by exactλq hq=>by have:=(hl q hq).1; omega)) (by simp[T1,c1,d3,d3.symm]) (by simp[T1,c1,d3,d3.symm]<;>rfl) ?_; refine A3 4000 ?_; simp[T1,c1,d3,d3.symm]);refine yE hR [] (by simp[T1,c1,d3,d3.symm,A4 hid]) λhrn=>⟨?_,?_,?_,?_,?_,?_⟩<;>(try simp[T1,c1,d3,d3.symm,A4 hid]);have hio:B2 E.G0.used io:=by have:=hXn _ (zg hx); simp[B2,E8] at this; exact this.2.2
 refine⟨by exact yO hu hTn,I9 (A3J hu (by simp[B2,E8]; exact hio) λz h1 h2=>rfl) k (by exact yO hu hXn)⟩
def C0P(l:List Ty)(S:List H0)(e:Ev)(T:Nat)(id:Nat)(c:Nat)(xs:List AV)(k:Nat)(n:Int)(t:List UInt8)(ys:List Int)(d3:T≠c)(m:Int)(hl8:l.length<=1000)(hf0:p9 e=0)(h0:0<=e.type)(h1:e.type<=(l.length:Int) - 1)(h2:1<=e.id)(h3:e.id<=999)
  (hDo:∀D id,(∀q∈[(T,P5 S),(c,⟨xs,zC,false,false⟩)],q.1≠D)->A2 prog 195 [.ptr D 0 0] ((D,S2 l (.bsl T 0 S.length) e 0)::[(T,P5 S),(c,⟨xs,zC,false,false⟩)]) id (.int .i64 0) ((D,some (S2 l (.bsl T 0 S.length) e m))::[(c,some ⟨xs.set k (.agg [.int .i64 n,.str t,.bsl id 0 ys.length]),zC,false,false⟩),(id,some ⟨ys.map eI,.int .i64 0,false,false⟩)])) :
  A2 prog 126 [.agg [.sl (l.map I7),.bsl T 0 S.length],S7 e] [(T,P5 S),(c,⟨xs,zC,false,false⟩)] id (.tup [.agg [.sl (l.map I7),(.bsl T 0 S.length)],.int .i64 0]) ([(c,some ⟨xs.set k (.agg [.int .i64 n,.str t,.bsl id 0 ys.length]),zC,false,false⟩),(id,some ⟨ys.map eI,.int .i64 0,false,false⟩)]):=by
 have hFm:=λid=>j9 e id;have hw1:IntKind.i64.wrap ((l.length:Int) - 1)=(l.length:Int) - 1:=wrap64 o_;replace hDo:=λD id hne=>(hDo D id hne).setD ⟨[eD l (.bsl T 0 S.length) e 0],eD l (.bsl T 0 S.length) e 0,false,false⟩ rfl rfl rfl rfl hne;unfold P5 S2 eD S7 at *;refine w126.b.1 λE hP hR hl hid hB hu=>?_;simp[w126,C5];have hT:=hl (T,_) (za ..);simp only at hT;have T1:=lf hT;have hTn:∀x∈S.map W5,B2 E.G0.used x:=B8 hB (za ..);have hc:=hl (c,_) (zb _ (za ..));simp only at hc;have c1:=lf hc;have hXn:∀x∈xs,B2 E.G0.used x:=B8 hB (zb _ (za ..));(refine yC rfl (hFm _) ?_; simp[T1,c1,d3,d3.symm]);refine A0 (t_ hf0) ?_;simp[T1,c1,d3,d3.symm];rw[hw1];(refine D9 hP rfl (F6 _ _ _ _) (by simp[T1,c1,d3,d3.symm]) (by simp[T1,c1,d3,d3.symm]<;>rfl) ?_; refine A3 4000 ?_; simp[T1,c1,d3,d3.symm]);refine A0 m_ ?_;simp[T1,c1,d3,d3.symm];(refine D9 hP rfl (F6 _ _ _ _) (by simp[T1,c1,d3,d3.symm]) (by simp[T1,c1,d3,d3.symm]<;>rfl) ?_; refine A3 4000 ?_; simp[T1,c1,d3,d3.symm]);refine A0 m_ ?_;simp[T1,c1,d3,d3.symm];refine A0 (t_ hf0) ?_;simp[T1,c1,d3,d3.symm];(refine D9 hP rfl (hDo _ _ (by exactλq hq=>by have:=(hl q hq).1; omega)) (by simp[T1,c1,d3,d3.symm]) (by simp[T1,c1,d3,d3.symm]<;>rfl) ?_; refine A3 4000 ?_; simp[T1,c1,d3,d3.symm]);refine yE hR [(id,E.n0+32768)] (by simp[T1,c1,d3,d3.symm,A4 hid]) λhrn=>⟨?_,?_,?_,?_,?_,?_⟩<;>(try simp[T1,c1,d3,d3.symm,A4 hid]);exact⟨by exact yO hu hTn,I9 (by simp[A4 hid]) k (by exact yO hu hXn)⟩
def C0Q(l:List Ty)(S:List H0)(e:Ev)(T:Nat)(id:Nat)(c:Nat)(xs:List AV)(k:Nat)(n:Int)(t:List UInt8)(ys:List Int)(I:Nat)(BI:List Int)(d3:T≠c)(d5:T≠I)(d6:c≠I)(m:Int)(hl8:l.length<=1000)(hf0:p9 e=0)(h0:0<=e.type)(h1:e.type<=(l.length:Int) - 1)(h2:1<=e.id)(h3:e.id<=999)
  (hDo:∀D id,(∀q∈[(T,P5 S),(c,⟨xs,zC,false,false⟩),(I,⟨BI.map eI,.int .i64 0,false,false⟩)],q.1≠D)->A2 prog 195 [.ptr D 0 0] ((D,S2 l (.bsl T 0 S.length) e 0)::[(T,P5 S),(c,⟨xs,zC,false,false⟩),(I,⟨BI.map eI,.int .i64 0,false,false⟩)]) id (.int .i64 0) ((D,some (S2 l (.bsl T 0 S.length) e m))::[(I,none),(c,some ⟨xs.set k (.agg [.int .i64 n,.str t,.bsl id 0 ys.length]),zC,false,false⟩),(id,some ⟨ys.map eI,.int .i64 0,false,false⟩)])) :
  A2 prog 126 [.agg [.sl (l.map I7),.bsl T 0 S.length],S7 e] [(T,P5 S),(c,⟨xs,zC,false,false⟩),(I,⟨BI.map eI,.int .i64 0,false,false⟩)] id (.tup [.agg [.sl (l.map I7),(.bsl T 0 S.length)],.int .i64 0]) ([(I,none),(c,some ⟨xs.set k (.agg [.int .i64 n,.str t,.bsl id 0 ys.length]),zC,false,false⟩),(id,some ⟨ys.map eI,.int .i64 0,false,false⟩)]):=by
 have hFm:=λid=>j9 e id;have hw1:IntKind.i64.wrap ((l.length:Int) - 1)=(l.length:Int) - 1:=wrap64 o_;replace hDo:=λD id hne=>(hDo D id hne).setD ⟨[eD l (.bsl T 0 S.length) e 0],eD l (.bsl T 0 S.length) e 0,false,false⟩ rfl rfl rfl rfl hne;unfold P5 S2 eD S7 at *;refine w126.b.1 λE hP hR hl hid hB hu=>?_;simp[w126,C5];have hT:=hl (T,_) (za ..);simp only at hT;have T1:=lf hT;have hTn:∀x∈S.map W5,B2 E.G0.used x:=B8 hB (za ..);have hc:=hl (c,_) (zb _ (za ..));simp only at hc;have c1:=lf hc;have hXn:∀x∈xs,B2 E.G0.used x:=B8 hB (zb _ (za ..));have hI:=hl (I,_) (zb _ (zb _ (za ..)));simp only at hI;have I1:=lf hI;(refine yC rfl (hFm _) ?_; simp[T1,c1,I1,d3,d3.symm,d5,d5.symm,d6,d6.symm]);refine A0 (t_ hf0) ?_;simp[T1,c1,I1,d3,d3.symm,d5,d5.symm,d6,d6.symm];rw[hw1];(refine D9 hP rfl (F6 _ _ _ _) (by simp[T1,c1,I1,d3,d3.symm,d5,d5.symm,d6,d6.symm]) (by simp[T1,c1,I1,d3,d3.symm,d5,d5.symm,d6,d6.symm]<;>rfl) ?_; refine A3 4000 ?_; simp[T1,c1,I1,d3,d3.symm,d5,d5.symm,d6,d6.symm]);refine A0 m_ ?_;simp[T1,c1,I1,d3,d3.symm,d5,d5.symm,d6,d6.symm];(refine D9 hP rfl (F6 _ _ _ _) (by simp[T1,c1,I1,d3,d3.symm,d5,d5.symm,d6,d6.symm]) (by simp[T1,c1,I1,d3,d3.symm,d5,d5.symm,d6,d6.symm]<;>rfl) ?_; refine A3 4000 ?_; simp[T1,c1,I1,d3,d3.symm,d5,d5.symm,d6,d6.symm]);refine A0 m_ ?_;simp[T1,c1,I1,d3,d3.symm,d5,d5.symm,d6,d6.symm];refine A0 (t_ hf0) ?_;simp[T1,c1,I1,d3,d3.symm,d5,d5.symm,d6,d6.symm];(refine D9 hP rfl (hDo _ _ (by exactλq hq=>by have:=(hl q hq).1; omega)) (by simp[T1,c1,I1,d3,d3.symm,d5,d5.symm,d6,d6.symm]) (by simp[T1,c1,I1,d3,d3.symm,d5,d5.symm,d6,d6.symm]<;>rfl) ?_; refine A3 4000 ?_; simp[T1,c1,I1,d3,d3.symm,d5,d5.symm,d6,d6.symm]);refine yE hR [(id,E.n0+32768)] (by simp[T1,c1,I1,d3,d3.symm,d5,d5.symm,d6,d6.symm,A4 hid]) λhrn=>⟨?_,?_,?_,?_,?_,?_⟩<;>(try simp[T1,c1,I1,d3,d3.symm,d5,d5.symm,d6,d6.symm,A4 hid]);exact⟨by exact yO hu hTn,I9 (by simp[A4 hid]) k (by exact yO hu hXn)⟩
def C0R(l:List Ty)(S:List H0)(e:Ev)(T:Nat)(id:Nat)(m w:Int)(rd:List (Nat×Bx))(hnd:(rd.map Prod.fst).Nodup)(hw:w≠0)(hl8:l.length<=1000)(hf0:p9 e=0)(h0:0<=e.type)(h1:e.type<=(l.length:Int) - 1)(h2:1<=e.id)(h3:e.id<=999)
  (hDo:∀D id,(∀q∈rd,q.1≠D)->A2 prog 195 [.ptr D 0 0] ((D,S2 l (.bsl T 0 S.length) e 0)::rd) id (.int .i64 w) [(D,some (S2 l (.bsl T 0 S.length) e m))]) :
  A2 prog 126 [.agg [.sl (l.map I7),.bsl T 0 S.length],S7 e] rd id (.tup [eS0,.int .i64 w]) []:=by
 have hFm:=λid=>j9 e id;have hw1:IntKind.i64.wrap ((l.length:Int) - 1)=(l.length:Int) - 1:=wrap64 o_;replace hDo:=λD id hne=>(hDo D id hne).setD ⟨[eD l (.bsl T 0 S.length) e 0],eD l (.bsl T 0 S.length) e 0,false,false⟩ rfl rfl rfl rfl hne;unfold S2 eD S7 at *;refine w126.b.1 λE hP hR hl hid hB hu=>?_;simp[w126,C5];(refine yH rfl (hFm _) ?_; simp);refine A0 (t_ hf0) ?_;simp;rw[hw1];(refine yH rfl (F6 _ _ _ _) ?_; simp);refine A0 m_ ?_;simp;(refine yH rfl (F6 _ _ _ _) ?_; simp);refine A0 m_ ?_;simp;refine A0 (t_ hf0) ?_;simp;have hnk:∀q∈rd,q.1≠E.n0+29696/\q.1≠E.n0+2048/\q.1≠E.n0+1024/\q.1≠E.n0:=λq hq=>by
  have:=(hl q hq).1; omega
 refine D9 hP rfl (hDo (E.n0+29696) _ λq hq=>(hnk q hq).1) s_ ⟨s_,?_⟩ ?_
 ·refine A48 (pre:=[_,_,_,_]) hnd λq hq p hp=>?_;simp only[zh,yv,or_false] at hp;obtain⟨n1,n2,n3,n4⟩:=hnk q hq;rcases hp with rfl|rfl|rfl|rfl<;>assumption
 refine A3 4000 ?_;simp;refine A7 (v_ hw) ?_;simp;rw[hR];have hrn:F3 []:=trivial;refine E6 f_ [] hrn ⟨?_,?_,?_,?_,?_,?_⟩
 ·simp[eS0]
 ·show A2A _ _ _ _ (rd.map (·.1)++[]);refine A0b (A3X hB hu (λz _ _=>rfl) (λz _=>rfl) λq hq=>⟨hq,?_,?_⟩) ?_
  ·exact B6H hnd hq
  ·refine A2k (pre:=[_,_,_,_,_,_]) hnd hq λp hp=>?_;simp only[zh,yv,or_false] at hp;obtain⟨n1,n2,n3,n4⟩:=hnk q hq;rcases hp with rfl|rfl|rfl|rfl|rfl|rfl<;>assumption
  ·simp
 ·show H9 _ _ ([_,_,_,_,_,_]++C5 rd);refine A1S s_ (x4 λq hq=>R0.2 (zw.2 ⟨q,hq,rfl⟩))
 ·simp
 ·simp
 ·simp
def C0S(l:List Ty)(S:List H0)(e:Ev)(T:Nat)(id:Nat)(k:Nat)(m:Int)(rest:List (Nat×Bx))(hnd:(rest.map Prod.fst).Nodup)(dT:∀q∈rest,q.1≠T)(hl8:l.length<=1000)(hf0:p9 e=0)(h0:0<=e.type)(h1:e.type<=(l.length:Int) - 1)(h2:1<=e.id)(h3:e.id<=999)
  (hDo:∀D id,(∀q∈(T,P5 S)::rest,q.1≠D)->A2 prog 195 [.ptr D 0 0] ((D,S2 l (.bsl T 0 S.length) e 0)::(T,P5 S)::rest) id (.int .i64 0) [(D,some (S2 l (.bsl id 0 (S.length - 1)) e m)),(T,none),(id,some ⟨(S.map W5).take k++(S.map W5).drop (k+1),zT,false,false⟩)]) :
  A2 prog 126 [.agg [.sl (l.map I7),.bsl T 0 S.length],S7 e] ((T,P5 S)::rest) id (.tup [.agg [.sl (l.map I7),.bsl id 0 (S.length - 1)],.int .i64 0]) [(T,none),(id,some ⟨(S.map W5).take k++(S.map W5).drop (k+1),zT,false,false⟩)]:=by
 have hFm:=λid=>j9 e id;have hw1:IntKind.i64.wrap ((l.length:Int) - 1)=(l.length:Int) - 1:=wrap64 o_;replace hDo:=λD id hne=>(hDo D id hne).setD ⟨[eD l (.bsl T 0 S.length) e 0],eD l (.bsl T 0 S.length) e 0,false,false⟩ rfl rfl rfl rfl hne;unfold P5 S2 eD S7 at *;refine w126.b.1 λE hP hR hl hid hB hu=>?_;simp[w126,C5];have hT:=hl (T,_) (za ..);simp only at hT;have T1:=lf hT;have hTn:∀x∈S.map W5,B2 E.G0.used x:=B8 hB (za ..);(refine yC rfl (hFm _) ?_; simp[T1]);refine A0 (t_ hf0) ?_;simp[T1];rw[hw1];(refine D9 hP rfl (F6 _ _ _ _) (t_ T1) (by simp[T1]<;>rfl) ?_; refine A3 4000 ?_; simp[T1]);refine A0 m_ ?_;simp[T1];(refine D9 hP rfl (F6 _ _ _ _) (t_ T1) (by simp[T1]<;>rfl) ?_; refine A3 4000 ?_; simp[T1]);refine A0 m_ ?_;simp[T1];refine A0 (t_ hf0) ?_;simp[T1];have hnk:∀q∈rest,q.1≠E.n0+29696/\q.1≠E.n0+2048/\q.1≠E.n0+1024/\q.1≠E.n0/\q.1≠T/\q.1≠E.n0+32768/\q.1≠id:=λq hq=>by
  have:=hl q (zb _ hq);have h2:=dT q hq;omega
 refine D9 hP rfl (hDo (E.n0+29696) _ λq hq=>by have:=(hl q hq).1; omega) s_ ⟨s_,t_ T1,?_⟩ ?_
 ·refine A48 (pre:=[_,_,_,_,_]) hnd λq hq p hp=>?_;simp only[zh,yv,or_false] at hp;obtain⟨n1,n2,n3,n4,n5,n6,n7⟩:=hnk q hq;rcases hp with rfl|rfl|rfl|rfl|rfl<;>assumption
 refine A3 4000 ?_;simp[T1];rw[hR];have hrn:F3 [(id,E.n0+32768)]:=by simp
 have hlk:∀z,z<E.n0->(z<id\/id+1024<=z)->lkN [(id,E.n0+32768)] z=none:=λz h1 h2=>by
  have a1:z≠id:=by omega
  simp[lkN,a1]
 have hgn:∀z,z<E.n0->T6 [(id,E.n0+32768)] z=false:=λz h1=>by
  have a1:z≠E.n0+32768:=by omega
  simp[T6,a1]
 refine E6 f_ [(id,E.n0+32768)] hrn ⟨?_,?_,?_,?_,?_,?_⟩
 ·simp[A4 hid]
 ·show A2A _ _ _ _ ([T]++(rest.map (·.1)++[T,id]));refine A0b ?_ (A0b (A3X hB hu hlk hgn λq hq=>⟨zb _ hq,?_,?_⟩) ?_)
  ·simp[C5,A4 hid,T1]
  ·simp only[E9];obtain⟨n1,n2,n3,n4,n5,n6,n7⟩:=hnk q hq;rw[B6 _ _ _ n7,B6 _ _ _ n5];refine A2k (pre:=[_]) hnd hq λp hp=>?_;simp only[zh,yv,or_false] at hp;subst hp;exact n5
  ·refine A2k (pre:=[_,_,_,_,_,_,_,_,_]) hnd hq λp hp=>?_;simp only[zh,yv,or_false] at hp;obtain⟨n1,n2,n3,n4,n5,n6,n7⟩:=hnk q hq;rcases hp with rfl|rfl|rfl|rfl|rfl|rfl|rfl|rfl|rfl<;>assumption
  ·simp[C5,A4 hid,T1];all_goals exact u5 (j8 hu hlk λx hx=>hTn x (xq hx)) (j8 hu hlk λx hx=>hTn x (xn hx))
 ·show H9 _ _ ([_,_,_,_,_,_,_,_,_]++C5 rest);refine A1S ?_ (x4 λq hq=>R0.2 (zw.2 ⟨q,zb _ hq,rfl⟩));simp[C5,T1]
 ·simp[C5]
 ·simp
 ·simp
def trB(T:Nat)(S:List H0):List (Nat×Bx):=(T,P5 S)::I4 S
def nmR(S:List H0):List Nat:=(I4 S).map Prod.fst
def d0(T:Nat)(S:List H0):List Nat:=T::nmR S
def nmO(o:H0):List Nat:=o.bxs.map Prod.fst
theorem B83(T:Nat)(S:List H0):(trB T S).map Prod.fst=d0 T S:=rfl
def V3(A B:List H0):I4 (A++B)=I4 A++I4 B:=ra
theorem o7(o:H0)(B:List H0):I4 (o::B)=o.bxs++I4 B:=rfl
def A1l(A B:List H0):nmR (A++B)=nmR A++nmR B:=by simp[nmR,V3]
def A5N(o:H0)(B:List H0):nmR (o::B)=nmO o++nmR B:=by simp[nmR,nmO,o7]
def A6S{q:Nat×Bx}{S:List H0}(h:q∈I4 S):q.1∈nmR S:=zw.2 ⟨q,h,rfl⟩
structure A6T(id T:Nat)(S:List H0)(wr:List (Nat×Option Bx))(T':Nat)(S':List H0):Prop where
 has:∀bx,J8 bx (trB T S)->J8 (E9 bx wr) (trB T' S')
 nd:(d0 T' S').Nodup
 nm:∀z∈d0 T' S',z∈d0 T S\/(id<=z/\z<id+1024)
 ok:∀o∈S',o.Ok
 kw:∀q∈wr,q.1∈d0 T S\/(id<=q.1/\q.1<id+1024)
def B84(n:Nat)(c:Cl):A0a (List.replicate n c) (List.replicate n none)=[]:=by
 induction n with
 | zero=>rfl
 | succ n ih=>simp only[List.replicate_succ,A0a,idB,ih]; rfl
def cl0:Cl:=⟨0,[],[]⟩
def A5O(e:Ev)(n id:Nat):H0:=⟨⟨e.type,e.id,List.replicate n cl0⟩,id+1,List.replicate n none⟩
def C0T(e:Ev)(n id:Nat):(A5O e n id).bxs=[(id+1,⟨List.replicate n zC,zC,false,false⟩)]:=by
 have h:List.zipWith L9 (List.replicate n cl0) (List.replicate n none)=List.replicate n zC:=by
  rw[List.zipWith_replicate,qu];rfl
 simp only[H0.bxs,A5O,B84,cBn,h]
def C3N(e:Ev)(n id:Nat):(A5O e n id).Ok:=⟨by simp[A5O],λk c h1 h2=>by
 simp only[A5O,vp] at h1;split at h1
 ·injection h1 with h1; subst h1; rfl
 ·cases h1⟩
def B85{id T:Nat}{A B:List H0}(e:Ev)(n:Nat)(hnd:(d0 T (A++B)).Nodup)(hfr:∀z∈d0 T (A++B),z<id\/id+1024<=z)(hok:∀o∈A++B,o.Ok):
  A6T id T (A++B) [(T,none),(id,some (P5 (A++A5O e n id::B))),(id+1,some ⟨List.replicate n zC,zC,false,false⟩)] id (A++A5O e n id::B):=by
 have hr:I4 (A++A5O e n id::B)=I4 A++((id+1,⟨List.replicate n zC,zC,false,false⟩)::I4 B):=by rw[V3,o7,C0T]; rfl
 have hn:nmR (A++A5O e n id::B)=nmR A++(id+1)::nmR B:=by simp[nmR,hr]
 have hT:=hfr T (za ..);have hAB:∀z∈nmR A++nmR B,(z<id\/id+1024<=z)/\z≠T:=λz hz=>by
  rw[←A1l] at hz;exact⟨hfr z (zb _ hz),λe=>by rw[d0,xh] at hnd; exact hnd.1 (e▸hz)⟩
 refine⟨λbx hb q hq=>?_,?_,λz hz=>?_,λo ho=>?_,λq hq=>?_⟩
 ·simp only[E9];rcases zh.1 hq with rfl|hq
  ·rw[B6 _ _ _ n_,C2]
  ·rw[hr] at hq;have key:q∈I4 (A++B)->T4 (T4 (T4 bx T none) id (some (P5 (A++A5O e n id::B)))) (id+1) (some ⟨List.replicate n zC,zC,false,false⟩) q.1=some q.2:=λhq=>by
    have:=hAB q.1 (by rw[←A1l]; exact A6S hq);rw[B6 _ _ _ o_,B6 _ _ _ o_,B6 _ _ _ this.2];exact hb q (zb _ hq)
   rcases zp.1 hq with hq|hq
   ·exact key (by rw[V3]; exact yw _ hq)
   ·rcases zh.1 hq with rfl|hq
    ·rw[C2]
    ·exact key (by rw[V3]; exact yg _ hq)
 ·rw[d0,xh,hn];rw[d0,A1l,xh,wh] at hnd;obtain⟨h0,h1,h2,h3⟩:=hnd;refine⟨λhm=>?_,wh.2 ⟨h1,xh.2 ⟨λhm=>?_,h2⟩,λa ha b hb=>?_⟩⟩
  ·rcases zp.1 hm with hm|hm
   ·have:=hAB id (yw _ hm); omega
   ·rcases zh.1 hm with hm|hm
    ·omega
    ·have:=hAB id (yg _ hm); omega
  ·have:=hAB (id+1) (yg _ hm); omega
  ·rcases zh.1 hb with rfl|hb
   ·have:=hAB a (yw _ ha); omega
   ·exact h3 a ha b hb
 ·rcases zh.1 hz with rfl|hz
  ·exact .inr ⟨zy _,o_⟩
  ·rw[hn] at hz;rcases zp.1 hz with hz|hz
   ·exact .inl (zb _ (by rw[A1l]; exact yw _ hz))
   ·rcases zh.1 hz with rfl|hz
    ·exact .inr ⟨o_,o_⟩
    ·exact .inl (zb _ (by rw[A1l]; exact yg _ hz))
 ·rcases zp.1 ho with ho|ho
  ·exact hok o (yw _ ho)
  ·rcases zh.1 ho with rfl|ho
   ·exact C3N e n id
   ·exact hok o (yg _ ho)
 ·simp only[zh,yv,or_false] at hq;rcases hq with rfl|rfl|rfl
  ·exact .inl (za ..)
  ·exact .inr ⟨zy _,n_⟩
  ·exact .inr ⟨n_,n_⟩
def B86{id T:Nat}{A B:List H0}{o:H0}(hnd:(d0 T (A++o::B)).Nodup)(hfr:∀z∈d0 T (A++o::B),z<id\/id+1024<=z)(hok:∀x∈A++o::B,x.Ok):
  A6T id T (A++o::B) [(T,none),(id,some (P5 (A++B)))] id (A++B):=by
 have hT:=hfr T (za ..);have hsub:∀q∈I4 (A++B),q∈I4 (A++o::B):=λq hq=>by
  rw[V3] at hq;rw[V3,o7];rcases zp.1 hq with h|h
  ·exact yw _ h
  ·exact yg _ (yg _ h)
 have hsubn:∀z∈nmR (A++B),z∈nmR (A++o::B):=λz hz=>by
  obtain⟨q,hq,rfl⟩:=zw.1 hz;exact A6S (hsub q hq)
 have hAB:∀z∈nmR (A++B),(z<id\/id+1024<=z)/\z≠T:=λz hz =>
  ⟨hfr z (zb _ (hsubn z hz)),λe=>by rw[d0,xh] at hnd; exact hnd.1 (e▸hsubn z hz)⟩
 refine⟨λbx hb q hq=>?_,?_,λz hz=>?_,λx ho=>?_,λq hq=>?_⟩
 ·simp only[E9];rcases zh.1 hq with rfl|hq
  ·rw[C2]
  ·have:=hAB q.1 (A6S hq);rw[B6 _ _ _ o_,B6 _ _ _ this.2];exact hb q (zb _ (hsub q hq))
 ·rw[d0,xh];refine⟨λhm=>by have:=hAB id hm; omega,?_⟩;rw[d0,A1l,A5N,xh,wh,wh] at hnd;obtain⟨h0,h1,⟨h4,h5,h6⟩,h3⟩:=hnd;rw[A1l];exact wh.2 ⟨h1,h5,λa ha b hb=>h3 a ha b (yg _ hb)⟩
 ·rcases zh.1 hz with rfl|hz
  ·exact .inr ⟨zy _,o_⟩
  ·exact .inl (zb _ (hsubn z hz))
 ·rcases zp.1 ho with ho|ho
  ·exact hok x (yw _ ho)
  ·exact hok x (yg _ (zb _ ho))
 ·simp only[zh,yv,or_false] at hq;rcases hq with rfl|rfl
  ·exact .inl (za ..)
  ·exact .inr ⟨zy _,n_⟩
def B87{id T:Nat}{A B:List H0}{o o':H0}{X:List (Nat×Bx)}(ho:o.bxs=(o.c,cBn o)::X)(ho':o'.bxs=(o.c,cBn o')::X)(he:W5 o'=W5 o)(hok':o'.Ok)(hnd:(d0 T (A++o::B)).Nodup)(hok:∀x∈A++o::B,x.Ok):
  A6T id T (A++o::B) [(o.c,some (cBn o'))] T (A++o'::B):=by
 have hr:I4 (A++o::B)=I4 A++((o.c,cBn o)::X++I4 B):=by rw[V3,o7,ho]
 have hr':I4 (A++o'::B)=I4 A++((o.c,cBn o')::X++I4 B):=by rw[V3,o7,ho']
 have hn:d0 T (A++o'::B)=d0 T (A++o::B):=by simp only[d0,nmR,hr,hr']; simp
 have ht:P5 (A++o'::B)=P5 (A++o::B):=by simp[P5,he]
 have hnd':=hnd;rw[d0,nmR,hr] at hnd';simp only[wx,yj,xh,wh,zp,zh,yz] at hnd';obtain⟨h0,h1,⟨h2,h3,h4,h5⟩,h6⟩:=hnd';refine⟨λbx hb q hq=>?_,by rw[hn]; exact hnd,λz hz=>.inl (by rw[←hn]; exact hz),λx hx=>?_,λq hq=>?_⟩
 ·simp only[E9];have key:q∈trB T (A++o::B)->q.1≠o.c->T4 bx o.c (some (cBn o')) q.1=some q.2:=λh1 h2=>by
   rw[B6 _ _ _ h2]; exact hb q h1
  rcases zh.1 hq with rfl|hq
  ·exact key (by rw[ht]; exact za ..) (λe=>h0 (.inr (.inl e)))
  ·rw[hr'] at hq;rcases zp.1 hq with hq|hq
   ·refine key (zb _ (by rw[hr]; exact yw _ hq)) λe=>h6 q.1 (zw.2 ⟨q,hq,rfl⟩) o.c (.inl rfl) e
   ·rcases zp.1 hq with hq|hq
    ·rcases zh.1 hq with rfl|hq
     ·exact C2 ..
     ·exact key (zb _ (by rw[hr]; exact yg _ (yw _ (zb _ hq)))) λe=>h2 (.inl (e▸zw.2 ⟨q,hq,rfl⟩))
    ·exact key (zb _ (by rw[hr]; exact yg _ (yg _ hq))) λe=>h2 (.inr (e▸zw.2 ⟨q,hq,rfl⟩))
 ·rcases zp.1 hx with hx|hx
  ·exact hok x (yw _ hx)
  ·rcases zh.1 hx with rfl|hx
   ·exact hok'
   ·exact hok x (yg _ (zb _ hx))
 ·simp only[zh,yv,or_false] at hq;subst hq;exact .inl (by simp[d0,nmR,hr])
def B88{id T:Nat}{A B:List H0}{o o':H0}{X I Y:List (Nat×Bx)}{b:Bx}{pre:List (Nat×Option Bx)}(ho:o.bxs=(o.c,cBn o)::(X++(I++Y)))(ho':o'.bxs=(o.c,cBn o')::(X++((id,b)::Y)))(hpre:∀p∈pre,p.1∈I.map Prod.fst)(he:W5 o'=W5 o)(hok':o'.Ok)
  (hnd:(d0 T (A++o::B)).Nodup) (hfr:∀z∈d0 T (A++o::B),z<id\/id+1024<=z) (hok:∀x∈A++o::B,x.Ok) :
  A6T id T (A++o::B) (pre++[(o.c,some (cBn o')),(id,some b)]) T (A++o'::B):=by
 have hr:I4 (A++o::B)=I4 A++((o.c,cBn o)::(X++(I++Y))++I4 B):=by rw[V3,o7,ho]
 have hr':I4 (A++o'::B)=I4 A++((o.c,cBn o')::(X++((id,b)::Y))++I4 B):=by rw[V3,o7,ho']
 have ht:P5 (A++o'::B)=P5 (A++o::B):=by simp[P5,he]
 have hnd':=hnd;rw[d0,nmR,hr] at hnd';simp only[wx,yj,xh,wh,zp,zh,yz] at hnd';obtain⟨h0,h1,⟨h2,⟨h7,⟨h8,h9,h10⟩,h11⟩,h4,h5⟩,h6⟩:=hnd';have hmem:∀z,z∈d0 T (A++o::B)↔z=T\/z∈(I4 A).map Prod.fst\/z=o.c\/z∈X.map Prod.fst\/z∈I.map Prod.fst\/z∈Y.map Prod.fst\/z∈(I4 B).map Prod.fst:=λz=>by
  simp only[d0,nmR,hr,wx,yj,zp,zh,yz,or_assoc]
 have hmem':∀z,z∈d0 T (A++o'::B)↔z=T\/z∈(I4 A).map Prod.fst\/z=o.c\/z∈X.map Prod.fst\/z=id\/z∈Y.map Prod.fst\/z∈(I4 B).map Prod.fst:=λz=>by
  simp only[d0,nmR,hr',wx,yj,zp,zh,yz,or_assoc]
 have hout:∀(bx:Nat->Option Bx) z,z∉I.map Prod.fst->z≠o.c->z≠id->E9 bx (pre++[(o.c,some (cBn o')),(id,some b)]) z=bx z:=λbx z h1 h2 h3=>by
  rw[o8];simp only[E9];rw[B6 _ _ _ h3,B6 _ _ _ h2];exact P6 (λh=>by
   obtain⟨p,hp,rfl⟩:=zw.1 h;exact h1 (hpre p hp))
 have hc:o.c<id\/id+1024<=o.c:=hfr _ ((hmem _).2 (.inr (.inr (.inl rfl))));refine⟨λbx hb q hq=>?_,?_,λz hz=>?_,λx hx=>?_,λq hq=>?_⟩
 ·have key:q∈trB T (A++o::B)->q.1∉I.map Prod.fst->q.1≠o.c->E9 bx (pre++[(o.c,some (cBn o')),(id,some b)]) q.1=some q.2:=λg1 g2 g3=>by
   have:q.1<id\/id+1024<=q.1:=hfr q.1 (zw.2 ⟨q,g1,rfl⟩);rw[hout _ _ g2 g3 o_]; exact hb q g1
  rcases zh.1 hq with rfl|hq
  ·exact key (by rw[ht]; exact za ..) (λe=>h0 (.inr (.inr (.inl (.inr (.inl e)))))) (λe=>h0 (.inr (.inl e)))
  ·rw[hr'] at hq;rcases zp.1 hq with hq|hq
   ·have hm:=tj (f:=Prod.fst) hq;exact key (zb _ (by rw[hr]; exact yw _ hq)) (λe=>h6 q.1 hm q.1 (.inr (.inl (.inr (.inl e)))) rfl) (λe=>h6 q.1 hm o.c (.inl rfl) e)
   ·rcases zp.1 hq with hq|hq
    ·rcases zh.1 hq with rfl|hq
     ·rw[o8];simp only[E9];rw[B6 _ _ _ o_,C2]
     ·rcases zp.1 hq with hq|hq
      ·have hm:=tj (f:=Prod.fst) hq;exact key (zb _ (by rw[hr]; exact yg _ (yw _ (zb _ (yw _ hq))))) (λe=>h11 q.1 hm q.1 (.inl e) rfl) (λe=>h2 (.inl (.inl (e▸hm))))
      ·rcases zh.1 hq with rfl|hq
       ·rw[o8];simp only[E9];rw[C2]
       ·have hm:=tj (f:=Prod.fst) hq;exact key (zb _ (by rw[hr]; exact yg _ (yw _ (zb _ (yg _ (yg _ hq)))))) (λe=>h10 q.1 e q.1 hm rfl) (λe=>h2 (.inl (.inr (.inr (e▸hm)))))
    ·have hm:=tj (f:=Prod.fst) hq;exact key (zb _ (by rw[hr]; exact yg _ (yg _ hq))) (λe=>h5 q.1 (.inr (.inl e)) q.1 hm rfl) (λe=>h2 (.inr (e▸hm)))
 ·rw[d0,nmR,hr'];simp only[wx,yj,xh,wh,zp,zh,yz];have fr:∀z,z∈d0 T (A++o::B)->z≠id:=λz hz=>by have:=hfr z hz; omega
  refine⟨λh=>?_,h1,⟨λh=>?_,⟨h7,⟨λh=>?_,h9⟩,λa ha b hb=>?_⟩,h4,λa ha b hb=>?_⟩,λa ha b hb=>?_⟩
  ·rcases h with h|h|(h|h|h)|h
   ·exact h0 (.inl h)
   ·exact h0 (.inr (.inl h))
   ·exact h0 (.inr (.inr (.inl (.inl h))))
   ·exact fr T (za ..) h
   ·exact h0 (.inr (.inr (.inl (.inr (.inr h)))))
   ·exact h0 (.inr (.inr (.inr h)))
  ·rcases h with (h|h|h)|h
   ·exact h2 (.inl (.inl h))
   ·omega
   ·exact h2 (.inl (.inr (.inr h)))
   ·exact h2 (.inr h)
  ·exact fr id ((hmem _).2 (t_ h)) rfl
  ·rcases hb with rfl|hb
   ·exact fr a ((hmem _).2 (t_ ha))
   ·exact h11 a ha b (.inr hb)
  ·rcases ha with ha|rfl|ha
   ·exact h5 a (.inl ha) b hb
   ·exactλe=>fr b ((hmem _).2 (t_ hb)) e.symm
   ·exact h5 a (.inr (.inr ha)) b hb
  ·rcases hb with rfl|(hb|rfl|hb)|hb
   ·exact h6 a ha _ (.inl rfl)
   ·exact h6 a ha b (.inr (.inl (.inl hb)))
   ·exact fr a ((hmem _).2 (t_ ha))
   ·exact h6 a ha b (.inr (.inl (.inr (.inr hb))))
   ·exact h6 a ha b (.inr (.inr hb))
 ·rcases (hmem' z).1 hz with h|h|h|h|h|h|h
  ·exact .inl ((hmem z).2 (t_ h))
  ·exact .inl ((hmem z).2 (t_ h))
  ·exact .inl ((hmem z).2 (t_ h))
  ·exact .inl ((hmem z).2 (t_ h))
  ·exact .inr ⟨o_,o_⟩
  ·exact .inl ((hmem z).2 (t_ h))
  ·exact .inl ((hmem z).2 (t_ h))
 ·rcases zp.1 hx with hx|hx
  ·exact hok x (yw _ hx)
  ·rcases zh.1 hx with rfl|hx
   ·exact hok'
   ·exact hok x (yg _ (zb _ hx))
 ·rcases zp.1 hq with hq|hq
  ·exact .inl ((hmem _).2 (by have:=hpre q hq; simp only[this,true_or,or_true]))
  ·simp only[zh,yv,or_false] at hq;rcases hq with rfl|rfl
   ·exact .inl ((hmem _).2 s_)
   ·exact .inr ⟨zy _,n_⟩
def C0U(l:List Ty)(S:List H0)(e:Ev)(i0:Int)(D T c:Nat)(id:Nat)(xs:List AV)(w:Int)(I:Nat)(BI:List Int)(d4:D≠I)(d5:T≠I)(d6:c≠I)(hk:3<=e.kind)(hfB:F4 (S.map H0.t) e.type e.id=true)(hS8:S.length<=1000)(d1:D≠T)(d2:D≠c)(d3:T≠c)
  (hCh:∀id,A2 prog 263 [.ptr D 0 0] [(D,S2 l (.bsl T 0 S.length) e (C3 (S.map H0.t) e.type e.id)),(T,P5 S),(c,⟨xs,zC,false,false⟩),(I,⟨BI.map eI,.int .i64 0,false,false⟩)] id (.int .i64 w) []) :
  A2 prog 195 [.ptr D 0 0] [(D,S2 l (.bsl T 0 S.length) e i0),(T,P5 S),(c,⟨xs,zC,false,false⟩),(I,⟨BI.map eI,.int .i64 0,false,false⟩)] id (.int .i64 w) [(D,some (S2 l (.bsl T 0 S.length) e (C3 (S.map H0.t) e.type e.id)))]:=by
 have hF:=λid=>S8 l S T e.type e.id id o_;have hk1:e.kind≠1:=by omega
 have hk2:e.kind≠2:=by omega
 unfold P5 S2 eD at *;refine w195.b.1 λE hP hR hl hid hB hu=>?_;simp[w195];have hD:=hl (D,_) (za ..);simp only at hD;have D1:=lf hD;have hT:=hl (T,_) (zb _ (za ..));simp only at hT;have T1:=lf hT;have hc:=hl (c,_) (zb _ (zb _ (za ..)));simp only at hc;have c1:=lf hc;have hI:=hl (I,_) (zb _ (zb _ (zb _ (za ..))));simp only at hI;have I1:=lf hI;have hTn:∀x∈S.map W5,B2 E.G0.used x:=B8 hB (zb _ (za ..));have hXn:∀x∈xs,B2 E.G0.used x:=B8 hB (zb _ (zb _ (za ..)));(refine yC rfl (hF _) ?_; simp[D1,T1,c1,d1,d1.symm,d2,d2.symm,d3,d3.symm,I1,d4,d4.symm,d5,d5.symm,d6,d6.symm]);refine A0 (t_ hk1) ?_;simp[D1,T1,c1,d1,d1.symm,d2,d2.symm,d3,d3.symm,I1,d4,d4.symm,d5,d5.symm,d6,d6.symm];refine A0 (t_ hk1) ?_;simp[D1,T1,c1,d1,d1.symm,d2,d2.symm,d3,d3.symm,I1,d4,d4.symm,d5,d5.symm,d6,d6.symm];refine A0 (t_ hk1) ?_;simp[D1,T1,c1,d1,d1.symm,d2,d2.symm,d3,d3.symm,I1,d4,d4.symm,d5,d5.symm,d6,d6.symm];refine A0 (t_ hfB) ?_;simp[D1,T1,c1,d1,d1.symm,d2,d2.symm,d3,d3.symm,I1,d4,d4.symm,d5,d5.symm,d6,d6.symm];refine H8 hP (v:=.bool false) (rd:=[]) (by simp[D1,T1,c1,d1,d1.symm,d2,d2.symm,d3,d3.symm,I1,d4,d4.symm,d5,d5.symm,d6,d6.symm]) rfl (λhc=>by simp[hk2] at hc) ?_;refine A3 4000 ?_;simp[D1,T1,c1,d1,d1.symm,d2,d2.symm,d3,d3.symm,I1,d4,d4.symm,d5,d5.symm,d6,d6.symm];refine A0 (t_ hk2) ?_;simp[D1,T1,c1,d1,d1.symm,d2,d2.symm,d3,d3.symm,I1,d4,d4.symm,d5,d5.symm,d6,d6.symm];(refine yC rfl (hCh _) ?_; simp[D1,T1,c1,d1,d1.symm,d2,d2.symm,d3,d3.symm,I1,d4,d4.symm,d5,d5.symm,d6,d6.symm]);refine yE hR [] (by simp[D1,T1,c1,d1,d1.symm,d2,d2.symm,d3,d3.symm,I1,d4,d4.symm,d5,d5.symm,d6,d6.symm,A4 hid]) λhrn=>⟨?_,?_,?_,?_,?_,?_⟩<;>(try simp[D1,T1,c1,d1,d1.symm,d2,d2.symm,d3,d3.symm,I1,d4,d4.symm,d5,d5.symm,d6,d6.symm,A4 hid]);exact⟨by exact yO hu hTn,by exact yO hu hXn⟩
def C0V(l:List Ty)(S:List H0)(e:Ev)(i0:Int)(D T c:Nat)(id:Nat)(xs:List AV)(k:Nat)(a b io:AV)(hx:xs[k]?=some (.agg [a,b,io]))(n:Int)(t:List UInt8)(I:Nat)(BI:List Int)(d4:D≠I)(d5:T≠I)(d6:c≠I)(hk:3<=e.kind)(hfB:F4 (S.map H0.t) e.type e.id=true)(hS8:S.length<=1000)(d1:D≠T)(d2:D≠c)(d3:T≠c)
  (hCh:∀id,A2 prog 263 [.ptr D 0 0] [(D,S2 l (.bsl T 0 S.length) e (C3 (S.map H0.t) e.type e.id)),(T,P5 S),(c,⟨xs,zC,false,false⟩),(I,⟨BI.map eI,.int .i64 0,false,false⟩)] id (.int .i64 0) [(c,some ⟨xs.set k (.agg [.int .i64 n,.str t,io]),zC,false,false⟩)]) :
  A2 prog 195 [.ptr D 0 0] [(D,S2 l (.bsl T 0 S.length) e i0),(T,P5 S),(c,⟨xs,zC,false,false⟩),(I,⟨BI.map eI,.int .i64 0,false,false⟩)] id (.int .i64 0) [(D,some (S2 l (.bsl T 0 S.length) e (C3 (S.map H0.t) e.type e.id))),(c,some ⟨xs.set k (.agg [.int .i64 n,.str t,io]),zC,false,false⟩)]:=by
 have hF:=λid=>S8 l S T e.type e.id id o_;have hk1:e.kind≠1:=by omega
 have hk2:e.kind≠2:=by omega
 unfold P5 S2 eD at *;refine w195.b.1 λE hP hR hl hid hB hu=>?_;simp[w195];have hD:=hl (D,_) (za ..);simp only at hD;have D1:=lf hD;have hT:=hl (T,_) (zb _ (za ..));simp only at hT;have T1:=lf hT;have hc:=hl (c,_) (zb _ (zb _ (za ..)));simp only at hc;have c1:=lf hc;have hI:=hl (I,_) (zb _ (zb _ (zb _ (za ..))));simp only at hI;have I1:=lf hI;have hTn:∀x∈S.map W5,B2 E.G0.used x:=B8 hB (zb _ (za ..));have hXn:∀x∈xs,B2 E.G0.used x:=B8 hB (zb _ (zb _ (za ..)));(refine yC rfl (hF _) ?_; simp[D1,T1,c1,d1,d1.symm,d2,d2.symm,d3,d3.symm,I1,d4,d4.symm,d5,d5.symm,d6,d6.symm]);refine A0 (t_ hk1) ?_;simp[D1,T1,c1,d1,d1.symm,d2,d2.symm,d3,d3.symm,I1,d4,d4.symm,d5,d5.symm,d6,d6.symm];refine A0 (t_ hk1) ?_;simp[D1,T1,c1,d1,d1.symm,d2,d2.symm,d3,d3.symm,I1,d4,d4.symm,d5,d5.symm,d6,d6.symm];refine A0 (t_ hk1) ?_;simp[D1,T1,c1,d1,d1.symm,d2,d2.symm,d3,d3.symm,I1,d4,d4.symm,d5,d5.symm,d6,d6.symm];refine A0 (t_ hfB) ?_;simp[D1,T1,c1,d1,d1.symm,d2,d2.symm,d3,d3.symm,I1,d4,d4.symm,d5,d5.symm,d6,d6.symm];refine H8 hP (v:=.bool false) (rd:=[]) (by simp[D1,T1,c1,d1,d1.symm,d2,d2.symm,d3,d3.symm,I1,d4,d4.symm,d5,d5.symm,d6,d6.symm]) rfl (λhc=>by simp[hk2] at hc) ?_;refine A3 4000 ?_;simp[D1,T1,c1,d1,d1.symm,d2,d2.symm,d3,d3.symm,I1,d4,d4.symm,d5,d5.symm,d6,d6.symm];refine A0 (t_ hk2) ?_;simp[D1,T1,c1,d1,d1.symm,d2,d2.symm,d3,d3.symm,I1,d4,d4.symm,d5,d5.symm,d6,d6.symm];(refine yC rfl (hCh _) ?_; simp[D1,T1,c1,d1,d1.symm,d2,d2.symm,d3,d3.symm,I1,d4,d4.symm,d5,d5.symm,d6,d6.symm]);refine yE hR [] (by simp[D1,T1,c1,d1,d1.symm,d2,d2.symm,d3,d3.symm,I1,d4,d4.symm,d5,d5.symm,d6,d6.symm,A4 hid]) λhrn=>⟨?_,?_,?_,?_,?_,?_⟩<;>(try simp[D1,T1,c1,d1,d1.symm,d2,d2.symm,d3,d3.symm,I1,d4,d4.symm,d5,d5.symm,d6,d6.symm,A4 hid]);have hio:B2 E.G0.used io:=by have:=hXn _ (zg hx); simp[B2,E8] at this; exact this.2.2
 refine⟨by exact yO hu hTn,I9 (A3J hu (by simp[B2,E8]; exact hio) λz h1 h2=>rfl) k (by exact yO hu hXn)⟩
def C0W(l:List Ty)(S:List H0)(e:Ev)(i0:Int)(D T c:Nat)(id:Nat)(xs:List AV)(k:Nat)(n:Int)(t:List UInt8)(ys:List Int)(I:Nat)(BI:List Int)(d4:D≠I)(d5:T≠I)(d6:c≠I)(hk:3<=e.kind)(hfB:F4 (S.map H0.t) e.type e.id=true)(hS8:S.length<=1000)(d1:D≠T)(d2:D≠c)(d3:T≠c)
  (hCh:∀id,A2 prog 263 [.ptr D 0 0] [(D,S2 l (.bsl T 0 S.length) e (C3 (S.map H0.t) e.type e.id)),(T,P5 S),(c,⟨xs,zC,false,false⟩),(I,⟨BI.map eI,.int .i64 0,false,false⟩)] id (.int .i64 0) [(c,some ⟨xs.set k (.agg [.int .i64 n,.str t,.bsl id 0 ys.length]),zC,false,false⟩),(id,some ⟨ys.map eI,.int .i64 0,false,false⟩)]) :
  A2 prog 195 [.ptr D 0 0] [(D,S2 l (.bsl T 0 S.length) e i0),(T,P5 S),(c,⟨xs,zC,false,false⟩),(I,⟨BI.map eI,.int .i64 0,false,false⟩)] id (.int .i64 0) [(D,some (S2 l (.bsl T 0 S.length) e (C3 (S.map H0.t) e.type e.id))),(c,some ⟨xs.set k (.agg [.int .i64 n,.str t,.bsl id 0 ys.length]),zC,false,false⟩),(id,some ⟨ys.map eI,.int .i64 0,false,false⟩)]:=by
 have hF:=λid=>S8 l S T e.type e.id id o_;have hk1:e.kind≠1:=by omega
 have hk2:e.kind≠2:=by omega
 unfold P5 S2 eD at *;refine w195.b.1 λE hP hR hl hid hB hu=>?_;simp[w195];have hD:=hl (D,_) (za ..);simp only at hD;have D1:=lf hD;have hT:=hl (T,_) (zb _ (za ..));simp only at hT;have T1:=lf hT;have hc:=hl (c,_) (zb _ (zb _ (za ..)));simp only at hc;have c1:=lf hc;have hI:=hl (I,_) (zb _ (zb _ (zb _ (za ..))));simp only at hI;have I1:=lf hI;have hTn:∀x∈S.map W5,B2 E.G0.used x:=B8 hB (zb _ (za ..));have hXn:∀x∈xs,B2 E.G0.used x:=B8 hB (zb _ (zb _ (za ..)));(refine yC rfl (hF _) ?_; simp[D1,T1,c1,d1,d1.symm,d2,d2.symm,d3,d3.symm,I1,d4,d4.symm,d5,d5.symm,d6,d6.symm]);refine A0 (t_ hk1) ?_;simp[D1,T1,c1,d1,d1.symm,d2,d2.symm,d3,d3.symm,I1,d4,d4.symm,d5,d5.symm,d6,d6.symm];refine A0 (t_ hk1) ?_;simp[D1,T1,c1,d1,d1.symm,d2,d2.symm,d3,d3.symm,I1,d4,d4.symm,d5,d5.symm,d6,d6.symm];refine A0 (t_ hk1) ?_;simp[D1,T1,c1,d1,d1.symm,d2,d2.symm,d3,d3.symm,I1,d4,d4.symm,d5,d5.symm,d6,d6.symm];refine A0 (t_ hfB) ?_;simp[D1,T1,c1,d1,d1.symm,d2,d2.symm,d3,d3.symm,I1,d4,d4.symm,d5,d5.symm,d6,d6.symm];refine H8 hP (v:=.bool false) (rd:=[]) (by simp[D1,T1,c1,d1,d1.symm,d2,d2.symm,d3,d3.symm,I1,d4,d4.symm,d5,d5.symm,d6,d6.symm]) rfl (λhc=>by simp[hk2] at hc) ?_;refine A3 4000 ?_;simp[D1,T1,c1,d1,d1.symm,d2,d2.symm,d3,d3.symm,I1,d4,d4.symm,d5,d5.symm,d6,d6.symm];refine A0 (t_ hk2) ?_;simp[D1,T1,c1,d1,d1.symm,d2,d2.symm,d3,d3.symm,I1,d4,d4.symm,d5,d5.symm,d6,d6.symm];(refine yC rfl (hCh _) ?_; simp[D1,T1,c1,d1,d1.symm,d2,d2.symm,d3,d3.symm,I1,d4,d4.symm,d5,d5.symm,d6,d6.symm]);refine yE hR [(id,E.n0+82944)] (by simp[D1,T1,c1,d1,d1.symm,d2,d2.symm,d3,d3.symm,I1,d4,d4.symm,d5,d5.symm,d6,d6.symm,A4 hid]) λhrn=>⟨?_,?_,?_,?_,?_,?_⟩<;>(try simp[D1,T1,c1,d1,d1.symm,d2,d2.symm,d3,d3.symm,I1,d4,d4.symm,d5,d5.symm,d6,d6.symm,A4 hid]);exact⟨by exact yO hu hTn,I9 (by simp[A4 hid]) k (by exact yO hu hXn)⟩
def B89(l:List Ty)(S:List H0)(e:Ev)(T:Nat)(id:Nat)(c:Nat)(xs:List AV)(k:Nat)(a b io:AV)(hx:xs[k]?=some (.agg [a,b,io]))(n:Int)(t:List UInt8)(I:Nat)(BI:List Int)(d3:T≠c)(d5:T≠I)(d6:c≠I)(m:Int)(hl8:l.length<=1000)(hf0:p9 e=0)(h0:0<=e.type)(h1:e.type<=(l.length:Int) - 1)(h2:1<=e.id)(h3:e.id<=999)
  (hDo:∀D id,(∀q∈[(T,P5 S),(c,⟨xs,zC,false,false⟩),(I,⟨BI.map eI,.int .i64 0,false,false⟩)],q.1≠D)->A2 prog 195 [.ptr D 0 0] ((D,S2 l (.bsl T 0 S.length) e 0)::[(T,P5 S),(c,⟨xs,zC,false,false⟩),(I,⟨BI.map eI,.int .i64 0,false,false⟩)]) id (.int .i64 0) ((D,some (S2 l (.bsl T 0 S.length) e m))::[(c,some ⟨xs.set k (.agg [.int .i64 n,.str t,io]),zC,false,false⟩)])) :
  A2 prog 126 [.agg [.sl (l.map I7),.bsl T 0 S.length],S7 e] [(T,P5 S),(c,⟨xs,zC,false,false⟩),(I,⟨BI.map eI,.int .i64 0,false,false⟩)] id (.tup [.agg [.sl (l.map I7),(.bsl T 0 S.length)],.int .i64 0]) ([(c,some ⟨xs.set k (.agg [.int .i64 n,.str t,io]),zC,false,false⟩)]):=by
 have hFm:=λid=>j9 e id;have hw1:IntKind.i64.wrap ((l.length:Int) - 1)=(l.length:Int) - 1:=wrap64 o_;replace hDo:=λD id hne=>(hDo D id hne).setD ⟨[eD l (.bsl T 0 S.length) e 0],eD l (.bsl T 0 S.length) e 0,false,false⟩ rfl rfl rfl rfl hne;unfold P5 S2 eD S7 at *;refine w126.b.1 λE hP hR hl hid hB hu=>?_;simp[w126,C5];have hT:=hl (T,_) (za ..);simp only at hT;have T1:=lf hT;have hTn:∀x∈S.map W5,B2 E.G0.used x:=B8 hB (za ..);have hc:=hl (c,_) (zb _ (za ..));simp only at hc;have c1:=lf hc;have hXn:∀x∈xs,B2 E.G0.used x:=B8 hB (zb _ (za ..));have hI:=hl (I,_) (zb _ (zb _ (za ..)));simp only at hI;have I1:=lf hI;(refine yC rfl (hFm _) ?_; simp[T1,c1,I1,d3,d3.symm,d5,d5.symm,d6,d6.symm]);refine A0 (t_ hf0) ?_;simp[T1,c1,I1,d3,d3.symm,d5,d5.symm,d6,d6.symm];rw[hw1];(refine D9 hP rfl (F6 _ _ _ _) (by simp[T1,c1,I1,d3,d3.symm,d5,d5.symm,d6,d6.symm]) (by simp[T1,c1,I1,d3,d3.symm,d5,d5.symm,d6,d6.symm]<;>rfl) ?_; refine A3 4000 ?_; simp[T1,c1,I1,d3,d3.symm,d5,d5.symm,d6,d6.symm]);refine A0 m_ ?_;simp[T1,c1,I1,d3,d3.symm,d5,d5.symm,d6,d6.symm];(refine D9 hP rfl (F6 _ _ _ _) (by simp[T1,c1,I1,d3,d3.symm,d5,d5.symm,d6,d6.symm]) (by simp[T1,c1,I1,d3,d3.symm,d5,d5.symm,d6,d6.symm]<;>rfl) ?_; refine A3 4000 ?_; simp[T1,c1,I1,d3,d3.symm,d5,d5.symm,d6,d6.symm]);refine A0 m_ ?_;simp[T1,c1,I1,d3,d3.symm,d5,d5.symm,d6,d6.symm];refine A0 (t_ hf0) ?_;simp[T1,c1,I1,d3,d3.symm,d5,d5.symm,d6,d6.symm];(refine D9 hP rfl (hDo _ _ (by exactλq hq=>by have:=(hl q hq).1; omega)) (by simp[T1,c1,I1,d3,d3.symm,d5,d5.symm,d6,d6.symm]) (by simp[T1,c1,I1,d3,d3.symm,d5,d5.symm,d6,d6.symm]<;>rfl) ?_; refine A3 4000 ?_; simp[T1,c1,I1,d3,d3.symm,d5,d5.symm,d6,d6.symm]);refine yE hR [] (by simp[T1,c1,I1,d3,d3.symm,d5,d5.symm,d6,d6.symm,A4 hid]) λhrn=>⟨?_,?_,?_,?_,?_,?_⟩<;>(try simp[T1,c1,I1,d3,d3.symm,d5,d5.symm,d6,d6.symm,A4 hid]);have hio:B2 E.G0.used io:=by have:=hXn _ (zg hx); simp[B2,E8] at this; exact this.2.2
 refine⟨by exact yO hu hTn,I9 (A3J hu (by simp[B2,E8]; exact hio) λz h1 h2=>rfl) k (by exact yO hu hXn)⟩
def B8A(l:List Ty)(S:List H0)(e:Ev)(T:Nat)(id:Nat)(c:Nat)(xs:List AV)(k:Nat)(n:Int)(t:List UInt8)(ys:List Int)(I:Nat)(BI:List Int)(d3:T≠c)(d5:T≠I)(d6:c≠I)(m:Int)(hl8:l.length<=1000)(hf0:p9 e=0)(h0:0<=e.type)(h1:e.type<=(l.length:Int) - 1)(h2:1<=e.id)(h3:e.id<=999)
  (hDo:∀D id,(∀q∈[(T,P5 S),(c,⟨xs,zC,false,false⟩),(I,⟨BI.map eI,.int .i64 0,false,false⟩)],q.1≠D)->A2 prog 195 [.ptr D 0 0] ((D,S2 l (.bsl T 0 S.length) e 0)::[(T,P5 S),(c,⟨xs,zC,false,false⟩),(I,⟨BI.map eI,.int .i64 0,false,false⟩)]) id (.int .i64 0) ((D,some (S2 l (.bsl T 0 S.length) e m))::[(c,some ⟨xs.set k (.agg [.int .i64 n,.str t,.bsl id 0 ys.length]),zC,false,false⟩),(id,some ⟨ys.map eI,.int .i64 0,false,false⟩)])) :
  A2 prog 126 [.agg [.sl (l.map I7),.bsl T 0 S.length],S7 e] [(T,P5 S),(c,⟨xs,zC,false,false⟩),(I,⟨BI.map eI,.int .i64 0,false,false⟩)] id (.tup [.agg [.sl (l.map I7),(.bsl T 0 S.length)],.int .i64 0]) ([(c,some ⟨xs.set k (.agg [.int .i64 n,.str t,.bsl id 0 ys.length]),zC,false,false⟩),(id,some ⟨ys.map eI,.int .i64 0,false,false⟩)]):=by
 have hFm:=λid=>j9 e id;have hw1:IntKind.i64.wrap ((l.length:Int) - 1)=(l.length:Int) - 1:=wrap64 o_;replace hDo:=λD id hne=>(hDo D id hne).setD ⟨[eD l (.bsl T 0 S.length) e 0],eD l (.bsl T 0 S.length) e 0,false,false⟩ rfl rfl rfl rfl hne;unfold P5 S2 eD S7 at *;refine w126.b.1 λE hP hR hl hid hB hu=>?_;simp[w126,C5];have hT:=hl (T,_) (za ..);simp only at hT;have T1:=lf hT;have hTn:∀x∈S.map W5,B2 E.G0.used x:=B8 hB (za ..);have hc:=hl (c,_) (zb _ (za ..));simp only at hc;have c1:=lf hc;have hXn:∀x∈xs,B2 E.G0.used x:=B8 hB (zb _ (za ..));have hI:=hl (I,_) (zb _ (zb _ (za ..)));simp only at hI;have I1:=lf hI;(refine yC rfl (hFm _) ?_; simp[T1,c1,I1,d3,d3.symm,d5,d5.symm,d6,d6.symm]);refine A0 (t_ hf0) ?_;simp[T1,c1,I1,d3,d3.symm,d5,d5.symm,d6,d6.symm];rw[hw1];(refine D9 hP rfl (F6 _ _ _ _) (by simp[T1,c1,I1,d3,d3.symm,d5,d5.symm,d6,d6.symm]) (by simp[T1,c1,I1,d3,d3.symm,d5,d5.symm,d6,d6.symm]<;>rfl) ?_; refine A3 4000 ?_; simp[T1,c1,I1,d3,d3.symm,d5,d5.symm,d6,d6.symm]);refine A0 m_ ?_;simp[T1,c1,I1,d3,d3.symm,d5,d5.symm,d6,d6.symm];(refine D9 hP rfl (F6 _ _ _ _) (by simp[T1,c1,I1,d3,d3.symm,d5,d5.symm,d6,d6.symm]) (by simp[T1,c1,I1,d3,d3.symm,d5,d5.symm,d6,d6.symm]<;>rfl) ?_; refine A3 4000 ?_; simp[T1,c1,I1,d3,d3.symm,d5,d5.symm,d6,d6.symm]);refine A0 m_ ?_;simp[T1,c1,I1,d3,d3.symm,d5,d5.symm,d6,d6.symm];refine A0 (t_ hf0) ?_;simp[T1,c1,I1,d3,d3.symm,d5,d5.symm,d6,d6.symm];(refine D9 hP rfl (hDo _ _ (by exactλq hq=>by have:=(hl q hq).1; omega)) (by simp[T1,c1,I1,d3,d3.symm,d5,d5.symm,d6,d6.symm]) (by simp[T1,c1,I1,d3,d3.symm,d5,d5.symm,d6,d6.symm]<;>rfl) ?_; refine A3 4000 ?_; simp[T1,c1,I1,d3,d3.symm,d5,d5.symm,d6,d6.symm]);refine yE hR [(id,E.n0+32768)] (by simp[T1,c1,I1,d3,d3.symm,d5,d5.symm,d6,d6.symm,A4 hid]) λhrn=>⟨?_,?_,?_,?_,?_,?_⟩<;>(try simp[T1,c1,I1,d3,d3.symm,d5,d5.symm,d6,d6.symm,A4 hid]);exact⟨by exact yO hu hTn,I9 (by simp[A4 hid]) k (by exact yO hu hXn)⟩
def B8B(kind tid:Int)(t:Tg):Bool:=t.type==kind&&t.id==tid
def V8(ta ia tb ib:Int):Bool:=decide (ta<tb)||(decide (ta=tb)&&decide (ia<ib))
def B8C{ta ia tb ib:Int}(h1:0<=ta/\ta<=1000)(h2:0<=tb/\tb<=1000)(h3:1<=ia/\ia<=999)(h4:1<=ib/\ib<=999):(0<=A1Z ta ia tb ib)↔V8 ta ia tb ib=false:=by
 unfold A1Z V8;split
 ·rw[wrap64 o_]; simp; omega
 ·rw[wrap64 o_]; simp; omega
def I64(n:Int):Prop:=-9223372036854775808<=n/\n<=9223372036854775807
def A5P{ta ia kind tid:Int}(h1:0<=ta/\ta<=1000)(h2 : -1<=kind/\kind<=1000)(h3:1<=ia/\ia<=999)(h4:I64 tid):A1Z ta ia kind tid=0↔ta=kind/\ia=tid:=by
 unfold A1Z;unfold I64 at h4;split
 ·rw[wrap64 o_]; omega
 ·by_cases hr:ia - tid<=9223372036854775807
  ·rw[wrap64 o_]; omega
  ·have:IntKind.i64.wrap (ia - tid)=ia - tid - 18446744073709551616:=by
    rw[IntKind.wrap_i64]; omega
   rw[this]; omega
def A7a(f:Nat->Int)(j:Nat):∀(n a b:Nat),b - a<n->a<=j->j<=b->(∀k,a<=k->k<j->f k<0)->(∀k,j<=k->k<b->¬f k<0)->bs f a b=j
 | 0,a,b,hn,_,_,_,_=>by omega
 | n+1,a,b,hn,h1,h2,h3,h4=>by
  rw[bs];split
  ·rename_i hab;split
   ·rename_i hm;have hj:(a+b) / 2<j:=by
     by_cases hh:(a+b) / 2<j
     ·exact hh
     ·exact (h4 _ o_ o_ hm).elim
    exact A7a f j n _ b o_ o_ h2 (λk hk hkj=>h3 k o_ hkj) h4
   ·rename_i hm;have hj:j<=(a+b) / 2:=by
     by_cases hh:j<=(a+b) / 2
     ·exact hh
     ·exact (hm (h3 _ o_ o_)).elim
    exact A7a f j n a _ o_ h1 hj h3 (λk hk hkb=>h4 k hk o_)
  ·omega
structure Srt(l:List Tg):Prop where
 ty:∀t∈l,0<=t.type/\t.type<=1000
 id:∀t∈l,1<=t.id/\t.id<=999
 asc:∀(i j:Nat) (a b:Tg),i<j->l[i]?=some a->l[j]?=some b->V8 a.type a.id b.type b.id=true
def A73{a b c d e f:Int}(h1:V8 a b c d=true)(h2:V8 c d e f=true):V8 a b e f=true:=by
 simp[V8] at *; omega
def X7{ta ia tb ib:Int}(h1:0<=ta/\ta<=1000)(h2:0<=tb/\tb<=1000)(h3:1<=ia/\ia<=999)(h4:1<=ib/\ib<=999):(A1Z ta ia tb ib<0)↔V8 ta ia tb ib=true:=by
 have:=B8C h1 h2 h3 h4;cases h:V8 ta ia tb ib<;>simp[h] at this<;>simp<;>omega
def Srt.found{l:List Tg}(h:Srt l){j:Nat}{t:Tg}(ht:l[j]?=some t):C3 l t.type t.id=j:=by
 have hlt:=(ze.1 ht).1;have htm:=zg ht;unfold C3;refine A7a _ j (l.length+1) 0 l.length o_ o_ o_ (λk _ hk=>?_) (λk hk hkl=>?_)
 ·obtain⟨u,hu⟩:∃u,l[k]?=some u:=⟨_,zc o_⟩;have hum:=zg hu;simp only[K6,hu];rw[X7 (h.ty u hum) (h.ty t htm) (h.id u hum) (h.id t htm)];exact h.asc k j u t hk hu ht
 ·obtain⟨u,hu⟩:∃u,l[k]?=some u:=⟨_,zc o_⟩;have hum:=zg hu;simp only[K6,hu];rw[X7 (h.ty u hum) (h.ty t htm) (h.id u hum) (h.id t htm)];rcases yi j k with hjk|hjk
  ·have:=h.asc j k t u hjk ht hu;simp[V8] at this ⊢; omega
  ·obtain rfl:k=j:=by omega
   rw[ht] at hu; injection hu with hu; subst hu
   simp[V8]
def Srt.findB{l:List Tg}(h:Srt l){kind tid:Int}(h2 : -1<=kind/\kind<=1000)(h4:I64 tid):F4 l kind tid=l.any (B8B kind tid):=by
 rw[wm,td];constructor
 ·intro hb;simp only[F4,yn,decide_eq_true_eq] at hb;obtain⟨hlt,hz⟩:=hb;obtain⟨u,hu⟩:∃u,l[C3 l kind tid]?=some u:=⟨_,zc hlt⟩;have hum:=zg hu;simp only[K6,hu] at hz;rw[A5P (h.ty u hum) h2 (h.id u hum) h4] at hz;exact⟨u,hum,by simp[B8B,hz.1,hz.2]⟩
 ·rintro⟨t,ht,he⟩;simp[B8B] at he;obtain⟨rfl,rfl⟩:=he;obtain⟨j,hj⟩:=yp.1 ht;have hf:=h.found hj;have hlt:=(ze.1 hj).1;simp only[F4,hf,yn,decide_eq_true_eq];refine⟨hlt,?_⟩;simp only[K6,hj];rw[A5P (h.ty t ht) h2 (h.id t ht) h4];exact⟨rfl,rfl⟩
def C5W{s:H7}(hS:A71 s.types)(hz:D0 (λi t=>A1R s i t) s.things 0=0):(∀t∈s.things,A4h s t)/\Srt s.things:=by
 have h1:∀(k:Nat) t,s.things[k]?=some t->A1R s k t=0:=λk t hk=>by
  have:=R3 _ _ _ hz k t hk
  rwa [xe] at this
 have hall:∀t∈s.things,A4h s t:=λt ht=>by
  obtain⟨k,hk⟩:=yp.1 ht;have h0:=h1 k t hk;refine C5V ?_;unfold A1R at h0;split at h0
  ·rename_i g; exact (g h0).elim
  ·rename_i g; exact zl g
 have hty:∀t∈s.things,0<=t.type/\t.type<=1000:=λt ht=>⟨(hall t ht).ty0,by have:=(hall t ht).ty1; have:=hS.len; omega⟩;have hid:∀t∈s.things,1<=t.id/\t.id<=999:=λt ht=>⟨(hall t ht).id1,(hall t ht).id2⟩;have hstep:∀(i:Nat) (a b:Tg),s.things[i]?=some a->s.things[i+1]?=some b->V8 a.type a.id b.type b.id=true:=λi a b ha hb=>by
  have h0:=h1 (i+1) b hb;unfold A1R at h0;split at h0
  ·rename_i g; exact (g h0).elim
  split at h0
  ·omega
  ·rename_i g;simp[K6,ha] at g;have ham:=zg ha;have hbm:=zg hb;exact (X7 (hty a ham) (hty b hbm) (hid a ham) (hid b hbm)).1 g
 refine⟨hall,hty,hid,λi j a b hij ha hb=>?_⟩;obtain⟨d,rfl⟩:∃d,j=i+1+d:=⟨j - i - 1,o_⟩;clear hij;induction d generalizing b with
 | zero=>exact hstep i a b ha hb
 | succ d ih =>
  obtain⟨c,hc⟩:∃c,s.things[i+1+d]?=some c:=⟨_,zc (by have:=(ze.1 hb).1; omega)⟩;exact A73 (ih c hc) (hstep _ c b hc (by rw[show i+1+d+1=i+1+(d+1) by omega]; exact hb))
def B3K{α:Type}(p:α->Bool):∀(l:List α) (i:Nat),-1<=B9 p l i/\B9 p l i<(i+l.length:Nat) \/B9 p l i = -1
 | [],i=>.inr rfl
 | x::l,i=>by
  simp only[B9];split
  ·exact .inl ⟨o_,m_⟩
  ·rcases B3K p l (i+1) with h|h
   ·exact .inl ⟨h.1,by have:=h.2; simp at this ⊢; omega⟩
   ·exact .inr h
def B8D{l:List Ty}(hS:A71 l)(n:List UInt8): -1<=B7 l n/\B7 l n<=1000:=by
 have:=hS.len;rcases B3K (λt:Ty=>t.name==n) l 0 with h|h
 ·unfold B7; omega
 ·unfold B7; omega
end Go.Am
