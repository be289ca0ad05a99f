/- Parts of the proof: an abstract machine for Go functions, and what functions of the program give back (Do10, Do11, Ra1, Do12, Ra2, Ra3, Ra4, Ra5, Do13, Ra2b, So1, St6). No condition. -/
import Derived.Test.YtphjabjjnncebaaGreatDoorXL
import Derived.Test.YtphjabjjnncebaaGreatDoorXJ
set_option maxRecDepth 100000
set_option linter.all false
set_option maxHeartbeats 1000000
namespace Go.Am
open Go Go.Proofs Go.RowKit Go.Proofs.Tryz
def B0g{q:Nat×Bx}:∀{l:List (Nat×Bx)},q∈l->(q.1,some q.2)∈D4 l
 | p::l,h=>by
  obtain⟨i,b⟩:=p;rcases zi.1 h with rfl|h
  ·exact za ..
  ·exact zb _ (B0g h)
def A8w:∀{l:List (Nat×Bx)},(D4 l).map Prod.fst=l.map Prod.fst
 | []=>rfl
 | (i,b)::l=>by simp[D4,A8w (l:=l)]
def B6z{l:List (Nat×Bx)}(hn:(l.map Prod.fst).Nodup){q:Nat×Bx}(h:q∈l):bk (D4 l) q.1=some q.2 :=
 A2O (by rw[A8w]; exact hn) (B0g h)
def A0d{R:Rn}{S:Nat->Prop}{bx':List (Nat×Option Bx)}{fin:Nat->Option Bx}:∀{a b:List Nat},A2L R S bx' fin a->A2L R S bx' fin b->A2L R S bx' fin (a++b)
 | [],_,_,h=>h
 | _::_,_,h1,h=>⟨h1.1,A0d h1.2 h⟩
def A3m{E:O8}{id:Nat}{rd:List (Nat×Bx)}{wr bx':List (Nat×Option Bx)}{rn:List (Nat×Nat)}{hrn:F7 rn}(hh:K8 E.β rd)(hu:∀z,E.G0.used z->z<id\/id+1024<=z)
  (hk:∀z,z<E.n0->(z<id\/id+1024<=z)->lkN rn z=none) (hg:∀z,z<E.n0->T7 rn z=false):∀{rest:List (Nat×Bx)},(∀q∈rest,q∈rd/\F6 (bk (D4 rd)) wr q.1=some q.2/\bk bx' q.1=some q.2)->A2L (P2 E.n0 rn hrn) E.G0.used bx' (F6 (bk (D4 rd)) wr) (rest.map (·.1))
 | [],_=>trivial
 | q::rest,h=>by
  obtain⟨h1,h2,h3⟩:=h q (za ..);refine⟨?_,A3m hh hu hk hg λq hq=>h q (zb _ hq)⟩;rw[h2];have hus:=E.rs0.boxNames (hh q h1);have hlt:=E.old _ hus.1;refine⟨q.1,q.2,?_,h3,BxR.same λi x hx=>L7 (B6f hu hk) x (hus.2 i x hx)⟩;show rnF E.n0 rn q.1=some q.1;unfold rnF;rw[hk _ hlt (hu _ hus.1)];simp[hlt,hg _ hlt]
def A1Z{n0:Nat}{bx:List (Nat×Option Bx)}:∀{a b:List (Nat×Option Bx)},I8 n0 bx a->I8 n0 bx b->I8 n0 bx (a++b)
 | [],_,_,h=>h
 | _::_,_,h1,h=>⟨h1.1,A1Z h1.2 h⟩
def x9{n0:Nat}{bx:List (Nat×Option Bx)}:∀{l:List (Nat×Bx)},(∀q∈l,K6 q.1 bx)->I8 n0 bx (D4 l)
 | [],_=>trivial
 | (i,b)::l,h=>⟨.inr (h _ (za ..)),x9 λq hq=>h q (zb _ hq)⟩
def A30{rest:List (Nat×Bx)}(hn:(rest.map Prod.fst).Nodup){q:Nat×Bx}(hq:q∈rest):∀{pre:List (Nat×Option Bx)},(∀p∈pre,q.1≠p.1)->bk (pre++D4 rest) q.1=some q.2
 | [],_=>B6z hn hq
 | p::pre,h=>by
  rw[yw,A5Q (h p (za ..))];exact A30 hn hq λp hp=>h p (zb _ hp)
def A4N{rest:List (Nat×Bx)}{pre:List (Nat×Option Bx)}(hn:(rest.map Prod.fst).Nodup)(h:∀q∈rest,∀p∈pre,q.1≠p.1):A04 (bk (pre++D4 rest)) rest :=
 A04.of λq hq=>A30 hn hq (h q hq)
def C1A(l:List Ty)(S:List I0)(e:Ev)(i0:Int)(D T:Nat)(id:Nat)(hk:e.kind=2)(hfB:F2 (S.map I0.t) e.type e.id=true)(hS:∀o∈S,o.Ok)(h5:l.length<=1000)(hS8:S.length<=1000)(d1:D≠T)(hnd:((J2 S).map Prod.fst).Nodup)(dD:∀q∈J2 S,q.1≠D)(dT:∀q∈J2 S,q.1≠T)
  (hok:∀t∈S.map I0.t,0<=t.type/\t.type.toNat<l.length/\t.cells.length=(D5 l t.type).length/\t.cells.length<=1000000/\∀c∈t.cells,c.ids.length<=6) (hm:T8 (W3 l e) l (S.map I0.t)=false) :
  A2 prog 195 [.ptr D 0 0] ((D,S5 l (.bsl T 0 S.length) e i0)::(T,P9 S)::J2 S) id (.int .i64 4) [(D,some (S5 l (.bsl T 0 S.length) e (C3 (S.map I0.t) e.type e.id)))]:=by
 have hF:=λid=>T3 l S T e.type e.id id o_;have hM:=λi id=>B0f l S e i D T id hS h5 o_ hok;rw[hm] at hM;generalize hrest:J2 S=rest at *;unfold P9 S5 eD at *;refine w195.b.1 λE hP hR hl hid hB hu=>?_;simp[w195,D4];have hD:=hl (D,_) (za ..);simp only at hD;have D1:=lf hD;have hT:=hl (T,_) (zb _ (za ..));simp only at hT;have T1:=lf hT;have hTn:∀x∈S.map W9,B2 E.G0.used x:=C1 hB (zb _ (za ..));(refine yC rfl (hF _) ?_; simp[d1.symm]);refine A0 (t_ hk) ?_;simp[d1.symm];refine A0 (t_ hk) ?_;simp;refine A0 (t_ hk) ?_;simp;refine A0 (t_ hfB) ?_;simp;refine H5 hP s_ rfl (λhc=>⟨hM (C3 (S.map I0.t) e.type e.id) _,by simp; simp[hk],?_⟩) ?_
 ·refine⟨s_,by simp[d1.symm],A4N (pre:=[_,_,_]) hnd λq hq p hp=>?_⟩;simp only[zi,yp,or_false] at hp;rcases hp with rfl|rfl|rfl
  ·exact dD q hq
  ·exact dD q hq
  ·exact dT q hq
 refine A3 4000 ?_;simp;refine A7 (t_ hk) ?_;simp;rw[hR];have hrn:F7 []:=trivial;refine F5 f_ [] hrn ⟨?_,?_,?_,?_,?_,?_⟩
 ·simp
 ·show A2L _ _ _ _ ([D,T]++(rest.map (·.1)++[D]));refine A0d ?_ (A0d (A3m hB hu (λz _ _=>rfl) (λz _=>rfl) λq hq=>⟨zb _ (zb _ hq),?_,?_⟩) ?_)
  ·simp[D4,D1,T1,d1.symm];all_goals exact yO hu hTn
  ·simp only[F6];rw[B6 _ _ _ (dD q hq)];refine A30 (pre:=[_,_]) hnd hq λp hp=>?_;simp only[zi,yp,or_false] at hp;rcases hp with rfl|rfl
   ·exact dD q hq
   ·exact dT q hq
  ·refine A30 (pre:=[_,_,_]) hnd hq λp hp=>?_;simp only[zi,yp,or_false] at hp;rcases hp with rfl|rfl|rfl
   ·exact dD q hq
   ·exact dD q hq
   ·exact dT q hq
  ·simp[D1,T1]
 ·show I8 _ _ ([_,_,_]++D4 rest);refine A1Z ?_ (x9 λq hq=>R4.2 (zw.2 ⟨q,zb _ (zb _ hq),rfl⟩));simp[D4,d1,d1.symm]
 ·simp[D4]
 ·simp
 ·simp
def C4G(l:List Ty)(S:List I0)(e:Ev)(i0:Int)(D T:Nat)(id:Nat)(hk:e.kind=2)(hfB:F2 (S.map I0.t) e.type e.id=true)(hS:∀o∈S,o.Ok)(h5:l.length<=1000)(hS8:S.length<=1000)(d1:D≠T)(hnd:((J2 S).map Prod.fst).Nodup)(dD:∀q∈J2 S,q.1≠D)(dT:∀q∈J2 S,q.1≠T)
  (hok:∀t∈S.map I0.t,0<=t.type/\t.type.toNat<l.length/\t.cells.length=(D5 l t.type).length/\t.cells.length<=1000000/\∀c∈t.cells,c.ids.length<=6) (hm:T8 (W3 l e) l (S.map I0.t)=true) :
  A2 prog 195 [.ptr D 0 0] ((D,S5 l (.bsl T 0 S.length) e i0)::(T,P9 S)::J2 S) id (.int .i64 0) [(D,some (S5 l (.bsl id 0 (S.length - 1)) e (C3 (S.map I0.t) e.type e.id))),(T,none),(id,some ⟨(S.map W9).take (C3 (S.map I0.t) e.type e.id)++(S.map W9).drop (C3 (S.map I0.t) e.type e.id+1),zT,false,false⟩)]:=by
 have hF:=λid=>T3 l S T e.type e.id id o_;have hM:=λi id=>B0f l S e i D T id hS h5 o_ hok;rw[hm] at hM;generalize hrest:J2 S=rest at *;unfold P9 S5 eD at *;refine w195.b.1 λE hP hR hl hid hB hu=>?_;simp[w195,D4];have hD:=hl (D,_) (za ..);simp only at hD;have D1:=lf hD;have hT:=hl (T,_) (zb _ (za ..));simp only at hT;have T1:=lf hT;have hTn:∀x∈S.map W9,B2 E.G0.used x:=C1 hB (zb _ (za ..));(refine yC rfl (hF _) ?_; simp[d1.symm]);refine A0 (t_ hk) ?_;simp[d1.symm];refine A0 (t_ hk) ?_;simp;refine A0 (t_ hk) ?_;simp;refine A0 (t_ hfB) ?_;simp;refine H5 hP s_ rfl (λhc=>⟨hM (C3 (S.map I0.t) e.type e.id) _,by simp; simp[hk],?_⟩) ?_
 ·refine⟨s_,by simp[d1.symm],A4N (pre:=[_,_,_]) hnd λq hq p hp=>?_⟩;simp only[zi,yp,or_false] at hp;rcases hp with rfl|rfl|rfl
  ·exact dD q hq
  ·exact dD q hq
  ·exact dT q hq
 refine A3 4000 ?_;simp;refine A7 (t_ hk) ?_;simp;have hlt:C3 (S.map I0.t) e.type e.id<S.length:=by unfold F2 at hfB; simp at hfB; exact hfB.1
 have hw1:IntKind.i64.wrap ((C3 (S.map I0.t) e.type e.id:Int)+1)=(C3 (S.map I0.t) e.type e.id:Int)+1:=wrap64 o_;have hDl:=λid=>B5i S T (C3 (S.map I0.t) e.type e.id) id hlt o_;rw[hw1];generalize C3 (S.map I0.t) e.type e.id=m at *;(refine yC rfl (hDl _) ?_; simp[D1,d1,d1.symm]);rw[hR];have hrn:F7 [(id,E.n0+91136)]:=by simp
 have hn9:∀q∈rest,q.1≠E.n0+91136:=λq hq=>by have:=(hl q (zb _ (zb _ hq))).1; omega
 have hni:∀q∈rest,q.1≠id:=λq hq=>by have:=(hl q (zb _ (zb _ hq))).2; omega
 have hlk:∀z,z<E.n0->(z<id\/id+1024<=z)->lkN [(id,E.n0+91136)] z=none:=λz h1 h2=>by
  have a1:z≠id:=by omega
  simp[lkN,a1]
 have hgn:∀z,z<E.n0->T7 [(id,E.n0+91136)] z=false:=λz h1=>by
  have a1:z≠E.n0+91136:=by omega
  simp[T7,a1]
 refine F5 f_ [(id,E.n0+91136)] hrn ⟨?_,?_,?_,?_,?_,?_⟩
 ·simp
 ·show A2L _ _ _ _ ([D,T]++(rest.map (·.1)++[D,T,id]));refine A0d ?_ (A0d (A3m hB hu hlk hgn λq hq=>⟨zb _ (zb _ hq),?_,?_⟩) ?_)
  ·simp[I5 hid,D1,T1,d1]
  ·simp only[F6];rw[B6 _ _ _ (hni q hq),B6 _ _ _ (dT q hq),B6 _ _ _ (dD q hq)];refine A30 (pre:=[_,_]) hnd hq λp hp=>?_;simp only[zi,yp,or_false] at hp;rcases hp with rfl|rfl
   ·exact dD q hq
   ·exact dT q hq
  ·refine A30 (pre:=[_,_,_,_,_,_]) hnd hq λp hp=>?_;simp only[zi,yp,or_false] at hp;rcases hp with rfl|rfl|rfl|rfl|rfl|rfl
   ·exact dD q hq
   ·exact hn9 q hq
   ·exact dT q hq
   ·exact dD q hq
   ·exact dD q hq
   ·exact dT q hq
  ·simp[I5 hid,D1,T1,d1];all_goals exact v6 (m8 hu hlk λx hx=>hTn x (xn hx)) (m8 hu hlk λx hx=>hTn x (xh hx))
 ·show I8 _ _ ([_,_,_,_,_,_]++D4 rest);refine A1Z ?_ (x9 λq hq=>R4.2 (zw.2 ⟨q,zb _ (zb _ hq),rfl⟩));simp[D4,D1,T1,d1,d1.symm]
 ·simp[D4]
 ·simp
 ·simp
def A2.setD{P:Program}{f:Nat}{args:List AV}{D:Nat}{x:Bx}{o:Option Bx}{rd:List (Nat×Bx)}{id:Nat}{res:AV}{wr:List (Nat×Option Bx)}(h:A2 P f args ((D,x)::rd) id res ((D,o)::wr))(x':Bx)(h1:x'.xs=x.xs)(h2:x'.sz=x.sz)(h3:x'.ro=x.ro)(h4:x'.frz=x.frz)(hne:∀q∈rd,q.1≠D):
  A2 P f args ((D,x')::rd) id res ((D,o)::wr):=by
 refine⟨h.1,λC G bx w vs nb hs hv hh hnb hid=>?_⟩;have hD:bx D=some x':=hh (D,x') (za ..);have s1:RS C G (T6 bx D (some x)) w:=by
  refine⟨hs.below,hs.size,hs.fzok,hs.fzold,λi y hy hn=>?_,λi y hy hn=>?_,hs.nlu,hs.used,hs.inj,hs.rows⟩
  ·by_cases e:i=D
   ·subst e;rw[C7] at hy;injection hy with hy
    subst hy;have:=hs.box i x' hD hn;rw[h1,h2,h3,h4] at this;exact this
   ·rw[B6 _ _ _ e] at hy; exact hs.box i y hy hn
  ·by_cases e:i=D
   ·subst e;rw[C7] at hy;injection hy with hy
    subst hy;have:=hs.nil i x' hD hn;rw[h1,h3] at this;exact this
   ·rw[B6 _ _ _ e] at hy; exact hs.nil i y hy hn
 have:=h.2 C G _ w vs nb s1 hv (λq hq=>by
  rcases zi.1 hq with rfl|hq
  ·exact C7 ..
  ·rw[B6 _ _ _ (hne q hq)]; exact hh q (zb _ hq)) hnb hid
 refine Calls.mono this λe w' hq=>?_;obtain⟨v,G',q1,q2,q3⟩:=hq;refine⟨v,G',q1,?_,q3⟩;have e1:T6 (T6 bx D (some x)) D o=T6 bx D o:=by
  funext y
  by_cases e:y=D
  ·subst e; rw[C7,C7]
  ·rw[B6 _ _ _ e,B6 _ _ _ e,B6 _ _ _ e]
 simp only[F6] at q2 ⊢;rw[e1] at q2;exact q2
def n9(l:List Ty)(e:Ev):Int:=if W7 e≠0 then W7 e else if ¬(0<=e.type/\e.type<=(l.length:Int) - 1) then 5 else if ¬(1<=e.id/\e.id<=999) then 3 else 0
def eS0:AV:=.agg [.nils,.nils]
def C1B(l:List Ty)(e:Ev)(T n:Nat)(id:Nat)(hl8:l.length<=1000)(hw:n9 l e≠0):
  A2 prog 126 [.agg [.sl (l.map I9),.bsl T 0 n],S1 e] [] id (.tup [eS0,.int .i64 (n9 l e)]) []:=by
 have hFm:=λid=>m9 e id;have hw1:IntKind.i64.wrap ((l.length:Int) - 1)=(l.length:Int) - 1:=wrap64 o_;unfold S1 eS0 at *;refine w126.b.1 λE hP hR hl hid hB hu=>?_;simp[w126];(refine yH rfl (hFm _) ?_; simp);refine D0 (λh=>?_) (λh=>?_)<;>simp
 ·refine A7 h ?_;simp;exact yP hR (h1:=by simp; unfold n9; simp at h; simp[h])
 have hf:W7 e=0:=by simpa using h
 rw[hw1];(refine yH rfl (H1 _ _ _ _) ?_; simp);refine D0 (λh1=>?_) (λh1=>?_)<;>simp
 ·exact yP hR (h1:=by simp; unfold n9; simp at h1; simp[hf]; omega)
 (refine yH rfl (H1 _ _ _ _) ?_; simp);refine D0 (λh2=>?_) (λh2=>?_)<;>simp
 ·exact yP hR (h1:=by simp; unfold n9; simp at h1 h2; simp[hf]; omega)
 exfalso;apply hw;unfold n9;simp at h1 h2;rw[zf o_,zf o_,zf o_]
def B1o(l:List Ty)(S:List I0)(e:Ev)(i0:Int)(D T c:Nat)(id:Nat)(xs:List AV)(w:Int)(hk:3<=e.kind)(hfB:F2 (S.map I0.t) e.type e.id=true)(hS8:S.length<=1000)(d1:D≠T)(d2:D≠c)(d3:T≠c)
  (hCh:∀id,A2 prog 263 [.ptr D 0 0] [(D,S5 l (.bsl T 0 S.length) e (C3 (S.map I0.t) e.type e.id)),(T,P9 S),(c,⟨xs,zC,false,false⟩)] id (.int .i64 w) []) :
  A2 prog 195 [.ptr D 0 0] [(D,S5 l (.bsl T 0 S.length) e i0),(T,P9 S),(c,⟨xs,zC,false,false⟩)] id (.int .i64 w) [(D,some (S5 l (.bsl T 0 S.length) e (C3 (S.map I0.t) e.type e.id)))]:=by
 have hF:=λid=>T3 l S T e.type e.id id o_;have hk1:e.kind≠1:=by omega
 have hk2:e.kind≠2:=by omega
 unfold P9 S5 eD at *;refine w195.b.1 λE hP hR hl hid hB hu=>?_;simp[w195];have hD:=hl (D,_) (za ..);simp only at hD;have D1:=lf hD;have hT:=hl (T,_) (zb _ (za ..));simp only at hT;have T1:=lf hT;have hc:=hl (c,_) (zb _ (zb _ (za ..)));simp only at hc;have c1:=lf hc;have hTn:∀x∈S.map W9,B2 E.G0.used x:=C1 hB (zb _ (za ..));have hXn:∀x∈xs,B2 E.G0.used x:=C1 hB (zb _ (zb _ (za ..)));(refine yC rfl (hF _) ?_; simp[d1.symm]);refine A0 (t_ hk1) ?_;simp[d1.symm];refine A0 (t_ hk1) ?_;simp;refine A0 (t_ hk1) ?_;simp;refine A0 (t_ hfB) ?_;simp;refine H5 hP (v:=.bool false) (rd:=[]) s_ rfl (λhc=>by simp[hk2] at hc) ?_;refine A3 4000 ?_;simp;refine A0 (t_ hk2) ?_;simp;(refine yC rfl (hCh _) ?_; simp[d1.symm,d2.symm,d3.symm]);refine yE hR [] s_ λhrn=>⟨?_,?_,?_,?_,?_,?_⟩<;>(try simp[D1,T1,c1,d1,d1.symm,d2,d2.symm,d3,d3.symm]);exact⟨by exact yO hu hTn,by exact yO hu hXn⟩
def C4H(l:List Ty)(S:List I0)(e:Ev)(i0:Int)(D T c:Nat)(id:Nat)(xs:List AV)(k:Nat)(a b io:AV)(hx:xs[k]?=some (.agg [a,b,io]))(n:Int)(t:List UInt8)(hk:3<=e.kind)(hfB:F2 (S.map I0.t) e.type e.id=true)(hS8:S.length<=1000)(d1:D≠T)(d2:D≠c)(d3:T≠c)
  (hCh:∀id,A2 prog 263 [.ptr D 0 0] [(D,S5 l (.bsl T 0 S.length) e (C3 (S.map I0.t) e.type e.id)),(T,P9 S),(c,⟨xs,zC,false,false⟩)] id (.int .i64 0) [(c,some ⟨xs.set k (.agg [.int .i64 n,.str t,io]),zC,false,false⟩)]) :
  A2 prog 195 [.ptr D 0 0] [(D,S5 l (.bsl T 0 S.length) e i0),(T,P9 S),(c,⟨xs,zC,false,false⟩)] id (.int .i64 0) [(D,some (S5 l (.bsl T 0 S.length) e (C3 (S.map I0.t) e.type e.id))),(c,some ⟨xs.set k (.agg [.int .i64 n,.str t,io]),zC,false,false⟩)]:=by
 have hF:=λid=>T3 l S T e.type e.id id o_;have hk1:e.kind≠1:=by omega
 have hk2:e.kind≠2:=by omega
 unfold P9 S5 eD at *;refine w195.b.1 λE hP hR hl hid hB hu=>?_;simp[w195];have hD:=hl (D,_) (za ..);simp only at hD;have D1:=lf hD;have hT:=hl (T,_) (zb _ (za ..));simp only at hT;have T1:=lf hT;have hc:=hl (c,_) (zb _ (zb _ (za ..)));simp only at hc;have c1:=lf hc;have hTn:∀x∈S.map W9,B2 E.G0.used x:=C1 hB (zb _ (za ..));have hXn:∀x∈xs,B2 E.G0.used x:=C1 hB (zb _ (zb _ (za ..)));(refine yC rfl (hF _) ?_; simp[d1.symm]);refine A0 (t_ hk1) ?_;simp[d1.symm];refine A0 (t_ hk1) ?_;simp;refine A0 (t_ hk1) ?_;simp;refine A0 (t_ hfB) ?_;simp;refine H5 hP (v:=.bool false) (rd:=[]) s_ rfl (λhc=>by simp[hk2] at hc) ?_;refine A3 4000 ?_;simp;refine A0 (t_ hk2) ?_;simp;(refine yC rfl (hCh _) ?_; simp[d1.symm,d2.symm,d3.symm]);refine yE hR [] s_ λhrn=>⟨?_,?_,?_,?_,?_,?_⟩<;>(try simp[D1,T1,c1,d1,d1.symm,d2,d2.symm,d3,d3.symm]);have hio:B2 E.G0.used io:=by have:=hXn _ (zg hx); simp[B2,F4] at this; exact this.2.2
 refine⟨by exact yO hu hTn,J9 (A3X hu (by simp[B2,F4]; exact hio) λz h1 h2=>rfl) k (by exact yO hu hXn)⟩
def C4I(l:List Ty)(S:List I0)(e:Ev)(i0:Int)(D T c:Nat)(id:Nat)(xs:List AV)(k:Nat)(n:Int)(t:List UInt8)(ys:List Int)(hk:3<=e.kind)(hfB:F2 (S.map I0.t) e.type e.id=true)(hS8:S.length<=1000)(d1:D≠T)(d2:D≠c)(d3:T≠c)
  (hCh:∀id,A2 prog 263 [.ptr D 0 0] [(D,S5 l (.bsl T 0 S.length) e (C3 (S.map I0.t) e.type e.id)),(T,P9 S),(c,⟨xs,zC,false,false⟩)] id (.int .i64 0) [(c,some ⟨xs.set k (.agg [.int .i64 n,.str t,.bsl id 0 ys.length]),zC,false,false⟩),(id,some ⟨ys.map eI,.int .i64 0,false,false⟩)]) :
  A2 prog 195 [.ptr D 0 0] [(D,S5 l (.bsl T 0 S.length) e i0),(T,P9 S),(c,⟨xs,zC,false,false⟩)] id (.int .i64 0) [(D,some (S5 l (.bsl T 0 S.length) e (C3 (S.map I0.t) e.type e.id))),(c,some ⟨xs.set k (.agg [.int .i64 n,.str t,.bsl id 0 ys.length]),zC,false,false⟩),(id,some ⟨ys.map eI,.int .i64 0,false,false⟩)]:=by
 have hF:=λid=>T3 l S T e.type e.id id o_;have hk1:e.kind≠1:=by omega
 have hk2:e.kind≠2:=by omega
 unfold P9 S5 eD at *;refine w195.b.1 λE hP hR hl hid hB hu=>?_;simp[w195];have hD:=hl (D,_) (za ..);simp only at hD;have D1:=lf hD;have hT:=hl (T,_) (zb _ (za ..));simp only at hT;have T1:=lf hT;have hc:=hl (c,_) (zb _ (zb _ (za ..)));simp only at hc;have c1:=lf hc;have hTn:∀x∈S.map W9,B2 E.G0.used x:=C1 hB (zb _ (za ..));have hXn:∀x∈xs,B2 E.G0.used x:=C1 hB (zb _ (zb _ (za ..)));(refine yC rfl (hF _) ?_; simp[d1.symm]);refine A0 (t_ hk1) ?_;simp[d1.symm];refine A0 (t_ hk1) ?_;simp;refine A0 (t_ hk1) ?_;simp;refine A0 (t_ hfB) ?_;simp;refine H5 hP (v:=.bool false) (rd:=[]) s_ rfl (λhc=>by simp[hk2] at hc) ?_;refine A3 4000 ?_;simp;refine A0 (t_ hk2) ?_;simp;(refine yC rfl (hCh _) ?_; simp[d1.symm,d2.symm,d3.symm]);refine yE hR [(id,E.n0+82944)] s_ λhrn=>⟨?_,?_,?_,?_,?_,?_⟩<;>(try simp[D1,T1,c1,d1,d1.symm,d2,d2.symm,d3,d3.symm]);exact⟨by exact yO hu hTn,J9 (by simp[I5 hid]) k (by exact yO hu hXn)⟩
def C4J(l:List Ty)(S:List I0)(e:Ev)(i0:Int)(D T c:Nat)(id:Nat)(xs:List AV)(k:Nat)(n:Int)(t:List UInt8)(ys:List Int)(I:Nat)(BI:List Int)(d4:D≠I)(d5:T≠I)(d6:c≠I)(hk:3<=e.kind)(hfB:F2 (S.map I0.t) e.type e.id=true)(hS8:S.length<=1000)(d1:D≠T)(d2:D≠c)(d3:T≠c)
  (hCh:∀id,A2 prog 263 [.ptr D 0 0] [(D,S5 l (.bsl T 0 S.length) e (C3 (S.map I0.t) e.type e.id)),(T,P9 S),(c,⟨xs,zC,false,false⟩),(I,⟨BI.map eI,.int .i64 0,false,false⟩)] id (.int .i64 0) [(I,none),(c,some ⟨xs.set k (.agg [.int .i64 n,.str t,.bsl id 0 ys.length]),zC,false,false⟩),(id,some ⟨ys.map eI,.int .i64 0,false,false⟩)]) :
  A2 prog 195 [.ptr D 0 0] [(D,S5 l (.bsl T 0 S.length) e i0),(T,P9 S),(c,⟨xs,zC,false,false⟩),(I,⟨BI.map eI,.int .i64 0,false,false⟩)] id (.int .i64 0) [(D,some (S5 l (.bsl T 0 S.length) e (C3 (S.map I0.t) e.type e.id))),(I,none),(c,some ⟨xs.set k (.agg [.int .i64 n,.str t,.bsl id 0 ys.length]),zC,false,false⟩),(id,some ⟨ys.map eI,.int .i64 0,false,false⟩)]:=by
 have hF:=λid=>T3 l S T e.type e.id id o_;have hk1:e.kind≠1:=by omega
 have hk2:e.kind≠2:=by omega
 unfold P9 S5 eD at *;refine w195.b.1 λE hP hR hl hid hB hu=>?_;simp[w195];have hD:=hl (D,_) (za ..);simp only at hD;have D1:=lf hD;have hT:=hl (T,_) (zb _ (za ..));simp only at hT;have T1:=lf hT;have hc:=hl (c,_) (zb _ (zb _ (za ..)));simp only at hc;have c1:=lf hc;have hI:=hl (I,_) (zb _ (zb _ (zb _ (za ..))));simp only at hI;have I1:=lf hI;have hTn:∀x∈S.map W9,B2 E.G0.used x:=C1 hB (zb _ (za ..));have hXn:∀x∈xs,B2 E.G0.used x:=C1 hB (zb _ (zb _ (za ..)));(refine yC rfl (hF _) ?_; simp[d1.symm]);refine A0 (t_ hk1) ?_;simp[d1.symm];refine A0 (t_ hk1) ?_;simp;refine A0 (t_ hk1) ?_;simp;refine A0 (t_ hfB) ?_;simp;refine H5 hP (v:=.bool false) (rd:=[]) s_ rfl (λhc=>by simp[hk2] at hc) ?_;refine A3 4000 ?_;simp;refine A0 (t_ hk2) ?_;simp;(refine yC rfl (hCh _) ?_; simp[d1.symm,d2.symm,d3.symm,d4.symm,d5.symm,d6.symm]);refine yE hR [(id,E.n0+82944)] s_ λhrn=>⟨?_,?_,?_,?_,?_,?_⟩<;>(try simp[D1,T1,c1,d1,d1.symm,d2,d2.symm,d3,d3.symm,I1,d4,d4.symm,d5,d5.symm,d6,d6.symm]);exact⟨by exact yO hu hTn,J9 (by simp[I5 hid]) k (by exact yO hu hXn)⟩
def C1C(l:List Ty)(S:List I0)(e:Ev)(T:Nat)(id:Nat)(k n:Nat)(m:Int)(hl8:l.length<=1000)(hf0:W7 e=0)(h0:0<=e.type)(h1:e.type<=(l.length:Int) - 1)(h2:1<=e.id)(h3:e.id<=999)
  (hDo:∀D id,(∀q∈[(T,P9 S)],q.1≠D)->A2 prog 195 [.ptr D 0 0] ((D,S5 l (.bsl T 0 S.length) e 0)::[(T,P9 S)]) id (.int .i64 0) ((D,some (S5 l (.bsl id 0 (S.length+1)) e m))::[(T,none),(id,some ⟨(S.map W9).take k++.agg [.int .i64 e.type,.int .i64 e.id,.bsl (id+1) 0 n]::(S.map W9).drop k,zT,false,false⟩),(id+1,some ⟨List.replicate n zC,zC,false,false⟩)])) :
  A2 prog 126 [.agg [.sl (l.map I9),.bsl T 0 S.length],S1 e] [(T,P9 S)] id (.tup [.agg [.sl (l.map I9),(.bsl id 0 (S.length+1))],.int .i64 0]) ([(T,none),(id,some ⟨(S.map W9).take k++.agg [.int .i64 e.type,.int .i64 e.id,.bsl (id+1) 0 n]::(S.map W9).drop k,zT,false,false⟩),(id+1,some ⟨List.replicate n zC,zC,false,false⟩)]):=by
 have hFm:=λid=>m9 e id;have hw1:IntKind.i64.wrap ((l.length:Int) - 1)=(l.length:Int) - 1:=wrap64 o_;replace hDo:=λD id hne=>(hDo D id hne).setD ⟨[eD l (.bsl T 0 S.length) e 0],eD l (.bsl T 0 S.length) e 0,false,false⟩ rfl rfl rfl rfl hne;unfold P9 S5 eD S1 at *;refine w126.b.1 λE hP hR hl hid hB hu=>?_;simp[w126,D4];have hT:=hl (T,_) (za ..);simp only at hT;have T1:=lf hT;have hTn:∀x∈S.map W9,B2 E.G0.used x:=C1 hB (za ..);(refine yC rfl (hFm _) ?_; simp);refine A0 (t_ hf0) ?_;simp;rw[hw1];(refine E5 hP rfl (H1 _ _ _ _) s_ f_ ?_; refine A3 4000 ?_; simp);refine A0 m_ ?_;simp;(refine E5 hP rfl (H1 _ _ _ _) s_ f_ ?_; refine A3 4000 ?_; simp);refine A0 m_ ?_;simp;refine A0 (t_ hf0) ?_;simp;(refine E5 hP rfl (hDo _ _ (by exactλq hq=>by have:=(hl q hq).1; omega)) s_ (by simp[T1]<;>rfl) ?_; refine A3 4000 ?_; simp[T1]);have hlk:∀z,z<E.n0->(z<id\/id+1024<=z)->lkN [(id,E.n0+32768),(id+1,E.n0+32769)] z=none:=λz h1 h2=>by
  have a1:z≠id:=by omega
  have a2:z≠id+1:=by omega
  simp[lkN,a1,a2]
 have hp0:∀R S,N8 R S (List.replicate n zC) (List.replicate n zC):=λR S=>B4 rfl (A57 λi x hx=>by rw[vk] at hx; split at hx<;>simp at hx; subst hx; rfl);have hrn:F7 [(id,E.n0+32768),(id+1,E.n0+32768+1)]:=by simp[yv]
 rw[hR];refine F5 f_ [(id,E.n0+32768),(id+1,E.n0+32768+1)] hrn ⟨?_,?_,?_,?_,?_,?_⟩<;>(try simp[hp0,B5I hT.2,B1Y hT.2,yv,T1,I5 hid,A3Z hid]);exact v6 (m8 hu hlk λx hx=>hTn x (xn hx)) (.cons _ _ _ _ (by simp[I5 hid,A3Z hid]) (m8 hu hlk λx hx=>hTn x (xh hx)))
def C1D(l:List Ty)(S:List I0)(e:Ev)(T:Nat)(id:Nat)(c:Nat)(xs:List AV)(k:Nat)(a b io:AV)(hx:xs[k]?=some (.agg [a,b,io]))(n:Int)(t:List UInt8)(d3:T≠c)(m:Int)(hl8:l.length<=1000)(hf0:W7 e=0)(h0:0<=e.type)(h1:e.type<=(l.length:Int) - 1)(h2:1<=e.id)(h3:e.id<=999)
  (hDo:∀D id,(∀q∈[(T,P9 S),(c,⟨xs,zC,false,false⟩)],q.1≠D)->A2 prog 195 [.ptr D 0 0] ((D,S5 l (.bsl T 0 S.length) e 0)::[(T,P9 S),(c,⟨xs,zC,false,false⟩)]) id (.int .i64 0) ((D,some (S5 l (.bsl T 0 S.length) e m))::[(c,some ⟨xs.set k (.agg [.int .i64 n,.str t,io]),zC,false,false⟩)])) :
  A2 prog 126 [.agg [.sl (l.map I9),.bsl T 0 S.length],S1 e] [(T,P9 S),(c,⟨xs,zC,false,false⟩)] id (.tup [.agg [.sl (l.map I9),(.bsl T 0 S.length)],.int .i64 0]) ([(c,some ⟨xs.set k (.agg [.int .i64 n,.str t,io]),zC,false,false⟩)]):=by
 have hFm:=λid=>m9 e id;have hw1:IntKind.i64.wrap ((l.length:Int) - 1)=(l.length:Int) - 1:=wrap64 o_;replace hDo:=λD id hne=>(hDo D id hne).setD ⟨[eD l (.bsl T 0 S.length) e 0],eD l (.bsl T 0 S.length) e 0,false,false⟩ rfl rfl rfl rfl hne;unfold P9 S5 eD S1 at *;refine w126.b.1 λE hP hR hl hid hB hu=>?_;simp[w126,D4];have hT:=hl (T,_) (za ..);simp only at hT;have T1:=lf hT;have hTn:∀x∈S.map W9,B2 E.G0.used x:=C1 hB (za ..);have hc:=hl (c,_) (zb _ (za ..));simp only at hc;have c1:=lf hc;have hXn:∀x∈xs,B2 E.G0.used x:=C1 hB (zb _ (za ..));(refine yC rfl (hFm _) ?_; simp);refine A0 (t_ hf0) ?_;simp;rw[hw1];(refine E5 hP rfl (H1 _ _ _ _) s_ f_ ?_; refine A3 4000 ?_; simp);refine A0 m_ ?_;simp;(refine E5 hP rfl (H1 _ _ _ _) s_ f_ ?_; refine A3 4000 ?_; simp);refine A0 m_ ?_;simp;refine A0 (t_ hf0) ?_;simp;(refine E5 hP rfl (hDo _ _ (by exactλq hq=>by have:=(hl q hq).1; omega)) s_ (by simp[T1,c1,d3.symm]<;>rfl) ?_; refine A3 4000 ?_; simp[c1]);refine yE hR [] s_ λhrn=>⟨?_,?_,?_,?_,?_,?_⟩<;>(try simp[T1,c1,d3,d3.symm]);have hio:B2 E.G0.used io:=by have:=hXn _ (zg hx); simp[B2,F4] at this; exact this.2.2
 refine⟨by exact yO hu hTn,J9 (A3X hu (by simp[B2,F4]; exact hio) λz h1 h2=>rfl) k (by exact yO hu hXn)⟩
def C1E(l:List Ty)(S:List I0)(e:Ev)(T:Nat)(id:Nat)(c:Nat)(xs:List AV)(k:Nat)(n:Int)(t:List UInt8)(ys:List Int)(d3:T≠c)(m:Int)(hl8:l.length<=1000)(hf0:W7 e=0)(h0:0<=e.type)(h1:e.type<=(l.length:Int) - 1)(h2:1<=e.id)(h3:e.id<=999)
  (hDo:∀D id,(∀q∈[(T,P9 S),(c,⟨xs,zC,false,false⟩)],q.1≠D)->A2 prog 195 [.ptr D 0 0] ((D,S5 l (.bsl T 0 S.length) e 0)::[(T,P9 S),(c,⟨xs,zC,false,false⟩)]) id (.int .i64 0) ((D,some (S5 l (.bsl T 0 S.length) e m))::[(c,some ⟨xs.set k (.agg [.int .i64 n,.str t,.bsl id 0 ys.length]),zC,false,false⟩),(id,some ⟨ys.map eI,.int .i64 0,false,false⟩)])) :
  A2 prog 126 [.agg [.sl (l.map I9),.bsl T 0 S.length],S1 e] [(T,P9 S),(c,⟨xs,zC,false,false⟩)] id (.tup [.agg [.sl (l.map I9),(.bsl T 0 S.length)],.int .i64 0]) ([(c,some ⟨xs.set k (.agg [.int .i64 n,.str t,.bsl id 0 ys.length]),zC,false,false⟩),(id,some ⟨ys.map eI,.int .i64 0,false,false⟩)]):=by
 have hFm:=λid=>m9 e id;have hw1:IntKind.i64.wrap ((l.length:Int) - 1)=(l.length:Int) - 1:=wrap64 o_;replace hDo:=λD id hne=>(hDo D id hne).setD ⟨[eD l (.bsl T 0 S.length) e 0],eD l (.bsl T 0 S.length) e 0,false,false⟩ rfl rfl rfl rfl hne;unfold P9 S5 eD S1 at *;refine w126.b.1 λE hP hR hl hid hB hu=>?_;simp[w126,D4];have hT:=hl (T,_) (za ..);simp only at hT;have T1:=lf hT;have hTn:∀x∈S.map W9,B2 E.G0.used x:=C1 hB (za ..);have hc:=hl (c,_) (zb _ (za ..));simp only at hc;have c1:=lf hc;have hXn:∀x∈xs,B2 E.G0.used x:=C1 hB (zb _ (za ..));(refine yC rfl (hFm _) ?_; simp);refine A0 (t_ hf0) ?_;simp;rw[hw1];(refine E5 hP rfl (H1 _ _ _ _) s_ f_ ?_; refine A3 4000 ?_; simp);refine A0 m_ ?_;simp;(refine E5 hP rfl (H1 _ _ _ _) s_ f_ ?_; refine A3 4000 ?_; simp);refine A0 m_ ?_;simp;refine A0 (t_ hf0) ?_;simp;(refine E5 hP rfl (hDo _ _ (by exactλq hq=>by have:=(hl q hq).1; omega)) s_ (by simp[T1,c1,d3.symm]<;>rfl) ?_; refine A3 4000 ?_; simp[c1]);refine yE hR [(id,E.n0+32768)] s_ λhrn=>⟨?_,?_,?_,?_,?_,?_⟩<;>(try simp[T1,c1,d3,d3.symm]);exact⟨by exact yO hu hTn,J9 (by simp[I5 hid]) k (by exact yO hu hXn)⟩
def C1F(l:List Ty)(S:List I0)(e:Ev)(T:Nat)(id:Nat)(c:Nat)(xs:List AV)(k:Nat)(n:Int)(t:List UInt8)(ys:List Int)(I:Nat)(BI:List Int)(d3:T≠c)(d5:T≠I)(d6:c≠I)(m:Int)(hl8:l.length<=1000)(hf0:W7 e=0)(h0:0<=e.type)(h1:e.type<=(l.length:Int) - 1)(h2:1<=e.id)(h3:e.id<=999)
  (hDo:∀D id,(∀q∈[(T,P9 S),(c,⟨xs,zC,false,false⟩),(I,⟨BI.map eI,.int .i64 0,false,false⟩)],q.1≠D)->A2 prog 195 [.ptr D 0 0] ((D,S5 l (.bsl T 0 S.length) e 0)::[(T,P9 S),(c,⟨xs,zC,false,false⟩),(I,⟨BI.map eI,.int .i64 0,false,false⟩)]) id (.int .i64 0) ((D,some (S5 l (.bsl T 0 S.length) e m))::[(I,none),(c,some ⟨xs.set k (.agg [.int .i64 n,.str t,.bsl id 0 ys.length]),zC,false,false⟩),(id,some ⟨ys.map eI,.int .i64 0,false,false⟩)])) :
  A2 prog 126 [.agg [.sl (l.map I9),.bsl T 0 S.length],S1 e] [(T,P9 S),(c,⟨xs,zC,false,false⟩),(I,⟨BI.map eI,.int .i64 0,false,false⟩)] id (.tup [.agg [.sl (l.map I9),(.bsl T 0 S.length)],.int .i64 0]) ([(I,none),(c,some ⟨xs.set k (.agg [.int .i64 n,.str t,.bsl id 0 ys.length]),zC,false,false⟩),(id,some ⟨ys.map eI,.int .i64 0,false,false⟩)]):=by
 have hFm:=λid=>m9 e id;have hw1:IntKind.i64.wrap ((l.length:Int) - 1)=(l.length:Int) - 1:=wrap64 o_;replace hDo:=λD id hne=>(hDo D id hne).setD ⟨[eD l (.bsl T 0 S.length) e 0],eD l (.bsl T 0 S.length) e 0,false,false⟩ rfl rfl rfl rfl hne;unfold P9 S5 eD S1 at *;refine w126.b.1 λE hP hR hl hid hB hu=>?_;simp[w126,D4];have hT:=hl (T,_) (za ..);simp only at hT;have T1:=lf hT;have hTn:∀x∈S.map W9,B2 E.G0.used x:=C1 hB (za ..);have hc:=hl (c,_) (zb _ (za ..));simp only at hc;have c1:=lf hc;have hXn:∀x∈xs,B2 E.G0.used x:=C1 hB (zb _ (za ..));have hI:=hl (I,_) (zb _ (zb _ (za ..)));simp only at hI;have I1:=lf hI;(refine yC rfl (hFm _) ?_; simp);refine A0 (t_ hf0) ?_;simp;rw[hw1];(refine E5 hP rfl (H1 _ _ _ _) s_ f_ ?_; refine A3 4000 ?_; simp);refine A0 m_ ?_;simp;(refine E5 hP rfl (H1 _ _ _ _) s_ f_ ?_; refine A3 4000 ?_; simp);refine A0 m_ ?_;simp;refine A0 (t_ hf0) ?_;simp;(refine E5 hP rfl (hDo _ _ (by exactλq hq=>by have:=(hl q hq).1; omega)) s_ (by simp[T1,c1,I1,d3.symm,d5.symm,d6.symm]<;>rfl) ?_; refine A3 4000 ?_; simp[c1,I1]);refine yE hR [(id,E.n0+32768)] s_ λhrn=>⟨?_,?_,?_,?_,?_,?_⟩<;>(try simp[T1,c1,I1,d3,d3.symm,d5,d5.symm,d6,d6.symm]);exact⟨by exact yO hu hTn,J9 (by simp[I5 hid]) k (by exact yO hu hXn)⟩
def C1G(l:List Ty)(S:List I0)(e:Ev)(T:Nat)(id:Nat)(m w:Int)(rd:List (Nat×Bx))(hnd:(rd.map Prod.fst).Nodup)(hw:w≠0)(hl8:l.length<=1000)(hf0:W7 e=0)(h0:0<=e.type)(h1:e.type<=(l.length:Int) - 1)(h2:1<=e.id)(h3:e.id<=999)
  (hDo:∀D id,(∀q∈rd,q.1≠D)->A2 prog 195 [.ptr D 0 0] ((D,S5 l (.bsl T 0 S.length) e 0)::rd) id (.int .i64 w) [(D,some (S5 l (.bsl T 0 S.length) e m))]) :
  A2 prog 126 [.agg [.sl (l.map I9),.bsl T 0 S.length],S1 e] rd id (.tup [eS0,.int .i64 w]) []:=by
 have hFm:=λid=>m9 e id;have hw1:IntKind.i64.wrap ((l.length:Int) - 1)=(l.length:Int) - 1:=wrap64 o_;replace hDo:=λD id hne=>(hDo D id hne).setD ⟨[eD l (.bsl T 0 S.length) e 0],eD l (.bsl T 0 S.length) e 0,false,false⟩ rfl rfl rfl rfl hne;unfold S5 eD S1 at *;refine w126.b.1 λE hP hR hl hid hB hu=>?_;simp[w126];(refine yH rfl (hFm _) ?_; simp);refine A0 (t_ hf0) ?_;simp;rw[hw1];(refine yH rfl (H1 _ _ _ _) ?_; simp);refine A0 m_ ?_;simp;(refine yH rfl (H1 _ _ _ _) ?_; simp);refine A0 m_ ?_;simp;refine A0 (t_ hf0) ?_;simp;have hnk:∀q∈rd,q.1≠E.n0+29696/\q.1≠E.n0+2048/\q.1≠E.n0+1024/\q.1≠E.n0:=λq hq=>by
  have:=(hl q hq).1; omega
 refine E5 hP rfl (hDo (E.n0+29696) _ λq hq=>(hnk q hq).1) s_ ⟨s_,?_⟩ ?_
 ·refine A4N (pre:=[_,_,_,_]) hnd λq hq p hp=>?_;simp only[zi,yp,or_false] at hp;obtain⟨n1,n2,n3,n4⟩:=hnk q hq;rcases hp with rfl|rfl|rfl|rfl<;>assumption
 refine A3 4000 ?_;simp;refine A7 (v_ hw) ?_;simp;rw[hR];have hrn:F7 []:=trivial;refine F5 f_ [] hrn ⟨?_,?_,?_,?_,?_,?_⟩
 ·simp[eS0]
 ·show A2L _ _ _ _ (rd.map (·.1)++[]);refine A0d (A3m hB hu (λz _ _=>rfl) (λz _=>rfl) λq hq=>⟨hq,?_,?_⟩) ?_
  ·exact B6z hnd hq
  ·refine A30 (pre:=[_,_,_,_,_,_]) hnd hq λp hp=>?_;simp only[zi,yp,or_false] at hp;obtain⟨n1,n2,n3,n4⟩:=hnk q hq;rcases hp with rfl|rfl|rfl|rfl|rfl|rfl<;>assumption
  ·simp
 ·show I8 _ _ ([_,_,_,_,_,_]++D4 rd);refine A1Z s_ (x9 λq hq=>R4.2 (zw.2 ⟨q,hq,rfl⟩))
 ·simp
 ·simp
 ·simp
def C1H(l:List Ty)(S:List I0)(e:Ev)(T:Nat)(id:Nat)(k:Nat)(m:Int)(rest:List (Nat×Bx))(hnd:(rest.map Prod.fst).Nodup)(dT:∀q∈rest,q.1≠T)(hl8:l.length<=1000)(hf0:W7 e=0)(h0:0<=e.type)(h1:e.type<=(l.length:Int) - 1)(h2:1<=e.id)(h3:e.id<=999)
  (hDo:∀D id,(∀q∈(T,P9 S)::rest,q.1≠D)->A2 prog 195 [.ptr D 0 0] ((D,S5 l (.bsl T 0 S.length) e 0)::(T,P9 S)::rest) id (.int .i64 0) [(D,some (S5 l (.bsl id 0 (S.length - 1)) e m)),(T,none),(id,some ⟨(S.map W9).take k++(S.map W9).drop (k+1),zT,false,false⟩)]) :
  A2 prog 126 [.agg [.sl (l.map I9),.bsl T 0 S.length],S1 e] ((T,P9 S)::rest) id (.tup [.agg [.sl (l.map I9),.bsl id 0 (S.length - 1)],.int .i64 0]) [(T,none),(id,some ⟨(S.map W9).take k++(S.map W9).drop (k+1),zT,false,false⟩)]:=by
 have hFm:=λid=>m9 e id;have hw1:IntKind.i64.wrap ((l.length:Int) - 1)=(l.length:Int) - 1:=wrap64 o_;replace hDo:=λD id hne=>(hDo D id hne).setD ⟨[eD l (.bsl T 0 S.length) e 0],eD l (.bsl T 0 S.length) e 0,false,false⟩ rfl rfl rfl rfl hne;unfold P9 S5 eD S1 at *;refine w126.b.1 λE hP hR hl hid hB hu=>?_;simp[w126,D4];have hT:=hl (T,_) (za ..);simp only at hT;have T1:=lf hT;have hTn:∀x∈S.map W9,B2 E.G0.used x:=C1 hB (za ..);(refine yC rfl (hFm _) ?_; simp);refine A0 (t_ hf0) ?_;simp;rw[hw1];(refine E5 hP rfl (H1 _ _ _ _) s_ f_ ?_; refine A3 4000 ?_; simp);refine A0 m_ ?_;simp;(refine E5 hP rfl (H1 _ _ _ _) s_ f_ ?_; refine A3 4000 ?_; simp);refine A0 m_ ?_;simp;refine A0 (t_ hf0) ?_;simp;have hnk:∀q∈rest,q.1≠E.n0+29696/\q.1≠E.n0+2048/\q.1≠E.n0+1024/\q.1≠E.n0/\q.1≠T/\q.1≠E.n0+32768/\q.1≠id:=λq hq=>by
  have:=hl q (zb _ hq);have h2:=dT q hq;omega
 refine E5 hP rfl (hDo (E.n0+29696) _ λq hq=>by have:=(hl q hq).1; omega) s_ ⟨s_,t_ T1,?_⟩ ?_
 ·refine A4N (pre:=[_,_,_,_,_]) hnd λq hq p hp=>?_;simp only[zi,yp,or_false] at hp;obtain⟨n1,n2,n3,n4,n5,n6,n7⟩:=hnk q hq;rcases hp with rfl|rfl|rfl|rfl|rfl<;>assumption
 refine A3 4000 ?_;simp[T1];rw[hR];have hrn:F7 [(id,E.n0+32768)]:=by simp
 have hlk:∀z,z<E.n0->(z<id\/id+1024<=z)->lkN [(id,E.n0+32768)] z=none:=λz h1 h2=>by
  have a1:z≠id:=by omega
  simp[lkN,a1]
 have hgn:∀z,z<E.n0->T7 [(id,E.n0+32768)] z=false:=λz h1=>by
  have a1:z≠E.n0+32768:=by omega
  simp[T7,a1]
 refine F5 f_ [(id,E.n0+32768)] hrn ⟨?_,?_,?_,?_,?_,?_⟩
 ·simp[I5 hid]
 ·show A2L _ _ _ _ ([T]++(rest.map (·.1)++[T,id]));refine A0d ?_ (A0d (A3m hB hu hlk hgn λq hq=>⟨zb _ hq,?_,?_⟩) ?_)
  ·simp[T1]
  ·simp only[F6];obtain⟨n1,n2,n3,n4,n5,n6,n7⟩:=hnk q hq;rw[B6 _ _ _ n7,B6 _ _ _ n5];refine A30 (pre:=[_]) hnd hq λp hp=>?_;simp only[zi,yp,or_false] at hp;subst hp;exact n5
  ·refine A30 (pre:=[_,_,_,_,_,_,_,_,_]) hnd hq λp hp=>?_;simp only[zi,yp,or_false] at hp;obtain⟨n1,n2,n3,n4,n5,n6,n7⟩:=hnk q hq;rcases hp with rfl|rfl|rfl|rfl|rfl|rfl|rfl|rfl|rfl<;>assumption
  ·simp[T1];all_goals exact v6 (m8 hu hlk λx hx=>hTn x (xn hx)) (m8 hu hlk λx hx=>hTn x (xh hx))
 ·show I8 _ _ ([_,_,_,_,_,_,_,_,_]++D4 rest);refine A1Z ?_ (x9 λq hq=>R4.2 (zw.2 ⟨q,zb _ hq,rfl⟩));simp[D4,T1]
 ·simp[D4]
 ·simp
 ·simp
def trB(T:Nat)(S:List I0):List (Nat×Bx):=(T,P9 S)::J2 S
def nmR(S:List I0):List Nat:=(J2 S).map Prod.fst
def nmT(T:Nat)(S:List I0):List Nat:=T::nmR S
def nmO(o:I0):List Nat:=o.bxs.map Prod.fst
theorem B8m(T:Nat)(S:List I0):(trB T S).map Prod.fst=nmT T S:=rfl
def V5(A B:List I0):J2 (A++B)=J2 A++J2 B:=sv
theorem p8(o:I0)(B:List I0):J2 (o::B)=o.bxs++J2 B:=rfl
def A1t(A B:List I0):nmR (A++B)=nmR A++nmR B:=by simp[nmR,V5]
def A5Y(o:I0)(B:List I0):nmR (o::B)=nmO o++nmR B:=by simp[nmR,nmO,p8]
def A6e{q:Nat×Bx}{S:List I0}(h:q∈J2 S):q.1∈nmR S:=zw.2 ⟨q,h,rfl⟩
structure A6f(id T:Nat)(S:List I0)(wr:List (Nat×Option Bx))(T':Nat)(S':List I0):Prop where
 has:∀bx,K8 bx (trB T S)->K8 (F6 bx wr) (trB T' S')
 nd:(nmT T' S').Nodup
 nm:∀z∈nmT T' S',z∈nmT T S\/(id<=z/\z<id+1024)
 ok:∀o∈S',o.Ok
 kw:∀q∈wr,q.1∈nmT T S\/(id<=q.1/\q.1<id+1024)
def B8n(n:Nat)(c:Cl):A0c (List.replicate n c) (List.replicate n none)=[]:=by
 induction n with
 | zero=>rfl
 | succ n ih=>simp only[List.replicate_succ,A0c,idB,ih]; rfl
def cl0:Cl:=⟨0,[],[]⟩
def A5Z(e:Ev)(n id:Nat):I0:=⟨⟨e.type,e.id,List.replicate n cl0⟩,id+1,List.replicate n none⟩
def C1I(e:Ev)(n id:Nat):(A5Z e n id).bxs=[(id+1,⟨List.replicate n zC,zC,false,false⟩)]:=by
 have h:List.zipWith P6 (List.replicate n cl0) (List.replicate n none)=List.replicate n zC:=by
  rw[List.zipWith_replicate,qu];rfl
 simp only[I0.bxs,A5Z,B8n,cBn,h]
def C4K(e:Ev)(n id:Nat):(A5Z e n id).Ok:=⟨by simp[A5Z],λk c h1 h2=>by
 simp only[A5Z,vk] at h1;split at h1
 ·injection h1 with h1; subst h1; rfl
 ·cases h1⟩
def B8o{id T:Nat}{A B:List I0}(e:Ev)(n:Nat)(hnd:(nmT T (A++B)).Nodup)(hfr:∀z∈nmT T (A++B),z<id\/id+1024<=z)(hok:∀o∈A++B,o.Ok):
  A6f id T (A++B) [(T,none),(id,some (P9 (A++A5Z e n id::B))),(id+1,some ⟨List.replicate n zC,zC,false,false⟩)] id (A++A5Z e n id::B):=by
 have hr:J2 (A++A5Z e n id::B)=J2 A++((id+1,⟨List.replicate n zC,zC,false,false⟩)::J2 B):=by rw[V5,p8,C1I]; rfl
 have hn:nmR (A++A5Z e n id::B)=nmR A++(id+1)::nmR B:=by simp[nmR,hr]
 have hT:=hfr T (za ..);have hAB:∀z∈nmR A++nmR B,(z<id\/id+1024<=z)/\z≠T:=λz hz=>by
  rw[←A1t] at hz;exact⟨hfr z (zb _ hz),λe=>by rw[nmT,xd] at hnd; exact hnd.1 (e▸hz)⟩
 refine⟨λbx hb q hq=>?_,?_,λz hz=>?_,λo ho=>?_,λq hq=>?_⟩
 ·simp only[F6];rcases zi.1 hq with rfl|hq
  ·rw[B6 _ _ _ n_,C7]
  ·rw[hr] at hq;have key:q∈J2 (A++B)->T6 (T6 (T6 bx T none) id (some (P9 (A++A5Z e n id::B)))) (id+1) (some ⟨List.replicate n zC,zC,false,false⟩) q.1=some q.2:=λhq=>by
    have:=hAB q.1 (by rw[←A1t]; exact A6e hq);rw[B6 _ _ _ o_,B6 _ _ _ o_,B6 _ _ _ this.2];exact hb q (zb _ hq)
   rcases zr.1 hq with hq|hq
   ·exact key (by rw[V5]; exact yq _ hq)
   ·rcases zi.1 hq with rfl|hq
    ·rw[C7]
    ·exact key (by rw[V5]; exact ye _ hq)
 ·rw[nmT,xd,hn];rw[nmT,A1t,xd,wa] at hnd;obtain⟨h0,h1,h2,h3⟩:=hnd;refine⟨λhm=>?_,wa.2 ⟨h1,xd.2 ⟨λhm=>?_,h2⟩,λa ha b hb=>?_⟩⟩
  ·rcases zr.1 hm with hm|hm
   ·have:=hAB id (yq _ hm); omega
   ·rcases zi.1 hm with hm|hm
    ·omega
    ·have:=hAB id (ye _ hm); omega
  ·have:=hAB (id+1) (ye _ hm); omega
  ·rcases zi.1 hb with rfl|hb
   ·have:=hAB a (yq _ ha); omega
   ·exact h3 a ha b hb
 ·rcases zi.1 hz with rfl|hz
  ·exact .inr ⟨zx _,o_⟩
  ·rw[hn] at hz;rcases zr.1 hz with hz|hz
   ·exact .inl (zb _ (by rw[A1t]; exact yq _ hz))
   ·rcases zi.1 hz with rfl|hz
    ·exact .inr ⟨o_,o_⟩
    ·exact .inl (zb _ (by rw[A1t]; exact ye _ hz))
 ·rcases zr.1 ho with ho|ho
  ·exact hok o (yq _ ho)
  ·rcases zi.1 ho with rfl|ho
   ·exact C4K e n id
   ·exact hok o (ye _ ho)
 ·simp only[zi,yp,or_false] at hq;rcases hq with rfl|rfl|rfl
  ·exact .inl (za ..)
  ·exact .inr ⟨zx _,n_⟩
  ·exact .inr ⟨n_,n_⟩
def B8p{id T:Nat}{A B:List I0}{o:I0}(hnd:(nmT T (A++o::B)).Nodup)(hfr:∀z∈nmT T (A++o::B),z<id\/id+1024<=z)(hok:∀x∈A++o::B,x.Ok):
  A6f id T (A++o::B) [(T,none),(id,some (P9 (A++B)))] id (A++B):=by
 have hT:=hfr T (za ..);have hsub:∀q∈J2 (A++B),q∈J2 (A++o::B):=λq hq=>by
  rw[V5] at hq;rw[V5,p8];rcases zr.1 hq with h|h
  ·exact yq _ h
  ·exact ye _ (ye _ h)
 have hsubn:∀z∈nmR (A++B),z∈nmR (A++o::B):=λz hz=>by
  obtain⟨q,hq,rfl⟩:=zw.1 hz;exact A6e (hsub q hq)
 have hAB:∀z∈nmR (A++B),(z<id\/id+1024<=z)/\z≠T:=λz hz =>
  ⟨hfr z (zb _ (hsubn z hz)),λe=>by rw[nmT,xd] at hnd; exact hnd.1 (e▸hsubn z hz)⟩
 refine⟨λbx hb q hq=>?_,?_,λz hz=>?_,λx ho=>?_,λq hq=>?_⟩
 ·simp only[F6];rcases zi.1 hq with rfl|hq
  ·rw[C7]
  ·have:=hAB q.1 (A6e hq);rw[B6 _ _ _ o_,B6 _ _ _ this.2];exact hb q (zb _ (hsub q hq))
 ·rw[nmT,xd];refine⟨λhm=>by have:=hAB id hm; omega,?_⟩;rw[nmT,A1t,A5Y,xd,wa,wa] at hnd;obtain⟨h0,h1,⟨h4,h5,h6⟩,h3⟩:=hnd;rw[A1t];exact wa.2 ⟨h1,h5,λa ha b hb=>h3 a ha b (ye _ hb)⟩
 ·rcases zi.1 hz with rfl|hz
  ·exact .inr ⟨zx _,o_⟩
  ·exact .inl (zb _ (hsubn z hz))
 ·rcases zr.1 ho with ho|ho
  ·exact hok x (yq _ ho)
  ·exact hok x (ye _ (zb _ ho))
 ·simp only[zi,yp,or_false] at hq;rcases hq with rfl|rfl
  ·exact .inl (za ..)
  ·exact .inr ⟨zx _,n_⟩
def B8q{id T:Nat}{A B:List I0}{o o':I0}{X:List (Nat×Bx)}(ho:o.bxs=(o.c,cBn o)::X)(ho':o'.bxs=(o.c,cBn o')::X)(he:W9 o'=W9 o)(hok':o'.Ok)(hnd:(nmT T (A++o::B)).Nodup)(hok:∀x∈A++o::B,x.Ok):
  A6f id T (A++o::B) [(o.c,some (cBn o'))] T (A++o'::B):=by
 have hr:J2 (A++o::B)=J2 A++((o.c,cBn o)::X++J2 B):=by rw[V5,p8,ho]
 have hr':J2 (A++o'::B)=J2 A++((o.c,cBn o')::X++J2 B):=by rw[V5,p8,ho']
 have hn:nmT T (A++o'::B)=nmT T (A++o::B):=by simp only[nmT,nmR,hr,hr']; simp
 have ht:P9 (A++o'::B)=P9 (A++o::B):=by simp[P9,he]
 have hnd':=hnd;rw[nmT,nmR,hr] at hnd';simp only[vf,yg,xd,wa,zr,zi,yw] at hnd';obtain⟨h0,h1,⟨h2,h3,h4,h5⟩,h6⟩:=hnd';refine⟨λbx hb q hq=>?_,by rw[hn]; exact hnd,λz hz=>.inl (by rw[←hn]; exact hz),λx hx=>?_,λq hq=>?_⟩
 ·simp only[F6];have key:q∈trB T (A++o::B)->q.1≠o.c->T6 bx o.c (some (cBn o')) q.1=some q.2:=λh1 h2=>by
   rw[B6 _ _ _ h2]; exact hb q h1
  rcases zi.1 hq with rfl|hq
  ·exact key (by rw[ht]; exact za ..) (λe=>h0 (.inr (.inl e)))
  ·rw[hr'] at hq;rcases zr.1 hq with hq|hq
   ·refine key (zb _ (by rw[hr]; exact yq _ hq)) λe=>h6 q.1 (zw.2 ⟨q,hq,rfl⟩) o.c (.inl rfl) e
   ·rcases zr.1 hq with hq|hq
    ·rcases zi.1 hq with rfl|hq
     ·exact C7 ..
     ·exact key (zb _ (by rw[hr]; exact ye _ (yq _ (zb _ hq)))) λe=>h2 (.inl (e▸zw.2 ⟨q,hq,rfl⟩))
    ·exact key (zb _ (by rw[hr]; exact ye _ (ye _ hq))) λe=>h2 (.inr (e▸zw.2 ⟨q,hq,rfl⟩))
 ·rcases zr.1 hx with hx|hx
  ·exact hok x (yq _ hx)
  ·rcases zi.1 hx with rfl|hx
   ·exact hok'
   ·exact hok x (ye _ (zb _ hx))
 ·simp only[zi,yp,or_false] at hq;subst hq;exact .inl (by simp[nmT,nmR,hr])
def B8r{id T:Nat}{A B:List I0}{o o':I0}{X I Y:List (Nat×Bx)}{b:Bx}{pre:List (Nat×Option Bx)}(ho:o.bxs=(o.c,cBn o)::(X++(I++Y)))(ho':o'.bxs=(o.c,cBn o')::(X++((id,b)::Y)))(hpre:∀p∈pre,p.1∈I.map Prod.fst)(he:W9 o'=W9 o)(hok':o'.Ok)
  (hnd:(nmT T (A++o::B)).Nodup) (hfr:∀z∈nmT T (A++o::B),z<id\/id+1024<=z) (hok:∀x∈A++o::B,x.Ok) :
  A6f id T (A++o::B) (pre++[(o.c,some (cBn o')),(id,some b)]) T (A++o'::B):=by
 have hr:J2 (A++o::B)=J2 A++((o.c,cBn o)::(X++(I++Y))++J2 B):=by rw[V5,p8,ho]
 have hr':J2 (A++o'::B)=J2 A++((o.c,cBn o')::(X++((id,b)::Y))++J2 B):=by rw[V5,p8,ho']
 have ht:P9 (A++o'::B)=P9 (A++o::B):=by simp[P9,he]
 have hnd':=hnd;rw[nmT,nmR,hr] at hnd';simp only[vf,yg,xd,wa,zr,zi,yw] at hnd';obtain⟨h0,h1,⟨h2,⟨h7,⟨h8,h9,h10⟩,h11⟩,h4,h5⟩,h6⟩:=hnd';have hmem:∀z,z∈nmT T (A++o::B)↔z=T\/z∈(J2 A).map Prod.fst\/z=o.c\/z∈X.map Prod.fst\/z∈I.map Prod.fst\/z∈Y.map Prod.fst\/z∈(J2 B).map Prod.fst:=λz=>by
  simp only[nmT,nmR,hr,vf,yg,zr,zi,yw,or_assoc]
 have hmem':∀z,z∈nmT T (A++o'::B)↔z=T\/z∈(J2 A).map Prod.fst\/z=o.c\/z∈X.map Prod.fst\/z=id\/z∈Y.map Prod.fst\/z∈(J2 B).map Prod.fst:=λz=>by
  simp only[nmT,nmR,hr',vf,yg,zr,zi,yw,or_assoc]
 have hout:∀(bx:Nat->Option Bx) z,z∉I.map Prod.fst->z≠o.c->z≠id->F6 bx (pre++[(o.c,some (cBn o')),(id,some b)]) z=bx z:=λbx z h1 h2 h3=>by
  rw[p9];simp only[F6];rw[B6 _ _ _ h3,B6 _ _ _ h2];exact Q0 (λh=>by
   obtain⟨p,hp,rfl⟩:=zw.1 h;exact h1 (hpre p hp))
 have hc:o.c<id\/id+1024<=o.c:=hfr _ ((hmem _).2 (.inr (.inr (.inl rfl))));refine⟨λbx hb q hq=>?_,?_,λz hz=>?_,λx hx=>?_,λq hq=>?_⟩
 ·have key:q∈trB T (A++o::B)->q.1∉I.map Prod.fst->q.1≠o.c->F6 bx (pre++[(o.c,some (cBn o')),(id,some b)]) q.1=some q.2:=λg1 g2 g3=>by
   have:q.1<id\/id+1024<=q.1:=hfr q.1 (zw.2 ⟨q,g1,rfl⟩);rw[hout _ _ g2 g3 o_]; exact hb q g1
  rcases zi.1 hq with rfl|hq
  ·exact key (by rw[ht]; exact za ..) (λe=>h0 (.inr (.inr (.inl (.inr (.inl e)))))) (λe=>h0 (.inr (.inl e)))
  ·rw[hr'] at hq;rcases zr.1 hq with hq|hq
   ·have hm:=tj (f:=Prod.fst) hq;exact key (zb _ (by rw[hr]; exact yq _ hq)) (λe=>h6 q.1 hm q.1 (.inr (.inl (.inr (.inl e)))) rfl) (λe=>h6 q.1 hm o.c (.inl rfl) e)
   ·rcases zr.1 hq with hq|hq
    ·rcases zi.1 hq with rfl|hq
     ·rw[p9];simp only[F6];rw[B6 _ _ _ o_,C7]
     ·rcases zr.1 hq with hq|hq
      ·have hm:=tj (f:=Prod.fst) hq;exact key (zb _ (by rw[hr]; exact ye _ (yq _ (zb _ (yq _ hq))))) (λe=>h11 q.1 hm q.1 (.inl e) rfl) (λe=>h2 (.inl (.inl (e▸hm))))
      ·rcases zi.1 hq with rfl|hq
       ·rw[p9];simp only[F6];rw[C7]
       ·have hm:=tj (f:=Prod.fst) hq;exact key (zb _ (by rw[hr]; exact ye _ (yq _ (zb _ (ye _ (ye _ hq)))))) (λe=>h10 q.1 e q.1 hm rfl) (λe=>h2 (.inl (.inr (.inr (e▸hm)))))
    ·have hm:=tj (f:=Prod.fst) hq;exact key (zb _ (by rw[hr]; exact ye _ (ye _ hq))) (λe=>h5 q.1 (.inr (.inl e)) q.1 hm rfl) (λe=>h2 (.inr (e▸hm)))
 ·rw[nmT,nmR,hr'];simp only[vf,yg,xd,wa,zr,zi,yw];have fr:∀z,z∈nmT T (A++o::B)->z≠id:=λz hz=>by have:=hfr z hz; omega
  refine⟨λh=>?_,h1,⟨λh=>?_,⟨h7,⟨λh=>?_,h9⟩,λa ha b hb=>?_⟩,h4,λa ha b hb=>?_⟩,λa ha b hb=>?_⟩
  ·rcases h with h|h|(h|h|h)|h
   ·exact h0 (.inl h)
   ·exact h0 (.inr (.inl h))
   ·exact h0 (.inr (.inr (.inl (.inl h))))
   ·exact fr T (za ..) h
   ·exact h0 (.inr (.inr (.inl (.inr (.inr h)))))
   ·exact h0 (.inr (.inr (.inr h)))
  ·rcases h with (h|h|h)|h
   ·exact h2 (.inl (.inl h))
   ·omega
   ·exact h2 (.inl (.inr (.inr h)))
   ·exact h2 (.inr h)
  ·exact fr id ((hmem _).2 (t_ h)) rfl
  ·rcases hb with rfl|hb
   ·exact fr a ((hmem _).2 (t_ ha))
   ·exact h11 a ha b (.inr hb)
  ·rcases ha with ha|rfl|ha
   ·exact h5 a (.inl ha) b hb
   ·exactλe=>fr b ((hmem _).2 (t_ hb)) e.symm
   ·exact h5 a (.inr (.inr ha)) b hb
  ·rcases hb with rfl|(hb|rfl|hb)|hb
   ·exact h6 a ha _ (.inl rfl)
   ·exact h6 a ha b (.inr (.inl (.inl hb)))
   ·exact fr a ((hmem _).2 (t_ ha))
   ·exact h6 a ha b (.inr (.inl (.inr (.inr hb))))
   ·exact h6 a ha b (.inr (.inr hb))
 ·rcases (hmem' z).1 hz with h|h|h|h|h|h|h
  ·exact .inl ((hmem z).2 (t_ h))
  ·exact .inl ((hmem z).2 (t_ h))
  ·exact .inl ((hmem z).2 (t_ h))
  ·exact .inl ((hmem z).2 (t_ h))
  ·exact .inr ⟨o_,o_⟩
  ·exact .inl ((hmem z).2 (t_ h))
  ·exact .inl ((hmem z).2 (t_ h))
 ·rcases zr.1 hx with hx|hx
  ·exact hok x (yq _ hx)
  ·rcases zi.1 hx with rfl|hx
   ·exact hok'
   ·exact hok x (ye _ (zb _ hx))
 ·rcases zr.1 hq with hq|hq
  ·exact .inl ((hmem _).2 (by have:=hpre q hq; simp only[this,true_or,or_true]))
  ·simp only[zi,yp,or_false] at hq;rcases hq with rfl|rfl
   ·exact .inl ((hmem _).2 s_)
   ·exact .inr ⟨zx _,n_⟩
def C1J(l:List Ty)(S:List I0)(e:Ev)(i0:Int)(D T c:Nat)(id:Nat)(xs:List AV)(w:Int)(I:Nat)(BI:List Int)(d4:D≠I)(d5:T≠I)(d6:c≠I)(hk:3<=e.kind)(hfB:F2 (S.map I0.t) e.type e.id=true)(hS8:S.length<=1000)(d1:D≠T)(d2:D≠c)(d3:T≠c)
  (hCh:∀id,A2 prog 263 [.ptr D 0 0] [(D,S5 l (.bsl T 0 S.length) e (C3 (S.map I0.t) e.type e.id)),(T,P9 S),(c,⟨xs,zC,false,false⟩),(I,⟨BI.map eI,.int .i64 0,false,false⟩)] id (.int .i64 w) []) :
  A2 prog 195 [.ptr D 0 0] [(D,S5 l (.bsl T 0 S.length) e i0),(T,P9 S),(c,⟨xs,zC,false,false⟩),(I,⟨BI.map eI,.int .i64 0,false,false⟩)] id (.int .i64 w) [(D,some (S5 l (.bsl T 0 S.length) e (C3 (S.map I0.t) e.type e.id)))]:=by
 have hF:=λid=>T3 l S T e.type e.id id o_;have hk1:e.kind≠1:=by omega
 have hk2:e.kind≠2:=by omega
 unfold P9 S5 eD at *;refine w195.b.1 λE hP hR hl hid hB hu=>?_;simp[w195];have hD:=hl (D,_) (za ..);simp only at hD;have D1:=lf hD;have hT:=hl (T,_) (zb _ (za ..));simp only at hT;have T1:=lf hT;have hc:=hl (c,_) (zb _ (zb _ (za ..)));simp only at hc;have c1:=lf hc;have hI:=hl (I,_) (zb _ (zb _ (zb _ (za ..))));simp only at hI;have I1:=lf hI;have hTn:∀x∈S.map W9,B2 E.G0.used x:=C1 hB (zb _ (za ..));have hXn:∀x∈xs,B2 E.G0.used x:=C1 hB (zb _ (zb _ (za ..)));(refine yC rfl (hF _) ?_; simp[d1.symm]);refine A0 (t_ hk1) ?_;simp[d1.symm];refine A0 (t_ hk1) ?_;simp;refine A0 (t_ hk1) ?_;simp;refine A0 (t_ hfB) ?_;simp;refine H5 hP (v:=.bool false) (rd:=[]) s_ rfl (λhc=>by simp[hk2] at hc) ?_;refine A3 4000 ?_;simp;refine A0 (t_ hk2) ?_;simp;(refine yC rfl (hCh _) ?_; simp[d1.symm,d2.symm,d3.symm,d4.symm,d5.symm,d6.symm]);refine yE hR [] s_ λhrn=>⟨?_,?_,?_,?_,?_,?_⟩<;>(try simp[D1,T1,c1,d1,d1.symm,d2,d2.symm,d3,d3.symm,I1,d4,d4.symm,d5,d5.symm,d6,d6.symm]);exact⟨by exact yO hu hTn,by exact yO hu hXn⟩
def C1K(l:List Ty)(S:List I0)(e:Ev)(i0:Int)(D T c:Nat)(id:Nat)(xs:List AV)(k:Nat)(a b io:AV)(hx:xs[k]?=some (.agg [a,b,io]))(n:Int)(t:List UInt8)(I:Nat)(BI:List Int)(d4:D≠I)(d5:T≠I)(d6:c≠I)(hk:3<=e.kind)(hfB:F2 (S.map I0.t) e.type e.id=true)(hS8:S.length<=1000)(d1:D≠T)(d2:D≠c)(d3:T≠c)
  (hCh:∀id,A2 prog 263 [.ptr D 0 0] [(D,S5 l (.bsl T 0 S.length) e (C3 (S.map I0.t) e.type e.id)),(T,P9 S),(c,⟨xs,zC,false,false⟩),(I,⟨BI.map eI,.int .i64 0,false,false⟩)] id (.int .i64 0) [(c,some ⟨xs.set k (.agg [.int .i64 n,.str t,io]),zC,false,false⟩)]) :
  A2 prog 195 [.ptr D 0 0] [(D,S5 l (.bsl T 0 S.length) e i0),(T,P9 S),(c,⟨xs,zC,false,false⟩),(I,⟨BI.map eI,.int .i64 0,false,false⟩)] id (.int .i64 0) [(D,some (S5 l (.bsl T 0 S.length) e (C3 (S.map I0.t) e.type e.id))),(c,some ⟨xs.set k (.agg [.int .i64 n,.str t,io]),zC,false,false⟩)]:=by
 have hF:=λid=>T3 l S T e.type e.id id o_;have hk1:e.kind≠1:=by omega
 have hk2:e.kind≠2:=by omega
 unfold P9 S5 eD at *;refine w195.b.1 λE hP hR hl hid hB hu=>?_;simp[w195];have hD:=hl (D,_) (za ..);simp only at hD;have D1:=lf hD;have hT:=hl (T,_) (zb _ (za ..));simp only at hT;have T1:=lf hT;have hc:=hl (c,_) (zb _ (zb _ (za ..)));simp only at hc;have c1:=lf hc;have hI:=hl (I,_) (zb _ (zb _ (zb _ (za ..))));simp only at hI;have I1:=lf hI;have hTn:∀x∈S.map W9,B2 E.G0.used x:=C1 hB (zb _ (za ..));have hXn:∀x∈xs,B2 E.G0.used x:=C1 hB (zb _ (zb _ (za ..)));(refine yC rfl (hF _) ?_; simp[d1.symm]);refine A0 (t_ hk1) ?_;simp[d1.symm];refine A0 (t_ hk1) ?_;simp;refine A0 (t_ hk1) ?_;simp;refine A0 (t_ hfB) ?_;simp;refine H5 hP (v:=.bool false) (rd:=[]) s_ rfl (λhc=>by simp[hk2] at hc) ?_;refine A3 4000 ?_;simp;refine A0 (t_ hk2) ?_;simp;(refine yC rfl (hCh _) ?_; simp[d1.symm,d2.symm,d3.symm,d4.symm,d5.symm,d6.symm]);refine yE hR [] s_ λhrn=>⟨?_,?_,?_,?_,?_,?_⟩<;>(try simp[D1,T1,c1,d1,d1.symm,d2,d2.symm,d3,d3.symm,I1,d4,d4.symm,d5,d5.symm,d6,d6.symm]);have hio:B2 E.G0.used io:=by have:=hXn _ (zg hx); simp[B2,F4] at this; exact this.2.2
 refine⟨by exact yO hu hTn,J9 (A3X hu (by simp[B2,F4]; exact hio) λz h1 h2=>rfl) k (by exact yO hu hXn)⟩
def C1L(l:List Ty)(S:List I0)(e:Ev)(i0:Int)(D T c:Nat)(id:Nat)(xs:List AV)(k:Nat)(n:Int)(t:List UInt8)(ys:List Int)(I:Nat)(BI:List Int)(d4:D≠I)(d5:T≠I)(d6:c≠I)(hk:3<=e.kind)(hfB:F2 (S.map I0.t) e.type e.id=true)(hS8:S.length<=1000)(d1:D≠T)(d2:D≠c)(d3:T≠c)
  (hCh:∀id,A2 prog 263 [.ptr D 0 0] [(D,S5 l (.bsl T 0 S.length) e (C3 (S.map I0.t) e.type e.id)),(T,P9 S),(c,⟨xs,zC,false,false⟩),(I,⟨BI.map eI,.int .i64 0,false,false⟩)] id (.int .i64 0) [(c,some ⟨xs.set k (.agg [.int .i64 n,.str t,.bsl id 0 ys.length]),zC,false,false⟩),(id,some ⟨ys.map eI,.int .i64 0,false,false⟩)]) :
  A2 prog 195 [.ptr D 0 0] [(D,S5 l (.bsl T 0 S.length) e i0),(T,P9 S),(c,⟨xs,zC,false,false⟩),(I,⟨BI.map eI,.int .i64 0,false,false⟩)] id (.int .i64 0) [(D,some (S5 l (.bsl T 0 S.length) e (C3 (S.map I0.t) e.type e.id))),(c,some ⟨xs.set k (.agg [.int .i64 n,.str t,.bsl id 0 ys.length]),zC,false,false⟩),(id,some ⟨ys.map eI,.int .i64 0,false,false⟩)]:=by
 have hF:=λid=>T3 l S T e.type e.id id o_;have hk1:e.kind≠1:=by omega
 have hk2:e.kind≠2:=by omega
 unfold P9 S5 eD at *;refine w195.b.1 λE hP hR hl hid hB hu=>?_;simp[w195];have hD:=hl (D,_) (za ..);simp only at hD;have D1:=lf hD;have hT:=hl (T,_) (zb _ (za ..));simp only at hT;have T1:=lf hT;have hc:=hl (c,_) (zb _ (zb _ (za ..)));simp only at hc;have c1:=lf hc;have hI:=hl (I,_) (zb _ (zb _ (zb _ (za ..))));simp only at hI;have I1:=lf hI;have hTn:∀x∈S.map W9,B2 E.G0.used x:=C1 hB (zb _ (za ..));have hXn:∀x∈xs,B2 E.G0.used x:=C1 hB (zb _ (zb _ (za ..)));(refine yC rfl (hF _) ?_; simp[d1.symm]);refine A0 (t_ hk1) ?_;simp[d1.symm];refine A0 (t_ hk1) ?_;simp;refine A0 (t_ hk1) ?_;simp;refine A0 (t_ hfB) ?_;simp;refine H5 hP (v:=.bool false) (rd:=[]) s_ rfl (λhc=>by simp[hk2] at hc) ?_;refine A3 4000 ?_;simp;refine A0 (t_ hk2) ?_;simp;(refine yC rfl (hCh _) ?_; simp[d1.symm,d2.symm,d3.symm,d4.symm,d5.symm,d6.symm]);refine yE hR [(id,E.n0+82944)] s_ λhrn=>⟨?_,?_,?_,?_,?_,?_⟩<;>(try simp[D1,T1,c1,d1,d1.symm,d2,d2.symm,d3,d3.symm,I1,d4,d4.symm,d5,d5.symm,d6,d6.symm]);exact⟨by exact yO hu hTn,J9 (by simp[I5 hid]) k (by exact yO hu hXn)⟩
def B8s(l:List Ty)(S:List I0)(e:Ev)(T:Nat)(id:Nat)(c:Nat)(xs:List AV)(k:Nat)(a b io:AV)(hx:xs[k]?=some (.agg [a,b,io]))(n:Int)(t:List UInt8)(I:Nat)(BI:List Int)(d3:T≠c)(d5:T≠I)(d6:c≠I)(m:Int)(hl8:l.length<=1000)(hf0:W7 e=0)(h0:0<=e.type)(h1:e.type<=(l.length:Int) - 1)(h2:1<=e.id)(h3:e.id<=999)
  (hDo:∀D id,(∀q∈[(T,P9 S),(c,⟨xs,zC,false,false⟩),(I,⟨BI.map eI,.int .i64 0,false,false⟩)],q.1≠D)->A2 prog 195 [.ptr D 0 0] ((D,S5 l (.bsl T 0 S.length) e 0)::[(T,P9 S),(c,⟨xs,zC,false,false⟩),(I,⟨BI.map eI,.int .i64 0,false,false⟩)]) id (.int .i64 0) ((D,some (S5 l (.bsl T 0 S.length) e m))::[(c,some ⟨xs.set k (.agg [.int .i64 n,.str t,io]),zC,false,false⟩)])) :
  A2 prog 126 [.agg [.sl (l.map I9),.bsl T 0 S.length],S1 e] [(T,P9 S),(c,⟨xs,zC,false,false⟩),(I,⟨BI.map eI,.int .i64 0,false,false⟩)] id (.tup [.agg [.sl (l.map I9),(.bsl T 0 S.length)],.int .i64 0]) ([(c,some ⟨xs.set k (.agg [.int .i64 n,.str t,io]),zC,false,false⟩)]):=by
 have hFm:=λid=>m9 e id;have hw1:IntKind.i64.wrap ((l.length:Int) - 1)=(l.length:Int) - 1:=wrap64 o_;replace hDo:=λD id hne=>(hDo D id hne).setD ⟨[eD l (.bsl T 0 S.length) e 0],eD l (.bsl T 0 S.length) e 0,false,false⟩ rfl rfl rfl rfl hne;unfold P9 S5 eD S1 at *;refine w126.b.1 λE hP hR hl hid hB hu=>?_;simp[w126,D4];have hT:=hl (T,_) (za ..);simp only at hT;have T1:=lf hT;have hTn:∀x∈S.map W9,B2 E.G0.used x:=C1 hB (za ..);have hc:=hl (c,_) (zb _ (za ..));simp only at hc;have c1:=lf hc;have hXn:∀x∈xs,B2 E.G0.used x:=C1 hB (zb _ (za ..));have hI:=hl (I,_) (zb _ (zb _ (za ..)));simp only at hI;have I1:=lf hI;(refine yC rfl (hFm _) ?_; simp);refine A0 (t_ hf0) ?_;simp;rw[hw1];(refine E5 hP rfl (H1 _ _ _ _) s_ f_ ?_; refine A3 4000 ?_; simp);refine A0 m_ ?_;simp;(refine E5 hP rfl (H1 _ _ _ _) s_ f_ ?_; refine A3 4000 ?_; simp);refine A0 m_ ?_;simp;refine A0 (t_ hf0) ?_;simp;(refine E5 hP rfl (hDo _ _ (by exactλq hq=>by have:=(hl q hq).1; omega)) s_ (by simp[T1,c1,I1,d3.symm,d5.symm,d6.symm]<;>rfl) ?_; refine A3 4000 ?_; simp[c1]);refine yE hR [] s_ λhrn=>⟨?_,?_,?_,?_,?_,?_⟩<;>(try simp[T1,c1,I1,d3,d3.symm,d5,d5.symm,d6,d6.symm]);have hio:B2 E.G0.used io:=by have:=hXn _ (zg hx); simp[B2,F4] at this; exact this.2.2
 refine⟨by exact yO hu hTn,J9 (A3X hu (by simp[B2,F4]; exact hio) λz h1 h2=>rfl) k (by exact yO hu hXn)⟩
def B8t(l:List Ty)(S:List I0)(e:Ev)(T:Nat)(id:Nat)(c:Nat)(xs:List AV)(k:Nat)(n:Int)(t:List UInt8)(ys:List Int)(I:Nat)(BI:List Int)(d3:T≠c)(d5:T≠I)(d6:c≠I)(m:Int)(hl8:l.length<=1000)(hf0:W7 e=0)(h0:0<=e.type)(h1:e.type<=(l.length:Int) - 1)(h2:1<=e.id)(h3:e.id<=999)
  (hDo:∀D id,(∀q∈[(T,P9 S),(c,⟨xs,zC,false,false⟩),(I,⟨BI.map eI,.int .i64 0,false,false⟩)],q.1≠D)->A2 prog 195 [.ptr D 0 0] ((D,S5 l (.bsl T 0 S.length) e 0)::[(T,P9 S),(c,⟨xs,zC,false,false⟩),(I,⟨BI.map eI,.int .i64 0,false,false⟩)]) id (.int .i64 0) ((D,some (S5 l (.bsl T 0 S.length) e m))::[(c,some ⟨xs.set k (.agg [.int .i64 n,.str t,.bsl id 0 ys.length]),zC,false,false⟩),(id,some ⟨ys.map eI,.int .i64 0,false,false⟩)])) :
  A2 prog 126 [.agg [.sl (l.map I9),.bsl T 0 S.length],S1 e] [(T,P9 S),(c,⟨xs,zC,false,false⟩),(I,⟨BI.map eI,.int .i64 0,false,false⟩)] id (.tup [.agg [.sl (l.map I9),(.bsl T 0 S.length)],.int .i64 0]) ([(c,some ⟨xs.set k (.agg [.int .i64 n,.str t,.bsl id 0 ys.length]),zC,false,false⟩),(id,some ⟨ys.map eI,.int .i64 0,false,false⟩)]):=by
 have hFm:=λid=>m9 e id;have hw1:IntKind.i64.wrap ((l.length:Int) - 1)=(l.length:Int) - 1:=wrap64 o_;replace hDo:=λD id hne=>(hDo D id hne).setD ⟨[eD l (.bsl T 0 S.length) e 0],eD l (.bsl T 0 S.length) e 0,false,false⟩ rfl rfl rfl rfl hne;unfold P9 S5 eD S1 at *;refine w126.b.1 λE hP hR hl hid hB hu=>?_;simp[w126,D4];have hT:=hl (T,_) (za ..);simp only at hT;have T1:=lf hT;have hTn:∀x∈S.map W9,B2 E.G0.used x:=C1 hB (za ..);have hc:=hl (c,_) (zb _ (za ..));simp only at hc;have c1:=lf hc;have hXn:∀x∈xs,B2 E.G0.used x:=C1 hB (zb _ (za ..));have hI:=hl (I,_) (zb _ (zb _ (za ..)));simp only at hI;have I1:=lf hI;(refine yC rfl (hFm _) ?_; simp);refine A0 (t_ hf0) ?_;simp;rw[hw1];(refine E5 hP rfl (H1 _ _ _ _) s_ f_ ?_; refine A3 4000 ?_; simp);refine A0 m_ ?_;simp;(refine E5 hP rfl (H1 _ _ _ _) s_ f_ ?_; refine A3 4000 ?_; simp);refine A0 m_ ?_;simp;refine A0 (t_ hf0) ?_;simp;(refine E5 hP rfl (hDo _ _ (by exactλq hq=>by have:=(hl q hq).1; omega)) s_ (by simp[T1,c1,I1,d3.symm,d5.symm,d6.symm]<;>rfl) ?_; refine A3 4000 ?_; simp[c1]);refine yE hR [(id,E.n0+32768)] s_ λhrn=>⟨?_,?_,?_,?_,?_,?_⟩<;>(try simp[T1,c1,I1,d3,d3.symm,d5,d5.symm,d6,d6.symm]);exact⟨by exact yO hu hTn,J9 (by simp[I5 hid]) k (by exact yO hu hXn)⟩
def B8u(kind tid:Int)(t:Tg):Bool:=t.type==kind&&t.id==tid
def W4(ta ia tb ib:Int):Bool:=decide (ta<tb)||(decide (ta=tb)&&decide (ia<ib))
def B8v{ta ia tb ib:Int}(h1:0<=ta/\ta<=1000)(h2:0<=tb/\tb<=1000)(h3:1<=ia/\ia<=999)(h4:1<=ib/\ib<=999):(0<=A0Z ta ia tb ib)↔W4 ta ia tb ib=false:=by
 unfold A0Z W4;split
 ·rw[wrap64 o_]; simp; omega
 ·rw[wrap64 o_]; simp; omega
def I64(n:Int):Prop:=-9223372036854775808<=n/\n<=9223372036854775807
def A5a{ta ia kind tid:Int}(h1:0<=ta/\ta<=1000)(h2 : -1<=kind/\kind<=1000)(h3:1<=ia/\ia<=999)(h4:I64 tid):A0Z ta ia kind tid=0↔ta=kind/\ia=tid:=by
 unfold A0Z;unfold I64 at h4;split
 ·rw[wrap64 o_]; omega
 ·by_cases hr:ia - tid<=9223372036854775807
  ·rw[wrap64 o_]; omega
  ·have:IntKind.i64.wrap (ia - tid)=ia - tid - 18446744073709551616:=by
    rw[IntKind.wrap_i64]; omega
   rw[this]; omega
def A7r(f:Nat->Int)(j:Nat):∀(n a b:Nat),b - a<n->a<=j->j<=b->(∀k,a<=k->k<j->f k<0)->(∀k,j<=k->k<b->¬f k<0)->bs f a b=j
 | 0,a,b,hn,_,_,_,_=>by omega
 | n+1,a,b,hn,h1,h2,h3,h4=>by
  rw[bs];split
  ·rename_i hab;split
   ·rename_i hm;have hj:(a+b) / 2<j:=by
     by_cases hh:(a+b) / 2<j
     ·exact hh
     ·exact (h4 _ o_ o_ hm).elim
    exact A7r f j n _ b o_ o_ h2 (λk hk hkj=>h3 k o_ hkj) h4
   ·rename_i hm;have hj:j<=(a+b) / 2:=by
     by_cases hh:j<=(a+b) / 2
     ·exact hh
     ·exact (hm (h3 _ o_ o_)).elim
    exact A7r f j n a _ o_ h1 hj h3 (λk hk hkb=>h4 k hk o_)
  ·omega
structure Srt(l:List Tg):Prop where
 ty:∀t∈l,0<=t.type/\t.type<=1000
 id:∀t∈l,1<=t.id/\t.id<=999
 asc:∀(i j:Nat) (a b:Tg),i<j->l[i]?=some a->l[j]?=some b->W4 a.type a.id b.type b.id=true
def A7H{a b c d e f:Int}(h1:W4 a b c d=true)(h2:W4 c d e f=true):W4 a b e f=true:=by
 simp[W4] at *; omega
def Y3{ta ia tb ib:Int}(h1:0<=ta/\ta<=1000)(h2:0<=tb/\tb<=1000)(h3:1<=ia/\ia<=999)(h4:1<=ib/\ib<=999):(A0Z ta ia tb ib<0)↔W4 ta ia tb ib=true:=by
 have:=B8v h1 h2 h3 h4;cases h:W4 ta ia tb ib<;>simp[h] at this<;>simp<;>omega
def Srt.found{l:List Tg}(h:Srt l){j:Nat}{t:Tg}(ht:l[j]?=some t):C3 l t.type t.id=j:=by
 have hlt:=(ze.1 ht).1;have htm:=zg ht;unfold C3;refine A7r _ j (l.length+1) 0 l.length o_ o_ o_ (λk _ hk=>?_) (λk hk hkl=>?_)
 ·obtain⟨u,hu⟩:∃u,l[k]?=some u:=⟨_,zc o_⟩;have hum:=zg hu;simp only[J7,hu];rw[Y3 (h.ty u hum) (h.ty t htm) (h.id u hum) (h.id t htm)];exact h.asc k j u t hk hu ht
 ·obtain⟨u,hu⟩:∃u,l[k]?=some u:=⟨_,zc o_⟩;have hum:=zg hu;simp only[J7,hu];rw[Y3 (h.ty u hum) (h.ty t htm) (h.id u hum) (h.id t htm)];rcases yd j k with hjk|hjk
  ·have:=h.asc j k t u hjk ht hu;simp[W4] at this ⊢; omega
  ·obtain rfl:k=j:=by omega
   rw[ht] at hu; injection hu with hu; subst hu
   simp[W4]
def Srt.findB{l:List Tg}(h:Srt l){kind tid:Int}(h2 : -1<=kind/\kind<=1000)(h4:I64 tid):F2 l kind tid=l.any (B8u kind tid):=by
 rw[wg,vo];constructor
 ·intro hb;simp only[F2,yk,decide_eq_true_eq] at hb;obtain⟨hlt,hz⟩:=hb;obtain⟨u,hu⟩:∃u,l[C3 l kind tid]?=some u:=⟨_,zc hlt⟩;have hum:=zg hu;simp only[J7,hu] at hz;rw[A5a (h.ty u hum) h2 (h.id u hum) h4] at hz;exact⟨u,hum,by simp[B8u,hz.1,hz.2]⟩
 ·rintro⟨t,ht,he⟩;simp[B8u] at he;obtain⟨rfl,rfl⟩:=he;obtain⟨j,hj⟩:=yi.1 ht;have hf:=h.found hj;have hlt:=(ze.1 hj).1;simp only[F2,hf,yk,decide_eq_true_eq];refine⟨hlt,?_⟩;simp only[J7,hj];rw[A5a (h.ty t ht) h2 (h.id t ht) h4];exact⟨rfl,rfl⟩
def C6b{s:H6}(hS:A7F s.types)(hz:D2 (λi t=>A1X s i t) s.things 0=0):(∀t∈s.things,A4w s t)/\Srt s.things:=by
 have h1:∀(k:Nat) t,s.things[k]?=some t->A1X s k t=0:=λk t hk=>by
  have:=R5 _ _ _ hz k t hk
  rwa [yy] at this
 have hall:∀t∈s.things,A4w s t:=λt ht=>by
  obtain⟨k,hk⟩:=yi.1 ht;have h0:=h1 k t hk;refine C6a ?_;unfold A1X at h0;split at h0
  ·rename_i g; exact (g h0).elim
  ·rename_i g; exact zk g
 have hty:∀t∈s.things,0<=t.type/\t.type<=1000:=λt ht=>⟨(hall t ht).ty0,by have:=(hall t ht).ty1; have:=hS.len; omega⟩;have hid:∀t∈s.things,1<=t.id/\t.id<=999:=λt ht=>⟨(hall t ht).id1,(hall t ht).id2⟩;have hstep:∀(i:Nat) (a b:Tg),s.things[i]?=some a->s.things[i+1]?=some b->W4 a.type a.id b.type b.id=true:=λi a b ha hb=>by
  have h0:=h1 (i+1) b hb;unfold A1X at h0;split at h0
  ·rename_i g; exact (g h0).elim
  split at h0
  ·omega
  ·rename_i g;simp[J7,ha] at g;have ham:=zg ha;have hbm:=zg hb;exact (Y3 (hty a ham) (hty b hbm) (hid a ham) (hid b hbm)).1 g
 refine⟨hall,hty,hid,λi j a b hij ha hb=>?_⟩;obtain⟨d,rfl⟩:∃d,j=i+1+d:=⟨j - i - 1,o_⟩;clear hij;induction d generalizing b with
 | zero=>exact hstep i a b ha hb
 | succ d ih =>
  obtain⟨c,hc⟩:∃c,s.things[i+1+d]?=some c:=⟨_,zc (by have:=(ze.1 hb).1; omega)⟩;exact A7H (ih c hc) (hstep _ c b hc (by rw[show i+1+d+1=i+1+(d+1) by omega]; exact hb))
def B41{α:Type}(p:α->Bool):∀(l:List α) (i:Nat),-1<=E0 p l i/\E0 p l i<(i+l.length:Nat) \/E0 p l i = -1
 | [],i=>.inr rfl
 | x::l,i=>by
  simp only[E0];split
  ·exact .inl ⟨o_,m_⟩
  ·rcases B41 p l (i+1) with h|h
   ·exact .inl ⟨h.1,by have:=h.2; simp at this ⊢; omega⟩
   ·exact .inr h
def B8w{l:List Ty}(hS:A7F l)(n:List UInt8): -1<=B8 l n/\B8 l n<=1000:=by
 have:=hS.len;rcases B41 (λt:Ty=>t.name==n) l 0 with h|h
 ·unfold B8; omega
 ·unfold B8; omega
end Go.Am
