/- Parts of the proof: an abstract machine for Go functions, and what functions of the program give back (Do10, Do11, Ra1, Do12, Ra2, Ra3, Ra4, Ra5, Do13, Ra2b, So1, St6). No condition. -/
import Derived.Test.YtphjabjjnncebaaGreatDoorXL
import Derived.Test.YtphjabjjnncebaaGreatDoorXJ
set_option maxRecDepth 100000
set_option linter.all false
set_option maxHeartbeats 1000000
namespace Go.Am
open Go Go.Proofs Go.RowKit
theorem A9u{q:Nat×Bx}:∀{l:List (Nat×Bx)},q∈l->(q.1,some q.2)∈C9 l
 | p::l,h=>by
  obtain⟨i,b⟩:=p;rcases zh.1 h with rfl|h
  ·exact za ..
  ·exact zb _ (A9u h)
theorem A89:∀{l:List (Nat×Bx)},(C9 l).map Prod.fst=l.map Prod.fst
 | []=>rfl
 | (i,b)::l=>by simp[C9,A89 (l:=l)]
theorem B5Z{l:List (Nat×Bx)}(hn:(l.map Prod.fst).Nodup){q:Nat×Bx}(h:q∈l):bk (C9 l) q.1=some q.2 :=
 A27 (by rw[A89]; exact hn) (A9u h)
theorem A0O{R:Rn}{S:Nat->Prop}{bx':List (Nat×Option Bx)}{fin:Nat->Option Bx}:∀{a b:List Nat},A2S R S bx' fin a->A2S R S bx' fin b->A2S R S bx' fin (a++b)
 | [],_,_,h=>h
 | _::_,_,h1,h=>⟨h1.1,A0O h1.2 h⟩
theorem A3M{E:R4}{id:Nat}{rd:List (Nat×Bx)}{wr bx':List (Nat×Option Bx)}{rn:List (Nat×Nat)}{hrn:H5 rn}(hh:K5 E.β rd)(hu:∀z,E.G0.used z->z<id\/id+1024<=z)
  (hk:∀z,z<E.n0->(z<id\/id+1024<=z)->lkN rn z=none) (hg:∀z,z<E.n0->U0 rn z=false):∀{rest:List (Nat×Bx)},(∀q∈rest,q∈rd/\F4 (bk (C9 rd)) wr q.1=some q.2/\bk bx' q.1=some q.2)->A2S (Q0 E.n0 rn hrn) E.G0.used bx' (F4 (bk (C9 rd)) wr) (rest.map (·.1))
 | [],_=>trivial
 | q::rest,h=>by
  obtain⟨h1,h2,h3⟩:=h q (za ..);refine⟨?_,A3M hh hu hk hg fun q hq=>h q (zb _ hq)⟩;rw[h2];have hus:=E.rs0.boxNames (hh q h1);have hlt:=E.old _ hus.1;refine⟨q.1,q.2,?_,h3,BxR.same fun i x hx=>L4 (B5H hu hk) x (hus.2 i x hx)⟩;show rnF E.n0 rn q.1=some q.1;unfold rnF;rw[hk _ hlt (hu _ hus.1)];simp[hlt,hg _ hlt]
theorem A1G{n0:Nat}{bx:List (Nat×Option Bx)}:∀{a b:List (Nat×Option Bx)},I9 n0 bx a->I9 n0 bx b->I9 n0 bx (a++b)
 | [],_,_,h=>h
 | _::_,_,h1,h=>⟨h1.1,A1G h1.2 h⟩
theorem u7{n0:Nat}{bx:List (Nat×Option Bx)}:∀{l:List (Nat×Bx)},(∀q∈l,J7 q.1 bx)->I9 n0 bx (C9 l)
 | [],_=>trivial
 | (i,b)::l,h=>⟨.inr (h _ (za ..)),u7 fun q hq=>h q (zb _ hq)⟩
theorem A2g{rest:List (Nat×Bx)}(hn:(rest.map Prod.fst).Nodup){q:Nat×Bx}(hq:q∈rest):∀{pre:List (Nat×Option Bx)},(∀p∈pre,q.1≠p.1)->bk (pre++C9 rest) q.1=some q.2
 | [],_=>B5Z hn hq
 | p::pre,h=>by
  rw[yv,A3k (h p (za ..))];exact A2g hn hq fun p hp=>h p (zb _ hp)
theorem A3w{rest:List (Nat×Bx)}{pre:List (Nat×Option Bx)}(hn:(rest.map Prod.fst).Nodup)(h:∀q∈rest,∀p∈pre,q.1≠p.1):l9 (bk (pre++C9 rest)) rest :=
 l9.of fun q hq=>A2g hn hq (h q hq)
theorem B9H(l:List Ty)(S:List H1)(e:Ev)(i0:Int)(D T:Nat)(id:Nat)(hk:e.kind=2)(hfB:E9 (S.map H1.t) e.type e.id=true)(hS:∀o∈S,o.Ok)(h5:l.length<=1000)(hS8:S.length<=1000)(d1:D≠T)(hnd:((I6 S).map Prod.fst).Nodup)(dD:∀q∈I6 S,q.1≠D)(dT:∀q∈I6 S,q.1≠T)
  (hok:∀t∈S.map H1.t,0<=t.type/\t.type.toNat<l.length/\t.cells.length=(C8 l t.type).length/\t.cells.length<=1000000/\∀c∈t.cells,c.ids.length<=6) (hm:Q7 (S1 l e) l (S.map H1.t)=false) :
  A2 Tryz.prog 195 [.ptr D 0 0] ((D,S2 l (.bsl T 0 S.length) e i0)::(T,P2 S)::I6 S) id (.int .i64 4) [(D,some (S2 l (.bsl T 0 S.length) e (B9 (S.map H1.t) e.type e.id)))]:=by
 have hF:=fun id=>T6 l S T e.type e.id id (by omega);have hM:=fun i id=>A9t l S e i D T id hS h5 (by omega) hok;rw[hm] at hM;generalize hrest:I6 S=rest at *;unfold P2 S2 eD at *;refine w195.b.1 fun E hP hR hl hid hB hu=>?_;simp[w195,C9];have hD:=hl (D,_) (za ..);simp only at hD;have D1:=lf hD;have hT:=hl (T,_) (zb _ (za ..));simp only at hT;have T1:=lf hT;have hTn:∀x∈S.map W6,B4 E.G0.used x:=C1 hB (zb _ (za ..));(refine yC rfl (hF _) ?_; simp[D1,T1,d1,d1.symm]);refine A0 (by simp[hk]) ?_;simp[D1,T1,d1,d1.symm];refine A0 (by simp[hk]) ?_;simp[D1,T1,d1,d1.symm];refine A0 (by simp[hk]) ?_;simp[D1,T1,d1,d1.symm];refine A0 (by simp[hfB]) ?_;simp[D1,T1,d1,d1.symm];refine I3 hP (by simp[D1,T1,d1,d1.symm]) rfl (fun hc=>⟨hM (B9 (S.map H1.t) e.type e.id) _,by simp[D1,T1,d1,d1.symm]; simp[hk],?_⟩) ?_
 ·refine⟨by simp,by simp[D1,T1,d1,d1.symm],A3w (pre:=[_,_,_]) hnd fun q hq p hp=>?_⟩;simp only[zh,yn,or_false] at hp;rcases hp with rfl|rfl|rfl
  ·exact dD q hq
  ·exact dD q hq
  ·exact dT q hq
 refine A3 4000 ?_;simp[D1,T1,d1,d1.symm];refine A9 (by simp[hk]) ?_;simp[D1,T1,d1,d1.symm];rw[hR];have hrn:H5 []:=trivial;refine E8 (by simp<;>rfl) [] hrn ⟨?_,?_,?_,?_,?_,?_⟩
 ·simp
 ·show A2S _ _ _ _ ([D,T]++(rest.map (·.1)++[D]));refine A0O ?_ (A0O (A3M hB hu (fun z _ _=>rfl) (fun z _=>rfl) fun q hq=>⟨zb _ (zb _ hq),?_,?_⟩) ?_)
  ·simp[C9,D1,T1,d1,d1.symm];all_goals exact yO hu hTn
  ·simp only[F4];rw[B7 _ _ _ (dD q hq)];refine A2g (pre:=[_,_]) hnd hq fun p hp=>?_;simp only[zh,yn,or_false] at hp;rcases hp with rfl|rfl
   ·exact dD q hq
   ·exact dT q hq
  ·refine A2g (pre:=[_,_,_]) hnd hq fun p hp=>?_;simp only[zh,yn,or_false] at hp;rcases hp with rfl|rfl|rfl
   ·exact dD q hq
   ·exact dD q hq
   ·exact dT q hq
  ·simp[C9,D1,T1,d1,d1.symm]
 ·show I9 _ _ ([_,_,_]++C9 rest);refine A1G ?_ (u7 fun q hq=>Q6.2 (zu.2 ⟨q,zb _ (zb _ hq),rfl⟩));simp[C9,D1,T1,d1,d1.symm]
 ·simp[C9]
 ·simp
 ·simp
theorem C1z(l:List Ty)(S:List H1)(e:Ev)(i0:Int)(D T:Nat)(id:Nat)(hk:e.kind=2)(hfB:E9 (S.map H1.t) e.type e.id=true)(hS:∀o∈S,o.Ok)(h5:l.length<=1000)(hS8:S.length<=1000)(d1:D≠T)(hnd:((I6 S).map Prod.fst).Nodup)(dD:∀q∈I6 S,q.1≠D)(dT:∀q∈I6 S,q.1≠T)
  (hok:∀t∈S.map H1.t,0<=t.type/\t.type.toNat<l.length/\t.cells.length=(C8 l t.type).length/\t.cells.length<=1000000/\∀c∈t.cells,c.ids.length<=6) (hm:Q7 (S1 l e) l (S.map H1.t)=true) :
  A2 Tryz.prog 195 [.ptr D 0 0] ((D,S2 l (.bsl T 0 S.length) e i0)::(T,P2 S)::I6 S) id (.int .i64 0) [(D,some (S2 l (.bsl id 0 (S.length - 1)) e (B9 (S.map H1.t) e.type e.id))),(T,none),(id,some ⟨(S.map W6).take (B9 (S.map H1.t) e.type e.id)++(S.map W6).drop (B9 (S.map H1.t) e.type e.id+1),zT,false,false⟩)]:=by
 have hF:=fun id=>T6 l S T e.type e.id id (by omega);have hM:=fun i id=>A9t l S e i D T id hS h5 (by omega) hok;rw[hm] at hM;generalize hrest:I6 S=rest at *;unfold P2 S2 eD at *;refine w195.b.1 fun E hP hR hl hid hB hu=>?_;simp[w195,C9];have hD:=hl (D,_) (za ..);simp only at hD;have D1:=lf hD;have hT:=hl (T,_) (zb _ (za ..));simp only at hT;have T1:=lf hT;have hTn:∀x∈S.map W6,B4 E.G0.used x:=C1 hB (zb _ (za ..));(refine yC rfl (hF _) ?_; simp[D1,T1,d1,d1.symm]);refine A0 (by simp[hk]) ?_;simp[D1,T1,d1,d1.symm];refine A0 (by simp[hk]) ?_;simp[D1,T1,d1,d1.symm];refine A0 (by simp[hk]) ?_;simp[D1,T1,d1,d1.symm];refine A0 (by simp[hfB]) ?_;simp[D1,T1,d1,d1.symm];refine I3 hP (by simp[D1,T1,d1,d1.symm]) rfl (fun hc=>⟨hM (B9 (S.map H1.t) e.type e.id) _,by simp[D1,T1,d1,d1.symm]; simp[hk],?_⟩) ?_
 ·refine⟨by simp,by simp[D1,T1,d1,d1.symm],A3w (pre:=[_,_,_]) hnd fun q hq p hp=>?_⟩;simp only[zh,yn,or_false] at hp;rcases hp with rfl|rfl|rfl
  ·exact dD q hq
  ·exact dD q hq
  ·exact dT q hq
 refine A3 4000 ?_;simp[D1,T1,d1,d1.symm];refine A9 (by simp[hk]) ?_;simp[D1,T1,d1,d1.symm];have hlt:B9 (S.map H1.t) e.type e.id<S.length:=by unfold E9 at hfB; simp at hfB; exact hfB.1
 have hw1:IntKind.i64.wrap ((B9 (S.map H1.t) e.type e.id:Int)+1)=(B9 (S.map H1.t) e.type e.id:Int)+1:=A5 (by omega);have hDl:=fun id=>B4T S T (B9 (S.map H1.t) e.type e.id) id hlt (by omega);rw[hw1];generalize B9 (S.map H1.t) e.type e.id=m at *;(refine yC rfl (hDl _) ?_; simp[D1,T1,d1,d1.symm]);rw[hR];have hrn:H5 [(id,E.n0+91136)]:=by simp
 have hn9:∀q∈rest,q.1≠E.n0+91136:=fun q hq=>by have:=(hl q (zb _ (zb _ hq))).1; omega
 have hni:∀q∈rest,q.1≠id:=fun q hq=>by have:=(hl q (zb _ (zb _ hq))).2; omega
 have hlk:∀z,z<E.n0->(z<id\/id+1024<=z)->lkN [(id,E.n0+91136)] z=none:=fun z h1 h2=>by
  have a1:z≠id:=by omega
  simp[lkN,a1]
 have hgn:∀z,z<E.n0->U0 [(id,E.n0+91136)] z=false:=fun z h1=>by
  have a1:z≠E.n0+91136:=by omega
  simp[U0,a1]
 refine E8 (by simp<;>rfl) [(id,E.n0+91136)] hrn ⟨?_,?_,?_,?_,?_,?_⟩
 ·simp
 ·show A2S _ _ _ _ ([D,T]++(rest.map (·.1)++[D,T,id]));refine A0O ?_ (A0O (A3M hB hu hlk hgn fun q hq=>⟨zb _ (zb _ hq),?_,?_⟩) ?_)
  ·simp[C9,A4 hid,D1,T1,d1,d1.symm]
  ·simp only[F4];rw[B7 _ _ _ (hni q hq),B7 _ _ _ (dT q hq),B7 _ _ _ (dD q hq)];refine A2g (pre:=[_,_]) hnd hq fun p hp=>?_;simp only[zh,yn,or_false] at hp;rcases hp with rfl|rfl
   ·exact dD q hq
   ·exact dT q hq
  ·refine A2g (pre:=[_,_,_,_,_,_]) hnd hq fun p hp=>?_;simp only[zh,yn,or_false] at hp;rcases hp with rfl|rfl|rfl|rfl|rfl|rfl
   ·exact dD q hq
   ·exact hn9 q hq
   ·exact dT q hq
   ·exact dD q hq
   ·exact dD q hq
   ·exact dT q hq
  ·simp[C9,A4 hid,D1,T1,d1,d1.symm];all_goals exact s7 (j0 hu hlk fun x hx=>hTn x (xh hx)) (j0 hu hlk fun x hx=>hTn x (xf hx))
 ·show I9 _ _ ([_,_,_,_,_,_]++C9 rest);refine A1G ?_ (u7 fun q hq=>Q6.2 (zu.2 ⟨q,zb _ (zb _ hq),rfl⟩));simp[C9,D1,T1,d1,d1.symm]
 ·simp[C9]
 ·simp
 ·simp
theorem A2.setD{P:Program}{f:Nat}{args:List AV}{D:Nat}{x:Bx}{o:Option Bx}{rd:List (Nat×Bx)}{id:Nat}{res:AV}{wr:List (Nat×Option Bx)}(h:A2 P f args ((D,x)::rd) id res ((D,o)::wr))(x':Bx)(h1:x'.xs=x.xs)(h2:x'.sz=x.sz)(h3:x'.ro=x.ro)(h4:x'.frz=x.frz)(hne:∀q∈rd,q.1≠D):
  A2 P f args ((D,x')::rd) id res ((D,o)::wr):=by
 refine⟨h.1,fun C G bx w vs nb hs hv hh hnb hid=>?_⟩;have hD:bx D=some x':=hh (D,x') (za ..);have s1:RS C G (U8 bx D (some x)) w:=by
  refine⟨hs.below,hs.size,hs.fzok,hs.fzold,fun i y hy hn=>?_,fun i y hy hn=>?_,hs.nlu,hs.used,hs.inj,hs.rows⟩
  ·by_cases e:i=D
   ·subst e;rw[C7] at hy;injection hy with hy
    subst hy;have:=hs.box i x' hD hn;rw[h1,h2,h3,h4] at this;exact this
   ·rw[B7 _ _ _ e] at hy; exact hs.box i y hy hn
  ·by_cases e:i=D
   ·subst e;rw[C7] at hy;injection hy with hy
    subst hy;have:=hs.nil i x' hD hn;rw[h1,h3] at this;exact this
   ·rw[B7 _ _ _ e] at hy; exact hs.nil i y hy hn
 have:=h.2 C G _ w vs nb s1 hv (fun q hq=>by
  rcases zh.1 hq with rfl|hq
  ·exact C7 ..
  ·rw[B7 _ _ _ (hne q hq)]; exact hh q (zb _ hq)) hnb hid
 refine Calls.mono this fun e w' hq=>?_;obtain⟨v,G',q1,q2,q3⟩:=hq;refine⟨v,G',q1,?_,q3⟩;have e1:U8 (U8 bx D (some x)) D o=U8 bx D o:=by
  funext y
  by_cases e:y=D
  ·subst e; rw[C7,C7]
  ·rw[B7 _ _ _ e,B7 _ _ _ e,B7 _ _ _ e]
 simp only[F4] at q2 ⊢;rw[e1] at q2;exact q2
def X9(l:List Ty)(e:Ev):Int:=if U1 e≠0 then U1 e else if ¬(0<=e.type/\e.type<=(l.length:Int) - 1) then 5 else if ¬(1<=e.id/\e.id<=999) then 3 else 0
def eS0:AV:=.agg [.nils,.nils]
theorem B9I(l:List Ty)(e:Ev)(T n:Nat)(id:Nat)(hl8:l.length<=1000)(hw:X9 l e≠0):
  A2 Tryz.prog 126 [.agg [.sl (l.map I8),.bsl T 0 n],K7 e] [] id (.tup [eS0,.int .i64 (X9 l e)]) []:=by
 have hFm:=fun id=>j6 e id;have hw1:IntKind.i64.wrap ((l.length:Int) - 1)=(l.length:Int) - 1:=A5 (by omega);unfold K7 eS0 at *;refine w126.b.1 fun E hP hR hl hid hB hu=>?_;simp[w126];(refine yH rfl (hFm _) ?_; simp);refine E5 (fun h=>?_) (fun h=>?_)<;>simp
 ·refine A9 h ?_;simp;exact yP hR (h1:=by simp; unfold X9; simp at h; simp[h])
 have hf:U1 e=0:=by simpa using h
 rw[hw1];(refine yH rfl (F5 _ _ _ _) ?_; simp);refine E5 (fun h1=>?_) (fun h1=>?_)<;>simp
 ·exact yP hR (h1:=by simp; unfold X9; simp at h1; simp[hf]; omega)
 (refine yH rfl (F5 _ _ _ _) ?_; simp);refine E5 (fun h2=>?_) (fun h2=>?_)<;>simp
 ·exact yP hR (h1:=by simp; unfold X9; simp at h1 h2; simp[hf]; omega)
 exfalso;apply hw;unfold X9;simp at h1 h2;rw[zf (by omega),zf (by omega),zf (by omega)]
theorem B12(l:List Ty)(S:List H1)(e:Ev)(i0:Int)(D T c:Nat)(id:Nat)(xs:List AV)(w:Int)(hk:3<=e.kind)(hfB:E9 (S.map H1.t) e.type e.id=true)(hS8:S.length<=1000)(d1:D≠T)(d2:D≠c)(d3:T≠c)
  (hCh:∀id,A2 Tryz.prog 263 [.ptr D 0 0] [(D,S2 l (.bsl T 0 S.length) e (B9 (S.map H1.t) e.type e.id)),(T,P2 S),(c,⟨xs,zC,false,false⟩)] id (.int .i64 w) []) :
  A2 Tryz.prog 195 [.ptr D 0 0] [(D,S2 l (.bsl T 0 S.length) e i0),(T,P2 S),(c,⟨xs,zC,false,false⟩)] id (.int .i64 w) [(D,some (S2 l (.bsl T 0 S.length) e (B9 (S.map H1.t) e.type e.id)))]:=by
 have hF:=fun id=>T6 l S T e.type e.id id (by omega);have hk1:e.kind≠1:=by omega
 have hk2:e.kind≠2:=by omega
 unfold P2 S2 eD at *;refine w195.b.1 fun E hP hR hl hid hB hu=>?_;simp[w195];have hD:=hl (D,_) (za ..);simp only at hD;have D1:=lf hD;have hT:=hl (T,_) (zb _ (za ..));simp only at hT;have T1:=lf hT;have hc:=hl (c,_) (zb _ (zb _ (za ..)));simp only at hc;have c1:=lf hc;have hTn:∀x∈S.map W6,B4 E.G0.used x:=C1 hB (zb _ (za ..));have hXn:∀x∈xs,B4 E.G0.used x:=C1 hB (zb _ (zb _ (za ..)));(refine yC rfl (hF _) ?_; simp[D1,T1,c1,d1,d1.symm,d2,d2.symm,d3,d3.symm]);refine A0 (by simp[hk1]) ?_;simp[D1,T1,c1,d1,d1.symm,d2,d2.symm,d3,d3.symm];refine A0 (by simp[hk1]) ?_;simp[D1,T1,c1,d1,d1.symm,d2,d2.symm,d3,d3.symm];refine A0 (by simp[hk1]) ?_;simp[D1,T1,c1,d1,d1.symm,d2,d2.symm,d3,d3.symm];refine A0 (by simp[hfB]) ?_;simp[D1,T1,c1,d1,d1.symm,d2,d2.symm,d3,d3.symm];refine I3 hP (v:=.bool false) (rd:=[]) (by simp[D1,T1,c1,d1,d1.symm,d2,d2.symm,d3,d3.symm]) rfl (fun hc=>by simp[hk2] at hc) ?_;refine A3 4000 ?_;simp[D1,T1,c1,d1,d1.symm,d2,d2.symm,d3,d3.symm];refine A0 (by simp[hk2]) ?_;simp[D1,T1,c1,d1,d1.symm,d2,d2.symm,d3,d3.symm];(refine yC rfl (hCh _) ?_; simp[D1,T1,c1,d1,d1.symm,d2,d2.symm,d3,d3.symm]);refine yE hR [] (by simp[D1,T1,c1,d1,d1.symm,d2,d2.symm,d3,d3.symm,A4 hid]) fun hrn=>⟨?_,?_,?_,?_,?_,?_⟩<;>(try simp[D1,T1,c1,d1,d1.symm,d2,d2.symm,d3,d3.symm,A4 hid]);exact⟨by exact yO hu hTn,by exact yO hu hXn⟩
theorem C20(l:List Ty)(S:List H1)(e:Ev)(i0:Int)(D T c:Nat)(id:Nat)(xs:List AV)(k:Nat)(a b io:AV)(hx:xs[k]?=some (.agg [a,b,io]))(n:Int)(t:List UInt8)(hk:3<=e.kind)(hfB:E9 (S.map H1.t) e.type e.id=true)(hS8:S.length<=1000)(d1:D≠T)(d2:D≠c)(d3:T≠c)
  (hCh:∀id,A2 Tryz.prog 263 [.ptr D 0 0] [(D,S2 l (.bsl T 0 S.length) e (B9 (S.map H1.t) e.type e.id)),(T,P2 S),(c,⟨xs,zC,false,false⟩)] id (.int .i64 0) [(c,some ⟨xs.set k (.agg [.int .i64 n,.str t,io]),zC,false,false⟩)]) :
  A2 Tryz.prog 195 [.ptr D 0 0] [(D,S2 l (.bsl T 0 S.length) e i0),(T,P2 S),(c,⟨xs,zC,false,false⟩)] id (.int .i64 0) [(D,some (S2 l (.bsl T 0 S.length) e (B9 (S.map H1.t) e.type e.id))),(c,some ⟨xs.set k (.agg [.int .i64 n,.str t,io]),zC,false,false⟩)]:=by
 have hF:=fun id=>T6 l S T e.type e.id id (by omega);have hk1:e.kind≠1:=by omega
 have hk2:e.kind≠2:=by omega
 unfold P2 S2 eD at *;refine w195.b.1 fun E hP hR hl hid hB hu=>?_;simp[w195];have hD:=hl (D,_) (za ..);simp only at hD;have D1:=lf hD;have hT:=hl (T,_) (zb _ (za ..));simp only at hT;have T1:=lf hT;have hc:=hl (c,_) (zb _ (zb _ (za ..)));simp only at hc;have c1:=lf hc;have hTn:∀x∈S.map W6,B4 E.G0.used x:=C1 hB (zb _ (za ..));have hXn:∀x∈xs,B4 E.G0.used x:=C1 hB (zb _ (zb _ (za ..)));(refine yC rfl (hF _) ?_; simp[D1,T1,c1,d1,d1.symm,d2,d2.symm,d3,d3.symm]);refine A0 (by simp[hk1]) ?_;simp[D1,T1,c1,d1,d1.symm,d2,d2.symm,d3,d3.symm];refine A0 (by simp[hk1]) ?_;simp[D1,T1,c1,d1,d1.symm,d2,d2.symm,d3,d3.symm];refine A0 (by simp[hk1]) ?_;simp[D1,T1,c1,d1,d1.symm,d2,d2.symm,d3,d3.symm];refine A0 (by simp[hfB]) ?_;simp[D1,T1,c1,d1,d1.symm,d2,d2.symm,d3,d3.symm];refine I3 hP (v:=.bool false) (rd:=[]) (by simp[D1,T1,c1,d1,d1.symm,d2,d2.symm,d3,d3.symm]) rfl (fun hc=>by simp[hk2] at hc) ?_;refine A3 4000 ?_;simp[D1,T1,c1,d1,d1.symm,d2,d2.symm,d3,d3.symm];refine A0 (by simp[hk2]) ?_;simp[D1,T1,c1,d1,d1.symm,d2,d2.symm,d3,d3.symm];(refine yC rfl (hCh _) ?_; simp[D1,T1,c1,d1,d1.symm,d2,d2.symm,d3,d3.symm]);refine yE hR [] (by simp[D1,T1,c1,d1,d1.symm,d2,d2.symm,d3,d3.symm,A4 hid]) fun hrn=>⟨?_,?_,?_,?_,?_,?_⟩<;>(try simp[D1,T1,c1,d1,d1.symm,d2,d2.symm,d3,d3.symm,A4 hid]);have hio:B4 E.G0.used io:=by have:=hXn _ (zg hx); simp[B4,F3] at this; exact this.2.2
 refine⟨by exact yO hu hTn,J6 (A37 hu (by simp[B4,F3]; exact hio) fun z h1 h2=>rfl) k (by exact yO hu hXn)⟩
theorem C21(l:List Ty)(S:List H1)(e:Ev)(i0:Int)(D T c:Nat)(id:Nat)(xs:List AV)(k:Nat)(n:Int)(t:List UInt8)(ys:List Int)(hk:3<=e.kind)(hfB:E9 (S.map H1.t) e.type e.id=true)(hS8:S.length<=1000)(d1:D≠T)(d2:D≠c)(d3:T≠c)
  (hCh:∀id,A2 Tryz.prog 263 [.ptr D 0 0] [(D,S2 l (.bsl T 0 S.length) e (B9 (S.map H1.t) e.type e.id)),(T,P2 S),(c,⟨xs,zC,false,false⟩)] id (.int .i64 0) [(c,some ⟨xs.set k (.agg [.int .i64 n,.str t,.bsl id 0 ys.length]),zC,false,false⟩),(id,some ⟨ys.map eI,.int .i64 0,false,false⟩)]) :
  A2 Tryz.prog 195 [.ptr D 0 0] [(D,S2 l (.bsl T 0 S.length) e i0),(T,P2 S),(c,⟨xs,zC,false,false⟩)] id (.int .i64 0) [(D,some (S2 l (.bsl T 0 S.length) e (B9 (S.map H1.t) e.type e.id))),(c,some ⟨xs.set k (.agg [.int .i64 n,.str t,.bsl id 0 ys.length]),zC,false,false⟩),(id,some ⟨ys.map eI,.int .i64 0,false,false⟩)]:=by
 have hF:=fun id=>T6 l S T e.type e.id id (by omega);have hk1:e.kind≠1:=by omega
 have hk2:e.kind≠2:=by omega
 unfold P2 S2 eD at *;refine w195.b.1 fun E hP hR hl hid hB hu=>?_;simp[w195];have hD:=hl (D,_) (za ..);simp only at hD;have D1:=lf hD;have hT:=hl (T,_) (zb _ (za ..));simp only at hT;have T1:=lf hT;have hc:=hl (c,_) (zb _ (zb _ (za ..)));simp only at hc;have c1:=lf hc;have hTn:∀x∈S.map W6,B4 E.G0.used x:=C1 hB (zb _ (za ..));have hXn:∀x∈xs,B4 E.G0.used x:=C1 hB (zb _ (zb _ (za ..)));(refine yC rfl (hF _) ?_; simp[D1,T1,c1,d1,d1.symm,d2,d2.symm,d3,d3.symm]);refine A0 (by simp[hk1]) ?_;simp[D1,T1,c1,d1,d1.symm,d2,d2.symm,d3,d3.symm];refine A0 (by simp[hk1]) ?_;simp[D1,T1,c1,d1,d1.symm,d2,d2.symm,d3,d3.symm];refine A0 (by simp[hk1]) ?_;simp[D1,T1,c1,d1,d1.symm,d2,d2.symm,d3,d3.symm];refine A0 (by simp[hfB]) ?_;simp[D1,T1,c1,d1,d1.symm,d2,d2.symm,d3,d3.symm];refine I3 hP (v:=.bool false) (rd:=[]) (by simp[D1,T1,c1,d1,d1.symm,d2,d2.symm,d3,d3.symm]) rfl (fun hc=>by simp[hk2] at hc) ?_;refine A3 4000 ?_;simp[D1,T1,c1,d1,d1.symm,d2,d2.symm,d3,d3.symm];refine A0 (by simp[hk2]) ?_;simp[D1,T1,c1,d1,d1.symm,d2,d2.symm,d3,d3.symm];(refine yC rfl (hCh _) ?_; simp[D1,T1,c1,d1,d1.symm,d2,d2.symm,d3,d3.symm]);refine yE hR [(id,E.n0+82944)] (by simp[D1,T1,c1,d1,d1.symm,d2,d2.symm,d3,d3.symm,A4 hid]) fun hrn=>⟨?_,?_,?_,?_,?_,?_⟩<;>(try simp[D1,T1,c1,d1,d1.symm,d2,d2.symm,d3,d3.symm,A4 hid]);exact⟨by exact yO hu hTn,J6 (by simp[A4 hid]) k (by exact yO hu hXn)⟩
theorem C22(l:List Ty)(S:List H1)(e:Ev)(i0:Int)(D T c:Nat)(id:Nat)(xs:List AV)(k:Nat)(n:Int)(t:List UInt8)(ys:List Int)(I:Nat)(BI:List Int)(d4:D≠I)(d5:T≠I)(d6:c≠I)(hk:3<=e.kind)(hfB:E9 (S.map H1.t) e.type e.id=true)(hS8:S.length<=1000)(d1:D≠T)(d2:D≠c)(d3:T≠c)
  (hCh:∀id,A2 Tryz.prog 263 [.ptr D 0 0] [(D,S2 l (.bsl T 0 S.length) e (B9 (S.map H1.t) e.type e.id)),(T,P2 S),(c,⟨xs,zC,false,false⟩),(I,⟨BI.map eI,.int .i64 0,false,false⟩)] id (.int .i64 0) [(I,none),(c,some ⟨xs.set k (.agg [.int .i64 n,.str t,.bsl id 0 ys.length]),zC,false,false⟩),(id,some ⟨ys.map eI,.int .i64 0,false,false⟩)]) :
  A2 Tryz.prog 195 [.ptr D 0 0] [(D,S2 l (.bsl T 0 S.length) e i0),(T,P2 S),(c,⟨xs,zC,false,false⟩),(I,⟨BI.map eI,.int .i64 0,false,false⟩)] id (.int .i64 0) [(D,some (S2 l (.bsl T 0 S.length) e (B9 (S.map H1.t) e.type e.id))),(I,none),(c,some ⟨xs.set k (.agg [.int .i64 n,.str t,.bsl id 0 ys.length]),zC,false,false⟩),(id,some ⟨ys.map eI,.int .i64 0,false,false⟩)]:=by
 have hF:=fun id=>T6 l S T e.type e.id id (by omega);have hk1:e.kind≠1:=by omega
 have hk2:e.kind≠2:=by omega
 unfold P2 S2 eD at *;refine w195.b.1 fun E hP hR hl hid hB hu=>?_;simp[w195];have hD:=hl (D,_) (za ..);simp only at hD;have D1:=lf hD;have hT:=hl (T,_) (zb _ (za ..));simp only at hT;have T1:=lf hT;have hc:=hl (c,_) (zb _ (zb _ (za ..)));simp only at hc;have c1:=lf hc;have hI:=hl (I,_) (zb _ (zb _ (zb _ (za ..))));simp only at hI;have I1:=lf hI;have hTn:∀x∈S.map W6,B4 E.G0.used x:=C1 hB (zb _ (za ..));have hXn:∀x∈xs,B4 E.G0.used x:=C1 hB (zb _ (zb _ (za ..)));(refine yC rfl (hF _) ?_; simp[D1,T1,c1,d1,d1.symm,d2,d2.symm,d3,d3.symm,I1,d4,d4.symm,d5,d5.symm,d6,d6.symm]);refine A0 (by simp[hk1]) ?_;simp[D1,T1,c1,d1,d1.symm,d2,d2.symm,d3,d3.symm,I1,d4,d4.symm,d5,d5.symm,d6,d6.symm];refine A0 (by simp[hk1]) ?_;simp[D1,T1,c1,d1,d1.symm,d2,d2.symm,d3,d3.symm,I1,d4,d4.symm,d5,d5.symm,d6,d6.symm];refine A0 (by simp[hk1]) ?_;simp[D1,T1,c1,d1,d1.symm,d2,d2.symm,d3,d3.symm,I1,d4,d4.symm,d5,d5.symm,d6,d6.symm];refine A0 (by simp[hfB]) ?_;simp[D1,T1,c1,d1,d1.symm,d2,d2.symm,d3,d3.symm,I1,d4,d4.symm,d5,d5.symm,d6,d6.symm];refine I3 hP (v:=.bool false) (rd:=[]) (by simp[D1,T1,c1,d1,d1.symm,d2,d2.symm,d3,d3.symm,I1,d4,d4.symm,d5,d5.symm,d6,d6.symm]) rfl (fun hc=>by simp[hk2] at hc) ?_;refine A3 4000 ?_;simp[D1,T1,c1,d1,d1.symm,d2,d2.symm,d3,d3.symm,I1,d4,d4.symm,d5,d5.symm,d6,d6.symm];refine A0 (by simp[hk2]) ?_;simp[D1,T1,c1,d1,d1.symm,d2,d2.symm,d3,d3.symm,I1,d4,d4.symm,d5,d5.symm,d6,d6.symm];(refine yC rfl (hCh _) ?_; simp[D1,T1,c1,d1,d1.symm,d2,d2.symm,d3,d3.symm,I1,d4,d4.symm,d5,d5.symm,d6,d6.symm]);refine yE hR [(id,E.n0+82944)] (by simp[D1,T1,c1,d1,d1.symm,d2,d2.symm,d3,d3.symm,I1,d4,d4.symm,d5,d5.symm,d6,d6.symm,A4 hid]) fun hrn=>⟨?_,?_,?_,?_,?_,?_⟩<;>(try simp[D1,T1,c1,d1,d1.symm,d2,d2.symm,d3,d3.symm,I1,d4,d4.symm,d5,d5.symm,d6,d6.symm,A4 hid]);exact⟨by exact yO hu hTn,J6 (by simp[A4 hid]) k (by exact yO hu hXn)⟩
theorem B9J(l:List Ty)(S:List H1)(e:Ev)(T:Nat)(id:Nat)(k n:Nat)(m:Int)(hl8:l.length<=1000)(hf0:U1 e=0)(h0:0<=e.type)(h1:e.type<=(l.length:Int) - 1)(h2:1<=e.id)(h3:e.id<=999)
  (hDo:∀D id,(∀q∈[(T,P2 S)],q.1≠D)->A2 Tryz.prog 195 [.ptr D 0 0] ((D,S2 l (.bsl T 0 S.length) e 0)::[(T,P2 S)]) id (.int .i64 0) ((D,some (S2 l (.bsl id 0 (S.length+1)) e m))::[(T,none),(id,some ⟨(S.map W6).take k++.agg [.int .i64 e.type,.int .i64 e.id,.bsl (id+1) 0 n]::(S.map W6).drop k,zT,false,false⟩),(id+1,some ⟨List.replicate n zC,zC,false,false⟩)])) :
  A2 Tryz.prog 126 [.agg [.sl (l.map I8),.bsl T 0 S.length],K7 e] [(T,P2 S)] id (.tup [.agg [.sl (l.map I8),(.bsl id 0 (S.length+1))],.int .i64 0]) ([(T,none),(id,some ⟨(S.map W6).take k++.agg [.int .i64 e.type,.int .i64 e.id,.bsl (id+1) 0 n]::(S.map W6).drop k,zT,false,false⟩),(id+1,some ⟨List.replicate n zC,zC,false,false⟩)]):=by
 have hFm:=fun id=>j6 e id;have hw1:IntKind.i64.wrap ((l.length:Int) - 1)=(l.length:Int) - 1:=A5 (by omega);replace hDo:=fun D id hne=>(hDo D id hne).setD ⟨[eD l (.bsl T 0 S.length) e 0],eD l (.bsl T 0 S.length) e 0,false,false⟩ rfl rfl rfl rfl hne;unfold P2 S2 eD K7 at *;refine w126.b.1 fun E hP hR hl hid hB hu=>?_;simp[w126,C9];have hT:=hl (T,_) (za ..);simp only at hT;have T1:=lf hT;have hTn:∀x∈S.map W6,B4 E.G0.used x:=C1 hB (za ..);(refine yC rfl (hFm _) ?_; simp[T1]);refine A0 (by simp[hf0]) ?_;simp[T1];rw[hw1];(refine D8 hP rfl (F5 _ _ _ _) (by simp[T1]) (by simp[T1]<;>rfl) ?_; refine A3 4000 ?_; simp[T1]);refine A0 (by simp; omega) ?_;simp[T1];(refine D8 hP rfl (F5 _ _ _ _) (by simp[T1]) (by simp[T1]<;>rfl) ?_; refine A3 4000 ?_; simp[T1]);refine A0 (by simp; omega) ?_;simp[T1];refine A0 (by simp[hf0]) ?_;simp[T1];(refine D8 hP rfl (hDo _ _ (by exact fun q hq=>by have:=(hl q hq).1; omega)) (by simp[T1]) (by simp[T1]<;>rfl) ?_; refine A3 4000 ?_; simp[T1]);have hlk:∀z,z<E.n0->(z<id\/id+1024<=z)->lkN [(id,E.n0+32768),(id+1,E.n0+32769)] z=none:=fun z h1 h2=>by
  have a1:z≠id:=by omega
  have a2:z≠id+1:=by omega
  simp[lkN,a1,a2]
 have hp0:∀R S,N8 R S (List.replicate n zC) (List.replicate n zC):=fun R S=>C2 rfl (A7A fun i x hx=>by rw[wz] at hx; split at hx<;>simp at hx; subst hx; rfl);have hrn:H5 [(id,E.n0+32768),(id+1,E.n0+32768+1)]:=by simp[hp0,A5a hT.2,A3m hT.2,yq,T1,A4 hid,A39 hid,A1S hid,A0J hid,A0K hid,o6 hid]
 rw[hR];refine E8 (by simp<;>rfl) [(id,E.n0+32768),(id+1,E.n0+32768+1)] hrn ⟨?_,?_,?_,?_,?_,?_⟩<;>(try simp[hp0,A5a hT.2,A3m hT.2,yq,T1,A4 hid,A39 hid,A1S hid,A0J hid,A0K hid,o6 hid]);exact s7 (j0 hu hlk fun x hx=>hTn x (xh hx)) (.cons _ _ _ _ (by simp[A4 hid,A39 hid,A1S hid,A0J hid,A0K hid,o6 hid]) (j0 hu hlk fun x hx=>hTn x (xf hx)))
theorem B9K(l:List Ty)(S:List H1)(e:Ev)(T:Nat)(id:Nat)(c:Nat)(xs:List AV)(k:Nat)(a b io:AV)(hx:xs[k]?=some (.agg [a,b,io]))(n:Int)(t:List UInt8)(d3:T≠c)(m:Int)(hl8:l.length<=1000)(hf0:U1 e=0)(h0:0<=e.type)(h1:e.type<=(l.length:Int) - 1)(h2:1<=e.id)(h3:e.id<=999)
  (hDo:∀D id,(∀q∈[(T,P2 S),(c,⟨xs,zC,false,false⟩)],q.1≠D)->A2 Tryz.prog 195 [.ptr D 0 0] ((D,S2 l (.bsl T 0 S.length) e 0)::[(T,P2 S),(c,⟨xs,zC,false,false⟩)]) id (.int .i64 0) ((D,some (S2 l (.bsl T 0 S.length) e m))::[(c,some ⟨xs.set k (.agg [.int .i64 n,.str t,io]),zC,false,false⟩)])) :
  A2 Tryz.prog 126 [.agg [.sl (l.map I8),.bsl T 0 S.length],K7 e] [(T,P2 S),(c,⟨xs,zC,false,false⟩)] id (.tup [.agg [.sl (l.map I8),(.bsl T 0 S.length)],.int .i64 0]) ([(c,some ⟨xs.set k (.agg [.int .i64 n,.str t,io]),zC,false,false⟩)]):=by
 have hFm:=fun id=>j6 e id;have hw1:IntKind.i64.wrap ((l.length:Int) - 1)=(l.length:Int) - 1:=A5 (by omega);replace hDo:=fun D id hne=>(hDo D id hne).setD ⟨[eD l (.bsl T 0 S.length) e 0],eD l (.bsl T 0 S.length) e 0,false,false⟩ rfl rfl rfl rfl hne;unfold P2 S2 eD K7 at *;refine w126.b.1 fun E hP hR hl hid hB hu=>?_;simp[w126,C9];have hT:=hl (T,_) (za ..);simp only at hT;have T1:=lf hT;have hTn:∀x∈S.map W6,B4 E.G0.used x:=C1 hB (za ..);have hc:=hl (c,_) (zb _ (za ..));simp only at hc;have c1:=lf hc;have hXn:∀x∈xs,B4 E.G0.used x:=C1 hB (zb _ (za ..));(refine yC rfl (hFm _) ?_; simp[T1,c1,d3,d3.symm]);refine A0 (by simp[hf0]) ?_;simp[T1,c1,d3,d3.symm];rw[hw1];(refine D8 hP rfl (F5 _ _ _ _) (by simp[T1,c1,d3,d3.symm]) (by simp[T1,c1,d3,d3.symm]<;>rfl) ?_; refine A3 4000 ?_; simp[T1,c1,d3,d3.symm]);refine A0 (by simp; omega) ?_;simp[T1,c1,d3,d3.symm];(refine D8 hP rfl (F5 _ _ _ _) (by simp[T1,c1,d3,d3.symm]) (by simp[T1,c1,d3,d3.symm]<;>rfl) ?_; refine A3 4000 ?_; simp[T1,c1,d3,d3.symm]);refine A0 (by simp; omega) ?_;simp[T1,c1,d3,d3.symm];refine A0 (by simp[hf0]) ?_;simp[T1,c1,d3,d3.symm];(refine D8 hP rfl (hDo _ _ (by exact fun q hq=>by have:=(hl q hq).1; omega)) (by simp[T1,c1,d3,d3.symm]) (by simp[T1,c1,d3,d3.symm]<;>rfl) ?_; refine A3 4000 ?_; simp[T1,c1,d3,d3.symm]);refine yE hR [] (by simp[T1,c1,d3,d3.symm,A4 hid]) fun hrn=>⟨?_,?_,?_,?_,?_,?_⟩<;>(try simp[T1,c1,d3,d3.symm,A4 hid]);have hio:B4 E.G0.used io:=by have:=hXn _ (zg hx); simp[B4,F3] at this; exact this.2.2
 refine⟨by exact yO hu hTn,J6 (A37 hu (by simp[B4,F3]; exact hio) fun z h1 h2=>rfl) k (by exact yO hu hXn)⟩
theorem B9L(l:List Ty)(S:List H1)(e:Ev)(T:Nat)(id:Nat)(c:Nat)(xs:List AV)(k:Nat)(n:Int)(t:List UInt8)(ys:List Int)(d3:T≠c)(m:Int)(hl8:l.length<=1000)(hf0:U1 e=0)(h0:0<=e.type)(h1:e.type<=(l.length:Int) - 1)(h2:1<=e.id)(h3:e.id<=999)
  (hDo:∀D id,(∀q∈[(T,P2 S),(c,⟨xs,zC,false,false⟩)],q.1≠D)->A2 Tryz.prog 195 [.ptr D 0 0] ((D,S2 l (.bsl T 0 S.length) e 0)::[(T,P2 S),(c,⟨xs,zC,false,false⟩)]) id (.int .i64 0) ((D,some (S2 l (.bsl T 0 S.length) e m))::[(c,some ⟨xs.set k (.agg [.int .i64 n,.str t,.bsl id 0 ys.length]),zC,false,false⟩),(id,some ⟨ys.map eI,.int .i64 0,false,false⟩)])) :
  A2 Tryz.prog 126 [.agg [.sl (l.map I8),.bsl T 0 S.length],K7 e] [(T,P2 S),(c,⟨xs,zC,false,false⟩)] id (.tup [.agg [.sl (l.map I8),(.bsl T 0 S.length)],.int .i64 0]) ([(c,some ⟨xs.set k (.agg [.int .i64 n,.str t,.bsl id 0 ys.length]),zC,false,false⟩),(id,some ⟨ys.map eI,.int .i64 0,false,false⟩)]):=by
 have hFm:=fun id=>j6 e id;have hw1:IntKind.i64.wrap ((l.length:Int) - 1)=(l.length:Int) - 1:=A5 (by omega);replace hDo:=fun D id hne=>(hDo D id hne).setD ⟨[eD l (.bsl T 0 S.length) e 0],eD l (.bsl T 0 S.length) e 0,false,false⟩ rfl rfl rfl rfl hne;unfold P2 S2 eD K7 at *;refine w126.b.1 fun E hP hR hl hid hB hu=>?_;simp[w126,C9];have hT:=hl (T,_) (za ..);simp only at hT;have T1:=lf hT;have hTn:∀x∈S.map W6,B4 E.G0.used x:=C1 hB (za ..);have hc:=hl (c,_) (zb _ (za ..));simp only at hc;have c1:=lf hc;have hXn:∀x∈xs,B4 E.G0.used x:=C1 hB (zb _ (za ..));(refine yC rfl (hFm _) ?_; simp[T1,c1,d3,d3.symm]);refine A0 (by simp[hf0]) ?_;simp[T1,c1,d3,d3.symm];rw[hw1];(refine D8 hP rfl (F5 _ _ _ _) (by simp[T1,c1,d3,d3.symm]) (by simp[T1,c1,d3,d3.symm]<;>rfl) ?_; refine A3 4000 ?_; simp[T1,c1,d3,d3.symm]);refine A0 (by simp; omega) ?_;simp[T1,c1,d3,d3.symm];(refine D8 hP rfl (F5 _ _ _ _) (by simp[T1,c1,d3,d3.symm]) (by simp[T1,c1,d3,d3.symm]<;>rfl) ?_; refine A3 4000 ?_; simp[T1,c1,d3,d3.symm]);refine A0 (by simp; omega) ?_;simp[T1,c1,d3,d3.symm];refine A0 (by simp[hf0]) ?_;simp[T1,c1,d3,d3.symm];(refine D8 hP rfl (hDo _ _ (by exact fun q hq=>by have:=(hl q hq).1; omega)) (by simp[T1,c1,d3,d3.symm]) (by simp[T1,c1,d3,d3.symm]<;>rfl) ?_; refine A3 4000 ?_; simp[T1,c1,d3,d3.symm]);refine yE hR [(id,E.n0+32768)] (by simp[T1,c1,d3,d3.symm,A4 hid]) fun hrn=>⟨?_,?_,?_,?_,?_,?_⟩<;>(try simp[T1,c1,d3,d3.symm,A4 hid]);exact⟨by exact yO hu hTn,J6 (by simp[A4 hid]) k (by exact yO hu hXn)⟩
theorem B9M(l:List Ty)(S:List H1)(e:Ev)(T:Nat)(id:Nat)(c:Nat)(xs:List AV)(k:Nat)(n:Int)(t:List UInt8)(ys:List Int)(I:Nat)(BI:List Int)(d3:T≠c)(d5:T≠I)(d6:c≠I)(m:Int)(hl8:l.length<=1000)(hf0:U1 e=0)(h0:0<=e.type)(h1:e.type<=(l.length:Int) - 1)(h2:1<=e.id)(h3:e.id<=999)
  (hDo:∀D id,(∀q∈[(T,P2 S),(c,⟨xs,zC,false,false⟩),(I,⟨BI.map eI,.int .i64 0,false,false⟩)],q.1≠D)->A2 Tryz.prog 195 [.ptr D 0 0] ((D,S2 l (.bsl T 0 S.length) e 0)::[(T,P2 S),(c,⟨xs,zC,false,false⟩),(I,⟨BI.map eI,.int .i64 0,false,false⟩)]) id (.int .i64 0) ((D,some (S2 l (.bsl T 0 S.length) e m))::[(I,none),(c,some ⟨xs.set k (.agg [.int .i64 n,.str t,.bsl id 0 ys.length]),zC,false,false⟩),(id,some ⟨ys.map eI,.int .i64 0,false,false⟩)])) :
  A2 Tryz.prog 126 [.agg [.sl (l.map I8),.bsl T 0 S.length],K7 e] [(T,P2 S),(c,⟨xs,zC,false,false⟩),(I,⟨BI.map eI,.int .i64 0,false,false⟩)] id (.tup [.agg [.sl (l.map I8),(.bsl T 0 S.length)],.int .i64 0]) ([(I,none),(c,some ⟨xs.set k (.agg [.int .i64 n,.str t,.bsl id 0 ys.length]),zC,false,false⟩),(id,some ⟨ys.map eI,.int .i64 0,false,false⟩)]):=by
 have hFm:=fun id=>j6 e id;have hw1:IntKind.i64.wrap ((l.length:Int) - 1)=(l.length:Int) - 1:=A5 (by omega);replace hDo:=fun D id hne=>(hDo D id hne).setD ⟨[eD l (.bsl T 0 S.length) e 0],eD l (.bsl T 0 S.length) e 0,false,false⟩ rfl rfl rfl rfl hne;unfold P2 S2 eD K7 at *;refine w126.b.1 fun E hP hR hl hid hB hu=>?_;simp[w126,C9];have hT:=hl (T,_) (za ..);simp only at hT;have T1:=lf hT;have hTn:∀x∈S.map W6,B4 E.G0.used x:=C1 hB (za ..);have hc:=hl (c,_) (zb _ (za ..));simp only at hc;have c1:=lf hc;have hXn:∀x∈xs,B4 E.G0.used x:=C1 hB (zb _ (za ..));have hI:=hl (I,_) (zb _ (zb _ (za ..)));simp only at hI;have I1:=lf hI;(refine yC rfl (hFm _) ?_; simp[T1,c1,I1,d3,d3.symm,d5,d5.symm,d6,d6.symm]);refine A0 (by simp[hf0]) ?_;simp[T1,c1,I1,d3,d3.symm,d5,d5.symm,d6,d6.symm];rw[hw1];(refine D8 hP rfl (F5 _ _ _ _) (by simp[T1,c1,I1,d3,d3.symm,d5,d5.symm,d6,d6.symm]) (by simp[T1,c1,I1,d3,d3.symm,d5,d5.symm,d6,d6.symm]<;>rfl) ?_; refine A3 4000 ?_; simp[T1,c1,I1,d3,d3.symm,d5,d5.symm,d6,d6.symm]);refine A0 (by simp; omega) ?_;simp[T1,c1,I1,d3,d3.symm,d5,d5.symm,d6,d6.symm];(refine D8 hP rfl (F5 _ _ _ _) (by simp[T1,c1,I1,d3,d3.symm,d5,d5.symm,d6,d6.symm]) (by simp[T1,c1,I1,d3,d3.symm,d5,d5.symm,d6,d6.symm]<;>rfl) ?_; refine A3 4000 ?_; simp[T1,c1,I1,d3,d3.symm,d5,d5.symm,d6,d6.symm]);refine A0 (by simp; omega) ?_;simp[T1,c1,I1,d3,d3.symm,d5,d5.symm,d6,d6.symm];refine A0 (by simp[hf0]) ?_;simp[T1,c1,I1,d3,d3.symm,d5,d5.symm,d6,d6.symm];(refine D8 hP rfl (hDo _ _ (by exact fun q hq=>by have:=(hl q hq).1; omega)) (by simp[T1,c1,I1,d3,d3.symm,d5,d5.symm,d6,d6.symm]) (by simp[T1,c1,I1,d3,d3.symm,d5,d5.symm,d6,d6.symm]<;>rfl) ?_; refine A3 4000 ?_; simp[T1,c1,I1,d3,d3.symm,d5,d5.symm,d6,d6.symm]);refine yE hR [(id,E.n0+32768)] (by simp[T1,c1,I1,d3,d3.symm,d5,d5.symm,d6,d6.symm,A4 hid]) fun hrn=>⟨?_,?_,?_,?_,?_,?_⟩<;>(try simp[T1,c1,I1,d3,d3.symm,d5,d5.symm,d6,d6.symm,A4 hid]);exact⟨by exact yO hu hTn,J6 (by simp[A4 hid]) k (by exact yO hu hXn)⟩
theorem B9N(l:List Ty)(S:List H1)(e:Ev)(T:Nat)(id:Nat)(m w:Int)(rd:List (Nat×Bx))(hnd:(rd.map Prod.fst).Nodup)(hw:w≠0)(hl8:l.length<=1000)(hf0:U1 e=0)(h0:0<=e.type)(h1:e.type<=(l.length:Int) - 1)(h2:1<=e.id)(h3:e.id<=999)
  (hDo:∀D id,(∀q∈rd,q.1≠D)->A2 Tryz.prog 195 [.ptr D 0 0] ((D,S2 l (.bsl T 0 S.length) e 0)::rd) id (.int .i64 w) [(D,some (S2 l (.bsl T 0 S.length) e m))]) :
  A2 Tryz.prog 126 [.agg [.sl (l.map I8),.bsl T 0 S.length],K7 e] rd id (.tup [eS0,.int .i64 w]) []:=by
 have hFm:=fun id=>j6 e id;have hw1:IntKind.i64.wrap ((l.length:Int) - 1)=(l.length:Int) - 1:=A5 (by omega);replace hDo:=fun D id hne=>(hDo D id hne).setD ⟨[eD l (.bsl T 0 S.length) e 0],eD l (.bsl T 0 S.length) e 0,false,false⟩ rfl rfl rfl rfl hne;unfold S2 eD K7 at *;refine w126.b.1 fun E hP hR hl hid hB hu=>?_;simp[w126,C9];(refine yH rfl (hFm _) ?_; simp);refine A0 (by simp[hf0]) ?_;simp;rw[hw1];(refine yH rfl (F5 _ _ _ _) ?_; simp);refine A0 (by simp; omega) ?_;simp;(refine yH rfl (F5 _ _ _ _) ?_; simp);refine A0 (by simp; omega) ?_;simp;refine A0 (by simp[hf0]) ?_;simp;have hnk:∀q∈rd,q.1≠E.n0+29696/\q.1≠E.n0+2048/\q.1≠E.n0+1024/\q.1≠E.n0:=fun q hq=>by
  have:=(hl q hq).1; omega
 refine D8 hP rfl (hDo (E.n0+29696) _ fun q hq=>(hnk q hq).1) (by simp) ⟨by simp,?_⟩ ?_
 ·refine A3w (pre:=[_,_,_,_]) hnd fun q hq p hp=>?_;simp only[zh,yn,or_false] at hp;obtain⟨n1,n2,n3,n4⟩:=hnk q hq;rcases hp with rfl|rfl|rfl|rfl<;>assumption
 refine A3 4000 ?_;simp;refine A9 (by simpa using hw) ?_;simp;rw[hR];have hrn:H5 []:=trivial;refine E8 (by simp<;>rfl) [] hrn ⟨?_,?_,?_,?_,?_,?_⟩
 ·simp[eS0]
 ·show A2S _ _ _ _ (rd.map (·.1)++[]);refine A0O (A3M hB hu (fun z _ _=>rfl) (fun z _=>rfl) fun q hq=>⟨hq,?_,?_⟩) ?_
  ·exact B5Z hnd hq
  ·refine A2g (pre:=[_,_,_,_,_,_]) hnd hq fun p hp=>?_;simp only[zh,yn,or_false] at hp;obtain⟨n1,n2,n3,n4⟩:=hnk q hq;rcases hp with rfl|rfl|rfl|rfl|rfl|rfl<;>assumption
  ·simp
 ·show I9 _ _ ([_,_,_,_,_,_]++C9 rd);refine A1G (by simp) (u7 fun q hq=>Q6.2 (zu.2 ⟨q,hq,rfl⟩))
 ·simp
 ·simp
 ·simp
theorem B9O(l:List Ty)(S:List H1)(e:Ev)(T:Nat)(id:Nat)(k:Nat)(m:Int)(rest:List (Nat×Bx))(hnd:(rest.map Prod.fst).Nodup)(dT:∀q∈rest,q.1≠T)(hl8:l.length<=1000)(hf0:U1 e=0)(h0:0<=e.type)(h1:e.type<=(l.length:Int) - 1)(h2:1<=e.id)(h3:e.id<=999)
  (hDo:∀D id,(∀q∈(T,P2 S)::rest,q.1≠D)->A2 Tryz.prog 195 [.ptr D 0 0] ((D,S2 l (.bsl T 0 S.length) e 0)::(T,P2 S)::rest) id (.int .i64 0) [(D,some (S2 l (.bsl id 0 (S.length - 1)) e m)),(T,none),(id,some ⟨(S.map W6).take k++(S.map W6).drop (k+1),zT,false,false⟩)]) :
  A2 Tryz.prog 126 [.agg [.sl (l.map I8),.bsl T 0 S.length],K7 e] ((T,P2 S)::rest) id (.tup [.agg [.sl (l.map I8),.bsl id 0 (S.length - 1)],.int .i64 0]) [(T,none),(id,some ⟨(S.map W6).take k++(S.map W6).drop (k+1),zT,false,false⟩)]:=by
 have hFm:=fun id=>j6 e id;have hw1:IntKind.i64.wrap ((l.length:Int) - 1)=(l.length:Int) - 1:=A5 (by omega);replace hDo:=fun D id hne=>(hDo D id hne).setD ⟨[eD l (.bsl T 0 S.length) e 0],eD l (.bsl T 0 S.length) e 0,false,false⟩ rfl rfl rfl rfl hne;unfold P2 S2 eD K7 at *;refine w126.b.1 fun E hP hR hl hid hB hu=>?_;simp[w126,C9];have hT:=hl (T,_) (za ..);simp only at hT;have T1:=lf hT;have hTn:∀x∈S.map W6,B4 E.G0.used x:=C1 hB (za ..);(refine yC rfl (hFm _) ?_; simp[T1]);refine A0 (by simp[hf0]) ?_;simp[T1];rw[hw1];(refine D8 hP rfl (F5 _ _ _ _) (by simp[T1]) (by simp[T1]<;>rfl) ?_; refine A3 4000 ?_; simp[T1]);refine A0 (by simp; omega) ?_;simp[T1];(refine D8 hP rfl (F5 _ _ _ _) (by simp[T1]) (by simp[T1]<;>rfl) ?_; refine A3 4000 ?_; simp[T1]);refine A0 (by simp; omega) ?_;simp[T1];refine A0 (by simp[hf0]) ?_;simp[T1];have hnk:∀q∈rest,q.1≠E.n0+29696/\q.1≠E.n0+2048/\q.1≠E.n0+1024/\q.1≠E.n0/\q.1≠T/\q.1≠E.n0+32768/\q.1≠id:=fun q hq=>by
  have:=hl q (zb _ hq);have h2:=dT q hq;omega
 refine D8 hP rfl (hDo (E.n0+29696) _ fun q hq=>by have:=(hl q hq).1; omega) (by simp) ⟨by simp,by simp[T1],?_⟩ ?_
 ·refine A3w (pre:=[_,_,_,_,_]) hnd fun q hq p hp=>?_;simp only[zh,yn,or_false] at hp;obtain⟨n1,n2,n3,n4,n5,n6,n7⟩:=hnk q hq;rcases hp with rfl|rfl|rfl|rfl|rfl<;>assumption
 refine A3 4000 ?_;simp[T1];rw[hR];have hrn:H5 [(id,E.n0+32768)]:=by simp
 have hlk:∀z,z<E.n0->(z<id\/id+1024<=z)->lkN [(id,E.n0+32768)] z=none:=fun z h1 h2=>by
  have a1:z≠id:=by omega
  simp[lkN,a1]
 have hgn:∀z,z<E.n0->U0 [(id,E.n0+32768)] z=false:=fun z h1=>by
  have a1:z≠E.n0+32768:=by omega
  simp[U0,a1]
 refine E8 (by simp<;>rfl) [(id,E.n0+32768)] hrn ⟨?_,?_,?_,?_,?_,?_⟩
 ·simp[A4 hid]
 ·show A2S _ _ _ _ ([T]++(rest.map (·.1)++[T,id]));refine A0O ?_ (A0O (A3M hB hu hlk hgn fun q hq=>⟨zb _ hq,?_,?_⟩) ?_)
  ·simp[C9,A4 hid,T1]
  ·simp only[F4];obtain⟨n1,n2,n3,n4,n5,n6,n7⟩:=hnk q hq;rw[B7 _ _ _ n7,B7 _ _ _ n5];refine A2g (pre:=[_]) hnd hq fun p hp=>?_;simp only[zh,yn,or_false] at hp;subst hp;exact n5
  ·refine A2g (pre:=[_,_,_,_,_,_,_,_,_]) hnd hq fun p hp=>?_;simp only[zh,yn,or_false] at hp;obtain⟨n1,n2,n3,n4,n5,n6,n7⟩:=hnk q hq;rcases hp with rfl|rfl|rfl|rfl|rfl|rfl|rfl|rfl|rfl<;>assumption
  ·simp[C9,A4 hid,T1];all_goals exact s7 (j0 hu hlk fun x hx=>hTn x (xh hx)) (j0 hu hlk fun x hx=>hTn x (xf hx))
 ·show I9 _ _ ([_,_,_,_,_,_,_,_,_]++C9 rest);refine A1G ?_ (u7 fun q hq=>Q6.2 (zu.2 ⟨q,zb _ hq,rfl⟩));simp[C9,T1]
 ·simp[C9]
 ·simp
 ·simp
def r9(T:Nat)(S:List H1):List (Nat×Bx):=(T,P2 S)::I6 S
def nmR(S:List H1):List Nat:=(I6 S).map Prod.fst
def d0(T:Nat)(S:List H1):List Nat:=T::nmR S
def nmO(o:H1):List Nat:=o.bxs.map Prod.fst
theorem B79(T:Nat)(S:List H1):(r9 T S).map Prod.fst=d0 T S:=rfl
theorem V5(A B:List H1):I6 (A++B)=I6 A++I6 B:=List.flatMap_append
theorem m5(o:H1)(B:List H1):I6 (o::B)=o.bxs++I6 B:=rfl
theorem A1c(A B:List H1):nmR (A++B)=nmR A++nmR B:=by simp[nmR,V5]
theorem A50(o:H1)(B:List H1):nmR (o::B)=nmO o++nmR B:=by simp[nmR,nmO,m5]
theorem A5r{q:Nat×Bx}{S:List H1}(h:q∈I6 S):q.1∈nmR S:=zu.2 ⟨q,h,rfl⟩
structure A5s(id T:Nat)(S:List H1)(wr:List (Nat×Option Bx))(T':Nat)(S':List H1):Prop where
 has:∀bx,K5 bx (r9 T S)->K5 (F4 bx wr) (r9 T' S')
 nd:(d0 T' S').Nodup
 nm:∀z∈d0 T' S',z∈d0 T S\/(id<=z/\z<id+1024)
 ok:∀o∈S',o.Ok
 kw:∀q∈wr,q.1∈d0 T S\/(id<=q.1/\q.1<id+1024)
theorem B7A(n:Nat)(c:Cl):A0N (List.replicate n c) (List.replicate n none)=[]:=by
 induction n with
 | zero=>rfl
 | succ n ih=>simp only[List.replicate_succ,A0N,idB,ih]; rfl
def cl0:Cl:=⟨0,[],[]⟩
def A51(e:Ev)(n id:Nat):H1:=⟨⟨e.type,e.id,List.replicate n cl0⟩,id+1,List.replicate n none⟩
theorem B9P(e:Ev)(n id:Nat):(A51 e n id).bxs=[(id+1,⟨List.replicate n zC,zC,false,false⟩)]:=by
 have h:List.zipWith M2 (List.replicate n cl0) (List.replicate n none)=List.replicate n zC:=by
  rw[List.zipWith_replicate,qk];rfl
 simp only[H1.bxs,A51,B7A,cBn,h]
theorem C23(e:Ev)(n id:Nat):(A51 e n id).Ok:=⟨by simp[A51],fun k c h1 h2=>by
 simp only[A51,wz] at h1;split at h1
 ·injection h1 with h1; subst h1; rfl
 ·cases h1⟩
theorem B7B{id T:Nat}{A B:List H1}(e:Ev)(n:Nat)(hnd:(d0 T (A++B)).Nodup)(hfr:∀z∈d0 T (A++B),z<id\/id+1024<=z)(hok:∀o∈A++B,o.Ok):
  A5s id T (A++B) [(T,none),(id,some (P2 (A++A51 e n id::B))),(id+1,some ⟨List.replicate n zC,zC,false,false⟩)] id (A++A51 e n id::B):=by
 have hr:I6 (A++A51 e n id::B)=I6 A++((id+1,⟨List.replicate n zC,zC,false,false⟩)::I6 B):=by rw[V5,m5,B9P]; rfl
 have hn:nmR (A++A51 e n id::B)=nmR A++(id+1)::nmR B:=by simp[nmR,hr]
 have hT:=hfr T (za ..);have hAB:∀z∈nmR A++nmR B,(z<id\/id+1024<=z)/\z≠T:=fun z hz=>by
  rw[←A1c] at hz;exact⟨hfr z (zb _ hz),fun e=>by rw[d0,xc] at hnd; exact hnd.1 (e▸hz)⟩
 refine⟨fun bx hb q hq=>?_,?_,fun z hz=>?_,fun o ho=>?_,fun q hq=>?_⟩
 ·simp only[F4];rcases zh.1 hq with rfl|hq
  ·rw[B7 _ _ _ (by simp only; omega),C7]
  ·rw[hr] at hq;have key:q∈I6 (A++B)->U8 (U8 (U8 bx T none) id (some (P2 (A++A51 e n id::B)))) (id+1) (some ⟨List.replicate n zC,zC,false,false⟩) q.1=some q.2:=fun hq=>by
    have:=hAB q.1 (by rw[←A1c]; exact A5r hq);rw[B7 _ _ _ (by omega),B7 _ _ _ (by omega),B7 _ _ _ this.2];exact hb q (zb _ hq)
   rcases zo.1 hq with hq|hq
   ·exact key (by rw[V5]; exact yp _ hq)
   ·rcases zh.1 hq with rfl|hq
    ·rw[C7]
    ·exact key (by rw[V5]; exact yb _ hq)
 ·rw[d0,xc,hn];rw[d0,A1c,xc,xt] at hnd;obtain⟨h0,h1,h2,h3⟩:=hnd;refine⟨fun hm=>?_,xt.2 ⟨h1,xc.2 ⟨fun hm=>?_,h2⟩,fun a ha b hb=>?_⟩⟩
  ·rcases zo.1 hm with hm|hm
   ·have:=hAB id (yp _ hm); omega
   ·rcases zh.1 hm with hm|hm
    ·omega
    ·have:=hAB id (yb _ hm); omega
  ·have:=hAB (id+1) (yb _ hm); omega
  ·rcases zh.1 hb with rfl|hb
   ·have:=hAB a (yp _ ha); omega
   ·exact h3 a ha b hb
 ·rcases zh.1 hz with rfl|hz
  ·exact .inr ⟨ya _,by omega⟩
  ·rw[hn] at hz;rcases zo.1 hz with hz|hz
   ·exact .inl (zb _ (by rw[A1c]; exact yp _ hz))
   ·rcases zh.1 hz with rfl|hz
    ·exact .inr ⟨by omega,by omega⟩
    ·exact .inl (zb _ (by rw[A1c]; exact yb _ hz))
 ·rcases zo.1 ho with ho|ho
  ·exact hok o (yp _ ho)
  ·rcases zh.1 ho with rfl|ho
   ·exact C23 e n id
   ·exact hok o (yb _ ho)
 ·simp only[zh,yn,or_false] at hq;rcases hq with rfl|rfl|rfl
  ·exact .inl (za ..)
  ·exact .inr ⟨ya _,by simp only; omega⟩
  ·exact .inr ⟨by simp only; omega,by simp only; omega⟩
theorem B7C{id T:Nat}{A B:List H1}{o:H1}(hnd:(d0 T (A++o::B)).Nodup)(hfr:∀z∈d0 T (A++o::B),z<id\/id+1024<=z)(hok:∀x∈A++o::B,x.Ok):
  A5s id T (A++o::B) [(T,none),(id,some (P2 (A++B)))] id (A++B):=by
 have hT:=hfr T (za ..);have hsub:∀q∈I6 (A++B),q∈I6 (A++o::B):=fun q hq=>by
  rw[V5] at hq;rw[V5,m5];rcases zo.1 hq with h|h
  ·exact yp _ h
  ·exact yb _ (yb _ h)
 have hsubn:∀z∈nmR (A++B),z∈nmR (A++o::B):=fun z hz=>by
  obtain⟨q,hq,rfl⟩:=zu.1 hz;exact A5r (hsub q hq)
 have hAB:∀z∈nmR (A++B),(z<id\/id+1024<=z)/\z≠T:=fun z hz =>
  ⟨hfr z (zb _ (hsubn z hz)),fun e=>by rw[d0,xc] at hnd; exact hnd.1 (e▸hsubn z hz)⟩
 refine⟨fun bx hb q hq=>?_,?_,fun z hz=>?_,fun x ho=>?_,fun q hq=>?_⟩
 ·simp only[F4];rcases zh.1 hq with rfl|hq
  ·rw[C7]
  ·have:=hAB q.1 (A5r hq);rw[B7 _ _ _ (by omega),B7 _ _ _ this.2];exact hb q (zb _ (hsub q hq))
 ·rw[d0,xc];refine⟨fun hm=>by have:=hAB id hm; omega,?_⟩;rw[d0,A1c,A50,xc,xt,xt] at hnd;obtain⟨h0,h1,⟨h4,h5,h6⟩,h3⟩:=hnd;rw[A1c];exact xt.2 ⟨h1,h5,fun a ha b hb=>h3 a ha b (yb _ hb)⟩
 ·rcases zh.1 hz with rfl|hz
  ·exact .inr ⟨ya _,by omega⟩
  ·exact .inl (zb _ (hsubn z hz))
 ·rcases zo.1 ho with ho|ho
  ·exact hok x (yp _ ho)
  ·exact hok x (yb _ (zb _ ho))
 ·simp only[zh,yn,or_false] at hq;rcases hq with rfl|rfl
  ·exact .inl (za ..)
  ·exact .inr ⟨ya _,by simp only; omega⟩
theorem B7D{id T:Nat}{A B:List H1}{o o':H1}{X:List (Nat×Bx)}(ho:o.bxs=(o.c,cBn o)::X)(ho':o'.bxs=(o.c,cBn o')::X)(he:W6 o'=W6 o)(hok':o'.Ok)(hnd:(d0 T (A++o::B)).Nodup)(hok:∀x∈A++o::B,x.Ok):
  A5s id T (A++o::B) [(o.c,some (cBn o'))] T (A++o'::B):=by
 have hr:I6 (A++o::B)=I6 A++((o.c,cBn o)::X++I6 B):=by rw[V5,m5,ho]
 have hr':I6 (A++o'::B)=I6 A++((o.c,cBn o')::X++I6 B):=by rw[V5,m5,ho']
 have hn:d0 T (A++o'::B)=d0 T (A++o::B):=by simp only[d0,nmR,hr,hr']; simp
 have ht:P2 (A++o'::B)=P2 (A++o::B):=by simp[P2,he]
 have hnd':=hnd;rw[d0,nmR,hr] at hnd';simp only[wn,ym,xc,xt,zo,zh,yv] at hnd';obtain⟨h0,h1,⟨h2,h3,h4,h5⟩,h6⟩:=hnd';refine⟨fun bx hb q hq=>?_,by rw[hn]; exact hnd,fun z hz=>.inl (by rw[←hn]; exact hz),fun x hx=>?_,fun q hq=>?_⟩
 ·simp only[F4];have key:q∈r9 T (A++o::B)->q.1≠o.c->U8 bx o.c (some (cBn o')) q.1=some q.2:=fun h1 h2=>by
   rw[B7 _ _ _ h2]; exact hb q h1
  rcases zh.1 hq with rfl|hq
  ·exact key (by rw[ht]; exact za ..) (fun e=>h0 (.inr (.inl e)))
  ·rw[hr'] at hq;rcases zo.1 hq with hq|hq
   ·refine key (zb _ (by rw[hr]; exact yp _ hq)) fun e=>h6 q.1 (zu.2 ⟨q,hq,rfl⟩) o.c (.inl rfl) e
   ·rcases zo.1 hq with hq|hq
    ·rcases zh.1 hq with rfl|hq
     ·exact C7 ..
     ·exact key (zb _ (by rw[hr]; exact yb _ (yp _ (zb _ hq)))) fun e=>h2 (.inl (e▸zu.2 ⟨q,hq,rfl⟩))
    ·exact key (zb _ (by rw[hr]; exact yb _ (yb _ hq))) fun e=>h2 (.inr (e▸zu.2 ⟨q,hq,rfl⟩))
 ·rcases zo.1 hx with hx|hx
  ·exact hok x (yp _ hx)
  ·rcases zh.1 hx with rfl|hx
   ·exact hok'
   ·exact hok x (yb _ (zb _ hx))
 ·simp only[zh,yn,or_false] at hq;subst hq;exact .inl (by simp[d0,nmR,hr])
theorem B7E{id T:Nat}{A B:List H1}{o o':H1}{X I Y:List (Nat×Bx)}{b:Bx}{pre:List (Nat×Option Bx)}(ho:o.bxs=(o.c,cBn o)::(X++(I++Y)))(ho':o'.bxs=(o.c,cBn o')::(X++((id,b)::Y)))(hpre:∀p∈pre,p.1∈I.map Prod.fst)(he:W6 o'=W6 o)(hok':o'.Ok)
  (hnd:(d0 T (A++o::B)).Nodup) (hfr:∀z∈d0 T (A++o::B),z<id\/id+1024<=z) (hok:∀x∈A++o::B,x.Ok) :
  A5s id T (A++o::B) (pre++[(o.c,some (cBn o')),(id,some b)]) T (A++o'::B):=by
 have hr:I6 (A++o::B)=I6 A++((o.c,cBn o)::(X++(I++Y))++I6 B):=by rw[V5,m5,ho]
 have hr':I6 (A++o'::B)=I6 A++((o.c,cBn o')::(X++((id,b)::Y))++I6 B):=by rw[V5,m5,ho']
 have ht:P2 (A++o'::B)=P2 (A++o::B):=by simp[P2,he]
 have hnd':=hnd;rw[d0,nmR,hr] at hnd';simp only[wn,ym,xc,xt,zo,zh,yv] at hnd';obtain⟨h0,h1,⟨h2,⟨h7,⟨h8,h9,h10⟩,h11⟩,h4,h5⟩,h6⟩:=hnd';have hmem:∀z,z∈d0 T (A++o::B)↔z=T\/z∈(I6 A).map Prod.fst\/z=o.c\/z∈X.map Prod.fst\/z∈I.map Prod.fst\/z∈Y.map Prod.fst\/z∈(I6 B).map Prod.fst:=fun z=>by
  simp only[d0,nmR,hr,wn,ym,zo,zh,yv,or_assoc]
 have hmem':∀z,z∈d0 T (A++o'::B)↔z=T\/z∈(I6 A).map Prod.fst\/z=o.c\/z∈X.map Prod.fst\/z=id\/z∈Y.map Prod.fst\/z∈(I6 B).map Prod.fst:=fun z=>by
  simp only[d0,nmR,hr',wn,ym,zo,zh,yv,or_assoc]
 have hout:∀(bx:Nat->Option Bx) z,z∉I.map Prod.fst->z≠o.c->z≠id->F4 bx (pre++[(o.c,some (cBn o')),(id,some b)]) z=bx z:=fun bx z h1 h2 h3=>by
  rw[m8];simp only[F4];rw[B7 _ _ _ h3,B7 _ _ _ h2];exact P4 (fun h=>by
   obtain⟨p,hp,rfl⟩:=zu.1 h;exact h1 (hpre p hp))
 have hc:o.c<id\/id+1024<=o.c:=hfr _ ((hmem _).2 (.inr (.inr (.inl rfl))));refine⟨fun bx hb q hq=>?_,?_,fun z hz=>?_,fun x hx=>?_,fun q hq=>?_⟩
 ·have key:q∈r9 T (A++o::B)->q.1∉I.map Prod.fst->q.1≠o.c->F4 bx (pre++[(o.c,some (cBn o')),(id,some b)]) q.1=some q.2:=fun g1 g2 g3=>by
   have:q.1<id\/id+1024<=q.1:=hfr q.1 (zu.2 ⟨q,g1,rfl⟩);rw[hout _ _ g2 g3 (by omega)]; exact hb q g1
  rcases zh.1 hq with rfl|hq
  ·exact key (by rw[ht]; exact za ..) (fun e=>h0 (.inr (.inr (.inl (.inr (.inl e)))))) (fun e=>h0 (.inr (.inl e)))
  ·rw[hr'] at hq;rcases zo.1 hq with hq|hq
   ·have hm:=ur (f:=Prod.fst) hq;exact key (zb _ (by rw[hr]; exact yp _ hq)) (fun e=>h6 q.1 hm q.1 (.inr (.inl (.inr (.inl e)))) rfl) (fun e=>h6 q.1 hm o.c (.inl rfl) e)
   ·rcases zo.1 hq with hq|hq
    ·rcases zh.1 hq with rfl|hq
     ·rw[m8];simp only[F4];rw[B7 _ _ _ (by omega),C7]
     ·rcases zo.1 hq with hq|hq
      ·have hm:=ur (f:=Prod.fst) hq;exact key (zb _ (by rw[hr]; exact yb _ (yp _ (zb _ (yp _ hq))))) (fun e=>h11 q.1 hm q.1 (.inl e) rfl) (fun e=>h2 (.inl (.inl (e▸hm))))
      ·rcases zh.1 hq with rfl|hq
       ·rw[m8];simp only[F4];rw[C7]
       ·have hm:=ur (f:=Prod.fst) hq;exact key (zb _ (by rw[hr]; exact yb _ (yp _ (zb _ (yb _ (yb _ hq)))))) (fun e=>h10 q.1 e q.1 hm rfl) (fun e=>h2 (.inl (.inr (.inr (e▸hm)))))
    ·have hm:=ur (f:=Prod.fst) hq;exact key (zb _ (by rw[hr]; exact yb _ (yb _ hq))) (fun e=>h5 q.1 (.inr (.inl e)) q.1 hm rfl) (fun e=>h2 (.inr (e▸hm)))
 ·rw[d0,nmR,hr'];simp only[wn,ym,xc,xt,zo,zh,yv];have fr:∀z,z∈d0 T (A++o::B)->z≠id:=fun z hz=>by have:=hfr z hz; omega
  refine⟨fun h=>?_,h1,⟨fun h=>?_,⟨h7,⟨fun h=>?_,h9⟩,fun a ha b hb=>?_⟩,h4,fun a ha b hb=>?_⟩,fun a ha b hb=>?_⟩
  ·rcases h with h|h|(h|h|h)|h
   ·exact h0 (.inl h)
   ·exact h0 (.inr (.inl h))
   ·exact h0 (.inr (.inr (.inl (.inl h))))
   ·exact fr T (za ..) h
   ·exact h0 (.inr (.inr (.inl (.inr (.inr h)))))
   ·exact h0 (.inr (.inr (.inr h)))
  ·rcases h with (h|h|h)|h
   ·exact h2 (.inl (.inl h))
   ·omega
   ·exact h2 (.inl (.inr (.inr h)))
   ·exact h2 (.inr h)
  ·exact fr id ((hmem _).2 (by simp[h])) rfl
  ·rcases hb with rfl|hb
   ·exact fr a ((hmem _).2 (by simp[ha]))
   ·exact h11 a ha b (.inr hb)
  ·rcases ha with ha|rfl|ha
   ·exact h5 a (.inl ha) b hb
   ·exact fun e=>fr b ((hmem _).2 (by simp[hb])) e.symm
   ·exact h5 a (.inr (.inr ha)) b hb
  ·rcases hb with rfl|(hb|rfl|hb)|hb
   ·exact h6 a ha _ (.inl rfl)
   ·exact h6 a ha b (.inr (.inl (.inl hb)))
   ·exact fr a ((hmem _).2 (by simp[ha]))
   ·exact h6 a ha b (.inr (.inl (.inr (.inr hb))))
   ·exact h6 a ha b (.inr (.inr hb))
 ·rcases (hmem' z).1 hz with h|h|h|h|h|h|h
  ·exact .inl ((hmem z).2 (by simp[h]))
  ·exact .inl ((hmem z).2 (by simp[h]))
  ·exact .inl ((hmem z).2 (by simp[h]))
  ·exact .inl ((hmem z).2 (by simp[h]))
  ·exact .inr ⟨by omega,by omega⟩
  ·exact .inl ((hmem z).2 (by simp[h]))
  ·exact .inl ((hmem z).2 (by simp[h]))
 ·rcases zo.1 hx with hx|hx
  ·exact hok x (yp _ hx)
  ·rcases zh.1 hx with rfl|hx
   ·exact hok'
   ·exact hok x (yb _ (zb _ hx))
 ·rcases zo.1 hq with hq|hq
  ·exact .inl ((hmem _).2 (by have:=hpre q hq; simp only[this,true_or,or_true]))
  ·simp only[zh,yn,or_false] at hq;rcases hq with rfl|rfl
   ·exact .inl ((hmem _).2 (by simp))
   ·exact .inr ⟨ya _,by simp only; omega⟩
theorem B9Q(l:List Ty)(S:List H1)(e:Ev)(i0:Int)(D T c:Nat)(id:Nat)(xs:List AV)(w:Int)(I:Nat)(BI:List Int)(d4:D≠I)(d5:T≠I)(d6:c≠I)(hk:3<=e.kind)(hfB:E9 (S.map H1.t) e.type e.id=true)(hS8:S.length<=1000)(d1:D≠T)(d2:D≠c)(d3:T≠c)
  (hCh:∀id,A2 Tryz.prog 263 [.ptr D 0 0] [(D,S2 l (.bsl T 0 S.length) e (B9 (S.map H1.t) e.type e.id)),(T,P2 S),(c,⟨xs,zC,false,false⟩),(I,⟨BI.map eI,.int .i64 0,false,false⟩)] id (.int .i64 w) []) :
  A2 Tryz.prog 195 [.ptr D 0 0] [(D,S2 l (.bsl T 0 S.length) e i0),(T,P2 S),(c,⟨xs,zC,false,false⟩),(I,⟨BI.map eI,.int .i64 0,false,false⟩)] id (.int .i64 w) [(D,some (S2 l (.bsl T 0 S.length) e (B9 (S.map H1.t) e.type e.id)))]:=by
 have hF:=fun id=>T6 l S T e.type e.id id (by omega);have hk1:e.kind≠1:=by omega
 have hk2:e.kind≠2:=by omega
 unfold P2 S2 eD at *;refine w195.b.1 fun E hP hR hl hid hB hu=>?_;simp[w195];have hD:=hl (D,_) (za ..);simp only at hD;have D1:=lf hD;have hT:=hl (T,_) (zb _ (za ..));simp only at hT;have T1:=lf hT;have hc:=hl (c,_) (zb _ (zb _ (za ..)));simp only at hc;have c1:=lf hc;have hI:=hl (I,_) (zb _ (zb _ (zb _ (za ..))));simp only at hI;have I1:=lf hI;have hTn:∀x∈S.map W6,B4 E.G0.used x:=C1 hB (zb _ (za ..));have hXn:∀x∈xs,B4 E.G0.used x:=C1 hB (zb _ (zb _ (za ..)));(refine yC rfl (hF _) ?_; simp[D1,T1,c1,d1,d1.symm,d2,d2.symm,d3,d3.symm,I1,d4,d4.symm,d5,d5.symm,d6,d6.symm]);refine A0 (by simp[hk1]) ?_;simp[D1,T1,c1,d1,d1.symm,d2,d2.symm,d3,d3.symm,I1,d4,d4.symm,d5,d5.symm,d6,d6.symm];refine A0 (by simp[hk1]) ?_;simp[D1,T1,c1,d1,d1.symm,d2,d2.symm,d3,d3.symm,I1,d4,d4.symm,d5,d5.symm,d6,d6.symm];refine A0 (by simp[hk1]) ?_;simp[D1,T1,c1,d1,d1.symm,d2,d2.symm,d3,d3.symm,I1,d4,d4.symm,d5,d5.symm,d6,d6.symm];refine A0 (by simp[hfB]) ?_;simp[D1,T1,c1,d1,d1.symm,d2,d2.symm,d3,d3.symm,I1,d4,d4.symm,d5,d5.symm,d6,d6.symm];refine I3 hP (v:=.bool false) (rd:=[]) (by simp[D1,T1,c1,d1,d1.symm,d2,d2.symm,d3,d3.symm,I1,d4,d4.symm,d5,d5.symm,d6,d6.symm]) rfl (fun hc=>by simp[hk2] at hc) ?_;refine A3 4000 ?_;simp[D1,T1,c1,d1,d1.symm,d2,d2.symm,d3,d3.symm,I1,d4,d4.symm,d5,d5.symm,d6,d6.symm];refine A0 (by simp[hk2]) ?_;simp[D1,T1,c1,d1,d1.symm,d2,d2.symm,d3,d3.symm,I1,d4,d4.symm,d5,d5.symm,d6,d6.symm];(refine yC rfl (hCh _) ?_; simp[D1,T1,c1,d1,d1.symm,d2,d2.symm,d3,d3.symm,I1,d4,d4.symm,d5,d5.symm,d6,d6.symm]);refine yE hR [] (by simp[D1,T1,c1,d1,d1.symm,d2,d2.symm,d3,d3.symm,I1,d4,d4.symm,d5,d5.symm,d6,d6.symm,A4 hid]) fun hrn=>⟨?_,?_,?_,?_,?_,?_⟩<;>(try simp[D1,T1,c1,d1,d1.symm,d2,d2.symm,d3,d3.symm,I1,d4,d4.symm,d5,d5.symm,d6,d6.symm,A4 hid]);exact⟨by exact yO hu hTn,by exact yO hu hXn⟩
theorem B9R(l:List Ty)(S:List H1)(e:Ev)(i0:Int)(D T c:Nat)(id:Nat)(xs:List AV)(k:Nat)(a b io:AV)(hx:xs[k]?=some (.agg [a,b,io]))(n:Int)(t:List UInt8)(I:Nat)(BI:List Int)(d4:D≠I)(d5:T≠I)(d6:c≠I)(hk:3<=e.kind)(hfB:E9 (S.map H1.t) e.type e.id=true)(hS8:S.length<=1000)(d1:D≠T)(d2:D≠c)(d3:T≠c)
  (hCh:∀id,A2 Tryz.prog 263 [.ptr D 0 0] [(D,S2 l (.bsl T 0 S.length) e (B9 (S.map H1.t) e.type e.id)),(T,P2 S),(c,⟨xs,zC,false,false⟩),(I,⟨BI.map eI,.int .i64 0,false,false⟩)] id (.int .i64 0) [(c,some ⟨xs.set k (.agg [.int .i64 n,.str t,io]),zC,false,false⟩)]) :
  A2 Tryz.prog 195 [.ptr D 0 0] [(D,S2 l (.bsl T 0 S.length) e i0),(T,P2 S),(c,⟨xs,zC,false,false⟩),(I,⟨BI.map eI,.int .i64 0,false,false⟩)] id (.int .i64 0) [(D,some (S2 l (.bsl T 0 S.length) e (B9 (S.map H1.t) e.type e.id))),(c,some ⟨xs.set k (.agg [.int .i64 n,.str t,io]),zC,false,false⟩)]:=by
 have hF:=fun id=>T6 l S T e.type e.id id (by omega);have hk1:e.kind≠1:=by omega
 have hk2:e.kind≠2:=by omega
 unfold P2 S2 eD at *;refine w195.b.1 fun E hP hR hl hid hB hu=>?_;simp[w195];have hD:=hl (D,_) (za ..);simp only at hD;have D1:=lf hD;have hT:=hl (T,_) (zb _ (za ..));simp only at hT;have T1:=lf hT;have hc:=hl (c,_) (zb _ (zb _ (za ..)));simp only at hc;have c1:=lf hc;have hI:=hl (I,_) (zb _ (zb _ (zb _ (za ..))));simp only at hI;have I1:=lf hI;have hTn:∀x∈S.map W6,B4 E.G0.used x:=C1 hB (zb _ (za ..));have hXn:∀x∈xs,B4 E.G0.used x:=C1 hB (zb _ (zb _ (za ..)));(refine yC rfl (hF _) ?_; simp[D1,T1,c1,d1,d1.symm,d2,d2.symm,d3,d3.symm,I1,d4,d4.symm,d5,d5.symm,d6,d6.symm]);refine A0 (by simp[hk1]) ?_;simp[D1,T1,c1,d1,d1.symm,d2,d2.symm,d3,d3.symm,I1,d4,d4.symm,d5,d5.symm,d6,d6.symm];refine A0 (by simp[hk1]) ?_;simp[D1,T1,c1,d1,d1.symm,d2,d2.symm,d3,d3.symm,I1,d4,d4.symm,d5,d5.symm,d6,d6.symm];refine A0 (by simp[hk1]) ?_;simp[D1,T1,c1,d1,d1.symm,d2,d2.symm,d3,d3.symm,I1,d4,d4.symm,d5,d5.symm,d6,d6.symm];refine A0 (by simp[hfB]) ?_;simp[D1,T1,c1,d1,d1.symm,d2,d2.symm,d3,d3.symm,I1,d4,d4.symm,d5,d5.symm,d6,d6.symm];refine I3 hP (v:=.bool false) (rd:=[]) (by simp[D1,T1,c1,d1,d1.symm,d2,d2.symm,d3,d3.symm,I1,d4,d4.symm,d5,d5.symm,d6,d6.symm]) rfl (fun hc=>by simp[hk2] at hc) ?_;refine A3 4000 ?_;simp[D1,T1,c1,d1,d1.symm,d2,d2.symm,d3,d3.symm,I1,d4,d4.symm,d5,d5.symm,d6,d6.symm];refine A0 (by simp[hk2]) ?_;simp[D1,T1,c1,d1,d1.symm,d2,d2.symm,d3,d3.symm,I1,d4,d4.symm,d5,d5.symm,d6,d6.symm];(refine yC rfl (hCh _) ?_; simp[D1,T1,c1,d1,d1.symm,d2,d2.symm,d3,d3.symm,I1,d4,d4.symm,d5,d5.symm,d6,d6.symm]);refine yE hR [] (by simp[D1,T1,c1,d1,d1.symm,d2,d2.symm,d3,d3.symm,I1,d4,d4.symm,d5,d5.symm,d6,d6.symm,A4 hid]) fun hrn=>⟨?_,?_,?_,?_,?_,?_⟩<;>(try simp[D1,T1,c1,d1,d1.symm,d2,d2.symm,d3,d3.symm,I1,d4,d4.symm,d5,d5.symm,d6,d6.symm,A4 hid]);have hio:B4 E.G0.used io:=by have:=hXn _ (zg hx); simp[B4,F3] at this; exact this.2.2
 refine⟨by exact yO hu hTn,J6 (A37 hu (by simp[B4,F3]; exact hio) fun z h1 h2=>rfl) k (by exact yO hu hXn)⟩
theorem B9S(l:List Ty)(S:List H1)(e:Ev)(i0:Int)(D T c:Nat)(id:Nat)(xs:List AV)(k:Nat)(n:Int)(t:List UInt8)(ys:List Int)(I:Nat)(BI:List Int)(d4:D≠I)(d5:T≠I)(d6:c≠I)(hk:3<=e.kind)(hfB:E9 (S.map H1.t) e.type e.id=true)(hS8:S.length<=1000)(d1:D≠T)(d2:D≠c)(d3:T≠c)
  (hCh:∀id,A2 Tryz.prog 263 [.ptr D 0 0] [(D,S2 l (.bsl T 0 S.length) e (B9 (S.map H1.t) e.type e.id)),(T,P2 S),(c,⟨xs,zC,false,false⟩),(I,⟨BI.map eI,.int .i64 0,false,false⟩)] id (.int .i64 0) [(c,some ⟨xs.set k (.agg [.int .i64 n,.str t,.bsl id 0 ys.length]),zC,false,false⟩),(id,some ⟨ys.map eI,.int .i64 0,false,false⟩)]) :
  A2 Tryz.prog 195 [.ptr D 0 0] [(D,S2 l (.bsl T 0 S.length) e i0),(T,P2 S),(c,⟨xs,zC,false,false⟩),(I,⟨BI.map eI,.int .i64 0,false,false⟩)] id (.int .i64 0) [(D,some (S2 l (.bsl T 0 S.length) e (B9 (S.map H1.t) e.type e.id))),(c,some ⟨xs.set k (.agg [.int .i64 n,.str t,.bsl id 0 ys.length]),zC,false,false⟩),(id,some ⟨ys.map eI,.int .i64 0,false,false⟩)]:=by
 have hF:=fun id=>T6 l S T e.type e.id id (by omega);have hk1:e.kind≠1:=by omega
 have hk2:e.kind≠2:=by omega
 unfold P2 S2 eD at *;refine w195.b.1 fun E hP hR hl hid hB hu=>?_;simp[w195];have hD:=hl (D,_) (za ..);simp only at hD;have D1:=lf hD;have hT:=hl (T,_) (zb _ (za ..));simp only at hT;have T1:=lf hT;have hc:=hl (c,_) (zb _ (zb _ (za ..)));simp only at hc;have c1:=lf hc;have hI:=hl (I,_) (zb _ (zb _ (zb _ (za ..))));simp only at hI;have I1:=lf hI;have hTn:∀x∈S.map W6,B4 E.G0.used x:=C1 hB (zb _ (za ..));have hXn:∀x∈xs,B4 E.G0.used x:=C1 hB (zb _ (zb _ (za ..)));(refine yC rfl (hF _) ?_; simp[D1,T1,c1,d1,d1.symm,d2,d2.symm,d3,d3.symm,I1,d4,d4.symm,d5,d5.symm,d6,d6.symm]);refine A0 (by simp[hk1]) ?_;simp[D1,T1,c1,d1,d1.symm,d2,d2.symm,d3,d3.symm,I1,d4,d4.symm,d5,d5.symm,d6,d6.symm];refine A0 (by simp[hk1]) ?_;simp[D1,T1,c1,d1,d1.symm,d2,d2.symm,d3,d3.symm,I1,d4,d4.symm,d5,d5.symm,d6,d6.symm];refine A0 (by simp[hk1]) ?_;simp[D1,T1,c1,d1,d1.symm,d2,d2.symm,d3,d3.symm,I1,d4,d4.symm,d5,d5.symm,d6,d6.symm];refine A0 (by simp[hfB]) ?_;simp[D1,T1,c1,d1,d1.symm,d2,d2.symm,d3,d3.symm,I1,d4,d4.symm,d5,d5.symm,d6,d6.symm];refine I3 hP (v:=.bool false) (rd:=[]) (by simp[D1,T1,c1,d1,d1.symm,d2,d2.symm,d3,d3.symm,I1,d4,d4.symm,d5,d5.symm,d6,d6.symm]) rfl (fun hc=>by simp[hk2] at hc) ?_;refine A3 4000 ?_;simp[D1,T1,c1,d1,d1.symm,d2,d2.symm,d3,d3.symm,I1,d4,d4.symm,d5,d5.symm,d6,d6.symm];refine A0 (by simp[hk2]) ?_;simp[D1,T1,c1,d1,d1.symm,d2,d2.symm,d3,d3.symm,I1,d4,d4.symm,d5,d5.symm,d6,d6.symm];(refine yC rfl (hCh _) ?_; simp[D1,T1,c1,d1,d1.symm,d2,d2.symm,d3,d3.symm,I1,d4,d4.symm,d5,d5.symm,d6,d6.symm]);refine yE hR [(id,E.n0+82944)] (by simp[D1,T1,c1,d1,d1.symm,d2,d2.symm,d3,d3.symm,I1,d4,d4.symm,d5,d5.symm,d6,d6.symm,A4 hid]) fun hrn=>⟨?_,?_,?_,?_,?_,?_⟩<;>(try simp[D1,T1,c1,d1,d1.symm,d2,d2.symm,d3,d3.symm,I1,d4,d4.symm,d5,d5.symm,d6,d6.symm,A4 hid]);exact⟨by exact yO hu hTn,J6 (by simp[A4 hid]) k (by exact yO hu hXn)⟩
theorem B7F(l:List Ty)(S:List H1)(e:Ev)(T:Nat)(id:Nat)(c:Nat)(xs:List AV)(k:Nat)(a b io:AV)(hx:xs[k]?=some (.agg [a,b,io]))(n:Int)(t:List UInt8)(I:Nat)(BI:List Int)(d3:T≠c)(d5:T≠I)(d6:c≠I)(m:Int)(hl8:l.length<=1000)(hf0:U1 e=0)(h0:0<=e.type)(h1:e.type<=(l.length:Int) - 1)(h2:1<=e.id)(h3:e.id<=999)
  (hDo:∀D id,(∀q∈[(T,P2 S),(c,⟨xs,zC,false,false⟩),(I,⟨BI.map eI,.int .i64 0,false,false⟩)],q.1≠D)->A2 Tryz.prog 195 [.ptr D 0 0] ((D,S2 l (.bsl T 0 S.length) e 0)::[(T,P2 S),(c,⟨xs,zC,false,false⟩),(I,⟨BI.map eI,.int .i64 0,false,false⟩)]) id (.int .i64 0) ((D,some (S2 l (.bsl T 0 S.length) e m))::[(c,some ⟨xs.set k (.agg [.int .i64 n,.str t,io]),zC,false,false⟩)])) :
  A2 Tryz.prog 126 [.agg [.sl (l.map I8),.bsl T 0 S.length],K7 e] [(T,P2 S),(c,⟨xs,zC,false,false⟩),(I,⟨BI.map eI,.int .i64 0,false,false⟩)] id (.tup [.agg [.sl (l.map I8),(.bsl T 0 S.length)],.int .i64 0]) ([(c,some ⟨xs.set k (.agg [.int .i64 n,.str t,io]),zC,false,false⟩)]):=by
 have hFm:=fun id=>j6 e id;have hw1:IntKind.i64.wrap ((l.length:Int) - 1)=(l.length:Int) - 1:=A5 (by omega);replace hDo:=fun D id hne=>(hDo D id hne).setD ⟨[eD l (.bsl T 0 S.length) e 0],eD l (.bsl T 0 S.length) e 0,false,false⟩ rfl rfl rfl rfl hne;unfold P2 S2 eD K7 at *;refine w126.b.1 fun E hP hR hl hid hB hu=>?_;simp[w126,C9];have hT:=hl (T,_) (za ..);simp only at hT;have T1:=lf hT;have hTn:∀x∈S.map W6,B4 E.G0.used x:=C1 hB (za ..);have hc:=hl (c,_) (zb _ (za ..));simp only at hc;have c1:=lf hc;have hXn:∀x∈xs,B4 E.G0.used x:=C1 hB (zb _ (za ..));have hI:=hl (I,_) (zb _ (zb _ (za ..)));simp only at hI;have I1:=lf hI;(refine yC rfl (hFm _) ?_; simp[T1,c1,I1,d3,d3.symm,d5,d5.symm,d6,d6.symm]);refine A0 (by simp[hf0]) ?_;simp[T1,c1,I1,d3,d3.symm,d5,d5.symm,d6,d6.symm];rw[hw1];(refine D8 hP rfl (F5 _ _ _ _) (by simp[T1,c1,I1,d3,d3.symm,d5,d5.symm,d6,d6.symm]) (by simp[T1,c1,I1,d3,d3.symm,d5,d5.symm,d6,d6.symm]<;>rfl) ?_; refine A3 4000 ?_; simp[T1,c1,I1,d3,d3.symm,d5,d5.symm,d6,d6.symm]);refine A0 (by simp; omega) ?_;simp[T1,c1,I1,d3,d3.symm,d5,d5.symm,d6,d6.symm];(refine D8 hP rfl (F5 _ _ _ _) (by simp[T1,c1,I1,d3,d3.symm,d5,d5.symm,d6,d6.symm]) (by simp[T1,c1,I1,d3,d3.symm,d5,d5.symm,d6,d6.symm]<;>rfl) ?_; refine A3 4000 ?_; simp[T1,c1,I1,d3,d3.symm,d5,d5.symm,d6,d6.symm]);refine A0 (by simp; omega) ?_;simp[T1,c1,I1,d3,d3.symm,d5,d5.symm,d6,d6.symm];refine A0 (by simp[hf0]) ?_;simp[T1,c1,I1,d3,d3.symm,d5,d5.symm,d6,d6.symm];(refine D8 hP rfl (hDo _ _ (by exact fun q hq=>by have:=(hl q hq).1; omega)) (by simp[T1,c1,I1,d3,d3.symm,d5,d5.symm,d6,d6.symm]) (by simp[T1,c1,I1,d3,d3.symm,d5,d5.symm,d6,d6.symm]<;>rfl) ?_; refine A3 4000 ?_; simp[T1,c1,I1,d3,d3.symm,d5,d5.symm,d6,d6.symm]);refine yE hR [] (by simp[T1,c1,I1,d3,d3.symm,d5,d5.symm,d6,d6.symm,A4 hid]) fun hrn=>⟨?_,?_,?_,?_,?_,?_⟩<;>(try simp[T1,c1,I1,d3,d3.symm,d5,d5.symm,d6,d6.symm,A4 hid]);have hio:B4 E.G0.used io:=by have:=hXn _ (zg hx); simp[B4,F3] at this; exact this.2.2
 refine⟨by exact yO hu hTn,J6 (A37 hu (by simp[B4,F3]; exact hio) fun z h1 h2=>rfl) k (by exact yO hu hXn)⟩
theorem B7G(l:List Ty)(S:List H1)(e:Ev)(T:Nat)(id:Nat)(c:Nat)(xs:List AV)(k:Nat)(n:Int)(t:List UInt8)(ys:List Int)(I:Nat)(BI:List Int)(d3:T≠c)(d5:T≠I)(d6:c≠I)(m:Int)(hl8:l.length<=1000)(hf0:U1 e=0)(h0:0<=e.type)(h1:e.type<=(l.length:Int) - 1)(h2:1<=e.id)(h3:e.id<=999)
  (hDo:∀D id,(∀q∈[(T,P2 S),(c,⟨xs,zC,false,false⟩),(I,⟨BI.map eI,.int .i64 0,false,false⟩)],q.1≠D)->A2 Tryz.prog 195 [.ptr D 0 0] ((D,S2 l (.bsl T 0 S.length) e 0)::[(T,P2 S),(c,⟨xs,zC,false,false⟩),(I,⟨BI.map eI,.int .i64 0,false,false⟩)]) id (.int .i64 0) ((D,some (S2 l (.bsl T 0 S.length) e m))::[(c,some ⟨xs.set k (.agg [.int .i64 n,.str t,.bsl id 0 ys.length]),zC,false,false⟩),(id,some ⟨ys.map eI,.int .i64 0,false,false⟩)])) :
  A2 Tryz.prog 126 [.agg [.sl (l.map I8),.bsl T 0 S.length],K7 e] [(T,P2 S),(c,⟨xs,zC,false,false⟩),(I,⟨BI.map eI,.int .i64 0,false,false⟩)] id (.tup [.agg [.sl (l.map I8),(.bsl T 0 S.length)],.int .i64 0]) ([(c,some ⟨xs.set k (.agg [.int .i64 n,.str t,.bsl id 0 ys.length]),zC,false,false⟩),(id,some ⟨ys.map eI,.int .i64 0,false,false⟩)]):=by
 have hFm:=fun id=>j6 e id;have hw1:IntKind.i64.wrap ((l.length:Int) - 1)=(l.length:Int) - 1:=A5 (by omega);replace hDo:=fun D id hne=>(hDo D id hne).setD ⟨[eD l (.bsl T 0 S.length) e 0],eD l (.bsl T 0 S.length) e 0,false,false⟩ rfl rfl rfl rfl hne;unfold P2 S2 eD K7 at *;refine w126.b.1 fun E hP hR hl hid hB hu=>?_;simp[w126,C9];have hT:=hl (T,_) (za ..);simp only at hT;have T1:=lf hT;have hTn:∀x∈S.map W6,B4 E.G0.used x:=C1 hB (za ..);have hc:=hl (c,_) (zb _ (za ..));simp only at hc;have c1:=lf hc;have hXn:∀x∈xs,B4 E.G0.used x:=C1 hB (zb _ (za ..));have hI:=hl (I,_) (zb _ (zb _ (za ..)));simp only at hI;have I1:=lf hI;(refine yC rfl (hFm _) ?_; simp[T1,c1,I1,d3,d3.symm,d5,d5.symm,d6,d6.symm]);refine A0 (by simp[hf0]) ?_;simp[T1,c1,I1,d3,d3.symm,d5,d5.symm,d6,d6.symm];rw[hw1];(refine D8 hP rfl (F5 _ _ _ _) (by simp[T1,c1,I1,d3,d3.symm,d5,d5.symm,d6,d6.symm]) (by simp[T1,c1,I1,d3,d3.symm,d5,d5.symm,d6,d6.symm]<;>rfl) ?_; refine A3 4000 ?_; simp[T1,c1,I1,d3,d3.symm,d5,d5.symm,d6,d6.symm]);refine A0 (by simp; omega) ?_;simp[T1,c1,I1,d3,d3.symm,d5,d5.symm,d6,d6.symm];(refine D8 hP rfl (F5 _ _ _ _) (by simp[T1,c1,I1,d3,d3.symm,d5,d5.symm,d6,d6.symm]) (by simp[T1,c1,I1,d3,d3.symm,d5,d5.symm,d6,d6.symm]<;>rfl) ?_; refine A3 4000 ?_; simp[T1,c1,I1,d3,d3.symm,d5,d5.symm,d6,d6.symm]);refine A0 (by simp; omega) ?_;simp[T1,c1,I1,d3,d3.symm,d5,d5.symm,d6,d6.symm];refine A0 (by simp[hf0]) ?_;simp[T1,c1,I1,d3,d3.symm,d5,d5.symm,d6,d6.symm];(refine D8 hP rfl (hDo _ _ (by exact fun q hq=>by have:=(hl q hq).1; omega)) (by simp[T1,c1,I1,d3,d3.symm,d5,d5.symm,d6,d6.symm]) (by simp[T1,c1,I1,d3,d3.symm,d5,d5.symm,d6,d6.symm]<;>rfl) ?_; refine A3 4000 ?_; simp[T1,c1,I1,d3,d3.symm,d5,d5.symm,d6,d6.symm]);refine yE hR [(id,E.n0+32768)] (by simp[T1,c1,I1,d3,d3.symm,d5,d5.symm,d6,d6.symm,A4 hid]) fun hrn=>⟨?_,?_,?_,?_,?_,?_⟩<;>(try simp[T1,c1,I1,d3,d3.symm,d5,d5.symm,d6,d6.symm,A4 hid]);exact⟨by exact yO hu hTn,J6 (by simp[A4 hid]) k (by exact yO hu hXn)⟩
def B7H(kind tid:Int)(t:Tg):Bool:=t.type==kind&&t.id==tid
def W4(ta ia tb ib:Int):Bool:=decide (ta<tb)||(decide (ta=tb)&&decide (ia<ib))
theorem B7I{ta ia tb ib:Int}(h1:0<=ta/\ta<=1000)(h2:0<=tb/\tb<=1000)(h3:1<=ia/\ia<=999)(h4:1<=ib/\ib<=999):(0<=x4 ta ia tb ib)↔W4 ta ia tb ib=false:=by
 unfold x4 W4;split
 ·rw[A5 (by omega)]; simp; omega
 ·rw[A5 (by omega)]; simp; omega
def I64(n:Int):Prop:=-9223372036854775808<=n/\n<=9223372036854775807
theorem A52{ta ia kind tid:Int}(h1:0<=ta/\ta<=1000)(h2 : -1<=kind/\kind<=1000)(h3:1<=ia/\ia<=999)(h4:I64 tid):x4 ta ia kind tid=0↔ta=kind/\ia=tid:=by
 unfold x4;unfold I64 at h4;split
 ·rw[A5 (by omega)]; omega
 ·by_cases hr:ia - tid<=9223372036854775807
  ·rw[A5 (by omega)]; omega
  ·have:IntKind.i64.wrap (ia - tid)=ia - tid - 18446744073709551616:=by
    rw[IntKind.wrap_i64]; omega
   rw[this]; omega
theorem A6y(f:Nat->Int)(j:Nat):∀(n a b:Nat),b - a<n->a<=j->j<=b->(∀k,a<=k->k<j->f k<0)->(∀k,j<=k->k<b->¬f k<0)->bs f a b=j
 | 0,a,b,hn,_,_,_,_=>by omega
 | n+1,a,b,hn,h1,h2,h3,h4=>by
  rw[bs];split
  ·rename_i hab;split
   ·rename_i hm;have hj:(a+b) / 2<j:=by
     by_cases hh:(a+b) / 2<j
     ·exact hh
     ·exact (h4 _ (by omega) (by omega) hm).elim
    exact A6y f j n _ b (by omega) (by omega) h2 (fun k hk hkj=>h3 k (by omega) hkj) h4
   ·rename_i hm;have hj:j<=(a+b) / 2:=by
     by_cases hh:j<=(a+b) / 2
     ·exact hh
     ·exact (hm (h3 _ (by omega) (by omega))).elim
    exact A6y f j n a _ (by omega) h1 hj h3 (fun k hk hkb=>h4 k hk (by omega))
  ·omega
structure Srt(l:List Tg):Prop where
 ty:∀t∈l,0<=t.type/\t.type<=1000
 id:∀t∈l,1<=t.id/\t.id<=999
 asc:∀(i j:Nat) (a b:Tg),i<j->l[i]?=some a->l[j]?=some b->W4 a.type a.id b.type b.id=true
theorem A6R{a b c d e f:Int}(h1:W4 a b c d=true)(h2:W4 c d e f=true):W4 a b e f=true:=by
 simp[W4] at *; omega
theorem Y0{ta ia tb ib:Int}(h1:0<=ta/\ta<=1000)(h2:0<=tb/\tb<=1000)(h3:1<=ia/\ia<=999)(h4:1<=ib/\ib<=999):(x4 ta ia tb ib<0)↔W4 ta ia tb ib=true:=by
 have:=B7I h1 h2 h3 h4;cases h:W4 ta ia tb ib<;>simp[h] at this<;>simp<;>omega
theorem Srt.found{l:List Tg}(h:Srt l){j:Nat}{t:Tg}(ht:l[j]?=some t):B9 l t.type t.id=j:=by
 have hlt:=(ze.1 ht).1;have htm:=zg ht;unfold B9;refine A6y _ j (l.length+1) 0 l.length (by omega) (by omega) (by omega) (fun k _ hk=>?_) (fun k hk hkl=>?_)
 ·obtain⟨u,hu⟩:∃u,l[k]?=some u:=⟨_,zc (by omega)⟩;have hum:=zg hu;simp only[I5,hu];rw[Y0 (h.ty u hum) (h.ty t htm) (h.id u hum) (h.id t htm)];exact h.asc k j u t hk hu ht
 ·obtain⟨u,hu⟩:∃u,l[k]?=some u:=⟨_,zc (by omega)⟩;have hum:=zg hu;simp only[I5,hu];rw[Y0 (h.ty u hum) (h.ty t htm) (h.id u hum) (h.id t htm)];rcases yh j k with hjk|hjk
  ·have:=h.asc j k t u hjk ht hu;simp[W4] at this ⊢; omega
  ·obtain rfl:k=j:=by omega
   rw[ht] at hu; injection hu with hu; subst hu
   simp[W4]
theorem Srt.findB{l:List Tg}(h:Srt l){kind tid:Int}(h2 : -1<=kind/\kind<=1000)(h4:I64 tid):E9 l kind tid=l.any (B7H kind tid):=by
 rw[wa,vg];constructor
 ·intro hb;simp only[E9,yg,decide_eq_true_eq] at hb;obtain⟨hlt,hz⟩:=hb;obtain⟨u,hu⟩:∃u,l[B9 l kind tid]?=some u:=⟨_,zc hlt⟩;have hum:=zg hu;simp only[I5,hu] at hz;rw[A52 (h.ty u hum) h2 (h.id u hum) h4] at hz;exact⟨u,hum,by simp[B7H,hz.1,hz.2]⟩
 ·rintro⟨t,ht,he⟩;simp[B7H] at he;obtain⟨rfl,rfl⟩:=he;obtain⟨j,hj⟩:=ye.1 ht;have hf:=h.found hj;have hlt:=(ze.1 hj).1;simp only[E9,hf,yg,decide_eq_true_eq];refine⟨hlt,?_⟩;simp only[I5,hj];rw[A52 (h.ty t ht) h2 (h.id t ht) h4];exact⟨rfl,rfl⟩
theorem C3q{s:H0}(hS:A6O s.types)(hz:D9 (fun i t=>A0v s i t) s.things 0=0):(∀t∈s.things,A4O s t)/\Srt s.things:=by
 have h1:∀(k:Nat) t,s.things[k]?=some t->A0v s k t=0:=fun k t hk=>by
  have:=Q8 _ _ _ hz k t hk
  rwa [yy] at this
 have hall:∀t∈s.things,A4O s t:=fun t ht=>by
  obtain⟨k,hk⟩:=ye.1 ht;have h0:=h1 k t hk;refine C3p ?_;unfold A0v at h0;split at h0
  ·rename_i g; exact (g h0).elim
  ·rename_i g; exact zl g
 have hty:∀t∈s.things,0<=t.type/\t.type<=1000:=fun t ht=>⟨(hall t ht).ty0,by have:=(hall t ht).ty1; have:=hS.len; omega⟩;have hid:∀t∈s.things,1<=t.id/\t.id<=999:=fun t ht=>⟨(hall t ht).id1,(hall t ht).id2⟩;have hstep:∀(i:Nat) (a b:Tg),s.things[i]?=some a->s.things[i+1]?=some b->W4 a.type a.id b.type b.id=true:=fun i a b ha hb=>by
  have h0:=h1 (i+1) b hb;unfold A0v at h0;split at h0
  ·rename_i g; exact (g h0).elim
  split at h0
  ·omega
  ·rename_i g;simp[I5,ha] at g;have ham:=zg ha;have hbm:=zg hb;exact (Y0 (hty a ham) (hty b hbm) (hid a ham) (hid b hbm)).1 g
 refine⟨hall,hty,hid,fun i j a b hij ha hb=>?_⟩;obtain⟨d,rfl⟩:∃d,j=i+1+d:=⟨j - i - 1,by omega⟩;clear hij;induction d generalizing b with
 | zero=>exact hstep i a b ha hb
 | succ d ih =>
  obtain⟨c,hc⟩:∃c,s.things[i+1+d]?=some c:=⟨_,zc (by have:=(ze.1 hb).1; omega)⟩;exact A6R (ih c hc) (hstep _ c b hc (by rw[show i+1+d+1=i+1+(d+1) by omega]; exact hb))
theorem B2v{α:Type}(p:α->Bool):∀(l:List α) (i:Nat),-1<=B8 p l i/\B8 p l i<(i+l.length:Nat) \/B8 p l i = -1
 | [],i=>.inr rfl
 | x::l,i=>by
  simp only[B8];split
  ·exact .inl ⟨by omega,by simp; omega⟩
  ·rcases B2v p l (i+1) with h|h
   ·exact .inl ⟨h.1,by have:=h.2; simp at this ⊢; omega⟩
   ·exact .inr h
theorem B7J{l:List Ty}(hS:A6O l)(n:List UInt8): -1<=C3 l n/\C3 l n<=1000:=by
 have:=hS.len;rcases B2v (fun t:Ty=>t.name==n) l 0 with h|h
 ·unfold C3; omega
 ·unfold C3; omega
end Go.Am
