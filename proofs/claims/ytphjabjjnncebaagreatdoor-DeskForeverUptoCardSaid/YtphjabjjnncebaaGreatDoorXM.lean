/- Parts of the proof: an abstract machine for Go functions, and what functions of the program give back (Do10, Do11, Ra1, Do12, Ra2, Ra3, Ra4, Ra5, Do13, Ra2b, So1, St6). No condition. -/
import Derived.Test.YtphjabjjnncebaaGreatDoorXL
import Derived.Test.YtphjabjjnncebaaGreatDoorXJ
set_option maxRecDepth 100000
set_option linter.all false
set_option maxHeartbeats 1000000
namespace Go.Am
open Go Go.Proofs Go.RowKit
theorem A9o{q:Nat×Bx}:∀{l:List (Nat×Bx)},q∈l->(q.1,some q.2)∈C9 l
 | p::l,h=>by
  obtain⟨i,b⟩:=p;rcases List.mem_cons.1 h with rfl|h
  ·exact List.mem_cons_self ..
  ·exact List.mem_cons_of_mem _ (A9o h)
theorem A81:∀{l:List (Nat×Bx)},(C9 l).map Prod.fst=l.map Prod.fst
 | []=>rfl
 | (i,b)::l=>by simp[C9,A81 (l:=l)]
theorem B5O{l:List (Nat×Bx)}(hn:(l.map Prod.fst).Nodup){q:Nat×Bx}(h:q∈l):bk (C9 l) q.1=some q.2 :=
 A1r (by rw[A81]; exact hn) (A9o h)
theorem A0E{R:Rn}{S:Nat->Prop}{bx':List (Nat×Option Bx)}{fin:Nat->Option Bx}:∀{a b:List Nat},A2H R S bx' fin a->A2H R S bx' fin b->A2H R S bx' fin (a++b)
 | [],_,_,h=>h
 | _::_,_,h1,h=>⟨h1.1,A0E h1.2 h⟩
theorem A3E{E:Q7}{id:Nat}{rd:List (Nat×Bx)}{wr bx':List (Nat×Option Bx)}{rn:List (Nat×Nat)}{hrn:H2 rn}(hh:J9 E.β rd)(hu:∀z,E.G0.used z->z<id\/id+1024<=z)
  (hk:∀z,z<E.n0->(z<id\/id+1024<=z)->lkN rn z=none) (hg:∀z,z<E.n0->S8 rn z=false):∀{rest:List (Nat×Bx)},(∀q∈rest,q∈rd/\F3 (bk (C9 rd)) wr q.1=some q.2/\bk bx' q.1=some q.2)->A2H (P9 E.n0 rn hrn) E.G0.used bx' (F3 (bk (C9 rd)) wr) (rest.map (·.1))
 | [],_=>trivial
 | q::rest,h=>by
  obtain⟨h1,h2,h3⟩:=h q (List.mem_cons_self ..);refine⟨?_,A3E hh hu hk hg fun q hq=>h q (List.mem_cons_of_mem _ hq)⟩;rw[h2];have hus:=E.rs0.boxNames (hh q h1);have hlt:=E.old _ hus.1;refine⟨q.1,q.2,?_,h3,BxR.same fun i x hx=>L0 (B50 hu hk) x (hus.2 i x hx)⟩;show rnF E.n0 rn q.1=some q.1;unfold rnF;rw[hk _ hlt (hu _ hus.1)];simp[hlt,hg _ hlt]
theorem A14{n0:Nat}{bx:List (Nat×Option Bx)}:∀{a b:List (Nat×Option Bx)},I7 n0 bx a->I7 n0 bx b->I7 n0 bx (a++b)
 | [],_,_,h=>h
 | _::_,_,h1,h=>⟨h1.1,A14 h1.2 h⟩
theorem r9{n0:Nat}{bx:List (Nat×Option Bx)}:∀{l:List (Nat×Bx)},(∀q∈l,J7 q.1 bx)->I7 n0 bx (C9 l)
 | [],_=>trivial
 | (i,b)::l,h=>⟨.inr (h _ (List.mem_cons_self ..)),r9 fun q hq=>h q (List.mem_cons_of_mem _ hq)⟩
theorem A2W{rest:List (Nat×Bx)}(hn:(rest.map Prod.fst).Nodup){q:Nat×Bx}(hq:q∈rest):∀{pre:List (Nat×Option Bx)},(∀p∈pre,q.1≠p.1)->bk (pre++C9 rest) q.1=some q.2
 | [],_=>B5O hn hq
 | p::pre,h=>by
  rw[List.cons_append,A4g (h p (List.mem_cons_self ..))];exact A2W hn hq fun p hp=>h p (List.mem_cons_of_mem _ hp)
theorem A3l{rest:List (Nat×Bx)}{pre:List (Nat×Option Bx)}(hn:(rest.map Prod.fst).Nodup)(h:∀q∈rest,∀p∈pre,q.1≠p.1):p5 (bk (pre++C9 rest)) rest :=
 p5.of fun q hq=>A2W hn hq (h q hq)
theorem B93(l:List Ty)(S:List H1)(e:Ev)(i0:Int)(D T:Nat)(id:Nat)(hk:e.kind=2)(hfB:F7 (S.map H1.t) e.type e.id=true)(hS:∀o∈S,o.Ok)(h5:l.length<=1000)(hS8:S.length<=1000)(d1:D≠T)(hnd:((I5 S).map Prod.fst).Nodup)(dD:∀q∈I5 S,q.1≠D)(dT:∀q∈I5 S,q.1≠T)
  (hok:∀t∈S.map H1.t,0<=t.type/\t.type.toNat<l.length/\t.cells.length=(D8 l t.type).length/\t.cells.length<=1000000/\∀c∈t.cells,c.ids.length<=6) (hm:U4 (T8 l e) l (S.map H1.t)=false) :
  A2 Tryz.prog 195 [.ptr D 0 0] ((D,R5 l (.bsl T 0 S.length) e i0)::(T,P0 S)::I5 S) id (.int .i64 4) [(D,some (R5 l (.bsl T 0 S.length) e (C8 (S.map H1.t) e.type e.id)))]:=by
 have hF:=fun id=>S3 l S T e.type e.id id (by omega);have hM:=fun i id=>A9n l S e i D T id hS h5 (by omega) hok;rw[hm] at hM;generalize hrest:I5 S=rest at *;unfold P0 R5 eD at *;refine w195.b.1 fun E hP hR hl hid hB hu=>?_;simp[w195,C9];have hD:=hl (D,_) (List.mem_cons_self ..);simp only at hD;have D1:=lf hD;have hT:=hl (T,_) (List.mem_cons_of_mem _ (List.mem_cons_self ..));simp only at hT;have T1:=lf hT;have hTn:∀x∈S.map V8,B5 E.G0.used x:=B9 hB (List.mem_cons_of_mem _ (List.mem_cons_self ..));(refine yC rfl (hF _) ?_; simp[D1,T1,d1,d1.symm]);refine A0 (by simp[hk]) ?_;simp[D1,T1,d1,d1.symm];refine A0 (by simp[hk]) ?_;simp[D1,T1,d1,d1.symm];refine A0 (by simp[hk]) ?_;simp[D1,T1,d1,d1.symm];refine A0 (by simp[hfB]) ?_;simp[D1,T1,d1,d1.symm];refine I0 hP (by simp[D1,T1,d1,d1.symm]) rfl (fun hc=>⟨hM (C8 (S.map H1.t) e.type e.id) _,by simp[D1,T1,d1,d1.symm]; simp[hk],?_⟩) ?_
 ·refine⟨by simp,by simp[D1,T1,d1,d1.symm],A3l (pre:=[_,_,_]) hnd fun q hq p hp=>?_⟩;simp only[List.mem_cons,List.not_mem_nil,or_false] at hp;rcases hp with rfl|rfl|rfl
  ·exact dD q hq
  ·exact dD q hq
  ·exact dT q hq
 refine A3 4000 ?_;simp[D1,T1,d1,d1.symm];refine B2 (by simp[hk]) ?_;simp[D1,T1,d1,d1.symm];rw[hR];have hrn:H2 []:=trivial;refine E9 (by simp<;>rfl) [] hrn ⟨?_,?_,?_,?_,?_,?_⟩
 ·simp
 ·show A2H _ _ _ _ ([D,T]++(rest.map (·.1)++[D]));refine A0E ?_ (A0E (A3E hB hu (fun z _ _=>rfl) (fun z _=>rfl) fun q hq=>⟨List.mem_cons_of_mem _ (List.mem_cons_of_mem _ hq),?_,?_⟩) ?_)
  ·simp[C9,D1,T1,d1,d1.symm];all_goals exact yO hu hTn
  ·simp only[F3];rw[B8 _ _ _ (dD q hq)];refine A2W (pre:=[_,_]) hnd hq fun p hp=>?_;simp only[List.mem_cons,List.not_mem_nil,or_false] at hp;rcases hp with rfl|rfl
   ·exact dD q hq
   ·exact dT q hq
  ·refine A2W (pre:=[_,_,_]) hnd hq fun p hp=>?_;simp only[List.mem_cons,List.not_mem_nil,or_false] at hp;rcases hp with rfl|rfl|rfl
   ·exact dD q hq
   ·exact dD q hq
   ·exact dT q hq
  ·simp[C9,D1,T1,d1,d1.symm]
 ·show I7 _ _ ([_,_,_]++C9 rest);refine A14 ?_ (r9 fun q hq=>Q3.2 (List.mem_map.2 ⟨q,List.mem_cons_of_mem _ (List.mem_cons_of_mem _ hq),rfl⟩));simp[C9,D1,T1,d1,d1.symm]
 ·simp[C9]
 ·simp
 ·simp
theorem C1g(l:List Ty)(S:List H1)(e:Ev)(i0:Int)(D T:Nat)(id:Nat)(hk:e.kind=2)(hfB:F7 (S.map H1.t) e.type e.id=true)(hS:∀o∈S,o.Ok)(h5:l.length<=1000)(hS8:S.length<=1000)(d1:D≠T)(hnd:((I5 S).map Prod.fst).Nodup)(dD:∀q∈I5 S,q.1≠D)(dT:∀q∈I5 S,q.1≠T)
  (hok:∀t∈S.map H1.t,0<=t.type/\t.type.toNat<l.length/\t.cells.length=(D8 l t.type).length/\t.cells.length<=1000000/\∀c∈t.cells,c.ids.length<=6) (hm:U4 (T8 l e) l (S.map H1.t)=true) :
  A2 Tryz.prog 195 [.ptr D 0 0] ((D,R5 l (.bsl T 0 S.length) e i0)::(T,P0 S)::I5 S) id (.int .i64 0) [(D,some (R5 l (.bsl id 0 (S.length - 1)) e (C8 (S.map H1.t) e.type e.id))),(T,none),(id,some ⟨(S.map V8).take (C8 (S.map H1.t) e.type e.id)++(S.map V8).drop (C8 (S.map H1.t) e.type e.id+1),zT,false,false⟩)]:=by
 have hF:=fun id=>S3 l S T e.type e.id id (by omega);have hM:=fun i id=>A9n l S e i D T id hS h5 (by omega) hok;rw[hm] at hM;generalize hrest:I5 S=rest at *;unfold P0 R5 eD at *;refine w195.b.1 fun E hP hR hl hid hB hu=>?_;simp[w195,C9];have hD:=hl (D,_) (List.mem_cons_self ..);simp only at hD;have D1:=lf hD;have hT:=hl (T,_) (List.mem_cons_of_mem _ (List.mem_cons_self ..));simp only at hT;have T1:=lf hT;have hTn:∀x∈S.map V8,B5 E.G0.used x:=B9 hB (List.mem_cons_of_mem _ (List.mem_cons_self ..));(refine yC rfl (hF _) ?_; simp[D1,T1,d1,d1.symm]);refine A0 (by simp[hk]) ?_;simp[D1,T1,d1,d1.symm];refine A0 (by simp[hk]) ?_;simp[D1,T1,d1,d1.symm];refine A0 (by simp[hk]) ?_;simp[D1,T1,d1,d1.symm];refine A0 (by simp[hfB]) ?_;simp[D1,T1,d1,d1.symm];refine I0 hP (by simp[D1,T1,d1,d1.symm]) rfl (fun hc=>⟨hM (C8 (S.map H1.t) e.type e.id) _,by simp[D1,T1,d1,d1.symm]; simp[hk],?_⟩) ?_
 ·refine⟨by simp,by simp[D1,T1,d1,d1.symm],A3l (pre:=[_,_,_]) hnd fun q hq p hp=>?_⟩;simp only[List.mem_cons,List.not_mem_nil,or_false] at hp;rcases hp with rfl|rfl|rfl
  ·exact dD q hq
  ·exact dD q hq
  ·exact dT q hq
 refine A3 4000 ?_;simp[D1,T1,d1,d1.symm];refine B2 (by simp[hk]) ?_;simp[D1,T1,d1,d1.symm];have hlt:C8 (S.map H1.t) e.type e.id<S.length:=by unfold F7 at hfB; simp at hfB; exact hfB.1
 have hw1:IntKind.i64.wrap ((C8 (S.map H1.t) e.type e.id:Int)+1)=(C8 (S.map H1.t) e.type e.id:Int)+1:=A5 (by omega);have hDl:=fun id=>B4I S T (C8 (S.map H1.t) e.type e.id) id hlt (by omega);rw[hw1];generalize C8 (S.map H1.t) e.type e.id=m at *;(refine yC rfl (hDl _) ?_; simp[D1,T1,d1,d1.symm]);rw[hR];have hrn:H2 [(id,E.n0+91136)]:=by simp
 have hn9:∀q∈rest,q.1≠E.n0+91136:=fun q hq=>by have:=(hl q (List.mem_cons_of_mem _ (List.mem_cons_of_mem _ hq))).1; omega
 have hni:∀q∈rest,q.1≠id:=fun q hq=>by have:=(hl q (List.mem_cons_of_mem _ (List.mem_cons_of_mem _ hq))).2; omega
 have hlk:∀z,z<E.n0->(z<id\/id+1024<=z)->lkN [(id,E.n0+91136)] z=none:=fun z h1 h2=>by
  have a1:z≠id:=by omega
  simp[lkN,a1]
 have hgn:∀z,z<E.n0->S8 [(id,E.n0+91136)] z=false:=fun z h1=>by
  have a1:z≠E.n0+91136:=by omega
  simp[S8,a1]
 refine E9 (by simp<;>rfl) [(id,E.n0+91136)] hrn ⟨?_,?_,?_,?_,?_,?_⟩
 ·simp
 ·show A2H _ _ _ _ ([D,T]++(rest.map (·.1)++[D,T,id]));refine A0E ?_ (A0E (A3E hB hu hlk hgn fun q hq=>⟨List.mem_cons_of_mem _ (List.mem_cons_of_mem _ hq),?_,?_⟩) ?_)
  ·simp[C9,A4 hid,D1,T1,d1,d1.symm]
  ·simp only[F3];rw[B8 _ _ _ (hni q hq),B8 _ _ _ (dT q hq),B8 _ _ _ (dD q hq)];refine A2W (pre:=[_,_]) hnd hq fun p hp=>?_;simp only[List.mem_cons,List.not_mem_nil,or_false] at hp;rcases hp with rfl|rfl
   ·exact dD q hq
   ·exact dT q hq
  ·refine A2W (pre:=[_,_,_,_,_,_]) hnd hq fun p hp=>?_;simp only[List.mem_cons,List.not_mem_nil,or_false] at hp;rcases hp with rfl|rfl|rfl|rfl|rfl|rfl
   ·exact dD q hq
   ·exact hn9 q hq
   ·exact dT q hq
   ·exact dD q hq
   ·exact dD q hq
   ·exact dT q hq
  ·simp[C9,A4 hid,D1,T1,d1,d1.symm];all_goals exact p6 (Z9 hu hlk fun x hx=>hTn x (List.mem_of_mem_take hx)) (Z9 hu hlk fun x hx=>hTn x (List.mem_of_mem_drop hx))
 ·show I7 _ _ ([_,_,_,_,_,_]++C9 rest);refine A14 ?_ (r9 fun q hq=>Q3.2 (List.mem_map.2 ⟨q,List.mem_cons_of_mem _ (List.mem_cons_of_mem _ hq),rfl⟩));simp[C9,D1,T1,d1,d1.symm]
 ·simp[C9]
 ·simp
 ·simp
theorem A2.setD{P:Program}{f:Nat}{args:List AV}{D:Nat}{x:Bx}{o:Option Bx}{rd:List (Nat×Bx)}{id:Nat}{res:AV}{wr:List (Nat×Option Bx)}(h:A2 P f args ((D,x)::rd) id res ((D,o)::wr))(x':Bx)(h1:x'.xs=x.xs)(h2:x'.sz=x.sz)(h3:x'.ro=x.ro)(h4:x'.frz=x.frz)(hne:∀q∈rd,q.1≠D):
  A2 P f args ((D,x')::rd) id res ((D,o)::wr):=by
 refine⟨h.1,fun C G bx w vs nb hs hv hh hnb hid=>?_⟩;have hD:bx D=some x':=hh (D,x') (List.mem_cons_self ..);have s1:RS C G (U0 bx D (some x)) w:=by
  refine⟨hs.below,hs.size,hs.fzok,hs.fzold,fun i y hy hn=>?_,fun i y hy hn=>?_,hs.nlu,hs.used,hs.inj,hs.rows⟩
  ·by_cases e:i=D
   ·subst e;rw[C7] at hy;injection hy with hy
    subst hy;have:=hs.box i x' hD hn;rw[h1,h2,h3,h4] at this;exact this
   ·rw[B8 _ _ _ e] at hy; exact hs.box i y hy hn
  ·by_cases e:i=D
   ·subst e;rw[C7] at hy;injection hy with hy
    subst hy;have:=hs.nil i x' hD hn;rw[h1,h3] at this;exact this
   ·rw[B8 _ _ _ e] at hy; exact hs.nil i y hy hn
 have:=h.2 C G _ w vs nb s1 hv (fun q hq=>by
  rcases List.mem_cons.1 hq with rfl|hq
  ·exact C7 ..
  ·rw[B8 _ _ _ (hne q hq)]; exact hh q (List.mem_cons_of_mem _ hq)) hnb hid
 refine Calls.mono this fun e w' hq=>?_;obtain⟨v,G',q1,q2,q3⟩:=hq;refine⟨v,G',q1,?_,q3⟩;have e1:U0 (U0 bx D (some x)) D o=U0 bx D o:=by
  funext y
  by_cases e:y=D
  ·subst e; rw[C7,C7]
  ·rw[B8 _ _ _ e,B8 _ _ _ e,B8 _ _ _ e]
 simp only[F3] at q2 ⊢;rw[e1] at q2;exact q2
def s0(l:List Ty)(e:Ev):Int:=if Y8 e≠0 then Y8 e else if ¬(0<=e.type/\e.type<=(l.length:Int) - 1) then 5 else if ¬(1<=e.id/\e.id<=999) then 3 else 0
def eS0:AV:=.agg [.nils,.nils]
theorem B94(l:List Ty)(e:Ev)(T n:Nat)(id:Nat)(hl8:l.length<=1000)(hw:s0 l e≠0):
  A2 Tryz.prog 126 [.agg [.sl (l.map J3),.bsl T 0 n],R4 e] [] id (.tup [eS0,.int .i64 (s0 l e)]) []:=by
 have hFm:=fun id=>c6 e id;have hw1:IntKind.i64.wrap ((l.length:Int) - 1)=(l.length:Int) - 1:=A5 (by omega);unfold R4 eS0 at *;refine w126.b.1 fun E hP hR hl hid hB hu=>?_;simp[w126];(refine yH rfl (hFm _) ?_; simp);refine E6 (fun h=>?_) (fun h=>?_)<;>simp
 ·refine B2 h ?_;simp;exact yP hR (h1:=by simp; unfold s0; simp at h; simp[h])
 have hf:Y8 e=0:=by simpa using h
 rw[hw1];(refine yH rfl (F4 _ _ _ _) ?_; simp);refine E6 (fun h1=>?_) (fun h1=>?_)<;>simp
 ·exact yP hR (h1:=by simp; unfold s0; simp at h1; simp[hf]; omega)
 (refine yH rfl (F4 _ _ _ _) ?_; simp);refine E6 (fun h2=>?_) (fun h2=>?_)<;>simp
 ·exact yP hR (h1:=by simp; unfold s0; simp at h1 h2; simp[hf]; omega)
 exfalso;apply hw;unfold s0;simp at h1 h2;rw[if_neg (by omega),if_neg (by omega),if_neg (by omega)]
theorem B0v(l:List Ty)(S:List H1)(e:Ev)(i0:Int)(D T c:Nat)(id:Nat)(xs:List AV)(w:Int)(hk:3<=e.kind)(hfB:F7 (S.map H1.t) e.type e.id=true)(hS8:S.length<=1000)(d1:D≠T)(d2:D≠c)(d3:T≠c)
  (hCh:∀id,A2 Tryz.prog 263 [.ptr D 0 0] [(D,R5 l (.bsl T 0 S.length) e (C8 (S.map H1.t) e.type e.id)),(T,P0 S),(c,⟨xs,zC,false,false⟩)] id (.int .i64 w) []) :
  A2 Tryz.prog 195 [.ptr D 0 0] [(D,R5 l (.bsl T 0 S.length) e i0),(T,P0 S),(c,⟨xs,zC,false,false⟩)] id (.int .i64 w) [(D,some (R5 l (.bsl T 0 S.length) e (C8 (S.map H1.t) e.type e.id)))]:=by
 have hF:=fun id=>S3 l S T e.type e.id id (by omega);have hk1:e.kind≠1:=by omega
 have hk2:e.kind≠2:=by omega
 unfold P0 R5 eD at *;refine w195.b.1 fun E hP hR hl hid hB hu=>?_;simp[w195];have hD:=hl (D,_) (List.mem_cons_self ..);simp only at hD;have D1:=lf hD;have hT:=hl (T,_) (List.mem_cons_of_mem _ (List.mem_cons_self ..));simp only at hT;have T1:=lf hT;have hc:=hl (c,_) (List.mem_cons_of_mem _ (List.mem_cons_of_mem _ (List.mem_cons_self ..)));simp only at hc;have c1:=lf hc;have hTn:∀x∈S.map V8,B5 E.G0.used x:=B9 hB (List.mem_cons_of_mem _ (List.mem_cons_self ..));have hXn:∀x∈xs,B5 E.G0.used x:=B9 hB (List.mem_cons_of_mem _ (List.mem_cons_of_mem _ (List.mem_cons_self ..)));(refine yC rfl (hF _) ?_; simp[D1,T1,c1,d1,d1.symm,d2,d2.symm,d3,d3.symm]);refine A0 (by simp[hk1]) ?_;simp[D1,T1,c1,d1,d1.symm,d2,d2.symm,d3,d3.symm];refine A0 (by simp[hk1]) ?_;simp[D1,T1,c1,d1,d1.symm,d2,d2.symm,d3,d3.symm];refine A0 (by simp[hk1]) ?_;simp[D1,T1,c1,d1,d1.symm,d2,d2.symm,d3,d3.symm];refine A0 (by simp[hfB]) ?_;simp[D1,T1,c1,d1,d1.symm,d2,d2.symm,d3,d3.symm];refine I0 hP (v:=.bool false) (rd:=[]) (by simp[D1,T1,c1,d1,d1.symm,d2,d2.symm,d3,d3.symm]) rfl (fun hc=>by simp[hk2] at hc) ?_;refine A3 4000 ?_;simp[D1,T1,c1,d1,d1.symm,d2,d2.symm,d3,d3.symm];refine A0 (by simp[hk2]) ?_;simp[D1,T1,c1,d1,d1.symm,d2,d2.symm,d3,d3.symm];(refine yC rfl (hCh _) ?_; simp[D1,T1,c1,d1,d1.symm,d2,d2.symm,d3,d3.symm]);refine yE hR [] (by simp[D1,T1,c1,d1,d1.symm,d2,d2.symm,d3,d3.symm,A4 hid]) fun hrn=>⟨?_,?_,?_,?_,?_,?_⟩<;>(try simp[D1,T1,c1,d1,d1.symm,d2,d2.symm,d3,d3.symm,A4 hid]);exact⟨by exact yO hu hTn,by exact yO hu hXn⟩
theorem C1h(l:List Ty)(S:List H1)(e:Ev)(i0:Int)(D T c:Nat)(id:Nat)(xs:List AV)(k:Nat)(a b io:AV)(hx:xs[k]?=some (.agg [a,b,io]))(n:Int)(t:List UInt8)(hk:3<=e.kind)(hfB:F7 (S.map H1.t) e.type e.id=true)(hS8:S.length<=1000)(d1:D≠T)(d2:D≠c)(d3:T≠c)
  (hCh:∀id,A2 Tryz.prog 263 [.ptr D 0 0] [(D,R5 l (.bsl T 0 S.length) e (C8 (S.map H1.t) e.type e.id)),(T,P0 S),(c,⟨xs,zC,false,false⟩)] id (.int .i64 0) [(c,some ⟨xs.set k (.agg [.int .i64 n,.str t,io]),zC,false,false⟩)]) :
  A2 Tryz.prog 195 [.ptr D 0 0] [(D,R5 l (.bsl T 0 S.length) e i0),(T,P0 S),(c,⟨xs,zC,false,false⟩)] id (.int .i64 0) [(D,some (R5 l (.bsl T 0 S.length) e (C8 (S.map H1.t) e.type e.id))),(c,some ⟨xs.set k (.agg [.int .i64 n,.str t,io]),zC,false,false⟩)]:=by
 have hF:=fun id=>S3 l S T e.type e.id id (by omega);have hk1:e.kind≠1:=by omega
 have hk2:e.kind≠2:=by omega
 unfold P0 R5 eD at *;refine w195.b.1 fun E hP hR hl hid hB hu=>?_;simp[w195];have hD:=hl (D,_) (List.mem_cons_self ..);simp only at hD;have D1:=lf hD;have hT:=hl (T,_) (List.mem_cons_of_mem _ (List.mem_cons_self ..));simp only at hT;have T1:=lf hT;have hc:=hl (c,_) (List.mem_cons_of_mem _ (List.mem_cons_of_mem _ (List.mem_cons_self ..)));simp only at hc;have c1:=lf hc;have hTn:∀x∈S.map V8,B5 E.G0.used x:=B9 hB (List.mem_cons_of_mem _ (List.mem_cons_self ..));have hXn:∀x∈xs,B5 E.G0.used x:=B9 hB (List.mem_cons_of_mem _ (List.mem_cons_of_mem _ (List.mem_cons_self ..)));(refine yC rfl (hF _) ?_; simp[D1,T1,c1,d1,d1.symm,d2,d2.symm,d3,d3.symm]);refine A0 (by simp[hk1]) ?_;simp[D1,T1,c1,d1,d1.symm,d2,d2.symm,d3,d3.symm];refine A0 (by simp[hk1]) ?_;simp[D1,T1,c1,d1,d1.symm,d2,d2.symm,d3,d3.symm];refine A0 (by simp[hk1]) ?_;simp[D1,T1,c1,d1,d1.symm,d2,d2.symm,d3,d3.symm];refine A0 (by simp[hfB]) ?_;simp[D1,T1,c1,d1,d1.symm,d2,d2.symm,d3,d3.symm];refine I0 hP (v:=.bool false) (rd:=[]) (by simp[D1,T1,c1,d1,d1.symm,d2,d2.symm,d3,d3.symm]) rfl (fun hc=>by simp[hk2] at hc) ?_;refine A3 4000 ?_;simp[D1,T1,c1,d1,d1.symm,d2,d2.symm,d3,d3.symm];refine A0 (by simp[hk2]) ?_;simp[D1,T1,c1,d1,d1.symm,d2,d2.symm,d3,d3.symm];(refine yC rfl (hCh _) ?_; simp[D1,T1,c1,d1,d1.symm,d2,d2.symm,d3,d3.symm]);refine yE hR [] (by simp[D1,T1,c1,d1,d1.symm,d2,d2.symm,d3,d3.symm,A4 hid]) fun hrn=>⟨?_,?_,?_,?_,?_,?_⟩<;>(try simp[D1,T1,c1,d1,d1.symm,d2,d2.symm,d3,d3.symm,A4 hid]);have hio:B5 E.G0.used io:=by have:=hXn _ (List.mem_of_getElem? hx); simp[B5,F2] at this; exact this.2.2
 refine⟨by exact yO hu hTn,J2 (A30 hu (by simp[B5,F2]; exact hio) fun z h1 h2=>rfl) k (by exact yO hu hXn)⟩
theorem C1i(l:List Ty)(S:List H1)(e:Ev)(i0:Int)(D T c:Nat)(id:Nat)(xs:List AV)(k:Nat)(n:Int)(t:List UInt8)(ys:List Int)(hk:3<=e.kind)(hfB:F7 (S.map H1.t) e.type e.id=true)(hS8:S.length<=1000)(d1:D≠T)(d2:D≠c)(d3:T≠c)
  (hCh:∀id,A2 Tryz.prog 263 [.ptr D 0 0] [(D,R5 l (.bsl T 0 S.length) e (C8 (S.map H1.t) e.type e.id)),(T,P0 S),(c,⟨xs,zC,false,false⟩)] id (.int .i64 0) [(c,some ⟨xs.set k (.agg [.int .i64 n,.str t,.bsl id 0 ys.length]),zC,false,false⟩),(id,some ⟨ys.map eI,.int .i64 0,false,false⟩)]) :
  A2 Tryz.prog 195 [.ptr D 0 0] [(D,R5 l (.bsl T 0 S.length) e i0),(T,P0 S),(c,⟨xs,zC,false,false⟩)] id (.int .i64 0) [(D,some (R5 l (.bsl T 0 S.length) e (C8 (S.map H1.t) e.type e.id))),(c,some ⟨xs.set k (.agg [.int .i64 n,.str t,.bsl id 0 ys.length]),zC,false,false⟩),(id,some ⟨ys.map eI,.int .i64 0,false,false⟩)]:=by
 have hF:=fun id=>S3 l S T e.type e.id id (by omega);have hk1:e.kind≠1:=by omega
 have hk2:e.kind≠2:=by omega
 unfold P0 R5 eD at *;refine w195.b.1 fun E hP hR hl hid hB hu=>?_;simp[w195];have hD:=hl (D,_) (List.mem_cons_self ..);simp only at hD;have D1:=lf hD;have hT:=hl (T,_) (List.mem_cons_of_mem _ (List.mem_cons_self ..));simp only at hT;have T1:=lf hT;have hc:=hl (c,_) (List.mem_cons_of_mem _ (List.mem_cons_of_mem _ (List.mem_cons_self ..)));simp only at hc;have c1:=lf hc;have hTn:∀x∈S.map V8,B5 E.G0.used x:=B9 hB (List.mem_cons_of_mem _ (List.mem_cons_self ..));have hXn:∀x∈xs,B5 E.G0.used x:=B9 hB (List.mem_cons_of_mem _ (List.mem_cons_of_mem _ (List.mem_cons_self ..)));(refine yC rfl (hF _) ?_; simp[D1,T1,c1,d1,d1.symm,d2,d2.symm,d3,d3.symm]);refine A0 (by simp[hk1]) ?_;simp[D1,T1,c1,d1,d1.symm,d2,d2.symm,d3,d3.symm];refine A0 (by simp[hk1]) ?_;simp[D1,T1,c1,d1,d1.symm,d2,d2.symm,d3,d3.symm];refine A0 (by simp[hk1]) ?_;simp[D1,T1,c1,d1,d1.symm,d2,d2.symm,d3,d3.symm];refine A0 (by simp[hfB]) ?_;simp[D1,T1,c1,d1,d1.symm,d2,d2.symm,d3,d3.symm];refine I0 hP (v:=.bool false) (rd:=[]) (by simp[D1,T1,c1,d1,d1.symm,d2,d2.symm,d3,d3.symm]) rfl (fun hc=>by simp[hk2] at hc) ?_;refine A3 4000 ?_;simp[D1,T1,c1,d1,d1.symm,d2,d2.symm,d3,d3.symm];refine A0 (by simp[hk2]) ?_;simp[D1,T1,c1,d1,d1.symm,d2,d2.symm,d3,d3.symm];(refine yC rfl (hCh _) ?_; simp[D1,T1,c1,d1,d1.symm,d2,d2.symm,d3,d3.symm]);refine yE hR [(id,E.n0+82944)] (by simp[D1,T1,c1,d1,d1.symm,d2,d2.symm,d3,d3.symm,A4 hid]) fun hrn=>⟨?_,?_,?_,?_,?_,?_⟩<;>(try simp[D1,T1,c1,d1,d1.symm,d2,d2.symm,d3,d3.symm,A4 hid]);exact⟨by exact yO hu hTn,J2 (by simp[A4 hid]) k (by exact yO hu hXn)⟩
theorem C1j(l:List Ty)(S:List H1)(e:Ev)(i0:Int)(D T c:Nat)(id:Nat)(xs:List AV)(k:Nat)(n:Int)(t:List UInt8)(ys:List Int)(I:Nat)(BI:List Int)(d4:D≠I)(d5:T≠I)(d6:c≠I)(hk:3<=e.kind)(hfB:F7 (S.map H1.t) e.type e.id=true)(hS8:S.length<=1000)(d1:D≠T)(d2:D≠c)(d3:T≠c)
  (hCh:∀id,A2 Tryz.prog 263 [.ptr D 0 0] [(D,R5 l (.bsl T 0 S.length) e (C8 (S.map H1.t) e.type e.id)),(T,P0 S),(c,⟨xs,zC,false,false⟩),(I,⟨BI.map eI,.int .i64 0,false,false⟩)] id (.int .i64 0) [(I,none),(c,some ⟨xs.set k (.agg [.int .i64 n,.str t,.bsl id 0 ys.length]),zC,false,false⟩),(id,some ⟨ys.map eI,.int .i64 0,false,false⟩)]) :
  A2 Tryz.prog 195 [.ptr D 0 0] [(D,R5 l (.bsl T 0 S.length) e i0),(T,P0 S),(c,⟨xs,zC,false,false⟩),(I,⟨BI.map eI,.int .i64 0,false,false⟩)] id (.int .i64 0) [(D,some (R5 l (.bsl T 0 S.length) e (C8 (S.map H1.t) e.type e.id))),(I,none),(c,some ⟨xs.set k (.agg [.int .i64 n,.str t,.bsl id 0 ys.length]),zC,false,false⟩),(id,some ⟨ys.map eI,.int .i64 0,false,false⟩)]:=by
 have hF:=fun id=>S3 l S T e.type e.id id (by omega);have hk1:e.kind≠1:=by omega
 have hk2:e.kind≠2:=by omega
 unfold P0 R5 eD at *;refine w195.b.1 fun E hP hR hl hid hB hu=>?_;simp[w195];have hD:=hl (D,_) (List.mem_cons_self ..);simp only at hD;have D1:=lf hD;have hT:=hl (T,_) (List.mem_cons_of_mem _ (List.mem_cons_self ..));simp only at hT;have T1:=lf hT;have hc:=hl (c,_) (List.mem_cons_of_mem _ (List.mem_cons_of_mem _ (List.mem_cons_self ..)));simp only at hc;have c1:=lf hc;have hI:=hl (I,_) (List.mem_cons_of_mem _ (List.mem_cons_of_mem _ (List.mem_cons_of_mem _ (List.mem_cons_self ..))));simp only at hI;have I1:=lf hI;have hTn:∀x∈S.map V8,B5 E.G0.used x:=B9 hB (List.mem_cons_of_mem _ (List.mem_cons_self ..));have hXn:∀x∈xs,B5 E.G0.used x:=B9 hB (List.mem_cons_of_mem _ (List.mem_cons_of_mem _ (List.mem_cons_self ..)));(refine yC rfl (hF _) ?_; simp[D1,T1,c1,d1,d1.symm,d2,d2.symm,d3,d3.symm,I1,d4,d4.symm,d5,d5.symm,d6,d6.symm]);refine A0 (by simp[hk1]) ?_;simp[D1,T1,c1,d1,d1.symm,d2,d2.symm,d3,d3.symm,I1,d4,d4.symm,d5,d5.symm,d6,d6.symm];refine A0 (by simp[hk1]) ?_;simp[D1,T1,c1,d1,d1.symm,d2,d2.symm,d3,d3.symm,I1,d4,d4.symm,d5,d5.symm,d6,d6.symm];refine A0 (by simp[hk1]) ?_;simp[D1,T1,c1,d1,d1.symm,d2,d2.symm,d3,d3.symm,I1,d4,d4.symm,d5,d5.symm,d6,d6.symm];refine A0 (by simp[hfB]) ?_;simp[D1,T1,c1,d1,d1.symm,d2,d2.symm,d3,d3.symm,I1,d4,d4.symm,d5,d5.symm,d6,d6.symm];refine I0 hP (v:=.bool false) (rd:=[]) (by simp[D1,T1,c1,d1,d1.symm,d2,d2.symm,d3,d3.symm,I1,d4,d4.symm,d5,d5.symm,d6,d6.symm]) rfl (fun hc=>by simp[hk2] at hc) ?_;refine A3 4000 ?_;simp[D1,T1,c1,d1,d1.symm,d2,d2.symm,d3,d3.symm,I1,d4,d4.symm,d5,d5.symm,d6,d6.symm];refine A0 (by simp[hk2]) ?_;simp[D1,T1,c1,d1,d1.symm,d2,d2.symm,d3,d3.symm,I1,d4,d4.symm,d5,d5.symm,d6,d6.symm];(refine yC rfl (hCh _) ?_; simp[D1,T1,c1,d1,d1.symm,d2,d2.symm,d3,d3.symm,I1,d4,d4.symm,d5,d5.symm,d6,d6.symm]);refine yE hR [(id,E.n0+82944)] (by simp[D1,T1,c1,d1,d1.symm,d2,d2.symm,d3,d3.symm,I1,d4,d4.symm,d5,d5.symm,d6,d6.symm,A4 hid]) fun hrn=>⟨?_,?_,?_,?_,?_,?_⟩<;>(try simp[D1,T1,c1,d1,d1.symm,d2,d2.symm,d3,d3.symm,I1,d4,d4.symm,d5,d5.symm,d6,d6.symm,A4 hid]);exact⟨by exact yO hu hTn,J2 (by simp[A4 hid]) k (by exact yO hu hXn)⟩
theorem B95(l:List Ty)(S:List H1)(e:Ev)(T:Nat)(id:Nat)(k n:Nat)(m:Int)(hl8:l.length<=1000)(hf0:Y8 e=0)(h0:0<=e.type)(h1:e.type<=(l.length:Int) - 1)(h2:1<=e.id)(h3:e.id<=999)
  (hDo:∀D id,(∀q∈[(T,P0 S)],q.1≠D)->A2 Tryz.prog 195 [.ptr D 0 0] ((D,R5 l (.bsl T 0 S.length) e 0)::[(T,P0 S)]) id (.int .i64 0) ((D,some (R5 l (.bsl id 0 (S.length+1)) e m))::[(T,none),(id,some ⟨(S.map V8).take k++.agg [.int .i64 e.type,.int .i64 e.id,.bsl (id+1) 0 n]::(S.map V8).drop k,zT,false,false⟩),(id+1,some ⟨List.replicate n zC,zC,false,false⟩)])) :
  A2 Tryz.prog 126 [.agg [.sl (l.map J3),.bsl T 0 S.length],R4 e] [(T,P0 S)] id (.tup [.agg [.sl (l.map J3),(.bsl id 0 (S.length+1))],.int .i64 0]) ([(T,none),(id,some ⟨(S.map V8).take k++.agg [.int .i64 e.type,.int .i64 e.id,.bsl (id+1) 0 n]::(S.map V8).drop k,zT,false,false⟩),(id+1,some ⟨List.replicate n zC,zC,false,false⟩)]):=by
 have hFm:=fun id=>c6 e id;have hw1:IntKind.i64.wrap ((l.length:Int) - 1)=(l.length:Int) - 1:=A5 (by omega);replace hDo:=fun D id hne=>(hDo D id hne).setD ⟨[eD l (.bsl T 0 S.length) e 0],eD l (.bsl T 0 S.length) e 0,false,false⟩ rfl rfl rfl rfl hne;unfold P0 R5 eD R4 at *;refine w126.b.1 fun E hP hR hl hid hB hu=>?_;simp[w126,C9];have hT:=hl (T,_) (List.mem_cons_self ..);simp only at hT;have T1:=lf hT;have hTn:∀x∈S.map V8,B5 E.G0.used x:=B9 hB (List.mem_cons_self ..);(refine yC rfl (hFm _) ?_; simp[T1]);refine A0 (by simp[hf0]) ?_;simp[T1];rw[hw1];(refine E0 hP rfl (F4 _ _ _ _) (by simp[T1]) (by simp[T1]<;>rfl) ?_; refine A3 4000 ?_; simp[T1]);refine A0 (by simp; omega) ?_;simp[T1];(refine E0 hP rfl (F4 _ _ _ _) (by simp[T1]) (by simp[T1]<;>rfl) ?_; refine A3 4000 ?_; simp[T1]);refine A0 (by simp; omega) ?_;simp[T1];refine A0 (by simp[hf0]) ?_;simp[T1];(refine E0 hP rfl (hDo _ _ (by exact fun q hq=>by have:=(hl q hq).1; omega)) (by simp[T1]) (by simp[T1]<;>rfl) ?_; refine A3 4000 ?_; simp[T1]);have hlk:∀z,z<E.n0->(z<id\/id+1024<=z)->lkN [(id,E.n0+32768),(id+1,E.n0+32769)] z=none:=fun z h1 h2=>by
  have a1:z≠id:=by omega
  have a2:z≠id+1:=by omega
  simp[lkN,a1,a2]
 have hp0:∀R S,N7 R S (List.replicate n zC) (List.replicate n zC):=fun R S=>C1 rfl (A73 fun i x hx=>by rw[List.getElem?_replicate] at hx; split at hx<;>simp at hx; subst hx; rfl);have hrn:H2 [(id,E.n0+32768),(id+1,E.n0+32768+1)]:=by simp[hp0,A5T hT.2,A3d hT.2,Nat.add_assoc,T1,A4 hid,A32 hid,A1H hid,A09 hid,A0A hid,m5 hid]
 rw[hR];refine E9 (by simp<;>rfl) [(id,E.n0+32768),(id+1,E.n0+32768+1)] hrn ⟨?_,?_,?_,?_,?_,?_⟩<;>(try simp[hp0,A5T hT.2,A3d hT.2,Nat.add_assoc,T1,A4 hid,A32 hid,A1H hid,A09 hid,A0A hid,m5 hid]);exact p6 (Z9 hu hlk fun x hx=>hTn x (List.mem_of_mem_take hx)) (.cons _ _ _ _ (by simp[A4 hid,A32 hid,A1H hid,A09 hid,A0A hid,m5 hid]) (Z9 hu hlk fun x hx=>hTn x (List.mem_of_mem_drop hx)))
theorem B96(l:List Ty)(S:List H1)(e:Ev)(T:Nat)(id:Nat)(c:Nat)(xs:List AV)(k:Nat)(a b io:AV)(hx:xs[k]?=some (.agg [a,b,io]))(n:Int)(t:List UInt8)(d3:T≠c)(m:Int)(hl8:l.length<=1000)(hf0:Y8 e=0)(h0:0<=e.type)(h1:e.type<=(l.length:Int) - 1)(h2:1<=e.id)(h3:e.id<=999)
  (hDo:∀D id,(∀q∈[(T,P0 S),(c,⟨xs,zC,false,false⟩)],q.1≠D)->A2 Tryz.prog 195 [.ptr D 0 0] ((D,R5 l (.bsl T 0 S.length) e 0)::[(T,P0 S),(c,⟨xs,zC,false,false⟩)]) id (.int .i64 0) ((D,some (R5 l (.bsl T 0 S.length) e m))::[(c,some ⟨xs.set k (.agg [.int .i64 n,.str t,io]),zC,false,false⟩)])) :
  A2 Tryz.prog 126 [.agg [.sl (l.map J3),.bsl T 0 S.length],R4 e] [(T,P0 S),(c,⟨xs,zC,false,false⟩)] id (.tup [.agg [.sl (l.map J3),(.bsl T 0 S.length)],.int .i64 0]) ([(c,some ⟨xs.set k (.agg [.int .i64 n,.str t,io]),zC,false,false⟩)]):=by
 have hFm:=fun id=>c6 e id;have hw1:IntKind.i64.wrap ((l.length:Int) - 1)=(l.length:Int) - 1:=A5 (by omega);replace hDo:=fun D id hne=>(hDo D id hne).setD ⟨[eD l (.bsl T 0 S.length) e 0],eD l (.bsl T 0 S.length) e 0,false,false⟩ rfl rfl rfl rfl hne;unfold P0 R5 eD R4 at *;refine w126.b.1 fun E hP hR hl hid hB hu=>?_;simp[w126,C9];have hT:=hl (T,_) (List.mem_cons_self ..);simp only at hT;have T1:=lf hT;have hTn:∀x∈S.map V8,B5 E.G0.used x:=B9 hB (List.mem_cons_self ..);have hc:=hl (c,_) (List.mem_cons_of_mem _ (List.mem_cons_self ..));simp only at hc;have c1:=lf hc;have hXn:∀x∈xs,B5 E.G0.used x:=B9 hB (List.mem_cons_of_mem _ (List.mem_cons_self ..));(refine yC rfl (hFm _) ?_; simp[T1,c1,d3,d3.symm]);refine A0 (by simp[hf0]) ?_;simp[T1,c1,d3,d3.symm];rw[hw1];(refine E0 hP rfl (F4 _ _ _ _) (by simp[T1,c1,d3,d3.symm]) (by simp[T1,c1,d3,d3.symm]<;>rfl) ?_; refine A3 4000 ?_; simp[T1,c1,d3,d3.symm]);refine A0 (by simp; omega) ?_;simp[T1,c1,d3,d3.symm];(refine E0 hP rfl (F4 _ _ _ _) (by simp[T1,c1,d3,d3.symm]) (by simp[T1,c1,d3,d3.symm]<;>rfl) ?_; refine A3 4000 ?_; simp[T1,c1,d3,d3.symm]);refine A0 (by simp; omega) ?_;simp[T1,c1,d3,d3.symm];refine A0 (by simp[hf0]) ?_;simp[T1,c1,d3,d3.symm];(refine E0 hP rfl (hDo _ _ (by exact fun q hq=>by have:=(hl q hq).1; omega)) (by simp[T1,c1,d3,d3.symm]) (by simp[T1,c1,d3,d3.symm]<;>rfl) ?_; refine A3 4000 ?_; simp[T1,c1,d3,d3.symm]);refine yE hR [] (by simp[T1,c1,d3,d3.symm,A4 hid]) fun hrn=>⟨?_,?_,?_,?_,?_,?_⟩<;>(try simp[T1,c1,d3,d3.symm,A4 hid]);have hio:B5 E.G0.used io:=by have:=hXn _ (List.mem_of_getElem? hx); simp[B5,F2] at this; exact this.2.2
 refine⟨by exact yO hu hTn,J2 (A30 hu (by simp[B5,F2]; exact hio) fun z h1 h2=>rfl) k (by exact yO hu hXn)⟩
theorem B97(l:List Ty)(S:List H1)(e:Ev)(T:Nat)(id:Nat)(c:Nat)(xs:List AV)(k:Nat)(n:Int)(t:List UInt8)(ys:List Int)(d3:T≠c)(m:Int)(hl8:l.length<=1000)(hf0:Y8 e=0)(h0:0<=e.type)(h1:e.type<=(l.length:Int) - 1)(h2:1<=e.id)(h3:e.id<=999)
  (hDo:∀D id,(∀q∈[(T,P0 S),(c,⟨xs,zC,false,false⟩)],q.1≠D)->A2 Tryz.prog 195 [.ptr D 0 0] ((D,R5 l (.bsl T 0 S.length) e 0)::[(T,P0 S),(c,⟨xs,zC,false,false⟩)]) id (.int .i64 0) ((D,some (R5 l (.bsl T 0 S.length) e m))::[(c,some ⟨xs.set k (.agg [.int .i64 n,.str t,.bsl id 0 ys.length]),zC,false,false⟩),(id,some ⟨ys.map eI,.int .i64 0,false,false⟩)])) :
  A2 Tryz.prog 126 [.agg [.sl (l.map J3),.bsl T 0 S.length],R4 e] [(T,P0 S),(c,⟨xs,zC,false,false⟩)] id (.tup [.agg [.sl (l.map J3),(.bsl T 0 S.length)],.int .i64 0]) ([(c,some ⟨xs.set k (.agg [.int .i64 n,.str t,.bsl id 0 ys.length]),zC,false,false⟩),(id,some ⟨ys.map eI,.int .i64 0,false,false⟩)]):=by
 have hFm:=fun id=>c6 e id;have hw1:IntKind.i64.wrap ((l.length:Int) - 1)=(l.length:Int) - 1:=A5 (by omega);replace hDo:=fun D id hne=>(hDo D id hne).setD ⟨[eD l (.bsl T 0 S.length) e 0],eD l (.bsl T 0 S.length) e 0,false,false⟩ rfl rfl rfl rfl hne;unfold P0 R5 eD R4 at *;refine w126.b.1 fun E hP hR hl hid hB hu=>?_;simp[w126,C9];have hT:=hl (T,_) (List.mem_cons_self ..);simp only at hT;have T1:=lf hT;have hTn:∀x∈S.map V8,B5 E.G0.used x:=B9 hB (List.mem_cons_self ..);have hc:=hl (c,_) (List.mem_cons_of_mem _ (List.mem_cons_self ..));simp only at hc;have c1:=lf hc;have hXn:∀x∈xs,B5 E.G0.used x:=B9 hB (List.mem_cons_of_mem _ (List.mem_cons_self ..));(refine yC rfl (hFm _) ?_; simp[T1,c1,d3,d3.symm]);refine A0 (by simp[hf0]) ?_;simp[T1,c1,d3,d3.symm];rw[hw1];(refine E0 hP rfl (F4 _ _ _ _) (by simp[T1,c1,d3,d3.symm]) (by simp[T1,c1,d3,d3.symm]<;>rfl) ?_; refine A3 4000 ?_; simp[T1,c1,d3,d3.symm]);refine A0 (by simp; omega) ?_;simp[T1,c1,d3,d3.symm];(refine E0 hP rfl (F4 _ _ _ _) (by simp[T1,c1,d3,d3.symm]) (by simp[T1,c1,d3,d3.symm]<;>rfl) ?_; refine A3 4000 ?_; simp[T1,c1,d3,d3.symm]);refine A0 (by simp; omega) ?_;simp[T1,c1,d3,d3.symm];refine A0 (by simp[hf0]) ?_;simp[T1,c1,d3,d3.symm];(refine E0 hP rfl (hDo _ _ (by exact fun q hq=>by have:=(hl q hq).1; omega)) (by simp[T1,c1,d3,d3.symm]) (by simp[T1,c1,d3,d3.symm]<;>rfl) ?_; refine A3 4000 ?_; simp[T1,c1,d3,d3.symm]);refine yE hR [(id,E.n0+32768)] (by simp[T1,c1,d3,d3.symm,A4 hid]) fun hrn=>⟨?_,?_,?_,?_,?_,?_⟩<;>(try simp[T1,c1,d3,d3.symm,A4 hid]);exact⟨by exact yO hu hTn,J2 (by simp[A4 hid]) k (by exact yO hu hXn)⟩
theorem B98(l:List Ty)(S:List H1)(e:Ev)(T:Nat)(id:Nat)(c:Nat)(xs:List AV)(k:Nat)(n:Int)(t:List UInt8)(ys:List Int)(I:Nat)(BI:List Int)(d3:T≠c)(d5:T≠I)(d6:c≠I)(m:Int)(hl8:l.length<=1000)(hf0:Y8 e=0)(h0:0<=e.type)(h1:e.type<=(l.length:Int) - 1)(h2:1<=e.id)(h3:e.id<=999)
  (hDo:∀D id,(∀q∈[(T,P0 S),(c,⟨xs,zC,false,false⟩),(I,⟨BI.map eI,.int .i64 0,false,false⟩)],q.1≠D)->A2 Tryz.prog 195 [.ptr D 0 0] ((D,R5 l (.bsl T 0 S.length) e 0)::[(T,P0 S),(c,⟨xs,zC,false,false⟩),(I,⟨BI.map eI,.int .i64 0,false,false⟩)]) id (.int .i64 0) ((D,some (R5 l (.bsl T 0 S.length) e m))::[(I,none),(c,some ⟨xs.set k (.agg [.int .i64 n,.str t,.bsl id 0 ys.length]),zC,false,false⟩),(id,some ⟨ys.map eI,.int .i64 0,false,false⟩)])) :
  A2 Tryz.prog 126 [.agg [.sl (l.map J3),.bsl T 0 S.length],R4 e] [(T,P0 S),(c,⟨xs,zC,false,false⟩),(I,⟨BI.map eI,.int .i64 0,false,false⟩)] id (.tup [.agg [.sl (l.map J3),(.bsl T 0 S.length)],.int .i64 0]) ([(I,none),(c,some ⟨xs.set k (.agg [.int .i64 n,.str t,.bsl id 0 ys.length]),zC,false,false⟩),(id,some ⟨ys.map eI,.int .i64 0,false,false⟩)]):=by
 have hFm:=fun id=>c6 e id;have hw1:IntKind.i64.wrap ((l.length:Int) - 1)=(l.length:Int) - 1:=A5 (by omega);replace hDo:=fun D id hne=>(hDo D id hne).setD ⟨[eD l (.bsl T 0 S.length) e 0],eD l (.bsl T 0 S.length) e 0,false,false⟩ rfl rfl rfl rfl hne;unfold P0 R5 eD R4 at *;refine w126.b.1 fun E hP hR hl hid hB hu=>?_;simp[w126,C9];have hT:=hl (T,_) (List.mem_cons_self ..);simp only at hT;have T1:=lf hT;have hTn:∀x∈S.map V8,B5 E.G0.used x:=B9 hB (List.mem_cons_self ..);have hc:=hl (c,_) (List.mem_cons_of_mem _ (List.mem_cons_self ..));simp only at hc;have c1:=lf hc;have hXn:∀x∈xs,B5 E.G0.used x:=B9 hB (List.mem_cons_of_mem _ (List.mem_cons_self ..));have hI:=hl (I,_) (List.mem_cons_of_mem _ (List.mem_cons_of_mem _ (List.mem_cons_self ..)));simp only at hI;have I1:=lf hI;(refine yC rfl (hFm _) ?_; simp[T1,c1,I1,d3,d3.symm,d5,d5.symm,d6,d6.symm]);refine A0 (by simp[hf0]) ?_;simp[T1,c1,I1,d3,d3.symm,d5,d5.symm,d6,d6.symm];rw[hw1];(refine E0 hP rfl (F4 _ _ _ _) (by simp[T1,c1,I1,d3,d3.symm,d5,d5.symm,d6,d6.symm]) (by simp[T1,c1,I1,d3,d3.symm,d5,d5.symm,d6,d6.symm]<;>rfl) ?_; refine A3 4000 ?_; simp[T1,c1,I1,d3,d3.symm,d5,d5.symm,d6,d6.symm]);refine A0 (by simp; omega) ?_;simp[T1,c1,I1,d3,d3.symm,d5,d5.symm,d6,d6.symm];(refine E0 hP rfl (F4 _ _ _ _) (by simp[T1,c1,I1,d3,d3.symm,d5,d5.symm,d6,d6.symm]) (by simp[T1,c1,I1,d3,d3.symm,d5,d5.symm,d6,d6.symm]<;>rfl) ?_; refine A3 4000 ?_; simp[T1,c1,I1,d3,d3.symm,d5,d5.symm,d6,d6.symm]);refine A0 (by simp; omega) ?_;simp[T1,c1,I1,d3,d3.symm,d5,d5.symm,d6,d6.symm];refine A0 (by simp[hf0]) ?_;simp[T1,c1,I1,d3,d3.symm,d5,d5.symm,d6,d6.symm];(refine E0 hP rfl (hDo _ _ (by exact fun q hq=>by have:=(hl q hq).1; omega)) (by simp[T1,c1,I1,d3,d3.symm,d5,d5.symm,d6,d6.symm]) (by simp[T1,c1,I1,d3,d3.symm,d5,d5.symm,d6,d6.symm]<;>rfl) ?_; refine A3 4000 ?_; simp[T1,c1,I1,d3,d3.symm,d5,d5.symm,d6,d6.symm]);refine yE hR [(id,E.n0+32768)] (by simp[T1,c1,I1,d3,d3.symm,d5,d5.symm,d6,d6.symm,A4 hid]) fun hrn=>⟨?_,?_,?_,?_,?_,?_⟩<;>(try simp[T1,c1,I1,d3,d3.symm,d5,d5.symm,d6,d6.symm,A4 hid]);exact⟨by exact yO hu hTn,J2 (by simp[A4 hid]) k (by exact yO hu hXn)⟩
theorem B99(l:List Ty)(S:List H1)(e:Ev)(T:Nat)(id:Nat)(m w:Int)(rd:List (Nat×Bx))(hnd:(rd.map Prod.fst).Nodup)(hw:w≠0)(hl8:l.length<=1000)(hf0:Y8 e=0)(h0:0<=e.type)(h1:e.type<=(l.length:Int) - 1)(h2:1<=e.id)(h3:e.id<=999)
  (hDo:∀D id,(∀q∈rd,q.1≠D)->A2 Tryz.prog 195 [.ptr D 0 0] ((D,R5 l (.bsl T 0 S.length) e 0)::rd) id (.int .i64 w) [(D,some (R5 l (.bsl T 0 S.length) e m))]) :
  A2 Tryz.prog 126 [.agg [.sl (l.map J3),.bsl T 0 S.length],R4 e] rd id (.tup [eS0,.int .i64 w]) []:=by
 have hFm:=fun id=>c6 e id;have hw1:IntKind.i64.wrap ((l.length:Int) - 1)=(l.length:Int) - 1:=A5 (by omega);replace hDo:=fun D id hne=>(hDo D id hne).setD ⟨[eD l (.bsl T 0 S.length) e 0],eD l (.bsl T 0 S.length) e 0,false,false⟩ rfl rfl rfl rfl hne;unfold R5 eD R4 at *;refine w126.b.1 fun E hP hR hl hid hB hu=>?_;simp[w126,C9];(refine yH rfl (hFm _) ?_; simp);refine A0 (by simp[hf0]) ?_;simp;rw[hw1];(refine yH rfl (F4 _ _ _ _) ?_; simp);refine A0 (by simp; omega) ?_;simp;(refine yH rfl (F4 _ _ _ _) ?_; simp);refine A0 (by simp; omega) ?_;simp;refine A0 (by simp[hf0]) ?_;simp;have hnk:∀q∈rd,q.1≠E.n0+29696/\q.1≠E.n0+2048/\q.1≠E.n0+1024/\q.1≠E.n0:=fun q hq=>by
  have:=(hl q hq).1; omega
 refine E0 hP rfl (hDo (E.n0+29696) _ fun q hq=>(hnk q hq).1) (by simp) ⟨by simp,?_⟩ ?_
 ·refine A3l (pre:=[_,_,_,_]) hnd fun q hq p hp=>?_;simp only[List.mem_cons,List.not_mem_nil,or_false] at hp;obtain⟨n1,n2,n3,n4⟩:=hnk q hq;rcases hp with rfl|rfl|rfl|rfl<;>assumption
 refine A3 4000 ?_;simp;refine B2 (by simpa using hw) ?_;simp;rw[hR];have hrn:H2 []:=trivial;refine E9 (by simp<;>rfl) [] hrn ⟨?_,?_,?_,?_,?_,?_⟩
 ·simp[eS0]
 ·show A2H _ _ _ _ (rd.map (·.1)++[]);refine A0E (A3E hB hu (fun z _ _=>rfl) (fun z _=>rfl) fun q hq=>⟨hq,?_,?_⟩) ?_
  ·exact B5O hnd hq
  ·refine A2W (pre:=[_,_,_,_,_,_]) hnd hq fun p hp=>?_;simp only[List.mem_cons,List.not_mem_nil,or_false] at hp;obtain⟨n1,n2,n3,n4⟩:=hnk q hq;rcases hp with rfl|rfl|rfl|rfl|rfl|rfl<;>assumption
  ·simp
 ·show I7 _ _ ([_,_,_,_,_,_]++C9 rd);refine A14 (by simp) (r9 fun q hq=>Q3.2 (List.mem_map.2 ⟨q,hq,rfl⟩))
 ·simp
 ·simp
 ·simp
theorem B9A(l:List Ty)(S:List H1)(e:Ev)(T:Nat)(id:Nat)(k:Nat)(m:Int)(rest:List (Nat×Bx))(hnd:(rest.map Prod.fst).Nodup)(dT:∀q∈rest,q.1≠T)(hl8:l.length<=1000)(hf0:Y8 e=0)(h0:0<=e.type)(h1:e.type<=(l.length:Int) - 1)(h2:1<=e.id)(h3:e.id<=999)
  (hDo:∀D id,(∀q∈(T,P0 S)::rest,q.1≠D)->A2 Tryz.prog 195 [.ptr D 0 0] ((D,R5 l (.bsl T 0 S.length) e 0)::(T,P0 S)::rest) id (.int .i64 0) [(D,some (R5 l (.bsl id 0 (S.length - 1)) e m)),(T,none),(id,some ⟨(S.map V8).take k++(S.map V8).drop (k+1),zT,false,false⟩)]) :
  A2 Tryz.prog 126 [.agg [.sl (l.map J3),.bsl T 0 S.length],R4 e] ((T,P0 S)::rest) id (.tup [.agg [.sl (l.map J3),.bsl id 0 (S.length - 1)],.int .i64 0]) [(T,none),(id,some ⟨(S.map V8).take k++(S.map V8).drop (k+1),zT,false,false⟩)]:=by
 have hFm:=fun id=>c6 e id;have hw1:IntKind.i64.wrap ((l.length:Int) - 1)=(l.length:Int) - 1:=A5 (by omega);replace hDo:=fun D id hne=>(hDo D id hne).setD ⟨[eD l (.bsl T 0 S.length) e 0],eD l (.bsl T 0 S.length) e 0,false,false⟩ rfl rfl rfl rfl hne;unfold P0 R5 eD R4 at *;refine w126.b.1 fun E hP hR hl hid hB hu=>?_;simp[w126,C9];have hT:=hl (T,_) (List.mem_cons_self ..);simp only at hT;have T1:=lf hT;have hTn:∀x∈S.map V8,B5 E.G0.used x:=B9 hB (List.mem_cons_self ..);(refine yC rfl (hFm _) ?_; simp[T1]);refine A0 (by simp[hf0]) ?_;simp[T1];rw[hw1];(refine E0 hP rfl (F4 _ _ _ _) (by simp[T1]) (by simp[T1]<;>rfl) ?_; refine A3 4000 ?_; simp[T1]);refine A0 (by simp; omega) ?_;simp[T1];(refine E0 hP rfl (F4 _ _ _ _) (by simp[T1]) (by simp[T1]<;>rfl) ?_; refine A3 4000 ?_; simp[T1]);refine A0 (by simp; omega) ?_;simp[T1];refine A0 (by simp[hf0]) ?_;simp[T1];have hnk:∀q∈rest,q.1≠E.n0+29696/\q.1≠E.n0+2048/\q.1≠E.n0+1024/\q.1≠E.n0/\q.1≠T/\q.1≠E.n0+32768/\q.1≠id:=fun q hq=>by
  have:=hl q (List.mem_cons_of_mem _ hq);have h2:=dT q hq;omega
 refine E0 hP rfl (hDo (E.n0+29696) _ fun q hq=>by have:=(hl q hq).1; omega) (by simp) ⟨by simp,by simp[T1],?_⟩ ?_
 ·refine A3l (pre:=[_,_,_,_,_]) hnd fun q hq p hp=>?_;simp only[List.mem_cons,List.not_mem_nil,or_false] at hp;obtain⟨n1,n2,n3,n4,n5,n6,n7⟩:=hnk q hq;rcases hp with rfl|rfl|rfl|rfl|rfl<;>assumption
 refine A3 4000 ?_;simp[T1];rw[hR];have hrn:H2 [(id,E.n0+32768)]:=by simp
 have hlk:∀z,z<E.n0->(z<id\/id+1024<=z)->lkN [(id,E.n0+32768)] z=none:=fun z h1 h2=>by
  have a1:z≠id:=by omega
  simp[lkN,a1]
 have hgn:∀z,z<E.n0->S8 [(id,E.n0+32768)] z=false:=fun z h1=>by
  have a1:z≠E.n0+32768:=by omega
  simp[S8,a1]
 refine E9 (by simp<;>rfl) [(id,E.n0+32768)] hrn ⟨?_,?_,?_,?_,?_,?_⟩
 ·simp[A4 hid]
 ·show A2H _ _ _ _ ([T]++(rest.map (·.1)++[T,id]));refine A0E ?_ (A0E (A3E hB hu hlk hgn fun q hq=>⟨List.mem_cons_of_mem _ hq,?_,?_⟩) ?_)
  ·simp[C9,A4 hid,T1]
  ·simp only[F3];obtain⟨n1,n2,n3,n4,n5,n6,n7⟩:=hnk q hq;rw[B8 _ _ _ n7,B8 _ _ _ n5];refine A2W (pre:=[_]) hnd hq fun p hp=>?_;simp only[List.mem_cons,List.not_mem_nil,or_false] at hp;subst hp;exact n5
  ·refine A2W (pre:=[_,_,_,_,_,_,_,_,_]) hnd hq fun p hp=>?_;simp only[List.mem_cons,List.not_mem_nil,or_false] at hp;obtain⟨n1,n2,n3,n4,n5,n6,n7⟩:=hnk q hq;rcases hp with rfl|rfl|rfl|rfl|rfl|rfl|rfl|rfl|rfl<;>assumption
  ·simp[C9,A4 hid,T1];all_goals exact p6 (Z9 hu hlk fun x hx=>hTn x (List.mem_of_mem_take hx)) (Z9 hu hlk fun x hx=>hTn x (List.mem_of_mem_drop hx))
 ·show I7 _ _ ([_,_,_,_,_,_,_,_,_]++C9 rest);refine A14 ?_ (r9 fun q hq=>Q3.2 (List.mem_map.2 ⟨q,List.mem_cons_of_mem _ hq,rfl⟩));simp[C9,T1]
 ·simp[C9]
 ·simp
 ·simp
def v7(T:Nat)(S:List H1):List (Nat×Bx):=(T,P0 S)::I5 S
def nmR(S:List H1):List Nat:=(I5 S).map Prod.fst
def Z6(T:Nat)(S:List H1):List Nat:=T::nmR S
def nmO(o:H1):List Nat:=o.bxs.map Prod.fst
theorem B6v(T:Nat)(S:List H1):(v7 T S).map Prod.fst=Z6 T S:=rfl
theorem U9(A B:List H1):I5 (A++B)=I5 A++I5 B:=List.flatMap_append
theorem j6(o:H1)(B:List H1):I5 (o::B)=o.bxs++I5 B:=rfl
theorem A1P(A B:List H1):nmR (A++B)=nmR A++nmR B:=by simp[nmR,U9]
theorem A4q(o:H1)(B:List H1):nmR (o::B)=nmO o++nmR B:=by simp[nmR,nmO,j6]
theorem A5l{q:Nat×Bx}{S:List H1}(h:q∈I5 S):q.1∈nmR S:=List.mem_map.2 ⟨q,h,rfl⟩
structure A5m(id T:Nat)(S:List H1)(wr:List (Nat×Option Bx))(T':Nat)(S':List H1):Prop where
 has:∀bx,J9 bx (v7 T S)->J9 (F3 bx wr) (v7 T' S')
 nd:(Z6 T' S').Nodup
 nm:∀z∈Z6 T' S',z∈Z6 T S\/(id<=z/\z<id+1024)
 ok:∀o∈S',o.Ok
 kw:∀q∈wr,q.1∈Z6 T S\/(id<=q.1/\q.1<id+1024)
theorem B6w(n:Nat)(c:Cl):A0D (List.replicate n c) (List.replicate n none)=[]:=by
 induction n with
 | zero=>rfl
 | succ n ih=>simp only[List.replicate_succ,A0D,idB,ih]; rfl
def cl0:Cl:=⟨0,[],[]⟩
def A4r(e:Ev)(n id:Nat):H1:=⟨⟨e.type,e.id,List.replicate n cl0⟩,id+1,List.replicate n none⟩
theorem B9B(e:Ev)(n id:Nat):(A4r e n id).bxs=[(id+1,⟨List.replicate n zC,zC,false,false⟩)]:=by
 have h:List.zipWith L9 (List.replicate n cl0) (List.replicate n none)=List.replicate n zC:=by
  rw[List.zipWith_replicate,Nat.min_self];rfl
 simp only[H1.bxs,A4r,B6w,cBn,h]
theorem C1k(e:Ev)(n id:Nat):(A4r e n id).Ok:=⟨by simp[A4r],fun k c h1 h2=>by
 simp only[A4r,List.getElem?_replicate] at h1;split at h1
 ·injection h1 with h1; subst h1; rfl
 ·cases h1⟩
theorem B6x{id T:Nat}{A B:List H1}(e:Ev)(n:Nat)(hnd:(Z6 T (A++B)).Nodup)(hfr:∀z∈Z6 T (A++B),z<id\/id+1024<=z)(hok:∀o∈A++B,o.Ok):
  A5m id T (A++B) [(T,none),(id,some (P0 (A++A4r e n id::B))),(id+1,some ⟨List.replicate n zC,zC,false,false⟩)] id (A++A4r e n id::B):=by
 have hr:I5 (A++A4r e n id::B)=I5 A++((id+1,⟨List.replicate n zC,zC,false,false⟩)::I5 B):=by rw[U9,j6,B9B]; rfl
 have hn:nmR (A++A4r e n id::B)=nmR A++(id+1)::nmR B:=by simp[nmR,hr]
 have hT:=hfr T (List.mem_cons_self ..);have hAB:∀z∈nmR A++nmR B,(z<id\/id+1024<=z)/\z≠T:=fun z hz=>by
  rw[←A1P] at hz;exact⟨hfr z (List.mem_cons_of_mem _ hz),fun e=>by rw[Z6,List.nodup_cons] at hnd; exact hnd.1 (e▸hz)⟩
 refine⟨fun bx hb q hq=>?_,?_,fun z hz=>?_,fun o ho=>?_,fun q hq=>?_⟩
 ·simp only[F3];rcases List.mem_cons.1 hq with rfl|hq
  ·rw[B8 _ _ _ (by simp only; omega),C7]
  ·rw[hr] at hq;have key:q∈I5 (A++B)->U0 (U0 (U0 bx T none) id (some (P0 (A++A4r e n id::B)))) (id+1) (some ⟨List.replicate n zC,zC,false,false⟩) q.1=some q.2:=fun hq=>by
    have:=hAB q.1 (by rw[←A1P]; exact A5l hq);rw[B8 _ _ _ (by omega),B8 _ _ _ (by omega),B8 _ _ _ this.2];exact hb q (List.mem_cons_of_mem _ hq)
   rcases List.mem_append.1 hq with hq|hq
   ·exact key (by rw[U9]; exact List.mem_append_left _ hq)
   ·rcases List.mem_cons.1 hq with rfl|hq
    ·rw[C7]
    ·exact key (by rw[U9]; exact List.mem_append_right _ hq)
 ·rw[Z6,List.nodup_cons,hn];rw[Z6,A1P,List.nodup_cons,List.nodup_append] at hnd;obtain⟨h0,h1,h2,h3⟩:=hnd;refine⟨fun hm=>?_,List.nodup_append.2 ⟨h1,List.nodup_cons.2 ⟨fun hm=>?_,h2⟩,fun a ha b hb=>?_⟩⟩
  ·rcases List.mem_append.1 hm with hm|hm
   ·have:=hAB id (List.mem_append_left _ hm); omega
   ·rcases List.mem_cons.1 hm with hm|hm
    ·omega
    ·have:=hAB id (List.mem_append_right _ hm); omega
  ·have:=hAB (id+1) (List.mem_append_right _ hm); omega
  ·rcases List.mem_cons.1 hb with rfl|hb
   ·have:=hAB a (List.mem_append_left _ ha); omega
   ·exact h3 a ha b hb
 ·rcases List.mem_cons.1 hz with rfl|hz
  ·exact .inr ⟨Nat.le_refl _,by omega⟩
  ·rw[hn] at hz;rcases List.mem_append.1 hz with hz|hz
   ·exact .inl (List.mem_cons_of_mem _ (by rw[A1P]; exact List.mem_append_left _ hz))
   ·rcases List.mem_cons.1 hz with rfl|hz
    ·exact .inr ⟨by omega,by omega⟩
    ·exact .inl (List.mem_cons_of_mem _ (by rw[A1P]; exact List.mem_append_right _ hz))
 ·rcases List.mem_append.1 ho with ho|ho
  ·exact hok o (List.mem_append_left _ ho)
  ·rcases List.mem_cons.1 ho with rfl|ho
   ·exact C1k e n id
   ·exact hok o (List.mem_append_right _ ho)
 ·simp only[List.mem_cons,List.not_mem_nil,or_false] at hq;rcases hq with rfl|rfl|rfl
  ·exact .inl (List.mem_cons_self ..)
  ·exact .inr ⟨Nat.le_refl _,by simp only; omega⟩
  ·exact .inr ⟨by simp only; omega,by simp only; omega⟩
theorem B6y{id T:Nat}{A B:List H1}{o:H1}(hnd:(Z6 T (A++o::B)).Nodup)(hfr:∀z∈Z6 T (A++o::B),z<id\/id+1024<=z)(hok:∀x∈A++o::B,x.Ok):
  A5m id T (A++o::B) [(T,none),(id,some (P0 (A++B)))] id (A++B):=by
 have hT:=hfr T (List.mem_cons_self ..);have hsub:∀q∈I5 (A++B),q∈I5 (A++o::B):=fun q hq=>by
  rw[U9] at hq;rw[U9,j6];rcases List.mem_append.1 hq with h|h
  ·exact List.mem_append_left _ h
  ·exact List.mem_append_right _ (List.mem_append_right _ h)
 have hsubn:∀z∈nmR (A++B),z∈nmR (A++o::B):=fun z hz=>by
  obtain⟨q,hq,rfl⟩:=List.mem_map.1 hz;exact A5l (hsub q hq)
 have hAB:∀z∈nmR (A++B),(z<id\/id+1024<=z)/\z≠T:=fun z hz =>
  ⟨hfr z (List.mem_cons_of_mem _ (hsubn z hz)),fun e=>by rw[Z6,List.nodup_cons] at hnd; exact hnd.1 (e▸hsubn z hz)⟩
 refine⟨fun bx hb q hq=>?_,?_,fun z hz=>?_,fun x ho=>?_,fun q hq=>?_⟩
 ·simp only[F3];rcases List.mem_cons.1 hq with rfl|hq
  ·rw[C7]
  ·have:=hAB q.1 (A5l hq);rw[B8 _ _ _ (by omega),B8 _ _ _ this.2];exact hb q (List.mem_cons_of_mem _ (hsub q hq))
 ·rw[Z6,List.nodup_cons];refine⟨fun hm=>by have:=hAB id hm; omega,?_⟩;rw[Z6,A1P,A4q,List.nodup_cons,List.nodup_append,List.nodup_append] at hnd;obtain⟨h0,h1,⟨h4,h5,h6⟩,h3⟩:=hnd;rw[A1P];exact List.nodup_append.2 ⟨h1,h5,fun a ha b hb=>h3 a ha b (List.mem_append_right _ hb)⟩
 ·rcases List.mem_cons.1 hz with rfl|hz
  ·exact .inr ⟨Nat.le_refl _,by omega⟩
  ·exact .inl (List.mem_cons_of_mem _ (hsubn z hz))
 ·rcases List.mem_append.1 ho with ho|ho
  ·exact hok x (List.mem_append_left _ ho)
  ·exact hok x (List.mem_append_right _ (List.mem_cons_of_mem _ ho))
 ·simp only[List.mem_cons,List.not_mem_nil,or_false] at hq;rcases hq with rfl|rfl
  ·exact .inl (List.mem_cons_self ..)
  ·exact .inr ⟨Nat.le_refl _,by simp only; omega⟩
theorem B6z{id T:Nat}{A B:List H1}{o o':H1}{X:List (Nat×Bx)}(ho:o.bxs=(o.c,cBn o)::X)(ho':o'.bxs=(o.c,cBn o')::X)(he:V8 o'=V8 o)(hok':o'.Ok)(hnd:(Z6 T (A++o::B)).Nodup)(hok:∀x∈A++o::B,x.Ok):
  A5m id T (A++o::B) [(o.c,some (cBn o'))] T (A++o'::B):=by
 have hr:I5 (A++o::B)=I5 A++((o.c,cBn o)::X++I5 B):=by rw[U9,j6,ho]
 have hr':I5 (A++o'::B)=I5 A++((o.c,cBn o')::X++I5 B):=by rw[U9,j6,ho']
 have hn:Z6 T (A++o'::B)=Z6 T (A++o::B):=by simp only[Z6,nmR,hr,hr']; simp
 have ht:P0 (A++o'::B)=P0 (A++o::B):=by simp[P0,he]
 have hnd':=hnd;rw[Z6,nmR,hr] at hnd';simp only[List.map_append,List.map_cons,List.nodup_cons,List.nodup_append,List.mem_append,List.mem_cons,List.cons_append] at hnd';obtain⟨h0,h1,⟨h2,h3,h4,h5⟩,h6⟩:=hnd';refine⟨fun bx hb q hq=>?_,by rw[hn]; exact hnd,fun z hz=>.inl (by rw[←hn]; exact hz),fun x hx=>?_,fun q hq=>?_⟩
 ·simp only[F3];have key:q∈v7 T (A++o::B)->q.1≠o.c->U0 bx o.c (some (cBn o')) q.1=some q.2:=fun h1 h2=>by
   rw[B8 _ _ _ h2]; exact hb q h1
  rcases List.mem_cons.1 hq with rfl|hq
  ·exact key (by rw[ht]; exact List.mem_cons_self ..) (fun e=>h0 (.inr (.inl e)))
  ·rw[hr'] at hq;rcases List.mem_append.1 hq with hq|hq
   ·refine key (List.mem_cons_of_mem _ (by rw[hr]; exact List.mem_append_left _ hq)) fun e=>h6 q.1 (List.mem_map.2 ⟨q,hq,rfl⟩) o.c (.inl rfl) e
   ·rcases List.mem_append.1 hq with hq|hq
    ·rcases List.mem_cons.1 hq with rfl|hq
     ·exact C7 ..
     ·exact key (List.mem_cons_of_mem _ (by rw[hr]; exact List.mem_append_right _ (List.mem_append_left _ (List.mem_cons_of_mem _ hq)))) fun e=>h2 (.inl (e▸List.mem_map.2 ⟨q,hq,rfl⟩))
    ·exact key (List.mem_cons_of_mem _ (by rw[hr]; exact List.mem_append_right _ (List.mem_append_right _ hq))) fun e=>h2 (.inr (e▸List.mem_map.2 ⟨q,hq,rfl⟩))
 ·rcases List.mem_append.1 hx with hx|hx
  ·exact hok x (List.mem_append_left _ hx)
  ·rcases List.mem_cons.1 hx with rfl|hx
   ·exact hok'
   ·exact hok x (List.mem_append_right _ (List.mem_cons_of_mem _ hx))
 ·simp only[List.mem_cons,List.not_mem_nil,or_false] at hq;subst hq;exact .inl (by simp[Z6,nmR,hr])
theorem B70{id T:Nat}{A B:List H1}{o o':H1}{X I Y:List (Nat×Bx)}{b:Bx}{pre:List (Nat×Option Bx)}(ho:o.bxs=(o.c,cBn o)::(X++(I++Y)))(ho':o'.bxs=(o.c,cBn o')::(X++((id,b)::Y)))(hpre:∀p∈pre,p.1∈I.map Prod.fst)(he:V8 o'=V8 o)(hok':o'.Ok)
  (hnd:(Z6 T (A++o::B)).Nodup) (hfr:∀z∈Z6 T (A++o::B),z<id\/id+1024<=z) (hok:∀x∈A++o::B,x.Ok) :
  A5m id T (A++o::B) (pre++[(o.c,some (cBn o')),(id,some b)]) T (A++o'::B):=by
 have hr:I5 (A++o::B)=I5 A++((o.c,cBn o)::(X++(I++Y))++I5 B):=by rw[U9,j6,ho]
 have hr':I5 (A++o'::B)=I5 A++((o.c,cBn o')::(X++((id,b)::Y))++I5 B):=by rw[U9,j6,ho']
 have ht:P0 (A++o'::B)=P0 (A++o::B):=by simp[P0,he]
 have hnd':=hnd;rw[Z6,nmR,hr] at hnd';simp only[List.map_append,List.map_cons,List.nodup_cons,List.nodup_append,List.mem_append,List.mem_cons,List.cons_append] at hnd';obtain⟨h0,h1,⟨h2,⟨h7,⟨h8,h9,h10⟩,h11⟩,h4,h5⟩,h6⟩:=hnd';have hmem:∀z,z∈Z6 T (A++o::B)↔z=T\/z∈(I5 A).map Prod.fst\/z=o.c\/z∈X.map Prod.fst\/z∈I.map Prod.fst\/z∈Y.map Prod.fst\/z∈(I5 B).map Prod.fst:=fun z=>by
  simp only[Z6,nmR,hr,List.map_append,List.map_cons,List.mem_append,List.mem_cons,List.cons_append,or_assoc]
 have hmem':∀z,z∈Z6 T (A++o'::B)↔z=T\/z∈(I5 A).map Prod.fst\/z=o.c\/z∈X.map Prod.fst\/z=id\/z∈Y.map Prod.fst\/z∈(I5 B).map Prod.fst:=fun z=>by
  simp only[Z6,nmR,hr',List.map_append,List.map_cons,List.mem_append,List.mem_cons,List.cons_append,or_assoc]
 have hout:∀(bx:Nat->Option Bx) z,z∉I.map Prod.fst->z≠o.c->z≠id->F3 bx (pre++[(o.c,some (cBn o')),(id,some b)]) z=bx z:=fun bx z h1 h2 h3=>by
  rw[j8];simp only[F3];rw[B8 _ _ _ h3,B8 _ _ _ h2];exact P2 (fun h=>by
   obtain⟨p,hp,rfl⟩:=List.mem_map.1 h;exact h1 (hpre p hp))
 have hc:o.c<id\/id+1024<=o.c:=hfr _ ((hmem _).2 (.inr (.inr (.inl rfl))));refine⟨fun bx hb q hq=>?_,?_,fun z hz=>?_,fun x hx=>?_,fun q hq=>?_⟩
 ·have key:q∈v7 T (A++o::B)->q.1∉I.map Prod.fst->q.1≠o.c->F3 bx (pre++[(o.c,some (cBn o')),(id,some b)]) q.1=some q.2:=fun g1 g2 g3=>by
   have:q.1<id\/id+1024<=q.1:=hfr q.1 (List.mem_map.2 ⟨q,g1,rfl⟩);rw[hout _ _ g2 g3 (by omega)]; exact hb q g1
  rcases List.mem_cons.1 hq with rfl|hq
  ·exact key (by rw[ht]; exact List.mem_cons_self ..) (fun e=>h0 (.inr (.inr (.inl (.inr (.inl e)))))) (fun e=>h0 (.inr (.inl e)))
  ·rw[hr'] at hq;rcases List.mem_append.1 hq with hq|hq
   ·have hm:=List.mem_map_of_mem (f:=Prod.fst) hq;exact key (List.mem_cons_of_mem _ (by rw[hr]; exact List.mem_append_left _ hq)) (fun e=>h6 q.1 hm q.1 (.inr (.inl (.inr (.inl e)))) rfl) (fun e=>h6 q.1 hm o.c (.inl rfl) e)
   ·rcases List.mem_append.1 hq with hq|hq
    ·rcases List.mem_cons.1 hq with rfl|hq
     ·rw[j8];simp only[F3];rw[B8 _ _ _ (by omega),C7]
     ·rcases List.mem_append.1 hq with hq|hq
      ·have hm:=List.mem_map_of_mem (f:=Prod.fst) hq;exact key (List.mem_cons_of_mem _ (by rw[hr]; exact List.mem_append_right _ (List.mem_append_left _ (List.mem_cons_of_mem _ (List.mem_append_left _ hq))))) (fun e=>h11 q.1 hm q.1 (.inl e) rfl) (fun e=>h2 (.inl (.inl (e▸hm))))
      ·rcases List.mem_cons.1 hq with rfl|hq
       ·rw[j8];simp only[F3];rw[C7]
       ·have hm:=List.mem_map_of_mem (f:=Prod.fst) hq;exact key (List.mem_cons_of_mem _ (by rw[hr]; exact List.mem_append_right _ (List.mem_append_left _ (List.mem_cons_of_mem _ (List.mem_append_right _ (List.mem_append_right _ hq)))))) (fun e=>h10 q.1 e q.1 hm rfl) (fun e=>h2 (.inl (.inr (.inr (e▸hm)))))
    ·have hm:=List.mem_map_of_mem (f:=Prod.fst) hq;exact key (List.mem_cons_of_mem _ (by rw[hr]; exact List.mem_append_right _ (List.mem_append_right _ hq))) (fun e=>h5 q.1 (.inr (.inl e)) q.1 hm rfl) (fun e=>h2 (.inr (e▸hm)))
 ·rw[Z6,nmR,hr'];simp only[List.map_append,List.map_cons,List.nodup_cons,List.nodup_append,List.mem_append,List.mem_cons,List.cons_append];have fr:∀z,z∈Z6 T (A++o::B)->z≠id:=fun z hz=>by have:=hfr z hz; omega
  refine⟨fun h=>?_,h1,⟨fun h=>?_,⟨h7,⟨fun h=>?_,h9⟩,fun a ha b hb=>?_⟩,h4,fun a ha b hb=>?_⟩,fun a ha b hb=>?_⟩
  ·rcases h with h|h|(h|h|h)|h
   ·exact h0 (.inl h)
   ·exact h0 (.inr (.inl h))
   ·exact h0 (.inr (.inr (.inl (.inl h))))
   ·exact fr T (List.mem_cons_self ..) h
   ·exact h0 (.inr (.inr (.inl (.inr (.inr h)))))
   ·exact h0 (.inr (.inr (.inr h)))
  ·rcases h with (h|h|h)|h
   ·exact h2 (.inl (.inl h))
   ·omega
   ·exact h2 (.inl (.inr (.inr h)))
   ·exact h2 (.inr h)
  ·exact fr id ((hmem _).2 (by simp[h])) rfl
  ·rcases hb with rfl|hb
   ·exact fr a ((hmem _).2 (by simp[ha]))
   ·exact h11 a ha b (.inr hb)
  ·rcases ha with ha|rfl|ha
   ·exact h5 a (.inl ha) b hb
   ·exact fun e=>fr b ((hmem _).2 (by simp[hb])) e.symm
   ·exact h5 a (.inr (.inr ha)) b hb
  ·rcases hb with rfl|(hb|rfl|hb)|hb
   ·exact h6 a ha _ (.inl rfl)
   ·exact h6 a ha b (.inr (.inl (.inl hb)))
   ·exact fr a ((hmem _).2 (by simp[ha]))
   ·exact h6 a ha b (.inr (.inl (.inr (.inr hb))))
   ·exact h6 a ha b (.inr (.inr hb))
 ·rcases (hmem' z).1 hz with h|h|h|h|h|h|h
  ·exact .inl ((hmem z).2 (by simp[h]))
  ·exact .inl ((hmem z).2 (by simp[h]))
  ·exact .inl ((hmem z).2 (by simp[h]))
  ·exact .inl ((hmem z).2 (by simp[h]))
  ·exact .inr ⟨by omega,by omega⟩
  ·exact .inl ((hmem z).2 (by simp[h]))
  ·exact .inl ((hmem z).2 (by simp[h]))
 ·rcases List.mem_append.1 hx with hx|hx
  ·exact hok x (List.mem_append_left _ hx)
  ·rcases List.mem_cons.1 hx with rfl|hx
   ·exact hok'
   ·exact hok x (List.mem_append_right _ (List.mem_cons_of_mem _ hx))
 ·rcases List.mem_append.1 hq with hq|hq
  ·exact .inl ((hmem _).2 (by have:=hpre q hq; simp only[this,true_or,or_true]))
  ·simp only[List.mem_cons,List.not_mem_nil,or_false] at hq;rcases hq with rfl|rfl
   ·exact .inl ((hmem _).2 (by simp))
   ·exact .inr ⟨Nat.le_refl _,by simp only; omega⟩
theorem B9C(l:List Ty)(S:List H1)(e:Ev)(i0:Int)(D T c:Nat)(id:Nat)(xs:List AV)(w:Int)(I:Nat)(BI:List Int)(d4:D≠I)(d5:T≠I)(d6:c≠I)(hk:3<=e.kind)(hfB:F7 (S.map H1.t) e.type e.id=true)(hS8:S.length<=1000)(d1:D≠T)(d2:D≠c)(d3:T≠c)
  (hCh:∀id,A2 Tryz.prog 263 [.ptr D 0 0] [(D,R5 l (.bsl T 0 S.length) e (C8 (S.map H1.t) e.type e.id)),(T,P0 S),(c,⟨xs,zC,false,false⟩),(I,⟨BI.map eI,.int .i64 0,false,false⟩)] id (.int .i64 w) []) :
  A2 Tryz.prog 195 [.ptr D 0 0] [(D,R5 l (.bsl T 0 S.length) e i0),(T,P0 S),(c,⟨xs,zC,false,false⟩),(I,⟨BI.map eI,.int .i64 0,false,false⟩)] id (.int .i64 w) [(D,some (R5 l (.bsl T 0 S.length) e (C8 (S.map H1.t) e.type e.id)))]:=by
 have hF:=fun id=>S3 l S T e.type e.id id (by omega);have hk1:e.kind≠1:=by omega
 have hk2:e.kind≠2:=by omega
 unfold P0 R5 eD at *;refine w195.b.1 fun E hP hR hl hid hB hu=>?_;simp[w195];have hD:=hl (D,_) (List.mem_cons_self ..);simp only at hD;have D1:=lf hD;have hT:=hl (T,_) (List.mem_cons_of_mem _ (List.mem_cons_self ..));simp only at hT;have T1:=lf hT;have hc:=hl (c,_) (List.mem_cons_of_mem _ (List.mem_cons_of_mem _ (List.mem_cons_self ..)));simp only at hc;have c1:=lf hc;have hI:=hl (I,_) (List.mem_cons_of_mem _ (List.mem_cons_of_mem _ (List.mem_cons_of_mem _ (List.mem_cons_self ..))));simp only at hI;have I1:=lf hI;have hTn:∀x∈S.map V8,B5 E.G0.used x:=B9 hB (List.mem_cons_of_mem _ (List.mem_cons_self ..));have hXn:∀x∈xs,B5 E.G0.used x:=B9 hB (List.mem_cons_of_mem _ (List.mem_cons_of_mem _ (List.mem_cons_self ..)));(refine yC rfl (hF _) ?_; simp[D1,T1,c1,d1,d1.symm,d2,d2.symm,d3,d3.symm,I1,d4,d4.symm,d5,d5.symm,d6,d6.symm]);refine A0 (by simp[hk1]) ?_;simp[D1,T1,c1,d1,d1.symm,d2,d2.symm,d3,d3.symm,I1,d4,d4.symm,d5,d5.symm,d6,d6.symm];refine A0 (by simp[hk1]) ?_;simp[D1,T1,c1,d1,d1.symm,d2,d2.symm,d3,d3.symm,I1,d4,d4.symm,d5,d5.symm,d6,d6.symm];refine A0 (by simp[hk1]) ?_;simp[D1,T1,c1,d1,d1.symm,d2,d2.symm,d3,d3.symm,I1,d4,d4.symm,d5,d5.symm,d6,d6.symm];refine A0 (by simp[hfB]) ?_;simp[D1,T1,c1,d1,d1.symm,d2,d2.symm,d3,d3.symm,I1,d4,d4.symm,d5,d5.symm,d6,d6.symm];refine I0 hP (v:=.bool false) (rd:=[]) (by simp[D1,T1,c1,d1,d1.symm,d2,d2.symm,d3,d3.symm,I1,d4,d4.symm,d5,d5.symm,d6,d6.symm]) rfl (fun hc=>by simp[hk2] at hc) ?_;refine A3 4000 ?_;simp[D1,T1,c1,d1,d1.symm,d2,d2.symm,d3,d3.symm,I1,d4,d4.symm,d5,d5.symm,d6,d6.symm];refine A0 (by simp[hk2]) ?_;simp[D1,T1,c1,d1,d1.symm,d2,d2.symm,d3,d3.symm,I1,d4,d4.symm,d5,d5.symm,d6,d6.symm];(refine yC rfl (hCh _) ?_; simp[D1,T1,c1,d1,d1.symm,d2,d2.symm,d3,d3.symm,I1,d4,d4.symm,d5,d5.symm,d6,d6.symm]);refine yE hR [] (by simp[D1,T1,c1,d1,d1.symm,d2,d2.symm,d3,d3.symm,I1,d4,d4.symm,d5,d5.symm,d6,d6.symm,A4 hid]) fun hrn=>⟨?_,?_,?_,?_,?_,?_⟩<;>(try simp[D1,T1,c1,d1,d1.symm,d2,d2.symm,d3,d3.symm,I1,d4,d4.symm,d5,d5.symm,d6,d6.symm,A4 hid]);exact⟨by exact yO hu hTn,by exact yO hu hXn⟩
theorem B9D(l:List Ty)(S:List H1)(e:Ev)(i0:Int)(D T c:Nat)(id:Nat)(xs:List AV)(k:Nat)(a b io:AV)(hx:xs[k]?=some (.agg [a,b,io]))(n:Int)(t:List UInt8)(I:Nat)(BI:List Int)(d4:D≠I)(d5:T≠I)(d6:c≠I)(hk:3<=e.kind)(hfB:F7 (S.map H1.t) e.type e.id=true)(hS8:S.length<=1000)(d1:D≠T)(d2:D≠c)(d3:T≠c)
  (hCh:∀id,A2 Tryz.prog 263 [.ptr D 0 0] [(D,R5 l (.bsl T 0 S.length) e (C8 (S.map H1.t) e.type e.id)),(T,P0 S),(c,⟨xs,zC,false,false⟩),(I,⟨BI.map eI,.int .i64 0,false,false⟩)] id (.int .i64 0) [(c,some ⟨xs.set k (.agg [.int .i64 n,.str t,io]),zC,false,false⟩)]) :
  A2 Tryz.prog 195 [.ptr D 0 0] [(D,R5 l (.bsl T 0 S.length) e i0),(T,P0 S),(c,⟨xs,zC,false,false⟩),(I,⟨BI.map eI,.int .i64 0,false,false⟩)] id (.int .i64 0) [(D,some (R5 l (.bsl T 0 S.length) e (C8 (S.map H1.t) e.type e.id))),(c,some ⟨xs.set k (.agg [.int .i64 n,.str t,io]),zC,false,false⟩)]:=by
 have hF:=fun id=>S3 l S T e.type e.id id (by omega);have hk1:e.kind≠1:=by omega
 have hk2:e.kind≠2:=by omega
 unfold P0 R5 eD at *;refine w195.b.1 fun E hP hR hl hid hB hu=>?_;simp[w195];have hD:=hl (D,_) (List.mem_cons_self ..);simp only at hD;have D1:=lf hD;have hT:=hl (T,_) (List.mem_cons_of_mem _ (List.mem_cons_self ..));simp only at hT;have T1:=lf hT;have hc:=hl (c,_) (List.mem_cons_of_mem _ (List.mem_cons_of_mem _ (List.mem_cons_self ..)));simp only at hc;have c1:=lf hc;have hI:=hl (I,_) (List.mem_cons_of_mem _ (List.mem_cons_of_mem _ (List.mem_cons_of_mem _ (List.mem_cons_self ..))));simp only at hI;have I1:=lf hI;have hTn:∀x∈S.map V8,B5 E.G0.used x:=B9 hB (List.mem_cons_of_mem _ (List.mem_cons_self ..));have hXn:∀x∈xs,B5 E.G0.used x:=B9 hB (List.mem_cons_of_mem _ (List.mem_cons_of_mem _ (List.mem_cons_self ..)));(refine yC rfl (hF _) ?_; simp[D1,T1,c1,d1,d1.symm,d2,d2.symm,d3,d3.symm,I1,d4,d4.symm,d5,d5.symm,d6,d6.symm]);refine A0 (by simp[hk1]) ?_;simp[D1,T1,c1,d1,d1.symm,d2,d2.symm,d3,d3.symm,I1,d4,d4.symm,d5,d5.symm,d6,d6.symm];refine A0 (by simp[hk1]) ?_;simp[D1,T1,c1,d1,d1.symm,d2,d2.symm,d3,d3.symm,I1,d4,d4.symm,d5,d5.symm,d6,d6.symm];refine A0 (by simp[hk1]) ?_;simp[D1,T1,c1,d1,d1.symm,d2,d2.symm,d3,d3.symm,I1,d4,d4.symm,d5,d5.symm,d6,d6.symm];refine A0 (by simp[hfB]) ?_;simp[D1,T1,c1,d1,d1.symm,d2,d2.symm,d3,d3.symm,I1,d4,d4.symm,d5,d5.symm,d6,d6.symm];refine I0 hP (v:=.bool false) (rd:=[]) (by simp[D1,T1,c1,d1,d1.symm,d2,d2.symm,d3,d3.symm,I1,d4,d4.symm,d5,d5.symm,d6,d6.symm]) rfl (fun hc=>by simp[hk2] at hc) ?_;refine A3 4000 ?_;simp[D1,T1,c1,d1,d1.symm,d2,d2.symm,d3,d3.symm,I1,d4,d4.symm,d5,d5.symm,d6,d6.symm];refine A0 (by simp[hk2]) ?_;simp[D1,T1,c1,d1,d1.symm,d2,d2.symm,d3,d3.symm,I1,d4,d4.symm,d5,d5.symm,d6,d6.symm];(refine yC rfl (hCh _) ?_; simp[D1,T1,c1,d1,d1.symm,d2,d2.symm,d3,d3.symm,I1,d4,d4.symm,d5,d5.symm,d6,d6.symm]);refine yE hR [] (by simp[D1,T1,c1,d1,d1.symm,d2,d2.symm,d3,d3.symm,I1,d4,d4.symm,d5,d5.symm,d6,d6.symm,A4 hid]) fun hrn=>⟨?_,?_,?_,?_,?_,?_⟩<;>(try simp[D1,T1,c1,d1,d1.symm,d2,d2.symm,d3,d3.symm,I1,d4,d4.symm,d5,d5.symm,d6,d6.symm,A4 hid]);have hio:B5 E.G0.used io:=by have:=hXn _ (List.mem_of_getElem? hx); simp[B5,F2] at this; exact this.2.2
 refine⟨by exact yO hu hTn,J2 (A30 hu (by simp[B5,F2]; exact hio) fun z h1 h2=>rfl) k (by exact yO hu hXn)⟩
theorem B9E(l:List Ty)(S:List H1)(e:Ev)(i0:Int)(D T c:Nat)(id:Nat)(xs:List AV)(k:Nat)(n:Int)(t:List UInt8)(ys:List Int)(I:Nat)(BI:List Int)(d4:D≠I)(d5:T≠I)(d6:c≠I)(hk:3<=e.kind)(hfB:F7 (S.map H1.t) e.type e.id=true)(hS8:S.length<=1000)(d1:D≠T)(d2:D≠c)(d3:T≠c)
  (hCh:∀id,A2 Tryz.prog 263 [.ptr D 0 0] [(D,R5 l (.bsl T 0 S.length) e (C8 (S.map H1.t) e.type e.id)),(T,P0 S),(c,⟨xs,zC,false,false⟩),(I,⟨BI.map eI,.int .i64 0,false,false⟩)] id (.int .i64 0) [(c,some ⟨xs.set k (.agg [.int .i64 n,.str t,.bsl id 0 ys.length]),zC,false,false⟩),(id,some ⟨ys.map eI,.int .i64 0,false,false⟩)]) :
  A2 Tryz.prog 195 [.ptr D 0 0] [(D,R5 l (.bsl T 0 S.length) e i0),(T,P0 S),(c,⟨xs,zC,false,false⟩),(I,⟨BI.map eI,.int .i64 0,false,false⟩)] id (.int .i64 0) [(D,some (R5 l (.bsl T 0 S.length) e (C8 (S.map H1.t) e.type e.id))),(c,some ⟨xs.set k (.agg [.int .i64 n,.str t,.bsl id 0 ys.length]),zC,false,false⟩),(id,some ⟨ys.map eI,.int .i64 0,false,false⟩)]:=by
 have hF:=fun id=>S3 l S T e.type e.id id (by omega);have hk1:e.kind≠1:=by omega
 have hk2:e.kind≠2:=by omega
 unfold P0 R5 eD at *;refine w195.b.1 fun E hP hR hl hid hB hu=>?_;simp[w195];have hD:=hl (D,_) (List.mem_cons_self ..);simp only at hD;have D1:=lf hD;have hT:=hl (T,_) (List.mem_cons_of_mem _ (List.mem_cons_self ..));simp only at hT;have T1:=lf hT;have hc:=hl (c,_) (List.mem_cons_of_mem _ (List.mem_cons_of_mem _ (List.mem_cons_self ..)));simp only at hc;have c1:=lf hc;have hI:=hl (I,_) (List.mem_cons_of_mem _ (List.mem_cons_of_mem _ (List.mem_cons_of_mem _ (List.mem_cons_self ..))));simp only at hI;have I1:=lf hI;have hTn:∀x∈S.map V8,B5 E.G0.used x:=B9 hB (List.mem_cons_of_mem _ (List.mem_cons_self ..));have hXn:∀x∈xs,B5 E.G0.used x:=B9 hB (List.mem_cons_of_mem _ (List.mem_cons_of_mem _ (List.mem_cons_self ..)));(refine yC rfl (hF _) ?_; simp[D1,T1,c1,d1,d1.symm,d2,d2.symm,d3,d3.symm,I1,d4,d4.symm,d5,d5.symm,d6,d6.symm]);refine A0 (by simp[hk1]) ?_;simp[D1,T1,c1,d1,d1.symm,d2,d2.symm,d3,d3.symm,I1,d4,d4.symm,d5,d5.symm,d6,d6.symm];refine A0 (by simp[hk1]) ?_;simp[D1,T1,c1,d1,d1.symm,d2,d2.symm,d3,d3.symm,I1,d4,d4.symm,d5,d5.symm,d6,d6.symm];refine A0 (by simp[hk1]) ?_;simp[D1,T1,c1,d1,d1.symm,d2,d2.symm,d3,d3.symm,I1,d4,d4.symm,d5,d5.symm,d6,d6.symm];refine A0 (by simp[hfB]) ?_;simp[D1,T1,c1,d1,d1.symm,d2,d2.symm,d3,d3.symm,I1,d4,d4.symm,d5,d5.symm,d6,d6.symm];refine I0 hP (v:=.bool false) (rd:=[]) (by simp[D1,T1,c1,d1,d1.symm,d2,d2.symm,d3,d3.symm,I1,d4,d4.symm,d5,d5.symm,d6,d6.symm]) rfl (fun hc=>by simp[hk2] at hc) ?_;refine A3 4000 ?_;simp[D1,T1,c1,d1,d1.symm,d2,d2.symm,d3,d3.symm,I1,d4,d4.symm,d5,d5.symm,d6,d6.symm];refine A0 (by simp[hk2]) ?_;simp[D1,T1,c1,d1,d1.symm,d2,d2.symm,d3,d3.symm,I1,d4,d4.symm,d5,d5.symm,d6,d6.symm];(refine yC rfl (hCh _) ?_; simp[D1,T1,c1,d1,d1.symm,d2,d2.symm,d3,d3.symm,I1,d4,d4.symm,d5,d5.symm,d6,d6.symm]);refine yE hR [(id,E.n0+82944)] (by simp[D1,T1,c1,d1,d1.symm,d2,d2.symm,d3,d3.symm,I1,d4,d4.symm,d5,d5.symm,d6,d6.symm,A4 hid]) fun hrn=>⟨?_,?_,?_,?_,?_,?_⟩<;>(try simp[D1,T1,c1,d1,d1.symm,d2,d2.symm,d3,d3.symm,I1,d4,d4.symm,d5,d5.symm,d6,d6.symm,A4 hid]);exact⟨by exact yO hu hTn,J2 (by simp[A4 hid]) k (by exact yO hu hXn)⟩
theorem B71(l:List Ty)(S:List H1)(e:Ev)(T:Nat)(id:Nat)(c:Nat)(xs:List AV)(k:Nat)(a b io:AV)(hx:xs[k]?=some (.agg [a,b,io]))(n:Int)(t:List UInt8)(I:Nat)(BI:List Int)(d3:T≠c)(d5:T≠I)(d6:c≠I)(m:Int)(hl8:l.length<=1000)(hf0:Y8 e=0)(h0:0<=e.type)(h1:e.type<=(l.length:Int) - 1)(h2:1<=e.id)(h3:e.id<=999)
  (hDo:∀D id,(∀q∈[(T,P0 S),(c,⟨xs,zC,false,false⟩),(I,⟨BI.map eI,.int .i64 0,false,false⟩)],q.1≠D)->A2 Tryz.prog 195 [.ptr D 0 0] ((D,R5 l (.bsl T 0 S.length) e 0)::[(T,P0 S),(c,⟨xs,zC,false,false⟩),(I,⟨BI.map eI,.int .i64 0,false,false⟩)]) id (.int .i64 0) ((D,some (R5 l (.bsl T 0 S.length) e m))::[(c,some ⟨xs.set k (.agg [.int .i64 n,.str t,io]),zC,false,false⟩)])) :
  A2 Tryz.prog 126 [.agg [.sl (l.map J3),.bsl T 0 S.length],R4 e] [(T,P0 S),(c,⟨xs,zC,false,false⟩),(I,⟨BI.map eI,.int .i64 0,false,false⟩)] id (.tup [.agg [.sl (l.map J3),(.bsl T 0 S.length)],.int .i64 0]) ([(c,some ⟨xs.set k (.agg [.int .i64 n,.str t,io]),zC,false,false⟩)]):=by
 have hFm:=fun id=>c6 e id;have hw1:IntKind.i64.wrap ((l.length:Int) - 1)=(l.length:Int) - 1:=A5 (by omega);replace hDo:=fun D id hne=>(hDo D id hne).setD ⟨[eD l (.bsl T 0 S.length) e 0],eD l (.bsl T 0 S.length) e 0,false,false⟩ rfl rfl rfl rfl hne;unfold P0 R5 eD R4 at *;refine w126.b.1 fun E hP hR hl hid hB hu=>?_;simp[w126,C9];have hT:=hl (T,_) (List.mem_cons_self ..);simp only at hT;have T1:=lf hT;have hTn:∀x∈S.map V8,B5 E.G0.used x:=B9 hB (List.mem_cons_self ..);have hc:=hl (c,_) (List.mem_cons_of_mem _ (List.mem_cons_self ..));simp only at hc;have c1:=lf hc;have hXn:∀x∈xs,B5 E.G0.used x:=B9 hB (List.mem_cons_of_mem _ (List.mem_cons_self ..));have hI:=hl (I,_) (List.mem_cons_of_mem _ (List.mem_cons_of_mem _ (List.mem_cons_self ..)));simp only at hI;have I1:=lf hI;(refine yC rfl (hFm _) ?_; simp[T1,c1,I1,d3,d3.symm,d5,d5.symm,d6,d6.symm]);refine A0 (by simp[hf0]) ?_;simp[T1,c1,I1,d3,d3.symm,d5,d5.symm,d6,d6.symm];rw[hw1];(refine E0 hP rfl (F4 _ _ _ _) (by simp[T1,c1,I1,d3,d3.symm,d5,d5.symm,d6,d6.symm]) (by simp[T1,c1,I1,d3,d3.symm,d5,d5.symm,d6,d6.symm]<;>rfl) ?_; refine A3 4000 ?_; simp[T1,c1,I1,d3,d3.symm,d5,d5.symm,d6,d6.symm]);refine A0 (by simp; omega) ?_;simp[T1,c1,I1,d3,d3.symm,d5,d5.symm,d6,d6.symm];(refine E0 hP rfl (F4 _ _ _ _) (by simp[T1,c1,I1,d3,d3.symm,d5,d5.symm,d6,d6.symm]) (by simp[T1,c1,I1,d3,d3.symm,d5,d5.symm,d6,d6.symm]<;>rfl) ?_; refine A3 4000 ?_; simp[T1,c1,I1,d3,d3.symm,d5,d5.symm,d6,d6.symm]);refine A0 (by simp; omega) ?_;simp[T1,c1,I1,d3,d3.symm,d5,d5.symm,d6,d6.symm];refine A0 (by simp[hf0]) ?_;simp[T1,c1,I1,d3,d3.symm,d5,d5.symm,d6,d6.symm];(refine E0 hP rfl (hDo _ _ (by exact fun q hq=>by have:=(hl q hq).1; omega)) (by simp[T1,c1,I1,d3,d3.symm,d5,d5.symm,d6,d6.symm]) (by simp[T1,c1,I1,d3,d3.symm,d5,d5.symm,d6,d6.symm]<;>rfl) ?_; refine A3 4000 ?_; simp[T1,c1,I1,d3,d3.symm,d5,d5.symm,d6,d6.symm]);refine yE hR [] (by simp[T1,c1,I1,d3,d3.symm,d5,d5.symm,d6,d6.symm,A4 hid]) fun hrn=>⟨?_,?_,?_,?_,?_,?_⟩<;>(try simp[T1,c1,I1,d3,d3.symm,d5,d5.symm,d6,d6.symm,A4 hid]);have hio:B5 E.G0.used io:=by have:=hXn _ (List.mem_of_getElem? hx); simp[B5,F2] at this; exact this.2.2
 refine⟨by exact yO hu hTn,J2 (A30 hu (by simp[B5,F2]; exact hio) fun z h1 h2=>rfl) k (by exact yO hu hXn)⟩
theorem B72(l:List Ty)(S:List H1)(e:Ev)(T:Nat)(id:Nat)(c:Nat)(xs:List AV)(k:Nat)(n:Int)(t:List UInt8)(ys:List Int)(I:Nat)(BI:List Int)(d3:T≠c)(d5:T≠I)(d6:c≠I)(m:Int)(hl8:l.length<=1000)(hf0:Y8 e=0)(h0:0<=e.type)(h1:e.type<=(l.length:Int) - 1)(h2:1<=e.id)(h3:e.id<=999)
  (hDo:∀D id,(∀q∈[(T,P0 S),(c,⟨xs,zC,false,false⟩),(I,⟨BI.map eI,.int .i64 0,false,false⟩)],q.1≠D)->A2 Tryz.prog 195 [.ptr D 0 0] ((D,R5 l (.bsl T 0 S.length) e 0)::[(T,P0 S),(c,⟨xs,zC,false,false⟩),(I,⟨BI.map eI,.int .i64 0,false,false⟩)]) id (.int .i64 0) ((D,some (R5 l (.bsl T 0 S.length) e m))::[(c,some ⟨xs.set k (.agg [.int .i64 n,.str t,.bsl id 0 ys.length]),zC,false,false⟩),(id,some ⟨ys.map eI,.int .i64 0,false,false⟩)])) :
  A2 Tryz.prog 126 [.agg [.sl (l.map J3),.bsl T 0 S.length],R4 e] [(T,P0 S),(c,⟨xs,zC,false,false⟩),(I,⟨BI.map eI,.int .i64 0,false,false⟩)] id (.tup [.agg [.sl (l.map J3),(.bsl T 0 S.length)],.int .i64 0]) ([(c,some ⟨xs.set k (.agg [.int .i64 n,.str t,.bsl id 0 ys.length]),zC,false,false⟩),(id,some ⟨ys.map eI,.int .i64 0,false,false⟩)]):=by
 have hFm:=fun id=>c6 e id;have hw1:IntKind.i64.wrap ((l.length:Int) - 1)=(l.length:Int) - 1:=A5 (by omega);replace hDo:=fun D id hne=>(hDo D id hne).setD ⟨[eD l (.bsl T 0 S.length) e 0],eD l (.bsl T 0 S.length) e 0,false,false⟩ rfl rfl rfl rfl hne;unfold P0 R5 eD R4 at *;refine w126.b.1 fun E hP hR hl hid hB hu=>?_;simp[w126,C9];have hT:=hl (T,_) (List.mem_cons_self ..);simp only at hT;have T1:=lf hT;have hTn:∀x∈S.map V8,B5 E.G0.used x:=B9 hB (List.mem_cons_self ..);have hc:=hl (c,_) (List.mem_cons_of_mem _ (List.mem_cons_self ..));simp only at hc;have c1:=lf hc;have hXn:∀x∈xs,B5 E.G0.used x:=B9 hB (List.mem_cons_of_mem _ (List.mem_cons_self ..));have hI:=hl (I,_) (List.mem_cons_of_mem _ (List.mem_cons_of_mem _ (List.mem_cons_self ..)));simp only at hI;have I1:=lf hI;(refine yC rfl (hFm _) ?_; simp[T1,c1,I1,d3,d3.symm,d5,d5.symm,d6,d6.symm]);refine A0 (by simp[hf0]) ?_;simp[T1,c1,I1,d3,d3.symm,d5,d5.symm,d6,d6.symm];rw[hw1];(refine E0 hP rfl (F4 _ _ _ _) (by simp[T1,c1,I1,d3,d3.symm,d5,d5.symm,d6,d6.symm]) (by simp[T1,c1,I1,d3,d3.symm,d5,d5.symm,d6,d6.symm]<;>rfl) ?_; refine A3 4000 ?_; simp[T1,c1,I1,d3,d3.symm,d5,d5.symm,d6,d6.symm]);refine A0 (by simp; omega) ?_;simp[T1,c1,I1,d3,d3.symm,d5,d5.symm,d6,d6.symm];(refine E0 hP rfl (F4 _ _ _ _) (by simp[T1,c1,I1,d3,d3.symm,d5,d5.symm,d6,d6.symm]) (by simp[T1,c1,I1,d3,d3.symm,d5,d5.symm,d6,d6.symm]<;>rfl) ?_; refine A3 4000 ?_; simp[T1,c1,I1,d3,d3.symm,d5,d5.symm,d6,d6.symm]);refine A0 (by simp; omega) ?_;simp[T1,c1,I1,d3,d3.symm,d5,d5.symm,d6,d6.symm];refine A0 (by simp[hf0]) ?_;simp[T1,c1,I1,d3,d3.symm,d5,d5.symm,d6,d6.symm];(refine E0 hP rfl (hDo _ _ (by exact fun q hq=>by have:=(hl q hq).1; omega)) (by simp[T1,c1,I1,d3,d3.symm,d5,d5.symm,d6,d6.symm]) (by simp[T1,c1,I1,d3,d3.symm,d5,d5.symm,d6,d6.symm]<;>rfl) ?_; refine A3 4000 ?_; simp[T1,c1,I1,d3,d3.symm,d5,d5.symm,d6,d6.symm]);refine yE hR [(id,E.n0+32768)] (by simp[T1,c1,I1,d3,d3.symm,d5,d5.symm,d6,d6.symm,A4 hid]) fun hrn=>⟨?_,?_,?_,?_,?_,?_⟩<;>(try simp[T1,c1,I1,d3,d3.symm,d5,d5.symm,d6,d6.symm,A4 hid]);exact⟨by exact yO hu hTn,J2 (by simp[A4 hid]) k (by exact yO hu hXn)⟩
def B73(kind tid:Int)(t:Tg):Bool:=t.type==kind&&t.id==tid
def V6(ta ia tb ib:Int):Bool:=decide (ta<tb)||(decide (ta=tb)&&decide (ia<ib))
theorem B74{ta ia tb ib:Int}(h1:0<=ta/\ta<=1000)(h2:0<=tb/\tb<=1000)(h3:1<=ia/\ia<=999)(h4:1<=ib/\ib<=999):(0<=A2S ta ia tb ib)↔V6 ta ia tb ib=false:=by
 unfold A2S V6;split
 ·rw[A5 (by omega)]; simp; omega
 ·rw[A5 (by omega)]; simp; omega
def I64(n:Int):Prop:=-9223372036854775808<=n/\n<=9223372036854775807
theorem A4s{ta ia kind tid:Int}(h1:0<=ta/\ta<=1000)(h2 : -1<=kind/\kind<=1000)(h3:1<=ia/\ia<=999)(h4:I64 tid):A2S ta ia kind tid=0↔ta=kind/\ia=tid:=by
 unfold A2S;unfold I64 at h4;split
 ·rw[A5 (by omega)]; omega
 ·by_cases hr:ia - tid<=9223372036854775807
  ·rw[A5 (by omega)]; omega
  ·have:IntKind.i64.wrap (ia - tid)=ia - tid - 18446744073709551616:=by
    rw[IntKind.wrap_i64]; omega
   rw[this]; omega
theorem A6q(f:Nat->Int)(j:Nat):∀(n a b:Nat),b - a<n->a<=j->j<=b->(∀k,a<=k->k<j->f k<0)->(∀k,j<=k->k<b->¬f k<0)->bs f a b=j
 | 0,a,b,hn,_,_,_,_=>by omega
 | n+1,a,b,hn,h1,h2,h3,h4=>by
  rw[bs];split
  ·rename_i hab;split
   ·rename_i hm;have hj:(a+b) / 2<j:=by
     by_cases hh:(a+b) / 2<j
     ·exact hh
     ·exact (h4 _ (by omega) (by omega) hm).elim
    exact A6q f j n _ b (by omega) (by omega) h2 (fun k hk hkj=>h3 k (by omega) hkj) h4
   ·rename_i hm;have hj:j<=(a+b) / 2:=by
     by_cases hh:j<=(a+b) / 2
     ·exact hh
     ·exact (hm (h3 _ (by omega) (by omega))).elim
    exact A6q f j n a _ (by omega) h1 hj h3 (fun k hk hkb=>h4 k hk (by omega))
  ·omega
structure Srt(l:List Tg):Prop where
 ty:∀t∈l,0<=t.type/\t.type<=1000
 id:∀t∈l,1<=t.id/\t.id<=999
 asc:∀(i j:Nat) (a b:Tg),i<j->l[i]?=some a->l[j]?=some b->V6 a.type a.id b.type b.id=true
theorem A6L{a b c d e f:Int}(h1:V6 a b c d=true)(h2:V6 c d e f=true):V6 a b e f=true:=by
 simp[V6] at *; omega
theorem X5{ta ia tb ib:Int}(h1:0<=ta/\ta<=1000)(h2:0<=tb/\tb<=1000)(h3:1<=ia/\ia<=999)(h4:1<=ib/\ib<=999):(A2S ta ia tb ib<0)↔V6 ta ia tb ib=true:=by
 have:=B74 h1 h2 h3 h4;cases h:V6 ta ia tb ib<;>simp[h] at this<;>simp<;>omega
theorem Srt.found{l:List Tg}(h:Srt l){j:Nat}{t:Tg}(ht:l[j]?=some t):C8 l t.type t.id=j:=by
 have hlt:=(List.getElem?_eq_some_iff.1 ht).1;have htm:=List.mem_of_getElem? ht;unfold C8;refine A6q _ j (l.length+1) 0 l.length (by omega) (by omega) (by omega) (fun k _ hk=>?_) (fun k hk hkl=>?_)
 ·obtain⟨u,hu⟩:∃u,l[k]?=some u:=⟨_,List.getElem?_eq_getElem (by omega)⟩;have hum:=List.mem_of_getElem? hu;simp only[L8,hu];rw[X5 (h.ty u hum) (h.ty t htm) (h.id u hum) (h.id t htm)];exact h.asc k j u t hk hu ht
 ·obtain⟨u,hu⟩:∃u,l[k]?=some u:=⟨_,List.getElem?_eq_getElem (by omega)⟩;have hum:=List.mem_of_getElem? hu;simp only[L8,hu];rw[X5 (h.ty u hum) (h.ty t htm) (h.id u hum) (h.id t htm)];rcases Nat.lt_or_ge j k with hjk|hjk
  ·have:=h.asc j k t u hjk ht hu;simp[V6] at this ⊢; omega
  ·obtain rfl:k=j:=by omega
   rw[ht] at hu; injection hu with hu; subst hu
   simp[V6]
theorem Srt.findB{l:List Tg}(h:Srt l){kind tid:Int}(h2 : -1<=kind/\kind<=1000)(h4:I64 tid):F7 l kind tid=l.any (B73 kind tid):=by
 rw[Bool.eq_iff_iff,List.any_eq_true];constructor
 ·intro hb;simp only[F7,Bool.and_eq_true,decide_eq_true_eq] at hb;obtain⟨hlt,hz⟩:=hb;obtain⟨u,hu⟩:∃u,l[C8 l kind tid]?=some u:=⟨_,List.getElem?_eq_getElem hlt⟩;have hum:=List.mem_of_getElem? hu;simp only[L8,hu] at hz;rw[A4s (h.ty u hum) h2 (h.id u hum) h4] at hz;exact⟨u,hum,by simp[B73,hz.1,hz.2]⟩
 ·rintro⟨t,ht,he⟩;simp[B73] at he;obtain⟨rfl,rfl⟩:=he;obtain⟨j,hj⟩:=List.mem_iff_getElem?.1 ht;have hf:=h.found hj;have hlt:=(List.getElem?_eq_some_iff.1 hj).1;simp only[F7,hf,Bool.and_eq_true,decide_eq_true_eq];refine⟨hlt,?_⟩;simp only[L8,hj];rw[A4s (h.ty t ht) h2 (h.id t ht) h4];exact⟨rfl,rfl⟩
theorem C3T{s:I4}(hS:A6I s.types)(hz:E4 (fun i t=>A19 s i t) s.things 0=0):(∀t∈s.things,A4B s t)/\Srt s.things:=by
 have h1:∀(k:Nat) t,s.things[k]?=some t->A19 s k t=0:=fun k t hk=>by
  have:=Q4 _ _ _ hz k t hk
  rwa [Nat.zero_add] at this
 have hall:∀t∈s.things,A4B s t:=fun t ht=>by
  obtain⟨k,hk⟩:=List.mem_iff_getElem?.1 ht;have h0:=h1 k t hk;refine C3S ?_;unfold A19 at h0;split at h0
  ·rename_i g; exact (g h0).elim
  ·rename_i g; exact Classical.byContradiction g
 have hty:∀t∈s.things,0<=t.type/\t.type<=1000:=fun t ht=>⟨(hall t ht).ty0,by have:=(hall t ht).ty1; have:=hS.len; omega⟩;have hid:∀t∈s.things,1<=t.id/\t.id<=999:=fun t ht=>⟨(hall t ht).id1,(hall t ht).id2⟩;have hstep:∀(i:Nat) (a b:Tg),s.things[i]?=some a->s.things[i+1]?=some b->V6 a.type a.id b.type b.id=true:=fun i a b ha hb=>by
  have h0:=h1 (i+1) b hb;unfold A19 at h0;split at h0
  ·rename_i g; exact (g h0).elim
  split at h0
  ·omega
  ·rename_i g;simp[L8,ha] at g;have ham:=List.mem_of_getElem? ha;have hbm:=List.mem_of_getElem? hb;exact (X5 (hty a ham) (hty b hbm) (hid a ham) (hid b hbm)).1 g
 refine⟨hall,hty,hid,fun i j a b hij ha hb=>?_⟩;obtain⟨d,rfl⟩:∃d,j=i+1+d:=⟨j - i - 1,by omega⟩;clear hij;induction d generalizing b with
 | zero=>exact hstep i a b ha hb
 | succ d ih =>
  obtain⟨c,hc⟩:∃c,s.things[i+1+d]?=some c:=⟨_,List.getElem?_eq_getElem (by have:=(List.getElem?_eq_some_iff.1 hb).1; omega)⟩;exact A6L (ih c hc) (hstep _ c b hc (by rw[show i+1+d+1=i+1+(d+1) by omega]; exact hb))
theorem B2n{α:Type}(p:α->Bool):∀(l:List α) (i:Nat),-1<=C2 p l i/\C2 p l i<(i+l.length:Nat) \/C2 p l i = -1
 | [],i=>.inr rfl
 | x::l,i=>by
  simp only[C2];split
  ·exact .inl ⟨by omega,by simp; omega⟩
  ·rcases B2n p l (i+1) with h|h
   ·exact .inl ⟨h.1,by have:=h.2; simp at this ⊢; omega⟩
   ·exact .inr h
theorem B75{l:List Ty}(hS:A6I l)(n:List UInt8): -1<=C4 l n/\C4 l n<=1000:=by
 have:=hS.len;rcases B2n (fun t:Ty=>t.name==n) l 0 with h|h
 ·unfold C4; omega
 ·unfold C4; omega
end Go.Am
