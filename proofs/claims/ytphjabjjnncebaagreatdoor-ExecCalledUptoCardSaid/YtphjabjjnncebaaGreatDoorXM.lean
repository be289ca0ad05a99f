/- Parts of the proof: an abstract machine for Go functions, and what functions of the program give back (Do9, Do10, Do11, Ra1, Do12, Ra2, Ra3, Ra4, Ra5, Do13, Ra2b, Ra6). No condition. -/
import Derived.Test.YtphjabjjnncebaaGreatDoorXL
import Derived.Test.YtphjabjjnncebaaGreatDoorXJ
set_option maxRecDepth 100000
set_option linter.all false
set_option maxHeartbeats 1000000
namespace Go.Am
open Go Go.Proofs Go.RowKit
structure D2.Ok(o:D2):Prop where
 len:o.is.length=o.t.cells.length
 nil:∀(k:Nat) (c:Cl),o.t.cells[k]?=some c->o.is[k]?=some none->c.ids=[]
theorem A1o{cs:List Cl}:∀{is:List (Option Nat)} (k:Nat) {c:Cl} {i:Option Nat},cs[k]?=some c->is[k]?=some i->∀q∈idB c i,q∈X7 cs is:=by
 induction cs with
 | nil=>intro is k c i h1; simp at h1
 | cons c0 cs ih =>
  intro is k c i h1 h2 q hq;cases is with
  | nil=>simp at h2
  | cons i0 is =>
   cases k with
   | zero=>simp at h1 h2; subst h1 h2; exact yn _ hq
   | succ k=>exact zx _ (ih k (by simpa using h1) (by simpa using h2) q hq)
theorem B2K{o:D2}(h:o.Ok){L:List (Nat×Bx)}(hL:∀q∈o.bxs,q∈L):Rd L (.bsl o.c 0 o.t.cells.length) (.sl (o.t.cells.map t8)):=by
 have hg:∀i x y,(List.zipWith H4 o.t.cells o.is)[0+i]?=some x->(o.t.cells.map t8)[i]?=some y->∃c io,o.t.cells[i]?=some c/\o.is[i]?=some io/\x=H4 c io/\y=t8 c:=fun i x y h1 h2=>by
  rw[yu,tc] at h1;rw[ye] at h2;cases hc:o.t.cells[i]? with
  | none=>rw[hc] at h2; simp at h2
  | some c =>
   cases hi:o.is[i]? with
   | none=>rw[hc,hi] at h1; simp at h1
   | some io =>
    rw[hc,hi] at h1;rw[hc] at h2;simp at h1 h2;exact⟨c,io,rfl,rfl,h1.symm,h2.symm⟩
 refine .bsl o.c 0 _ (cBn o) _ (hL _ (zb ..)) (by simp[cBn,h.len]) (by simp) (fun i x y h1 h2=>?_) fun i x y j a b h1 h2 h3 h4=>?_
 ·obtain⟨c,io,_,_,rfl,rfl⟩:=hg i x y h1 h2;rfl
 ·obtain⟨c,io,hc,hi,rfl,rfl⟩:=hg i x y h1 h2;match j,h3,h4 with
  | 0,h3,h4=>simp[H4,t8,AV.cells] at h3 h4; subst h3 h4; exact .same _
  | 1,h3,h4=>simp[H4,t8,AV.cells] at h3 h4; subst h3 h4; exact .same _
  | 2,h3,h4 =>
   simp[H4,t8,AV.cells] at h3 h4;subst h3 h4;exact A9W c io L (fun q hq=>hL _ (za _ (A1o i hc hi q hq))) fun e=>h.nil i c hc (e▸hi)
  | j+3,h3,h4=>simp[H4,AV.cells] at h3
theorem A5T{S:List D2}(h:∀o∈S,o.Ok){T:Nat}{L:List (Nat×Bx)}(hT:(T,J9 S)∈L)(hL:∀q∈E8 S,q∈L):Rd L (.bsl T 0 S.length) (.sl ((S.map D2.t).map M5)):=by
 have hg:∀i x y,(S.map N8)[0+i]?=some x->((S.map D2.t).map M5)[i]?=some y->∃o,S[i]?=some o/\x=N8 o/\y=M5 o.t:=fun i x y h1 h2=>by
  rw[yu,ye] at h1;rw[ye,ye] at h2;cases ho:S[i]? with
  | none=>rw[ho] at h2; simp at h2
  | some o =>
   rw[ho] at h1 h2;simp at h1 h2;exact⟨o,rfl,h1.symm,h2.symm⟩
 refine .bsl T 0 _ (J9 S) _ hT (by simp[J9]) (by simp) (fun i x y h1 h2=>?_) fun i x y j a b h1 h2 h3 h4=>?_
 ·obtain⟨o,_,rfl,rfl⟩:=hg i x y h1 h2;rfl
 ·obtain⟨o,ho,rfl,rfl⟩:=hg i x y h1 h2;match j,h3,h4 with
  | 0,h3,h4=>simp[N8,M5,AV.cells] at h3 h4; subst h3 h4; exact .same _
  | 1,h3,h4=>simp[N8,M5,AV.cells] at h3 h4; subst h3 h4; exact .same _
  | 2,h3,h4 =>
   simp[N8,M5,AV.cells] at h3 h4;subst h3 h4;exact B2K (h o (zf ho)) fun q hq=>hL q (xq.2 ⟨o,zf ho,hq⟩)
  | j+3,h3,h4=>simp[N8,AV.cells] at h3
theorem A5U(l:List Ty)(S:List D2)(e:Ev)(i:Int)(D T:Nat)(id:Nat)(hS:∀o∈S,o.Ok)(h5:l.length<=1000)(h12:S.length<=1000000)
  (hok:∀t∈S.map D2.t,0<=t.type/\t.type.toNat<l.length/\t.cells.length=(C2 l t.type).length/\t.cells.length<=1000000/\∀c∈t.cells,c.ids.length<=6) :
  A2 Tryz.prog 261 [.ptr D 0 0] ((D,L7 l (.bsl T 0 S.length) e i)::(T,J9 S)::E8 S) id (.bool (!M2 (P8 l e) l (S.map D2.t))) []:=by
 refine (B2I (A3 l S) e i id h5 (by simp[A3]; exact h12) hok).read rfl rfl fun k a b h1 h2=>?_;match k,h1,h2 with
 | 0,h1,h2 =>
  simp only[yb,zc] at h1 h2;subst h1 h2;refine .ptr D (L7 l (.bsl T 0 S.length) e i) _ _ (zb ..) rfl rfl fun j c d h3 h4=>?_;match j,h3,h4 with
  | 0,h3,h4=>simp[eD,AV.cells,A3] at h3 h4; subst h3 h4; exact .same _
  | 1,h3,h4 =>
   simp only[eD,AV.cells,A3,xe,yb,zc] at h3 h4;subst h3 h4;exact A5T hS (za _ (zb ..)) fun q hq=>za _ (za _ hq)
  | 2,h3,h4|3,h3,h4|4,h3,h4|5,h3,h4|6,h3,h4|7,h3,h4|8,h3,h4=>simp[eD,AV.cells,A3] at h3 h4; subst h3 h4; exact .same _
  | j+9,h3,h4=>simp[eD,AV.cells] at h3
 | k+1,h1,h2=>simp at h1
theorem A5V{q:Nat×Bx}:∀{l:List (Nat×Bx)},q∈l->(q.1,some q.2)∈C4 l
 | p::l,h=>by
  obtain⟨i,b⟩:=p;rcases zi.1 h with rfl|h
  ·exact zb ..
  ·exact za _ (A5V h)
theorem A4E:∀{l:List (Nat×Bx)},(C4 l).map Prod.fst=l.map Prod.fst
 | []=>rfl
 | (i,b)::l=>by simp[C4,A4E (l:=l)]
theorem A9X{l:List (Nat×Bx)}(hn:(l.map Prod.fst).Nodup){q:Nat×Bx}(h:q∈l):bk (C4 l) q.1=some q.2 :=
 w7 (by rw[A4E]; exact hn) (A5V h)
theorem X8{R:Rn}{S:Nat->Prop}{bx':List (Nat×Option Bx)}{fin:Nat->Option Bx}:∀{a b:List Nat},A0J R S bx' fin a->A0J R S bx' fin b->A0J R S bx' fin (a++b)
 | [],_,_,h=>h
 | _::_,_,h1,h=>⟨h1.1,X8 h1.2 h⟩
theorem A0i{E:R9}{id:Nat}{rd:List (Nat×Bx)}{wr bx':List (Nat×Option Bx)}{rn:List (Nat×Nat)}{hrn:I0 rn}(hh:G8 E.β rd)(hu:∀z,E.G0.used z->z<id\/id+1024<=z)
  (hk:∀z,z<E.n0->(z<id\/id+1024<=z)->Y3 rn z=none) (hg:∀z,z<E.n0->M6 rn z=false):∀{rest:List (Nat×Bx)},(∀q∈rest,q∈rd/\D8 (bk (C4 rd)) wr q.1=some q.2/\bk bx' q.1=some q.2)->A0J (L9 E.n0 rn hrn) E.G0.used bx' (D8 (bk (C4 rd)) wr) (rest.map (·.1))
 | [],_=>trivial
 | q::rest,h=>by
  obtain⟨h1,h2,h3⟩:=h q (zb ..);refine⟨?_,A0i hh hu hk hg fun q hq=>h q (za _ hq)⟩;rw[h2];have hus:=E.rs0.boxNames (hh q h1);have hlt:=E.old _ hus.1;refine⟨q.1,q.2,?_,h3,BxR.same fun i x hx=>G9 (A9E hu hk) x (hus.2 i x hx)⟩;show z6 E.n0 rn q.1=some q.1;unfold z6;rw[hk _ hlt (hu _ hus.1)];simp[hlt,hg _ hlt]
theorem j6{n0:Nat}{bx:List (Nat×Option Bx)}:∀{a b:List (Nat×Option Bx)},G6 n0 bx a->G6 n0 bx b->G6 n0 bx (a++b)
 | [],_,_,h=>h
 | _::_,_,h1,h=>⟨h1.1,j6 h1.2 h⟩
theorem T8{n0:Nat}{bx:List (Nat×Option Bx)}:∀{l:List (Nat×Bx)},(∀q∈l,H5 q.1 bx)->G6 n0 bx (C4 l)
 | [],_=>trivial
 | (i,b)::l,h=>⟨.inr (h _ (zb ..)),T8 fun q hq=>h q (za _ hq)⟩
theorem A09{rest:List (Nat×Bx)}(hn:(rest.map Prod.fst).Nodup){q:Nat×Bx}(hq:q∈rest):∀{pre:List (Nat×Option Bx)},(∀p∈pre,q.1≠p.1)->bk (pre++C4 rest) q.1=some q.2
 | [],_=>A9X hn hq
 | p::pre,h=>by
  rw[yo,A0q (h p (zb ..))];exact A09 hn hq fun p hp=>h p (za _ hp)
theorem A0x{rest:List (Nat×Bx)}{pre:List (Nat×Option Bx)}(hn:(rest.map Prod.fst).Nodup)(h:∀q∈rest,∀p∈pre,q.1≠p.1):X2 (bk (pre++C4 rest)) rest :=
 X2.of fun q hq=>A09 hn hq (h q hq)
theorem B2L(l:List Ty)(S:List D2)(e:Ev)(i0:Int)(D T:Nat)(id:Nat)(hk:e.kind=2)(hfB:C3 (S.map D2.t) e.type e.id=true)(hS:∀o∈S,o.Ok)(h5:l.length<=1000)(hS8:S.length<=1000)(d1:D≠T)(hnd:((E8 S).map Prod.fst).Nodup)(dD:∀q∈E8 S,q.1≠D)(dT:∀q∈E8 S,q.1≠T)
  (hok:∀t∈S.map D2.t,0<=t.type/\t.type.toNat<l.length/\t.cells.length=(C2 l t.type).length/\t.cells.length<=1000000/\∀c∈t.cells,c.ids.length<=6) (hm:M2 (P8 l e) l (S.map D2.t)=false) :
  A2 Tryz.prog 195 [.ptr D 0 0] ((D,L7 l (.bsl T 0 S.length) e i0)::(T,J9 S)::E8 S) id (.int .i64 4) [(D,some (L7 l (.bsl T 0 S.length) e (B3 (S.map D2.t) e.type e.id)))]:=by
 have hF:=fun id=>M3 l S T e.type e.id id (by omega);have hM:=fun i id=>A5U l S e i D T id hS h5 (by omega) hok;rw[hm] at hM;generalize hrest:E8 S=rest at *;unfold J9 L7 eD at *;refine w195.b.1 fun E hP hR hl hid hB hu=>?_;simp[w195,C4];have hD:=hl (D,_) (zb ..);simp only at hD;have D1:=lf hD;have hT:=hl (T,_) (za _ (zb ..));simp only at hT;have T1:=lf hT;have hTn:∀x∈S.map N8,A4 E.G0.used x:=A9 hB (za _ (zb ..));(refine yC rfl (hF _) ?_; simp[D1,T1,d1,d1.symm]);refine A0 (by simp[hk]) ?_;simp[D1,T1,d1,d1.symm];refine A0 (by simp[hk]) ?_;simp[D1,T1,d1,d1.symm];refine A0 (by simp[hk]) ?_;simp[D1,T1,d1,d1.symm];refine A0 (by simp[hfB]) ?_;simp[D1,T1,d1,d1.symm];refine K3 hP (by simp[D1,T1,d1,d1.symm]) rfl (fun hc=>⟨hM (B3 (S.map D2.t) e.type e.id) _,by simp[D1,T1,d1,d1.symm]; simp[hk],?_⟩) ?_
 ·refine⟨by simp,by simp[D1,T1,d1,d1.symm],A0x (pre:=[_,_,_]) hnd fun q hq p hp=>?_⟩;simp only[zi,ym,or_false] at hp;rcases hp with rfl|rfl|rfl
  ·exact dD q hq
  ·exact dD q hq
  ·exact dT q hq
 refine A6 4000 ?_;simp[D1,T1,d1,d1.symm];refine D5 (by simp[hk]) ?_;simp[D1,T1,d1,d1.symm];rw[hR];have hrn:I0 []:=trivial;refine H2 (by simp<;>rfl) [] hrn ⟨?_,?_,?_,?_,?_,?_⟩
 ·simp
 ·show A0J _ _ _ _ ([D,T]++(rest.map (·.1)++[D]));refine X8 ?_ (X8 (A0i hB hu (fun z _ _=>rfl) (fun z _=>rfl) fun q hq=>⟨za _ (za _ hq),?_,?_⟩) ?_)
  ·simp[C4,D1,T1,d1,d1.symm];all_goals exact yO hu hTn
  ·simp only[D8];rw[A7 _ _ _ (dD q hq)];refine A09 (pre:=[_,_]) hnd hq fun p hp=>?_;simp only[zi,ym,or_false] at hp;rcases hp with rfl|rfl
   ·exact dD q hq
   ·exact dT q hq
  ·refine A09 (pre:=[_,_,_]) hnd hq fun p hp=>?_;simp only[zi,ym,or_false] at hp;rcases hp with rfl|rfl|rfl
   ·exact dD q hq
   ·exact dD q hq
   ·exact dT q hq
  ·simp[C4,D1,T1,d1,d1.symm]
 ·show G6 _ _ ([_,_,_]++C4 rest);refine j6 ?_ (T8 fun q hq=>M9.2 (yi.2 ⟨q,za _ (za _ hq),rfl⟩));simp[C4,D1,T1,d1,d1.symm]
 ·simp[C4]
 ·simp
 ·simp
theorem B3y(l:List Ty)(S:List D2)(e:Ev)(i0:Int)(D T:Nat)(id:Nat)(hk:e.kind=2)(hfB:C3 (S.map D2.t) e.type e.id=true)(hS:∀o∈S,o.Ok)(h5:l.length<=1000)(hS8:S.length<=1000)(d1:D≠T)(hnd:((E8 S).map Prod.fst).Nodup)(dD:∀q∈E8 S,q.1≠D)(dT:∀q∈E8 S,q.1≠T)
  (hok:∀t∈S.map D2.t,0<=t.type/\t.type.toNat<l.length/\t.cells.length=(C2 l t.type).length/\t.cells.length<=1000000/\∀c∈t.cells,c.ids.length<=6) (hm:M2 (P8 l e) l (S.map D2.t)=true) :
  A2 Tryz.prog 195 [.ptr D 0 0] ((D,L7 l (.bsl T 0 S.length) e i0)::(T,J9 S)::E8 S) id (.int .i64 0) [(D,some (L7 l (.bsl id 0 (S.length - 1)) e (B3 (S.map D2.t) e.type e.id))),(T,none),(id,some ⟨(S.map N8).take (B3 (S.map D2.t) e.type e.id)++(S.map N8).drop (B3 (S.map D2.t) e.type e.id+1),zT,false,false⟩)]:=by
 have hF:=fun id=>M3 l S T e.type e.id id (by omega);have hM:=fun i id=>A5U l S e i D T id hS h5 (by omega) hok;rw[hm] at hM;generalize hrest:E8 S=rest at *;unfold J9 L7 eD at *;refine w195.b.1 fun E hP hR hl hid hB hu=>?_;simp[w195,C4];have hD:=hl (D,_) (zb ..);simp only at hD;have D1:=lf hD;have hT:=hl (T,_) (za _ (zb ..));simp only at hT;have T1:=lf hT;have hTn:∀x∈S.map N8,A4 E.G0.used x:=A9 hB (za _ (zb ..));(refine yC rfl (hF _) ?_; simp[D1,T1,d1,d1.symm]);refine A0 (by simp[hk]) ?_;simp[D1,T1,d1,d1.symm];refine A0 (by simp[hk]) ?_;simp[D1,T1,d1,d1.symm];refine A0 (by simp[hk]) ?_;simp[D1,T1,d1,d1.symm];refine A0 (by simp[hfB]) ?_;simp[D1,T1,d1,d1.symm];refine K3 hP (by simp[D1,T1,d1,d1.symm]) rfl (fun hc=>⟨hM (B3 (S.map D2.t) e.type e.id) _,by simp[D1,T1,d1,d1.symm]; simp[hk],?_⟩) ?_
 ·refine⟨by simp,by simp[D1,T1,d1,d1.symm],A0x (pre:=[_,_,_]) hnd fun q hq p hp=>?_⟩;simp only[zi,ym,or_false] at hp;rcases hp with rfl|rfl|rfl
  ·exact dD q hq
  ·exact dD q hq
  ·exact dT q hq
 refine A6 4000 ?_;simp[D1,T1,d1,d1.symm];refine D5 (by simp[hk]) ?_;simp[D1,T1,d1,d1.symm];have hlt:B3 (S.map D2.t) e.type e.id<S.length:=by unfold C3 at hfB; simp at hfB; exact hfB.1
 have hw1:IntKind.i64.wrap ((B3 (S.map D2.t) e.type e.id:Int)+1)=(B3 (S.map D2.t) e.type e.id:Int)+1:=wrap64 (by omega);have hDl:=fun id=>A8n S T (B3 (S.map D2.t) e.type e.id) id hlt (by omega);rw[hw1];generalize B3 (S.map D2.t) e.type e.id=m at *;(refine yC rfl (hDl _) ?_; simp[D1,T1,d1,d1.symm]);rw[hR];have hrn:I0 [(id,E.n0+91136)]:=by simp
 have hn9:∀q∈rest,q.1≠E.n0+91136:=fun q hq=>by have:=(hl q (za _ (za _ hq))).1; omega
 have hni:∀q∈rest,q.1≠id:=fun q hq=>by have:=(hl q (za _ (za _ hq))).2; omega
 have hlk:∀z,z<E.n0->(z<id\/id+1024<=z)->Y3 [(id,E.n0+91136)] z=none:=fun z h1 h2=>by
  have a1:z≠id:=by omega
  simp[Y3,a1]
 have hgn:∀z,z<E.n0->M6 [(id,E.n0+91136)] z=false:=fun z h1=>by
  have a1:z≠E.n0+91136:=by omega
  simp[M6,a1]
 refine H2 (by simp<;>rfl) [(id,E.n0+91136)] hrn ⟨?_,?_,?_,?_,?_,?_⟩
 ·simp
 ·show A0J _ _ _ _ ([D,T]++(rest.map (·.1)++[D,T,id]));refine X8 ?_ (X8 (A0i hB hu hlk hgn fun q hq=>⟨za _ (za _ hq),?_,?_⟩) ?_)
  ·simp[C4,B2 hid,D1,T1,d1,d1.symm]
  ·simp only[D8];rw[A7 _ _ _ (hni q hq),A7 _ _ _ (dT q hq),A7 _ _ _ (dD q hq)];refine A09 (pre:=[_,_]) hnd hq fun p hp=>?_;simp only[zi,ym,or_false] at hp;rcases hp with rfl|rfl
   ·exact dD q hq
   ·exact dT q hq
  ·refine A09 (pre:=[_,_,_,_,_,_]) hnd hq fun p hp=>?_;simp only[zi,ym,or_false] at hp;rcases hp with rfl|rfl|rfl|rfl|rfl|rfl
   ·exact dD q hq
   ·exact hn9 q hq
   ·exact dT q hq
   ·exact dD q hq
   ·exact dD q hq
   ·exact dT q hq
  ·simp[C4,B2 hid,D1,T1,d1,d1.symm];all_goals exact S8 (Q1 hu hlk fun x hx=>hTn x (wc hx)) (Q1 hu hlk fun x hx=>hTn x (xh hx))
 ·show G6 _ _ ([_,_,_,_,_,_]++C4 rest);refine j6 ?_ (T8 fun q hq=>M9.2 (yi.2 ⟨q,za _ (za _ hq),rfl⟩));simp[C4,D1,T1,d1,d1.symm]
 ·simp[C4]
 ·simp
 ·simp
theorem A2.setD{P:Program}{f:Nat}{args:List AV}{D:Nat}{x:Bx}{o:Option Bx}{rd:List (Nat×Bx)}{id:Nat}{res:AV}{wr:List (Nat×Option Bx)}(h:A2 P f args ((D,x)::rd) id res ((D,o)::wr))(x':Bx)(h1:x'.xs=x.xs)(h2:x'.sz=x.sz)(h3:x'.ro=x.ro)(h4:x'.frz=x.frz)(hne:∀q∈rd,q.1≠D):
  A2 P f args ((D,x')::rd) id res ((D,o)::wr):=by
 refine⟨h.1,fun C G bx w vs nb hs hv hh hnb hid=>?_⟩;have hD:bx D=some x':=hh (D,x') (zb ..);have s1:RS C G (P9 bx D (some x)) w:=by
  refine⟨hs.below,hs.size,hs.fzok,hs.fzold,fun i y hy hn=>?_,fun i y hy hn=>?_,hs.nlu,hs.used,hs.inj,hs.rows⟩
  ·by_cases e:i=D
   ·subst e;rw[B5] at hy;injection hy with hy
    subst hy;have:=hs.box i x' hD hn;rw[h1,h2,h3,h4] at this;exact this
   ·rw[A7 _ _ _ e] at hy; exact hs.box i y hy hn
  ·by_cases e:i=D
   ·subst e;rw[B5] at hy;injection hy with hy
    subst hy;have:=hs.nil i x' hD hn;rw[h1,h3] at this;exact this
   ·rw[A7 _ _ _ e] at hy; exact hs.nil i y hy hn
 have:=h.2 C G _ w vs nb s1 hv (fun q hq=>by
  rcases zi.1 hq with rfl|hq
  ·exact B5 ..
  ·rw[A7 _ _ _ (hne q hq)]; exact hh q (za _ hq)) hnb hid
 refine Calls.mono this fun e w' hq=>?_;obtain⟨v,G',q1,q2,q3⟩:=hq;refine⟨v,G',q1,?_,q3⟩;have e1:P9 (P9 bx D (some x)) D o=P9 bx D o:=by
  funext y
  by_cases e:y=D
  ·subst e; rw[B5,B5]
  ·rw[A7 _ _ _ e,A7 _ _ _ e,A7 _ _ _ e]
 simp only[D8] at q2 ⊢;rw[e1] at q2;exact q2
def O8(l:List Ty)(e:Ev):Int:=if Q2 e≠0 then Q2 e else if ¬(0<=e.type/\e.type<=(l.length:Int) - 1) then 5 else if ¬(1<=e.id/\e.id<=999) then 3 else 0
def eS0:AV:=.agg [.nils,.nils]
theorem B2M(l:List Ty)(e:Ev)(T n:Nat)(id:Nat)(hl8:l.length<=1000)(hw:O8 l e≠0):
  A2 Tryz.prog 126 [.agg [.sl (l.map H6),.bsl T 0 n],N5 e] [] id (.tup [eS0,.int .i64 (O8 l e)]) []:=by
 have hFm:=fun id=>S9 e id;have hw1:IntKind.i64.wrap ((l.length:Int) - 1)=(l.length:Int) - 1:=wrap64 (by omega);unfold N5 eS0 at *;refine w126.b.1 fun E hP hR hl hid hB hu=>?_;simp[w126];(refine yH rfl (hFm _) ?_; simp);refine C9 (fun h=>?_) (fun h=>?_)<;>simp
 ·refine D5 h ?_;simp;exact yP hR (h1:=by simp; unfold O8; simp at h; simp[h])
 have hf:Q2 e=0:=by simpa using h
 rw[hw1];(refine yH rfl (C5 _ _ _ _) ?_; simp);refine C9 (fun h1=>?_) (fun h1=>?_)<;>simp
 ·exact yP hR (h1:=by simp; unfold O8; simp at h1; simp[hf]; omega)
 (refine yH rfl (C5 _ _ _ _) ?_; simp);refine C9 (fun h2=>?_) (fun h2=>?_)<;>simp
 ·exact yP hR (h1:=by simp; unfold O8; simp at h1 h2; simp[hf]; omega)
 exfalso;apply hw;unfold O8;simp at h1 h2;rw[zh (by omega),zh (by omega),zh (by omega)]
theorem A6R(l:List Ty)(S:List D2)(e:Ev)(i0:Int)(D T c:Nat)(id:Nat)(xs:List AV)(w:Int)(hk:3<=e.kind)(hfB:C3 (S.map D2.t) e.type e.id=true)(hS8:S.length<=1000)(d1:D≠T)(d2:D≠c)(d3:T≠c)
  (hCh:∀id,A2 Tryz.prog 263 [.ptr D 0 0] [(D,L7 l (.bsl T 0 S.length) e (B3 (S.map D2.t) e.type e.id)),(T,J9 S),(c,⟨xs,zC,false,false⟩)] id (.int .i64 w) []) :
  A2 Tryz.prog 195 [.ptr D 0 0] [(D,L7 l (.bsl T 0 S.length) e i0),(T,J9 S),(c,⟨xs,zC,false,false⟩)] id (.int .i64 w) [(D,some (L7 l (.bsl T 0 S.length) e (B3 (S.map D2.t) e.type e.id)))]:=by
 have hF:=fun id=>M3 l S T e.type e.id id (by omega);have hk1:e.kind≠1:=by omega
 have hk2:e.kind≠2:=by omega
 unfold J9 L7 eD at *;refine w195.b.1 fun E hP hR hl hid hB hu=>?_;simp[w195];have hD:=hl (D,_) (zb ..);simp only at hD;have D1:=lf hD;have hT:=hl (T,_) (za _ (zb ..));simp only at hT;have T1:=lf hT;have hc:=hl (c,_) (za _ (za _ (zb ..)));simp only at hc;have c1:=lf hc;have hTn:∀x∈S.map N8,A4 E.G0.used x:=A9 hB (za _ (zb ..));have hXn:∀x∈xs,A4 E.G0.used x:=A9 hB (za _ (za _ (zb ..)));(refine yC rfl (hF _) ?_; simp[D1,T1,c1,d1,d1.symm,d2,d2.symm,d3,d3.symm]);refine A0 (by simp[hk1]) ?_;simp[D1,T1,c1,d1,d1.symm,d2,d2.symm,d3,d3.symm];refine A0 (by simp[hk1]) ?_;simp[D1,T1,c1,d1,d1.symm,d2,d2.symm,d3,d3.symm];refine A0 (by simp[hk1]) ?_;simp[D1,T1,c1,d1,d1.symm,d2,d2.symm,d3,d3.symm];refine A0 (by simp[hfB]) ?_;simp[D1,T1,c1,d1,d1.symm,d2,d2.symm,d3,d3.symm];refine K3 hP (v:=.bool false) (rd:=[]) (by simp[D1,T1,c1,d1,d1.symm,d2,d2.symm,d3,d3.symm]) rfl (fun hc=>by simp[hk2] at hc) ?_;refine A6 4000 ?_;simp[D1,T1,c1,d1,d1.symm,d2,d2.symm,d3,d3.symm];refine A0 (by simp[hk2]) ?_;simp[D1,T1,c1,d1,d1.symm,d2,d2.symm,d3,d3.symm];(refine yC rfl (hCh _) ?_; simp[D1,T1,c1,d1,d1.symm,d2,d2.symm,d3,d3.symm]);refine yE hR [] (by simp[D1,T1,c1,d1,d1.symm,d2,d2.symm,d3,d3.symm,B2 hid]) fun hrn=>⟨?_,?_,?_,?_,?_,?_⟩<;>(try simp[D1,T1,c1,d1,d1.symm,d2,d2.symm,d3,d3.symm,B2 hid]);exact⟨by exact yO hu hTn,by exact yO hu hXn⟩
theorem B3z(l:List Ty)(S:List D2)(e:Ev)(i0:Int)(D T c:Nat)(id:Nat)(xs:List AV)(k:Nat)(a b io:AV)(hx:xs[k]?=some (.agg [a,b,io]))(n:Int)(t:List UInt8)(hk:3<=e.kind)(hfB:C3 (S.map D2.t) e.type e.id=true)(hS8:S.length<=1000)(d1:D≠T)(d2:D≠c)(d3:T≠c)
  (hCh:∀id,A2 Tryz.prog 263 [.ptr D 0 0] [(D,L7 l (.bsl T 0 S.length) e (B3 (S.map D2.t) e.type e.id)),(T,J9 S),(c,⟨xs,zC,false,false⟩)] id (.int .i64 0) [(c,some ⟨xs.set k (.agg [.int .i64 n,.str t,io]),zC,false,false⟩)]) :
  A2 Tryz.prog 195 [.ptr D 0 0] [(D,L7 l (.bsl T 0 S.length) e i0),(T,J9 S),(c,⟨xs,zC,false,false⟩)] id (.int .i64 0) [(D,some (L7 l (.bsl T 0 S.length) e (B3 (S.map D2.t) e.type e.id))),(c,some ⟨xs.set k (.agg [.int .i64 n,.str t,io]),zC,false,false⟩)]:=by
 have hF:=fun id=>M3 l S T e.type e.id id (by omega);have hk1:e.kind≠1:=by omega
 have hk2:e.kind≠2:=by omega
 unfold J9 L7 eD at *;refine w195.b.1 fun E hP hR hl hid hB hu=>?_;simp[w195];have hD:=hl (D,_) (zb ..);simp only at hD;have D1:=lf hD;have hT:=hl (T,_) (za _ (zb ..));simp only at hT;have T1:=lf hT;have hc:=hl (c,_) (za _ (za _ (zb ..)));simp only at hc;have c1:=lf hc;have hTn:∀x∈S.map N8,A4 E.G0.used x:=A9 hB (za _ (zb ..));have hXn:∀x∈xs,A4 E.G0.used x:=A9 hB (za _ (za _ (zb ..)));(refine yC rfl (hF _) ?_; simp[D1,T1,c1,d1,d1.symm,d2,d2.symm,d3,d3.symm]);refine A0 (by simp[hk1]) ?_;simp[D1,T1,c1,d1,d1.symm,d2,d2.symm,d3,d3.symm];refine A0 (by simp[hk1]) ?_;simp[D1,T1,c1,d1,d1.symm,d2,d2.symm,d3,d3.symm];refine A0 (by simp[hk1]) ?_;simp[D1,T1,c1,d1,d1.symm,d2,d2.symm,d3,d3.symm];refine A0 (by simp[hfB]) ?_;simp[D1,T1,c1,d1,d1.symm,d2,d2.symm,d3,d3.symm];refine K3 hP (v:=.bool false) (rd:=[]) (by simp[D1,T1,c1,d1,d1.symm,d2,d2.symm,d3,d3.symm]) rfl (fun hc=>by simp[hk2] at hc) ?_;refine A6 4000 ?_;simp[D1,T1,c1,d1,d1.symm,d2,d2.symm,d3,d3.symm];refine A0 (by simp[hk2]) ?_;simp[D1,T1,c1,d1,d1.symm,d2,d2.symm,d3,d3.symm];(refine yC rfl (hCh _) ?_; simp[D1,T1,c1,d1,d1.symm,d2,d2.symm,d3,d3.symm]);refine yE hR [] (by simp[D1,T1,c1,d1,d1.symm,d2,d2.symm,d3,d3.symm,B2 hid]) fun hrn=>⟨?_,?_,?_,?_,?_,?_⟩<;>(try simp[D1,T1,c1,d1,d1.symm,d2,d2.symm,d3,d3.symm,B2 hid]);have hio:A4 E.G0.used io:=by have:=hXn _ (zf hx); simp[A4,D9] at this; exact this.2.2
 refine⟨by exact yO hu hTn,E9 (A0W hu (by simp[A4,D9]; exact hio) fun z h1 h2=>rfl) k (by exact yO hu hXn)⟩
theorem B40(l:List Ty)(S:List D2)(e:Ev)(i0:Int)(D T c:Nat)(id:Nat)(xs:List AV)(k:Nat)(n:Int)(t:List UInt8)(ys:List Int)(hk:3<=e.kind)(hfB:C3 (S.map D2.t) e.type e.id=true)(hS8:S.length<=1000)(d1:D≠T)(d2:D≠c)(d3:T≠c)
  (hCh:∀id,A2 Tryz.prog 263 [.ptr D 0 0] [(D,L7 l (.bsl T 0 S.length) e (B3 (S.map D2.t) e.type e.id)),(T,J9 S),(c,⟨xs,zC,false,false⟩)] id (.int .i64 0) [(c,some ⟨xs.set k (.agg [.int .i64 n,.str t,.bsl id 0 ys.length]),zC,false,false⟩),(id,some ⟨ys.map eI,.int .i64 0,false,false⟩)]) :
  A2 Tryz.prog 195 [.ptr D 0 0] [(D,L7 l (.bsl T 0 S.length) e i0),(T,J9 S),(c,⟨xs,zC,false,false⟩)] id (.int .i64 0) [(D,some (L7 l (.bsl T 0 S.length) e (B3 (S.map D2.t) e.type e.id))),(c,some ⟨xs.set k (.agg [.int .i64 n,.str t,.bsl id 0 ys.length]),zC,false,false⟩),(id,some ⟨ys.map eI,.int .i64 0,false,false⟩)]:=by
 have hF:=fun id=>M3 l S T e.type e.id id (by omega);have hk1:e.kind≠1:=by omega
 have hk2:e.kind≠2:=by omega
 unfold J9 L7 eD at *;refine w195.b.1 fun E hP hR hl hid hB hu=>?_;simp[w195];have hD:=hl (D,_) (zb ..);simp only at hD;have D1:=lf hD;have hT:=hl (T,_) (za _ (zb ..));simp only at hT;have T1:=lf hT;have hc:=hl (c,_) (za _ (za _ (zb ..)));simp only at hc;have c1:=lf hc;have hTn:∀x∈S.map N8,A4 E.G0.used x:=A9 hB (za _ (zb ..));have hXn:∀x∈xs,A4 E.G0.used x:=A9 hB (za _ (za _ (zb ..)));(refine yC rfl (hF _) ?_; simp[D1,T1,c1,d1,d1.symm,d2,d2.symm,d3,d3.symm]);refine A0 (by simp[hk1]) ?_;simp[D1,T1,c1,d1,d1.symm,d2,d2.symm,d3,d3.symm];refine A0 (by simp[hk1]) ?_;simp[D1,T1,c1,d1,d1.symm,d2,d2.symm,d3,d3.symm];refine A0 (by simp[hk1]) ?_;simp[D1,T1,c1,d1,d1.symm,d2,d2.symm,d3,d3.symm];refine A0 (by simp[hfB]) ?_;simp[D1,T1,c1,d1,d1.symm,d2,d2.symm,d3,d3.symm];refine K3 hP (v:=.bool false) (rd:=[]) (by simp[D1,T1,c1,d1,d1.symm,d2,d2.symm,d3,d3.symm]) rfl (fun hc=>by simp[hk2] at hc) ?_;refine A6 4000 ?_;simp[D1,T1,c1,d1,d1.symm,d2,d2.symm,d3,d3.symm];refine A0 (by simp[hk2]) ?_;simp[D1,T1,c1,d1,d1.symm,d2,d2.symm,d3,d3.symm];(refine yC rfl (hCh _) ?_; simp[D1,T1,c1,d1,d1.symm,d2,d2.symm,d3,d3.symm]);refine yE hR [(id,E.n0+82944)] (by simp[D1,T1,c1,d1,d1.symm,d2,d2.symm,d3,d3.symm,B2 hid]) fun hrn=>⟨?_,?_,?_,?_,?_,?_⟩<;>(try simp[D1,T1,c1,d1,d1.symm,d2,d2.symm,d3,d3.symm,B2 hid]);exact⟨by exact yO hu hTn,E9 (by simp[B2 hid]) k (by exact yO hu hXn)⟩
theorem B41(l:List Ty)(S:List D2)(e:Ev)(i0:Int)(D T c:Nat)(id:Nat)(xs:List AV)(k:Nat)(n:Int)(t:List UInt8)(ys:List Int)(I:Nat)(BI:List Int)(d4:D≠I)(d5:T≠I)(d6:c≠I)(hk:3<=e.kind)(hfB:C3 (S.map D2.t) e.type e.id=true)(hS8:S.length<=1000)(d1:D≠T)(d2:D≠c)(d3:T≠c)
  (hCh:∀id,A2 Tryz.prog 263 [.ptr D 0 0] [(D,L7 l (.bsl T 0 S.length) e (B3 (S.map D2.t) e.type e.id)),(T,J9 S),(c,⟨xs,zC,false,false⟩),(I,⟨BI.map eI,.int .i64 0,false,false⟩)] id (.int .i64 0) [(I,none),(c,some ⟨xs.set k (.agg [.int .i64 n,.str t,.bsl id 0 ys.length]),zC,false,false⟩),(id,some ⟨ys.map eI,.int .i64 0,false,false⟩)]) :
  A2 Tryz.prog 195 [.ptr D 0 0] [(D,L7 l (.bsl T 0 S.length) e i0),(T,J9 S),(c,⟨xs,zC,false,false⟩),(I,⟨BI.map eI,.int .i64 0,false,false⟩)] id (.int .i64 0) [(D,some (L7 l (.bsl T 0 S.length) e (B3 (S.map D2.t) e.type e.id))),(I,none),(c,some ⟨xs.set k (.agg [.int .i64 n,.str t,.bsl id 0 ys.length]),zC,false,false⟩),(id,some ⟨ys.map eI,.int .i64 0,false,false⟩)]:=by
 have hF:=fun id=>M3 l S T e.type e.id id (by omega);have hk1:e.kind≠1:=by omega
 have hk2:e.kind≠2:=by omega
 unfold J9 L7 eD at *;refine w195.b.1 fun E hP hR hl hid hB hu=>?_;simp[w195];have hD:=hl (D,_) (zb ..);simp only at hD;have D1:=lf hD;have hT:=hl (T,_) (za _ (zb ..));simp only at hT;have T1:=lf hT;have hc:=hl (c,_) (za _ (za _ (zb ..)));simp only at hc;have c1:=lf hc;have hI:=hl (I,_) (za _ (za _ (za _ (zb ..))));simp only at hI;have I1:=lf hI;have hTn:∀x∈S.map N8,A4 E.G0.used x:=A9 hB (za _ (zb ..));have hXn:∀x∈xs,A4 E.G0.used x:=A9 hB (za _ (za _ (zb ..)));(refine yC rfl (hF _) ?_; simp[D1,T1,c1,d1,d1.symm,d2,d2.symm,d3,d3.symm,I1,d4,d4.symm,d5,d5.symm,d6,d6.symm]);refine A0 (by simp[hk1]) ?_;simp[D1,T1,c1,d1,d1.symm,d2,d2.symm,d3,d3.symm,I1,d4,d4.symm,d5,d5.symm,d6,d6.symm];refine A0 (by simp[hk1]) ?_;simp[D1,T1,c1,d1,d1.symm,d2,d2.symm,d3,d3.symm,I1,d4,d4.symm,d5,d5.symm,d6,d6.symm];refine A0 (by simp[hk1]) ?_;simp[D1,T1,c1,d1,d1.symm,d2,d2.symm,d3,d3.symm,I1,d4,d4.symm,d5,d5.symm,d6,d6.symm];refine A0 (by simp[hfB]) ?_;simp[D1,T1,c1,d1,d1.symm,d2,d2.symm,d3,d3.symm,I1,d4,d4.symm,d5,d5.symm,d6,d6.symm];refine K3 hP (v:=.bool false) (rd:=[]) (by simp[D1,T1,c1,d1,d1.symm,d2,d2.symm,d3,d3.symm,I1,d4,d4.symm,d5,d5.symm,d6,d6.symm]) rfl (fun hc=>by simp[hk2] at hc) ?_;refine A6 4000 ?_;simp[D1,T1,c1,d1,d1.symm,d2,d2.symm,d3,d3.symm,I1,d4,d4.symm,d5,d5.symm,d6,d6.symm];refine A0 (by simp[hk2]) ?_;simp[D1,T1,c1,d1,d1.symm,d2,d2.symm,d3,d3.symm,I1,d4,d4.symm,d5,d5.symm,d6,d6.symm];(refine yC rfl (hCh _) ?_; simp[D1,T1,c1,d1,d1.symm,d2,d2.symm,d3,d3.symm,I1,d4,d4.symm,d5,d5.symm,d6,d6.symm]);refine yE hR [(id,E.n0+82944)] (by simp[D1,T1,c1,d1,d1.symm,d2,d2.symm,d3,d3.symm,I1,d4,d4.symm,d5,d5.symm,d6,d6.symm,B2 hid]) fun hrn=>⟨?_,?_,?_,?_,?_,?_⟩<;>(try simp[D1,T1,c1,d1,d1.symm,d2,d2.symm,d3,d3.symm,I1,d4,d4.symm,d5,d5.symm,d6,d6.symm,B2 hid]);exact⟨by exact yO hu hTn,E9 (by simp[B2 hid]) k (by exact yO hu hXn)⟩
theorem B2N(l:List Ty)(S:List D2)(e:Ev)(T:Nat)(id:Nat)(k n:Nat)(m:Int)(hl8:l.length<=1000)(hf0:Q2 e=0)(h0:0<=e.type)(h1:e.type<=(l.length:Int) - 1)(h2:1<=e.id)(h3:e.id<=999)
  (hDo:∀D id,(∀q∈[(T,J9 S)],q.1≠D)->A2 Tryz.prog 195 [.ptr D 0 0] ((D,L7 l (.bsl T 0 S.length) e 0)::[(T,J9 S)]) id (.int .i64 0) ((D,some (L7 l (.bsl id 0 (S.length+1)) e m))::[(T,none),(id,some ⟨(S.map N8).take k++.agg [.int .i64 e.type,.int .i64 e.id,.bsl (id+1) 0 n]::(S.map N8).drop k,zT,false,false⟩),(id+1,some ⟨List.replicate n zC,zC,false,false⟩)])) :
  A2 Tryz.prog 126 [.agg [.sl (l.map H6),.bsl T 0 S.length],N5 e] [(T,J9 S)] id (.tup [.agg [.sl (l.map H6),(.bsl id 0 (S.length+1))],.int .i64 0]) ([(T,none),(id,some ⟨(S.map N8).take k++.agg [.int .i64 e.type,.int .i64 e.id,.bsl (id+1) 0 n]::(S.map N8).drop k,zT,false,false⟩),(id+1,some ⟨List.replicate n zC,zC,false,false⟩)]):=by
 have hFm:=fun id=>S9 e id;have hw1:IntKind.i64.wrap ((l.length:Int) - 1)=(l.length:Int) - 1:=wrap64 (by omega);replace hDo:=fun D id hne=>(hDo D id hne).setD ⟨[eD l (.bsl T 0 S.length) e 0],eD l (.bsl T 0 S.length) e 0,false,false⟩ rfl rfl rfl rfl hne;unfold J9 L7 eD N5 at *;refine w126.b.1 fun E hP hR hl hid hB hu=>?_;simp[w126,C4];have hT:=hl (T,_) (zb ..);simp only at hT;have T1:=lf hT;have hTn:∀x∈S.map N8,A4 E.G0.used x:=A9 hB (zb ..);(refine yC rfl (hFm _) ?_; simp[T1]);refine A0 (by simp[hf0]) ?_;simp[T1];rw[hw1];(refine C6 hP rfl (C5 _ _ _ _) (by simp[T1]) (by simp[T1]<;>rfl) ?_; refine A6 4000 ?_; simp[T1]);refine A0 (by simp; omega) ?_;simp[T1];(refine C6 hP rfl (C5 _ _ _ _) (by simp[T1]) (by simp[T1]<;>rfl) ?_; refine A6 4000 ?_; simp[T1]);refine A0 (by simp; omega) ?_;simp[T1];refine A0 (by simp[hf0]) ?_;simp[T1];(refine C6 hP rfl (hDo _ _ (by exact fun q hq=>by have:=(hl q hq).1; omega)) (by simp[T1]) (by simp[T1]<;>rfl) ?_; refine A6 4000 ?_; simp[T1]);have hlk:∀z,z<E.n0->(z<id\/id+1024<=z)->Y3 [(id,E.n0+32768),(id+1,E.n0+32769)] z=none:=fun z h1 h2=>by
  have a1:z≠id:=by omega
  have a2:z≠id+1:=by omega
  simp[Y3,a1,a2]
 have hp0:∀R S,K2 R S (List.replicate n zC) (List.replicate n zC):=fun R S=>F7 rfl (A3I fun i x hx=>by rw[vn] at hx; split at hx<;>simp at hx; subst hx; rfl);have hrn:I0 [(id,E.n0+32768),(id+1,E.n0+32768+1)]:=by simp[hp0,A2F hT.2,A0w hT.2,yx,T1,B2 hid,A2E hid,A0v hid,x6 hid,x7 hid,c9 hid]
 rw[hR];refine H2 (by simp<;>rfl) [(id,E.n0+32768),(id+1,E.n0+32768+1)] hrn ⟨?_,?_,?_,?_,?_,?_⟩<;>(try simp[hp0,A2F hT.2,A0w hT.2,yx,T1,B2 hid,A2E hid,A0v hid,x6 hid,x7 hid,c9 hid]);exact S8 (Q1 hu hlk fun x hx=>hTn x (wc hx)) (.cons _ _ _ _ (by simp[B2 hid,A2E hid,A0v hid,x6 hid,x7 hid,c9 hid]) (Q1 hu hlk fun x hx=>hTn x (xh hx)))
theorem B2O(l:List Ty)(S:List D2)(e:Ev)(T:Nat)(id:Nat)(c:Nat)(xs:List AV)(k:Nat)(a b io:AV)(hx:xs[k]?=some (.agg [a,b,io]))(n:Int)(t:List UInt8)(d3:T≠c)(m:Int)(hl8:l.length<=1000)(hf0:Q2 e=0)(h0:0<=e.type)(h1:e.type<=(l.length:Int) - 1)(h2:1<=e.id)(h3:e.id<=999)
  (hDo:∀D id,(∀q∈[(T,J9 S),(c,⟨xs,zC,false,false⟩)],q.1≠D)->A2 Tryz.prog 195 [.ptr D 0 0] ((D,L7 l (.bsl T 0 S.length) e 0)::[(T,J9 S),(c,⟨xs,zC,false,false⟩)]) id (.int .i64 0) ((D,some (L7 l (.bsl T 0 S.length) e m))::[(c,some ⟨xs.set k (.agg [.int .i64 n,.str t,io]),zC,false,false⟩)])) :
  A2 Tryz.prog 126 [.agg [.sl (l.map H6),.bsl T 0 S.length],N5 e] [(T,J9 S),(c,⟨xs,zC,false,false⟩)] id (.tup [.agg [.sl (l.map H6),(.bsl T 0 S.length)],.int .i64 0]) ([(c,some ⟨xs.set k (.agg [.int .i64 n,.str t,io]),zC,false,false⟩)]):=by
 have hFm:=fun id=>S9 e id;have hw1:IntKind.i64.wrap ((l.length:Int) - 1)=(l.length:Int) - 1:=wrap64 (by omega);replace hDo:=fun D id hne=>(hDo D id hne).setD ⟨[eD l (.bsl T 0 S.length) e 0],eD l (.bsl T 0 S.length) e 0,false,false⟩ rfl rfl rfl rfl hne;unfold J9 L7 eD N5 at *;refine w126.b.1 fun E hP hR hl hid hB hu=>?_;simp[w126,C4];have hT:=hl (T,_) (zb ..);simp only at hT;have T1:=lf hT;have hTn:∀x∈S.map N8,A4 E.G0.used x:=A9 hB (zb ..);have hc:=hl (c,_) (za _ (zb ..));simp only at hc;have c1:=lf hc;have hXn:∀x∈xs,A4 E.G0.used x:=A9 hB (za _ (zb ..));(refine yC rfl (hFm _) ?_; simp[T1,c1,d3,d3.symm]);refine A0 (by simp[hf0]) ?_;simp[T1,c1,d3,d3.symm];rw[hw1];(refine C6 hP rfl (C5 _ _ _ _) (by simp[T1,c1,d3,d3.symm]) (by simp[T1,c1,d3,d3.symm]<;>rfl) ?_; refine A6 4000 ?_; simp[T1,c1,d3,d3.symm]);refine A0 (by simp; omega) ?_;simp[T1,c1,d3,d3.symm];(refine C6 hP rfl (C5 _ _ _ _) (by simp[T1,c1,d3,d3.symm]) (by simp[T1,c1,d3,d3.symm]<;>rfl) ?_; refine A6 4000 ?_; simp[T1,c1,d3,d3.symm]);refine A0 (by simp; omega) ?_;simp[T1,c1,d3,d3.symm];refine A0 (by simp[hf0]) ?_;simp[T1,c1,d3,d3.symm];(refine C6 hP rfl (hDo _ _ (by exact fun q hq=>by have:=(hl q hq).1; omega)) (by simp[T1,c1,d3,d3.symm]) (by simp[T1,c1,d3,d3.symm]<;>rfl) ?_; refine A6 4000 ?_; simp[T1,c1,d3,d3.symm]);refine yE hR [] (by simp[T1,c1,d3,d3.symm,B2 hid]) fun hrn=>⟨?_,?_,?_,?_,?_,?_⟩<;>(try simp[T1,c1,d3,d3.symm,B2 hid]);have hio:A4 E.G0.used io:=by have:=hXn _ (zf hx); simp[A4,D9] at this; exact this.2.2
 refine⟨by exact yO hu hTn,E9 (A0W hu (by simp[A4,D9]; exact hio) fun z h1 h2=>rfl) k (by exact yO hu hXn)⟩
theorem B2P(l:List Ty)(S:List D2)(e:Ev)(T:Nat)(id:Nat)(c:Nat)(xs:List AV)(k:Nat)(n:Int)(t:List UInt8)(ys:List Int)(d3:T≠c)(m:Int)(hl8:l.length<=1000)(hf0:Q2 e=0)(h0:0<=e.type)(h1:e.type<=(l.length:Int) - 1)(h2:1<=e.id)(h3:e.id<=999)
  (hDo:∀D id,(∀q∈[(T,J9 S),(c,⟨xs,zC,false,false⟩)],q.1≠D)->A2 Tryz.prog 195 [.ptr D 0 0] ((D,L7 l (.bsl T 0 S.length) e 0)::[(T,J9 S),(c,⟨xs,zC,false,false⟩)]) id (.int .i64 0) ((D,some (L7 l (.bsl T 0 S.length) e m))::[(c,some ⟨xs.set k (.agg [.int .i64 n,.str t,.bsl id 0 ys.length]),zC,false,false⟩),(id,some ⟨ys.map eI,.int .i64 0,false,false⟩)])) :
  A2 Tryz.prog 126 [.agg [.sl (l.map H6),.bsl T 0 S.length],N5 e] [(T,J9 S),(c,⟨xs,zC,false,false⟩)] id (.tup [.agg [.sl (l.map H6),(.bsl T 0 S.length)],.int .i64 0]) ([(c,some ⟨xs.set k (.agg [.int .i64 n,.str t,.bsl id 0 ys.length]),zC,false,false⟩),(id,some ⟨ys.map eI,.int .i64 0,false,false⟩)]):=by
 have hFm:=fun id=>S9 e id;have hw1:IntKind.i64.wrap ((l.length:Int) - 1)=(l.length:Int) - 1:=wrap64 (by omega);replace hDo:=fun D id hne=>(hDo D id hne).setD ⟨[eD l (.bsl T 0 S.length) e 0],eD l (.bsl T 0 S.length) e 0,false,false⟩ rfl rfl rfl rfl hne;unfold J9 L7 eD N5 at *;refine w126.b.1 fun E hP hR hl hid hB hu=>?_;simp[w126,C4];have hT:=hl (T,_) (zb ..);simp only at hT;have T1:=lf hT;have hTn:∀x∈S.map N8,A4 E.G0.used x:=A9 hB (zb ..);have hc:=hl (c,_) (za _ (zb ..));simp only at hc;have c1:=lf hc;have hXn:∀x∈xs,A4 E.G0.used x:=A9 hB (za _ (zb ..));(refine yC rfl (hFm _) ?_; simp[T1,c1,d3,d3.symm]);refine A0 (by simp[hf0]) ?_;simp[T1,c1,d3,d3.symm];rw[hw1];(refine C6 hP rfl (C5 _ _ _ _) (by simp[T1,c1,d3,d3.symm]) (by simp[T1,c1,d3,d3.symm]<;>rfl) ?_; refine A6 4000 ?_; simp[T1,c1,d3,d3.symm]);refine A0 (by simp; omega) ?_;simp[T1,c1,d3,d3.symm];(refine C6 hP rfl (C5 _ _ _ _) (by simp[T1,c1,d3,d3.symm]) (by simp[T1,c1,d3,d3.symm]<;>rfl) ?_; refine A6 4000 ?_; simp[T1,c1,d3,d3.symm]);refine A0 (by simp; omega) ?_;simp[T1,c1,d3,d3.symm];refine A0 (by simp[hf0]) ?_;simp[T1,c1,d3,d3.symm];(refine C6 hP rfl (hDo _ _ (by exact fun q hq=>by have:=(hl q hq).1; omega)) (by simp[T1,c1,d3,d3.symm]) (by simp[T1,c1,d3,d3.symm]<;>rfl) ?_; refine A6 4000 ?_; simp[T1,c1,d3,d3.symm]);refine yE hR [(id,E.n0+32768)] (by simp[T1,c1,d3,d3.symm,B2 hid]) fun hrn=>⟨?_,?_,?_,?_,?_,?_⟩<;>(try simp[T1,c1,d3,d3.symm,B2 hid]);exact⟨by exact yO hu hTn,E9 (by simp[B2 hid]) k (by exact yO hu hXn)⟩
theorem B2Q(l:List Ty)(S:List D2)(e:Ev)(T:Nat)(id:Nat)(c:Nat)(xs:List AV)(k:Nat)(n:Int)(t:List UInt8)(ys:List Int)(I:Nat)(BI:List Int)(d3:T≠c)(d5:T≠I)(d6:c≠I)(m:Int)(hl8:l.length<=1000)(hf0:Q2 e=0)(h0:0<=e.type)(h1:e.type<=(l.length:Int) - 1)(h2:1<=e.id)(h3:e.id<=999)
  (hDo:∀D id,(∀q∈[(T,J9 S),(c,⟨xs,zC,false,false⟩),(I,⟨BI.map eI,.int .i64 0,false,false⟩)],q.1≠D)->A2 Tryz.prog 195 [.ptr D 0 0] ((D,L7 l (.bsl T 0 S.length) e 0)::[(T,J9 S),(c,⟨xs,zC,false,false⟩),(I,⟨BI.map eI,.int .i64 0,false,false⟩)]) id (.int .i64 0) ((D,some (L7 l (.bsl T 0 S.length) e m))::[(I,none),(c,some ⟨xs.set k (.agg [.int .i64 n,.str t,.bsl id 0 ys.length]),zC,false,false⟩),(id,some ⟨ys.map eI,.int .i64 0,false,false⟩)])) :
  A2 Tryz.prog 126 [.agg [.sl (l.map H6),.bsl T 0 S.length],N5 e] [(T,J9 S),(c,⟨xs,zC,false,false⟩),(I,⟨BI.map eI,.int .i64 0,false,false⟩)] id (.tup [.agg [.sl (l.map H6),(.bsl T 0 S.length)],.int .i64 0]) ([(I,none),(c,some ⟨xs.set k (.agg [.int .i64 n,.str t,.bsl id 0 ys.length]),zC,false,false⟩),(id,some ⟨ys.map eI,.int .i64 0,false,false⟩)]):=by
 have hFm:=fun id=>S9 e id;have hw1:IntKind.i64.wrap ((l.length:Int) - 1)=(l.length:Int) - 1:=wrap64 (by omega);replace hDo:=fun D id hne=>(hDo D id hne).setD ⟨[eD l (.bsl T 0 S.length) e 0],eD l (.bsl T 0 S.length) e 0,false,false⟩ rfl rfl rfl rfl hne;unfold J9 L7 eD N5 at *;refine w126.b.1 fun E hP hR hl hid hB hu=>?_;simp[w126,C4];have hT:=hl (T,_) (zb ..);simp only at hT;have T1:=lf hT;have hTn:∀x∈S.map N8,A4 E.G0.used x:=A9 hB (zb ..);have hc:=hl (c,_) (za _ (zb ..));simp only at hc;have c1:=lf hc;have hXn:∀x∈xs,A4 E.G0.used x:=A9 hB (za _ (zb ..));have hI:=hl (I,_) (za _ (za _ (zb ..)));simp only at hI;have I1:=lf hI;(refine yC rfl (hFm _) ?_; simp[T1,c1,I1,d3,d3.symm,d5,d5.symm,d6,d6.symm]);refine A0 (by simp[hf0]) ?_;simp[T1,c1,I1,d3,d3.symm,d5,d5.symm,d6,d6.symm];rw[hw1];(refine C6 hP rfl (C5 _ _ _ _) (by simp[T1,c1,I1,d3,d3.symm,d5,d5.symm,d6,d6.symm]) (by simp[T1,c1,I1,d3,d3.symm,d5,d5.symm,d6,d6.symm]<;>rfl) ?_; refine A6 4000 ?_; simp[T1,c1,I1,d3,d3.symm,d5,d5.symm,d6,d6.symm]);refine A0 (by simp; omega) ?_;simp[T1,c1,I1,d3,d3.symm,d5,d5.symm,d6,d6.symm];(refine C6 hP rfl (C5 _ _ _ _) (by simp[T1,c1,I1,d3,d3.symm,d5,d5.symm,d6,d6.symm]) (by simp[T1,c1,I1,d3,d3.symm,d5,d5.symm,d6,d6.symm]<;>rfl) ?_; refine A6 4000 ?_; simp[T1,c1,I1,d3,d3.symm,d5,d5.symm,d6,d6.symm]);refine A0 (by simp; omega) ?_;simp[T1,c1,I1,d3,d3.symm,d5,d5.symm,d6,d6.symm];refine A0 (by simp[hf0]) ?_;simp[T1,c1,I1,d3,d3.symm,d5,d5.symm,d6,d6.symm];(refine C6 hP rfl (hDo _ _ (by exact fun q hq=>by have:=(hl q hq).1; omega)) (by simp[T1,c1,I1,d3,d3.symm,d5,d5.symm,d6,d6.symm]) (by simp[T1,c1,I1,d3,d3.symm,d5,d5.symm,d6,d6.symm]<;>rfl) ?_; refine A6 4000 ?_; simp[T1,c1,I1,d3,d3.symm,d5,d5.symm,d6,d6.symm]);refine yE hR [(id,E.n0+32768)] (by simp[T1,c1,I1,d3,d3.symm,d5,d5.symm,d6,d6.symm,B2 hid]) fun hrn=>⟨?_,?_,?_,?_,?_,?_⟩<;>(try simp[T1,c1,I1,d3,d3.symm,d5,d5.symm,d6,d6.symm,B2 hid]);exact⟨by exact yO hu hTn,E9 (by simp[B2 hid]) k (by exact yO hu hXn)⟩
theorem B2R(l:List Ty)(S:List D2)(e:Ev)(T:Nat)(id:Nat)(m w:Int)(rd:List (Nat×Bx))(hnd:(rd.map Prod.fst).Nodup)(hw:w≠0)(hl8:l.length<=1000)(hf0:Q2 e=0)(h0:0<=e.type)(h1:e.type<=(l.length:Int) - 1)(h2:1<=e.id)(h3:e.id<=999)
  (hDo:∀D id,(∀q∈rd,q.1≠D)->A2 Tryz.prog 195 [.ptr D 0 0] ((D,L7 l (.bsl T 0 S.length) e 0)::rd) id (.int .i64 w) [(D,some (L7 l (.bsl T 0 S.length) e m))]) :
  A2 Tryz.prog 126 [.agg [.sl (l.map H6),.bsl T 0 S.length],N5 e] rd id (.tup [eS0,.int .i64 w]) []:=by
 have hFm:=fun id=>S9 e id;have hw1:IntKind.i64.wrap ((l.length:Int) - 1)=(l.length:Int) - 1:=wrap64 (by omega);replace hDo:=fun D id hne=>(hDo D id hne).setD ⟨[eD l (.bsl T 0 S.length) e 0],eD l (.bsl T 0 S.length) e 0,false,false⟩ rfl rfl rfl rfl hne;unfold L7 eD N5 at *;refine w126.b.1 fun E hP hR hl hid hB hu=>?_;simp[w126,C4];(refine yH rfl (hFm _) ?_; simp);refine A0 (by simp[hf0]) ?_;simp;rw[hw1];(refine yH rfl (C5 _ _ _ _) ?_; simp);refine A0 (by simp; omega) ?_;simp;(refine yH rfl (C5 _ _ _ _) ?_; simp);refine A0 (by simp; omega) ?_;simp;refine A0 (by simp[hf0]) ?_;simp;have hnk:∀q∈rd,q.1≠E.n0+29696/\q.1≠E.n0+2048/\q.1≠E.n0+1024/\q.1≠E.n0:=fun q hq=>by
  have:=(hl q hq).1; omega
 refine C6 hP rfl (hDo (E.n0+29696) _ fun q hq=>(hnk q hq).1) (by simp) ⟨by simp,?_⟩ ?_
 ·refine A0x (pre:=[_,_,_,_]) hnd fun q hq p hp=>?_;simp only[zi,ym,or_false] at hp;obtain⟨n1,n2,n3,n4⟩:=hnk q hq;rcases hp with rfl|rfl|rfl|rfl<;>assumption
 refine A6 4000 ?_;simp;refine D5 (by simpa using hw) ?_;simp;rw[hR];have hrn:I0 []:=trivial;refine H2 (by simp<;>rfl) [] hrn ⟨?_,?_,?_,?_,?_,?_⟩
 ·simp[eS0]
 ·show A0J _ _ _ _ (rd.map (·.1)++[]);refine X8 (A0i hB hu (fun z _ _=>rfl) (fun z _=>rfl) fun q hq=>⟨hq,?_,?_⟩) ?_
  ·exact A9X hnd hq
  ·refine A09 (pre:=[_,_,_,_,_,_]) hnd hq fun p hp=>?_;simp only[zi,ym,or_false] at hp;obtain⟨n1,n2,n3,n4⟩:=hnk q hq;rcases hp with rfl|rfl|rfl|rfl|rfl|rfl<;>assumption
  ·simp
 ·show G6 _ _ ([_,_,_,_,_,_]++C4 rd);refine j6 (by simp) (T8 fun q hq=>M9.2 (yi.2 ⟨q,hq,rfl⟩))
 ·simp
 ·simp
 ·simp
theorem B2S(l:List Ty)(S:List D2)(e:Ev)(T:Nat)(id:Nat)(k:Nat)(m:Int)(rest:List (Nat×Bx))(hnd:(rest.map Prod.fst).Nodup)(dT:∀q∈rest,q.1≠T)(hl8:l.length<=1000)(hf0:Q2 e=0)(h0:0<=e.type)(h1:e.type<=(l.length:Int) - 1)(h2:1<=e.id)(h3:e.id<=999)
  (hDo:∀D id,(∀q∈(T,J9 S)::rest,q.1≠D)->A2 Tryz.prog 195 [.ptr D 0 0] ((D,L7 l (.bsl T 0 S.length) e 0)::(T,J9 S)::rest) id (.int .i64 0) [(D,some (L7 l (.bsl id 0 (S.length - 1)) e m)),(T,none),(id,some ⟨(S.map N8).take k++(S.map N8).drop (k+1),zT,false,false⟩)]) :
  A2 Tryz.prog 126 [.agg [.sl (l.map H6),.bsl T 0 S.length],N5 e] ((T,J9 S)::rest) id (.tup [.agg [.sl (l.map H6),.bsl id 0 (S.length - 1)],.int .i64 0]) [(T,none),(id,some ⟨(S.map N8).take k++(S.map N8).drop (k+1),zT,false,false⟩)]:=by
 have hFm:=fun id=>S9 e id;have hw1:IntKind.i64.wrap ((l.length:Int) - 1)=(l.length:Int) - 1:=wrap64 (by omega);replace hDo:=fun D id hne=>(hDo D id hne).setD ⟨[eD l (.bsl T 0 S.length) e 0],eD l (.bsl T 0 S.length) e 0,false,false⟩ rfl rfl rfl rfl hne;unfold J9 L7 eD N5 at *;refine w126.b.1 fun E hP hR hl hid hB hu=>?_;simp[w126,C4];have hT:=hl (T,_) (zb ..);simp only at hT;have T1:=lf hT;have hTn:∀x∈S.map N8,A4 E.G0.used x:=A9 hB (zb ..);(refine yC rfl (hFm _) ?_; simp[T1]);refine A0 (by simp[hf0]) ?_;simp[T1];rw[hw1];(refine C6 hP rfl (C5 _ _ _ _) (by simp[T1]) (by simp[T1]<;>rfl) ?_; refine A6 4000 ?_; simp[T1]);refine A0 (by simp; omega) ?_;simp[T1];(refine C6 hP rfl (C5 _ _ _ _) (by simp[T1]) (by simp[T1]<;>rfl) ?_; refine A6 4000 ?_; simp[T1]);refine A0 (by simp; omega) ?_;simp[T1];refine A0 (by simp[hf0]) ?_;simp[T1];have hnk:∀q∈rest,q.1≠E.n0+29696/\q.1≠E.n0+2048/\q.1≠E.n0+1024/\q.1≠E.n0/\q.1≠T/\q.1≠E.n0+32768/\q.1≠id:=fun q hq=>by
  have:=hl q (za _ hq);have h2:=dT q hq;omega
 refine C6 hP rfl (hDo (E.n0+29696) _ fun q hq=>by have:=(hl q hq).1; omega) (by simp) ⟨by simp,by simp[T1],?_⟩ ?_
 ·refine A0x (pre:=[_,_,_,_,_]) hnd fun q hq p hp=>?_;simp only[zi,ym,or_false] at hp;obtain⟨n1,n2,n3,n4,n5,n6,n7⟩:=hnk q hq;rcases hp with rfl|rfl|rfl|rfl|rfl<;>assumption
 refine A6 4000 ?_;simp[T1];rw[hR];have hrn:I0 [(id,E.n0+32768)]:=by simp
 have hlk:∀z,z<E.n0->(z<id\/id+1024<=z)->Y3 [(id,E.n0+32768)] z=none:=fun z h1 h2=>by
  have a1:z≠id:=by omega
  simp[Y3,a1]
 have hgn:∀z,z<E.n0->M6 [(id,E.n0+32768)] z=false:=fun z h1=>by
  have a1:z≠E.n0+32768:=by omega
  simp[M6,a1]
 refine H2 (by simp<;>rfl) [(id,E.n0+32768)] hrn ⟨?_,?_,?_,?_,?_,?_⟩
 ·simp[B2 hid]
 ·show A0J _ _ _ _ ([T]++(rest.map (·.1)++[T,id]));refine X8 ?_ (X8 (A0i hB hu hlk hgn fun q hq=>⟨za _ hq,?_,?_⟩) ?_)
  ·simp[C4,B2 hid,T1]
  ·simp only[D8];obtain⟨n1,n2,n3,n4,n5,n6,n7⟩:=hnk q hq;rw[A7 _ _ _ n7,A7 _ _ _ n5];refine A09 (pre:=[_]) hnd hq fun p hp=>?_;simp only[zi,ym,or_false] at hp;subst hp;exact n5
  ·refine A09 (pre:=[_,_,_,_,_,_,_,_,_]) hnd hq fun p hp=>?_;simp only[zi,ym,or_false] at hp;obtain⟨n1,n2,n3,n4,n5,n6,n7⟩:=hnk q hq;rcases hp with rfl|rfl|rfl|rfl|rfl|rfl|rfl|rfl|rfl<;>assumption
  ·simp[C4,B2 hid,T1];all_goals exact S8 (Q1 hu hlk fun x hx=>hTn x (wc hx)) (Q1 hu hlk fun x hx=>hTn x (xh hx))
 ·show G6 _ _ ([_,_,_,_,_,_,_,_,_]++C4 rest);refine j6 ?_ (T8 fun q hq=>M9.2 (yi.2 ⟨q,za _ hq,rfl⟩));simp[C4,T1]
 ·simp[C4]
 ·simp
 ·simp
def trB(T:Nat)(S:List D2):List (Nat×Bx):=(T,J9 S)::E8 S
def nmR(S:List D2):List Nat:=(E8 S).map Prod.fst
def p7(T:Nat)(S:List D2):List Nat:=T::nmR S
def nmO(o:D2):List Nat:=o.bxs.map Prod.fst
theorem B0b(T:Nat)(S:List D2):(trB T S).map Prod.fst=p7 T S:=rfl
theorem N4(A B:List D2):E8 (A++B)=E8 A++E8 B:=List.flatMap_append
theorem R7(o:D2)(B:List D2):E8 (o::B)=o.bxs++E8 B:=rfl
theorem p8(A B:List D2):nmR (A++B)=nmR A++nmR B:=by simp[nmR,N4]
theorem A1p(o:D2)(B:List D2):nmR (o::B)=nmO o++nmR B:=by simp[nmR,nmO,R7]
theorem A2N{q:Nat×Bx}{S:List D2}(h:q∈E8 S):q.1∈nmR S:=yi.2 ⟨q,h,rfl⟩
structure A2O(id T:Nat)(S:List D2)(wr:List (Nat×Option Bx))(T':Nat)(S':List D2):Prop where
 has:∀bx,G8 bx (trB T S)->G8 (D8 bx wr) (trB T' S')
 nd:(p7 T' S').Nodup
 nm:∀z∈p7 T' S',z∈p7 T S\/(id<=z/\z<id+1024)
 ok:∀o∈S',o.Ok
 kw:∀q∈wr,q.1∈p7 T S\/(id<=q.1/\q.1<id+1024)
theorem B0c(n:Nat)(c:Cl):X7 (List.replicate n c) (List.replicate n none)=[]:=by
 induction n with
 | zero=>rfl
 | succ n ih=>simp only[List.replicate_succ,X7,idB,ih]; rfl
def cl0:Cl:=⟨0,[],[]⟩
def A1q(e:Ev)(n id:Nat):D2:=⟨⟨e.type,e.id,List.replicate n cl0⟩,id+1,List.replicate n none⟩
theorem B2T(e:Ev)(n id:Nat):(A1q e n id).bxs=[(id+1,⟨List.replicate n zC,zC,false,false⟩)]:=by
 have h:List.zipWith H4 (List.replicate n cl0) (List.replicate n none)=List.replicate n zC:=by
  rw[List.zipWith_replicate,tq];rfl
 simp only[D2.bxs,A1q,B0c,cBn,h]
theorem B42(e:Ev)(n id:Nat):(A1q e n id).Ok:=⟨by simp[A1q],fun k c h1 h2=>by
 simp only[A1q,vn] at h1;split at h1
 ·injection h1 with h1; subst h1; rfl
 ·cases h1⟩
theorem B0d{id T:Nat}{A B:List D2}(e:Ev)(n:Nat)(hnd:(p7 T (A++B)).Nodup)(hfr:∀z∈p7 T (A++B),z<id\/id+1024<=z)(hok:∀o∈A++B,o.Ok):
  A2O id T (A++B) [(T,none),(id,some (J9 (A++A1q e n id::B))),(id+1,some ⟨List.replicate n zC,zC,false,false⟩)] id (A++A1q e n id::B):=by
 have hr:E8 (A++A1q e n id::B)=E8 A++((id+1,⟨List.replicate n zC,zC,false,false⟩)::E8 B):=by rw[N4,R7,B2T]; rfl
 have hn:nmR (A++A1q e n id::B)=nmR A++(id+1)::nmR B:=by simp[nmR,hr]
 have hT:=hfr T (zb ..);have hAB:∀z∈nmR A++nmR B,(z<id\/id+1024<=z)/\z≠T:=fun z hz=>by
  rw[←p8] at hz;exact⟨hfr z (za _ hz),fun e=>by rw[p7,yw] at hnd; exact hnd.1 (e▸hz)⟩
 refine⟨fun bx hb q hq=>?_,?_,fun z hz=>?_,fun o ho=>?_,fun q hq=>?_⟩
 ·simp only[D8];rcases zi.1 hq with rfl|hq
  ·rw[A7 _ _ _ (by simp only; omega),B5]
  ·rw[hr] at hq;have key:q∈E8 (A++B)->P9 (P9 (P9 bx T none) id (some (J9 (A++A1q e n id::B)))) (id+1) (some ⟨List.replicate n zC,zC,false,false⟩) q.1=some q.2:=fun hq=>by
    have:=hAB q.1 (by rw[←p8]; exact A2N hq);rw[A7 _ _ _ (by omega),A7 _ _ _ (by omega),A7 _ _ _ this.2];exact hb q (za _ hq)
   rcases zo.1 hq with hq|hq
   ·exact key (by rw[N4]; exact yn _ hq)
   ·rcases zi.1 hq with rfl|hq
    ·rw[B5]
    ·exact key (by rw[N4]; exact zx _ hq)
 ·rw[p7,yw,hn];rw[p7,p8,yw,xj] at hnd;obtain⟨h0,h1,h2,h3⟩:=hnd;refine⟨fun hm=>?_,xj.2 ⟨h1,yw.2 ⟨fun hm=>?_,h2⟩,fun a ha b hb=>?_⟩⟩
  ·rcases zo.1 hm with hm|hm
   ·have:=hAB id (yn _ hm); omega
   ·rcases zi.1 hm with hm|hm
    ·omega
    ·have:=hAB id (zx _ hm); omega
  ·have:=hAB (id+1) (zx _ hm); omega
  ·rcases zi.1 hb with rfl|hb
   ·have:=hAB a (yn _ ha); omega
   ·exact h3 a ha b hb
 ·rcases zi.1 hz with rfl|hz
  ·exact .inr ⟨yg _,by omega⟩
  ·rw[hn] at hz;rcases zo.1 hz with hz|hz
   ·exact .inl (za _ (by rw[p8]; exact yn _ hz))
   ·rcases zi.1 hz with rfl|hz
    ·exact .inr ⟨by omega,by omega⟩
    ·exact .inl (za _ (by rw[p8]; exact zx _ hz))
 ·rcases zo.1 ho with ho|ho
  ·exact hok o (yn _ ho)
  ·rcases zi.1 ho with rfl|ho
   ·exact B42 e n id
   ·exact hok o (zx _ ho)
 ·simp only[zi,ym,or_false] at hq;rcases hq with rfl|rfl|rfl
  ·exact .inl (zb ..)
  ·exact .inr ⟨yg _,by simp only; omega⟩
  ·exact .inr ⟨by simp only; omega,by simp only; omega⟩
theorem B0e{id T:Nat}{A B:List D2}{o:D2}(hnd:(p7 T (A++o::B)).Nodup)(hfr:∀z∈p7 T (A++o::B),z<id\/id+1024<=z)(hok:∀x∈A++o::B,x.Ok):
  A2O id T (A++o::B) [(T,none),(id,some (J9 (A++B)))] id (A++B):=by
 have hT:=hfr T (zb ..);have hsub:∀q∈E8 (A++B),q∈E8 (A++o::B):=fun q hq=>by
  rw[N4] at hq;rw[N4,R7];rcases zo.1 hq with h|h
  ·exact yn _ h
  ·exact zx _ (zx _ h)
 have hsubn:∀z∈nmR (A++B),z∈nmR (A++o::B):=fun z hz=>by
  obtain⟨q,hq,rfl⟩:=yi.1 hz;exact A2N (hsub q hq)
 have hAB:∀z∈nmR (A++B),(z<id\/id+1024<=z)/\z≠T:=fun z hz =>
  ⟨hfr z (za _ (hsubn z hz)),fun e=>by rw[p7,yw] at hnd; exact hnd.1 (e▸hsubn z hz)⟩
 refine⟨fun bx hb q hq=>?_,?_,fun z hz=>?_,fun x ho=>?_,fun q hq=>?_⟩
 ·simp only[D8];rcases zi.1 hq with rfl|hq
  ·rw[B5]
  ·have:=hAB q.1 (A2N hq);rw[A7 _ _ _ (by omega),A7 _ _ _ this.2];exact hb q (za _ (hsub q hq))
 ·rw[p7,yw];refine⟨fun hm=>by have:=hAB id hm; omega,?_⟩;rw[p7,p8,A1p,yw,xj,xj] at hnd;obtain⟨h0,h1,⟨h4,h5,h6⟩,h3⟩:=hnd;rw[p8];exact xj.2 ⟨h1,h5,fun a ha b hb=>h3 a ha b (zx _ hb)⟩
 ·rcases zi.1 hz with rfl|hz
  ·exact .inr ⟨yg _,by omega⟩
  ·exact .inl (za _ (hsubn z hz))
 ·rcases zo.1 ho with ho|ho
  ·exact hok x (yn _ ho)
  ·exact hok x (zx _ (za _ ho))
 ·simp only[zi,ym,or_false] at hq;rcases hq with rfl|rfl
  ·exact .inl (zb ..)
  ·exact .inr ⟨yg _,by simp only; omega⟩
theorem B0f{id T:Nat}{A B:List D2}{o o':D2}{X:List (Nat×Bx)}(ho:o.bxs=(o.c,cBn o)::X)(ho':o'.bxs=(o.c,cBn o')::X)(he:N8 o'=N8 o)(hok':o'.Ok)(hnd:(p7 T (A++o::B)).Nodup)(hok:∀x∈A++o::B,x.Ok):
  A2O id T (A++o::B) [(o.c,some (cBn o'))] T (A++o'::B):=by
 have hr:E8 (A++o::B)=E8 A++((o.c,cBn o)::X++E8 B):=by rw[N4,R7,ho]
 have hr':E8 (A++o'::B)=E8 A++((o.c,cBn o')::X++E8 B):=by rw[N4,R7,ho']
 have hn:p7 T (A++o'::B)=p7 T (A++o::B):=by simp only[p7,nmR,hr,hr']; simp
 have ht:J9 (A++o'::B)=J9 (A++o::B):=by simp[J9,he]
 have hnd':=hnd;rw[p7,nmR,hr] at hnd';simp only[xu,yd,yw,xj,zo,zi,yo] at hnd';obtain⟨h0,h1,⟨h2,h3,h4,h5⟩,h6⟩:=hnd';refine⟨fun bx hb q hq=>?_,by rw[hn]; exact hnd,fun z hz=>.inl (by rw[←hn]; exact hz),fun x hx=>?_,fun q hq=>?_⟩
 ·simp only[D8];have key:q∈trB T (A++o::B)->q.1≠o.c->P9 bx o.c (some (cBn o')) q.1=some q.2:=fun h1 h2=>by
   rw[A7 _ _ _ h2]; exact hb q h1
  rcases zi.1 hq with rfl|hq
  ·exact key (by rw[ht]; exact zb ..) (fun e=>h0 (.inr (.inl e)))
  ·rw[hr'] at hq;rcases zo.1 hq with hq|hq
   ·refine key (za _ (by rw[hr]; exact yn _ hq)) fun e=>h6 q.1 (yi.2 ⟨q,hq,rfl⟩) o.c (.inl rfl) e
   ·rcases zo.1 hq with hq|hq
    ·rcases zi.1 hq with rfl|hq
     ·exact B5 ..
     ·exact key (za _ (by rw[hr]; exact zx _ (yn _ (za _ hq)))) fun e=>h2 (.inl (e▸yi.2 ⟨q,hq,rfl⟩))
    ·exact key (za _ (by rw[hr]; exact zx _ (zx _ hq))) fun e=>h2 (.inr (e▸yi.2 ⟨q,hq,rfl⟩))
 ·rcases zo.1 hx with hx|hx
  ·exact hok x (yn _ hx)
  ·rcases zi.1 hx with rfl|hx
   ·exact hok'
   ·exact hok x (zx _ (za _ hx))
 ·simp only[zi,ym,or_false] at hq;subst hq;exact .inl (by simp[p7,nmR,hr])
theorem B0g{id T:Nat}{A B:List D2}{o o':D2}{X I Y:List (Nat×Bx)}{b:Bx}{pre:List (Nat×Option Bx)}(ho:o.bxs=(o.c,cBn o)::(X++(I++Y)))(ho':o'.bxs=(o.c,cBn o')::(X++((id,b)::Y)))(hpre:∀p∈pre,p.1∈I.map Prod.fst)(he:N8 o'=N8 o)(hok':o'.Ok)
  (hnd:(p7 T (A++o::B)).Nodup) (hfr:∀z∈p7 T (A++o::B),z<id\/id+1024<=z) (hok:∀x∈A++o::B,x.Ok) :
  A2O id T (A++o::B) (pre++[(o.c,some (cBn o')),(id,some b)]) T (A++o'::B):=by
 have hr:E8 (A++o::B)=E8 A++((o.c,cBn o)::(X++(I++Y))++E8 B):=by rw[N4,R7,ho]
 have hr':E8 (A++o'::B)=E8 A++((o.c,cBn o')::(X++((id,b)::Y))++E8 B):=by rw[N4,R7,ho']
 have ht:J9 (A++o'::B)=J9 (A++o::B):=by simp[J9,he]
 have hnd':=hnd;rw[p7,nmR,hr] at hnd';simp only[xu,yd,yw,xj,zo,zi,yo] at hnd';obtain⟨h0,h1,⟨h2,⟨h7,⟨h8,h9,h10⟩,h11⟩,h4,h5⟩,h6⟩:=hnd';have hmem:∀z,z∈p7 T (A++o::B)↔z=T\/z∈(E8 A).map Prod.fst\/z=o.c\/z∈X.map Prod.fst\/z∈I.map Prod.fst\/z∈Y.map Prod.fst\/z∈(E8 B).map Prod.fst:=fun z=>by
  simp only[p7,nmR,hr,xu,yd,zo,zi,yo,or_assoc]
 have hmem':∀z,z∈p7 T (A++o'::B)↔z=T\/z∈(E8 A).map Prod.fst\/z=o.c\/z∈X.map Prod.fst\/z=id\/z∈Y.map Prod.fst\/z∈(E8 B).map Prod.fst:=fun z=>by
  simp only[p7,nmR,hr',xu,yd,zo,zi,yo,or_assoc]
 have hout:∀(bx:Nat->Option Bx) z,z∉I.map Prod.fst->z≠o.c->z≠id->D8 bx (pre++[(o.c,some (cBn o')),(id,some b)]) z=bx z:=fun bx z h1 h2 h3=>by
  rw[R8];simp only[D8];rw[A7 _ _ _ h3,A7 _ _ _ h2];exact K9 (fun h=>by
   obtain⟨p,hp,rfl⟩:=yi.1 h;exact h1 (hpre p hp))
 have hc:o.c<id\/id+1024<=o.c:=hfr _ ((hmem _).2 (.inr (.inr (.inl rfl))));refine⟨fun bx hb q hq=>?_,?_,fun z hz=>?_,fun x hx=>?_,fun q hq=>?_⟩
 ·have key:q∈trB T (A++o::B)->q.1∉I.map Prod.fst->q.1≠o.c->D8 bx (pre++[(o.c,some (cBn o')),(id,some b)]) q.1=some q.2:=fun g1 g2 g3=>by
   have:q.1<id\/id+1024<=q.1:=hfr q.1 (yi.2 ⟨q,g1,rfl⟩);rw[hout _ _ g2 g3 (by omega)]; exact hb q g1
  rcases zi.1 hq with rfl|hq
  ·exact key (by rw[ht]; exact zb ..) (fun e=>h0 (.inr (.inr (.inl (.inr (.inl e)))))) (fun e=>h0 (.inr (.inl e)))
  ·rw[hr'] at hq;rcases zo.1 hq with hq|hq
   ·have hm:=vd (f:=Prod.fst) hq;exact key (za _ (by rw[hr]; exact yn _ hq)) (fun e=>h6 q.1 hm q.1 (.inr (.inl (.inr (.inl e)))) rfl) (fun e=>h6 q.1 hm o.c (.inl rfl) e)
   ·rcases zo.1 hq with hq|hq
    ·rcases zi.1 hq with rfl|hq
     ·rw[R8];simp only[D8];rw[A7 _ _ _ (by omega),B5]
     ·rcases zo.1 hq with hq|hq
      ·have hm:=vd (f:=Prod.fst) hq;exact key (za _ (by rw[hr]; exact zx _ (yn _ (za _ (yn _ hq))))) (fun e=>h11 q.1 hm q.1 (.inl e) rfl) (fun e=>h2 (.inl (.inl (e▸hm))))
      ·rcases zi.1 hq with rfl|hq
       ·rw[R8];simp only[D8];rw[B5]
       ·have hm:=vd (f:=Prod.fst) hq;exact key (za _ (by rw[hr]; exact zx _ (yn _ (za _ (zx _ (zx _ hq)))))) (fun e=>h10 q.1 e q.1 hm rfl) (fun e=>h2 (.inl (.inr (.inr (e▸hm)))))
    ·have hm:=vd (f:=Prod.fst) hq;exact key (za _ (by rw[hr]; exact zx _ (zx _ hq))) (fun e=>h5 q.1 (.inr (.inl e)) q.1 hm rfl) (fun e=>h2 (.inr (e▸hm)))
 ·rw[p7,nmR,hr'];simp only[xu,yd,yw,xj,zo,zi,yo];have fr:∀z,z∈p7 T (A++o::B)->z≠id:=fun z hz=>by have:=hfr z hz; omega
  refine⟨fun h=>?_,h1,⟨fun h=>?_,⟨h7,⟨fun h=>?_,h9⟩,fun a ha b hb=>?_⟩,h4,fun a ha b hb=>?_⟩,fun a ha b hb=>?_⟩
  ·rcases h with h|h|(h|h|h)|h
   ·exact h0 (.inl h)
   ·exact h0 (.inr (.inl h))
   ·exact h0 (.inr (.inr (.inl (.inl h))))
   ·exact fr T (zb ..) h
   ·exact h0 (.inr (.inr (.inl (.inr (.inr h)))))
   ·exact h0 (.inr (.inr (.inr h)))
  ·rcases h with (h|h|h)|h
   ·exact h2 (.inl (.inl h))
   ·omega
   ·exact h2 (.inl (.inr (.inr h)))
   ·exact h2 (.inr h)
  ·exact fr id ((hmem _).2 (by simp[h])) rfl
  ·rcases hb with rfl|hb
   ·exact fr a ((hmem _).2 (by simp[ha]))
   ·exact h11 a ha b (.inr hb)
  ·rcases ha with ha|rfl|ha
   ·exact h5 a (.inl ha) b hb
   ·exact fun e=>fr b ((hmem _).2 (by simp[hb])) e.symm
   ·exact h5 a (.inr (.inr ha)) b hb
  ·rcases hb with rfl|(hb|rfl|hb)|hb
   ·exact h6 a ha _ (.inl rfl)
   ·exact h6 a ha b (.inr (.inl (.inl hb)))
   ·exact fr a ((hmem _).2 (by simp[ha]))
   ·exact h6 a ha b (.inr (.inl (.inr (.inr hb))))
   ·exact h6 a ha b (.inr (.inr hb))
 ·rcases (hmem' z).1 hz with h|h|h|h|h|h|h
  ·exact .inl ((hmem z).2 (by simp[h]))
  ·exact .inl ((hmem z).2 (by simp[h]))
  ·exact .inl ((hmem z).2 (by simp[h]))
  ·exact .inl ((hmem z).2 (by simp[h]))
  ·exact .inr ⟨by omega,by omega⟩
  ·exact .inl ((hmem z).2 (by simp[h]))
  ·exact .inl ((hmem z).2 (by simp[h]))
 ·rcases zo.1 hx with hx|hx
  ·exact hok x (yn _ hx)
  ·rcases zi.1 hx with rfl|hx
   ·exact hok'
   ·exact hok x (zx _ (za _ hx))
 ·rcases zo.1 hq with hq|hq
  ·exact .inl ((hmem _).2 (by have:=hpre q hq; simp only[this,true_or,or_true]))
  ·simp only[zi,ym,or_false] at hq;rcases hq with rfl|rfl
   ·exact .inl ((hmem _).2 (by simp))
   ·exact .inr ⟨yg _,by simp only; omega⟩
theorem B2U(l:List Ty)(S:List D2)(e:Ev)(i0:Int)(D T c:Nat)(id:Nat)(xs:List AV)(w:Int)(I:Nat)(BI:List Int)(d4:D≠I)(d5:T≠I)(d6:c≠I)(hk:3<=e.kind)(hfB:C3 (S.map D2.t) e.type e.id=true)(hS8:S.length<=1000)(d1:D≠T)(d2:D≠c)(d3:T≠c)
  (hCh:∀id,A2 Tryz.prog 263 [.ptr D 0 0] [(D,L7 l (.bsl T 0 S.length) e (B3 (S.map D2.t) e.type e.id)),(T,J9 S),(c,⟨xs,zC,false,false⟩),(I,⟨BI.map eI,.int .i64 0,false,false⟩)] id (.int .i64 w) []) :
  A2 Tryz.prog 195 [.ptr D 0 0] [(D,L7 l (.bsl T 0 S.length) e i0),(T,J9 S),(c,⟨xs,zC,false,false⟩),(I,⟨BI.map eI,.int .i64 0,false,false⟩)] id (.int .i64 w) [(D,some (L7 l (.bsl T 0 S.length) e (B3 (S.map D2.t) e.type e.id)))]:=by
 have hF:=fun id=>M3 l S T e.type e.id id (by omega);have hk1:e.kind≠1:=by omega
 have hk2:e.kind≠2:=by omega
 unfold J9 L7 eD at *;refine w195.b.1 fun E hP hR hl hid hB hu=>?_;simp[w195];have hD:=hl (D,_) (zb ..);simp only at hD;have D1:=lf hD;have hT:=hl (T,_) (za _ (zb ..));simp only at hT;have T1:=lf hT;have hc:=hl (c,_) (za _ (za _ (zb ..)));simp only at hc;have c1:=lf hc;have hI:=hl (I,_) (za _ (za _ (za _ (zb ..))));simp only at hI;have I1:=lf hI;have hTn:∀x∈S.map N8,A4 E.G0.used x:=A9 hB (za _ (zb ..));have hXn:∀x∈xs,A4 E.G0.used x:=A9 hB (za _ (za _ (zb ..)));(refine yC rfl (hF _) ?_; simp[D1,T1,c1,d1,d1.symm,d2,d2.symm,d3,d3.symm,I1,d4,d4.symm,d5,d5.symm,d6,d6.symm]);refine A0 (by simp[hk1]) ?_;simp[D1,T1,c1,d1,d1.symm,d2,d2.symm,d3,d3.symm,I1,d4,d4.symm,d5,d5.symm,d6,d6.symm];refine A0 (by simp[hk1]) ?_;simp[D1,T1,c1,d1,d1.symm,d2,d2.symm,d3,d3.symm,I1,d4,d4.symm,d5,d5.symm,d6,d6.symm];refine A0 (by simp[hk1]) ?_;simp[D1,T1,c1,d1,d1.symm,d2,d2.symm,d3,d3.symm,I1,d4,d4.symm,d5,d5.symm,d6,d6.symm];refine A0 (by simp[hfB]) ?_;simp[D1,T1,c1,d1,d1.symm,d2,d2.symm,d3,d3.symm,I1,d4,d4.symm,d5,d5.symm,d6,d6.symm];refine K3 hP (v:=.bool false) (rd:=[]) (by simp[D1,T1,c1,d1,d1.symm,d2,d2.symm,d3,d3.symm,I1,d4,d4.symm,d5,d5.symm,d6,d6.symm]) rfl (fun hc=>by simp[hk2] at hc) ?_;refine A6 4000 ?_;simp[D1,T1,c1,d1,d1.symm,d2,d2.symm,d3,d3.symm,I1,d4,d4.symm,d5,d5.symm,d6,d6.symm];refine A0 (by simp[hk2]) ?_;simp[D1,T1,c1,d1,d1.symm,d2,d2.symm,d3,d3.symm,I1,d4,d4.symm,d5,d5.symm,d6,d6.symm];(refine yC rfl (hCh _) ?_; simp[D1,T1,c1,d1,d1.symm,d2,d2.symm,d3,d3.symm,I1,d4,d4.symm,d5,d5.symm,d6,d6.symm]);refine yE hR [] (by simp[D1,T1,c1,d1,d1.symm,d2,d2.symm,d3,d3.symm,I1,d4,d4.symm,d5,d5.symm,d6,d6.symm,B2 hid]) fun hrn=>⟨?_,?_,?_,?_,?_,?_⟩<;>(try simp[D1,T1,c1,d1,d1.symm,d2,d2.symm,d3,d3.symm,I1,d4,d4.symm,d5,d5.symm,d6,d6.symm,B2 hid]);exact⟨by exact yO hu hTn,by exact yO hu hXn⟩
theorem B2V(l:List Ty)(S:List D2)(e:Ev)(i0:Int)(D T c:Nat)(id:Nat)(xs:List AV)(k:Nat)(a b io:AV)(hx:xs[k]?=some (.agg [a,b,io]))(n:Int)(t:List UInt8)(I:Nat)(BI:List Int)(d4:D≠I)(d5:T≠I)(d6:c≠I)(hk:3<=e.kind)(hfB:C3 (S.map D2.t) e.type e.id=true)(hS8:S.length<=1000)(d1:D≠T)(d2:D≠c)(d3:T≠c)
  (hCh:∀id,A2 Tryz.prog 263 [.ptr D 0 0] [(D,L7 l (.bsl T 0 S.length) e (B3 (S.map D2.t) e.type e.id)),(T,J9 S),(c,⟨xs,zC,false,false⟩),(I,⟨BI.map eI,.int .i64 0,false,false⟩)] id (.int .i64 0) [(c,some ⟨xs.set k (.agg [.int .i64 n,.str t,io]),zC,false,false⟩)]) :
  A2 Tryz.prog 195 [.ptr D 0 0] [(D,L7 l (.bsl T 0 S.length) e i0),(T,J9 S),(c,⟨xs,zC,false,false⟩),(I,⟨BI.map eI,.int .i64 0,false,false⟩)] id (.int .i64 0) [(D,some (L7 l (.bsl T 0 S.length) e (B3 (S.map D2.t) e.type e.id))),(c,some ⟨xs.set k (.agg [.int .i64 n,.str t,io]),zC,false,false⟩)]:=by
 have hF:=fun id=>M3 l S T e.type e.id id (by omega);have hk1:e.kind≠1:=by omega
 have hk2:e.kind≠2:=by omega
 unfold J9 L7 eD at *;refine w195.b.1 fun E hP hR hl hid hB hu=>?_;simp[w195];have hD:=hl (D,_) (zb ..);simp only at hD;have D1:=lf hD;have hT:=hl (T,_) (za _ (zb ..));simp only at hT;have T1:=lf hT;have hc:=hl (c,_) (za _ (za _ (zb ..)));simp only at hc;have c1:=lf hc;have hI:=hl (I,_) (za _ (za _ (za _ (zb ..))));simp only at hI;have I1:=lf hI;have hTn:∀x∈S.map N8,A4 E.G0.used x:=A9 hB (za _ (zb ..));have hXn:∀x∈xs,A4 E.G0.used x:=A9 hB (za _ (za _ (zb ..)));(refine yC rfl (hF _) ?_; simp[D1,T1,c1,d1,d1.symm,d2,d2.symm,d3,d3.symm,I1,d4,d4.symm,d5,d5.symm,d6,d6.symm]);refine A0 (by simp[hk1]) ?_;simp[D1,T1,c1,d1,d1.symm,d2,d2.symm,d3,d3.symm,I1,d4,d4.symm,d5,d5.symm,d6,d6.symm];refine A0 (by simp[hk1]) ?_;simp[D1,T1,c1,d1,d1.symm,d2,d2.symm,d3,d3.symm,I1,d4,d4.symm,d5,d5.symm,d6,d6.symm];refine A0 (by simp[hk1]) ?_;simp[D1,T1,c1,d1,d1.symm,d2,d2.symm,d3,d3.symm,I1,d4,d4.symm,d5,d5.symm,d6,d6.symm];refine A0 (by simp[hfB]) ?_;simp[D1,T1,c1,d1,d1.symm,d2,d2.symm,d3,d3.symm,I1,d4,d4.symm,d5,d5.symm,d6,d6.symm];refine K3 hP (v:=.bool false) (rd:=[]) (by simp[D1,T1,c1,d1,d1.symm,d2,d2.symm,d3,d3.symm,I1,d4,d4.symm,d5,d5.symm,d6,d6.symm]) rfl (fun hc=>by simp[hk2] at hc) ?_;refine A6 4000 ?_;simp[D1,T1,c1,d1,d1.symm,d2,d2.symm,d3,d3.symm,I1,d4,d4.symm,d5,d5.symm,d6,d6.symm];refine A0 (by simp[hk2]) ?_;simp[D1,T1,c1,d1,d1.symm,d2,d2.symm,d3,d3.symm,I1,d4,d4.symm,d5,d5.symm,d6,d6.symm];(refine yC rfl (hCh _) ?_; simp[D1,T1,c1,d1,d1.symm,d2,d2.symm,d3,d3.symm,I1,d4,d4.symm,d5,d5.symm,d6,d6.symm]);refine yE hR [] (by simp[D1,T1,c1,d1,d1.symm,d2,d2.symm,d3,d3.symm,I1,d4,d4.symm,d5,d5.symm,d6,d6.symm,B2 hid]) fun hrn=>⟨?_,?_,?_,?_,?_,?_⟩<;>(try simp[D1,T1,c1,d1,d1.symm,d2,d2.symm,d3,d3.symm,I1,d4,d4.symm,d5,d5.symm,d6,d6.symm,B2 hid]);have hio:A4 E.G0.used io:=by have:=hXn _ (zf hx); simp[A4,D9] at this; exact this.2.2
 refine⟨by exact yO hu hTn,E9 (A0W hu (by simp[A4,D9]; exact hio) fun z h1 h2=>rfl) k (by exact yO hu hXn)⟩
theorem B2W(l:List Ty)(S:List D2)(e:Ev)(i0:Int)(D T c:Nat)(id:Nat)(xs:List AV)(k:Nat)(n:Int)(t:List UInt8)(ys:List Int)(I:Nat)(BI:List Int)(d4:D≠I)(d5:T≠I)(d6:c≠I)(hk:3<=e.kind)(hfB:C3 (S.map D2.t) e.type e.id=true)(hS8:S.length<=1000)(d1:D≠T)(d2:D≠c)(d3:T≠c)
  (hCh:∀id,A2 Tryz.prog 263 [.ptr D 0 0] [(D,L7 l (.bsl T 0 S.length) e (B3 (S.map D2.t) e.type e.id)),(T,J9 S),(c,⟨xs,zC,false,false⟩),(I,⟨BI.map eI,.int .i64 0,false,false⟩)] id (.int .i64 0) [(c,some ⟨xs.set k (.agg [.int .i64 n,.str t,.bsl id 0 ys.length]),zC,false,false⟩),(id,some ⟨ys.map eI,.int .i64 0,false,false⟩)]) :
  A2 Tryz.prog 195 [.ptr D 0 0] [(D,L7 l (.bsl T 0 S.length) e i0),(T,J9 S),(c,⟨xs,zC,false,false⟩),(I,⟨BI.map eI,.int .i64 0,false,false⟩)] id (.int .i64 0) [(D,some (L7 l (.bsl T 0 S.length) e (B3 (S.map D2.t) e.type e.id))),(c,some ⟨xs.set k (.agg [.int .i64 n,.str t,.bsl id 0 ys.length]),zC,false,false⟩),(id,some ⟨ys.map eI,.int .i64 0,false,false⟩)]:=by
 have hF:=fun id=>M3 l S T e.type e.id id (by omega);have hk1:e.kind≠1:=by omega
 have hk2:e.kind≠2:=by omega
 unfold J9 L7 eD at *;refine w195.b.1 fun E hP hR hl hid hB hu=>?_;simp[w195];have hD:=hl (D,_) (zb ..);simp only at hD;have D1:=lf hD;have hT:=hl (T,_) (za _ (zb ..));simp only at hT;have T1:=lf hT;have hc:=hl (c,_) (za _ (za _ (zb ..)));simp only at hc;have c1:=lf hc;have hI:=hl (I,_) (za _ (za _ (za _ (zb ..))));simp only at hI;have I1:=lf hI;have hTn:∀x∈S.map N8,A4 E.G0.used x:=A9 hB (za _ (zb ..));have hXn:∀x∈xs,A4 E.G0.used x:=A9 hB (za _ (za _ (zb ..)));(refine yC rfl (hF _) ?_; simp[D1,T1,c1,d1,d1.symm,d2,d2.symm,d3,d3.symm,I1,d4,d4.symm,d5,d5.symm,d6,d6.symm]);refine A0 (by simp[hk1]) ?_;simp[D1,T1,c1,d1,d1.symm,d2,d2.symm,d3,d3.symm,I1,d4,d4.symm,d5,d5.symm,d6,d6.symm];refine A0 (by simp[hk1]) ?_;simp[D1,T1,c1,d1,d1.symm,d2,d2.symm,d3,d3.symm,I1,d4,d4.symm,d5,d5.symm,d6,d6.symm];refine A0 (by simp[hk1]) ?_;simp[D1,T1,c1,d1,d1.symm,d2,d2.symm,d3,d3.symm,I1,d4,d4.symm,d5,d5.symm,d6,d6.symm];refine A0 (by simp[hfB]) ?_;simp[D1,T1,c1,d1,d1.symm,d2,d2.symm,d3,d3.symm,I1,d4,d4.symm,d5,d5.symm,d6,d6.symm];refine K3 hP (v:=.bool false) (rd:=[]) (by simp[D1,T1,c1,d1,d1.symm,d2,d2.symm,d3,d3.symm,I1,d4,d4.symm,d5,d5.symm,d6,d6.symm]) rfl (fun hc=>by simp[hk2] at hc) ?_;refine A6 4000 ?_;simp[D1,T1,c1,d1,d1.symm,d2,d2.symm,d3,d3.symm,I1,d4,d4.symm,d5,d5.symm,d6,d6.symm];refine A0 (by simp[hk2]) ?_;simp[D1,T1,c1,d1,d1.symm,d2,d2.symm,d3,d3.symm,I1,d4,d4.symm,d5,d5.symm,d6,d6.symm];(refine yC rfl (hCh _) ?_; simp[D1,T1,c1,d1,d1.symm,d2,d2.symm,d3,d3.symm,I1,d4,d4.symm,d5,d5.symm,d6,d6.symm]);refine yE hR [(id,E.n0+82944)] (by simp[D1,T1,c1,d1,d1.symm,d2,d2.symm,d3,d3.symm,I1,d4,d4.symm,d5,d5.symm,d6,d6.symm,B2 hid]) fun hrn=>⟨?_,?_,?_,?_,?_,?_⟩<;>(try simp[D1,T1,c1,d1,d1.symm,d2,d2.symm,d3,d3.symm,I1,d4,d4.symm,d5,d5.symm,d6,d6.symm,B2 hid]);exact⟨by exact yO hu hTn,E9 (by simp[B2 hid]) k (by exact yO hu hXn)⟩
theorem B0h(l:List Ty)(S:List D2)(e:Ev)(T:Nat)(id:Nat)(c:Nat)(xs:List AV)(k:Nat)(a b io:AV)(hx:xs[k]?=some (.agg [a,b,io]))(n:Int)(t:List UInt8)(I:Nat)(BI:List Int)(d3:T≠c)(d5:T≠I)(d6:c≠I)(m:Int)(hl8:l.length<=1000)(hf0:Q2 e=0)(h0:0<=e.type)(h1:e.type<=(l.length:Int) - 1)(h2:1<=e.id)(h3:e.id<=999)
  (hDo:∀D id,(∀q∈[(T,J9 S),(c,⟨xs,zC,false,false⟩),(I,⟨BI.map eI,.int .i64 0,false,false⟩)],q.1≠D)->A2 Tryz.prog 195 [.ptr D 0 0] ((D,L7 l (.bsl T 0 S.length) e 0)::[(T,J9 S),(c,⟨xs,zC,false,false⟩),(I,⟨BI.map eI,.int .i64 0,false,false⟩)]) id (.int .i64 0) ((D,some (L7 l (.bsl T 0 S.length) e m))::[(c,some ⟨xs.set k (.agg [.int .i64 n,.str t,io]),zC,false,false⟩)])) :
  A2 Tryz.prog 126 [.agg [.sl (l.map H6),.bsl T 0 S.length],N5 e] [(T,J9 S),(c,⟨xs,zC,false,false⟩),(I,⟨BI.map eI,.int .i64 0,false,false⟩)] id (.tup [.agg [.sl (l.map H6),(.bsl T 0 S.length)],.int .i64 0]) ([(c,some ⟨xs.set k (.agg [.int .i64 n,.str t,io]),zC,false,false⟩)]):=by
 have hFm:=fun id=>S9 e id;have hw1:IntKind.i64.wrap ((l.length:Int) - 1)=(l.length:Int) - 1:=wrap64 (by omega);replace hDo:=fun D id hne=>(hDo D id hne).setD ⟨[eD l (.bsl T 0 S.length) e 0],eD l (.bsl T 0 S.length) e 0,false,false⟩ rfl rfl rfl rfl hne;unfold J9 L7 eD N5 at *;refine w126.b.1 fun E hP hR hl hid hB hu=>?_;simp[w126,C4];have hT:=hl (T,_) (zb ..);simp only at hT;have T1:=lf hT;have hTn:∀x∈S.map N8,A4 E.G0.used x:=A9 hB (zb ..);have hc:=hl (c,_) (za _ (zb ..));simp only at hc;have c1:=lf hc;have hXn:∀x∈xs,A4 E.G0.used x:=A9 hB (za _ (zb ..));have hI:=hl (I,_) (za _ (za _ (zb ..)));simp only at hI;have I1:=lf hI;(refine yC rfl (hFm _) ?_; simp[T1,c1,I1,d3,d3.symm,d5,d5.symm,d6,d6.symm]);refine A0 (by simp[hf0]) ?_;simp[T1,c1,I1,d3,d3.symm,d5,d5.symm,d6,d6.symm];rw[hw1];(refine C6 hP rfl (C5 _ _ _ _) (by simp[T1,c1,I1,d3,d3.symm,d5,d5.symm,d6,d6.symm]) (by simp[T1,c1,I1,d3,d3.symm,d5,d5.symm,d6,d6.symm]<;>rfl) ?_; refine A6 4000 ?_; simp[T1,c1,I1,d3,d3.symm,d5,d5.symm,d6,d6.symm]);refine A0 (by simp; omega) ?_;simp[T1,c1,I1,d3,d3.symm,d5,d5.symm,d6,d6.symm];(refine C6 hP rfl (C5 _ _ _ _) (by simp[T1,c1,I1,d3,d3.symm,d5,d5.symm,d6,d6.symm]) (by simp[T1,c1,I1,d3,d3.symm,d5,d5.symm,d6,d6.symm]<;>rfl) ?_; refine A6 4000 ?_; simp[T1,c1,I1,d3,d3.symm,d5,d5.symm,d6,d6.symm]);refine A0 (by simp; omega) ?_;simp[T1,c1,I1,d3,d3.symm,d5,d5.symm,d6,d6.symm];refine A0 (by simp[hf0]) ?_;simp[T1,c1,I1,d3,d3.symm,d5,d5.symm,d6,d6.symm];(refine C6 hP rfl (hDo _ _ (by exact fun q hq=>by have:=(hl q hq).1; omega)) (by simp[T1,c1,I1,d3,d3.symm,d5,d5.symm,d6,d6.symm]) (by simp[T1,c1,I1,d3,d3.symm,d5,d5.symm,d6,d6.symm]<;>rfl) ?_; refine A6 4000 ?_; simp[T1,c1,I1,d3,d3.symm,d5,d5.symm,d6,d6.symm]);refine yE hR [] (by simp[T1,c1,I1,d3,d3.symm,d5,d5.symm,d6,d6.symm,B2 hid]) fun hrn=>⟨?_,?_,?_,?_,?_,?_⟩<;>(try simp[T1,c1,I1,d3,d3.symm,d5,d5.symm,d6,d6.symm,B2 hid]);have hio:A4 E.G0.used io:=by have:=hXn _ (zf hx); simp[A4,D9] at this; exact this.2.2
 refine⟨by exact yO hu hTn,E9 (A0W hu (by simp[A4,D9]; exact hio) fun z h1 h2=>rfl) k (by exact yO hu hXn)⟩
theorem B0i(l:List Ty)(S:List D2)(e:Ev)(T:Nat)(id:Nat)(c:Nat)(xs:List AV)(k:Nat)(n:Int)(t:List UInt8)(ys:List Int)(I:Nat)(BI:List Int)(d3:T≠c)(d5:T≠I)(d6:c≠I)(m:Int)(hl8:l.length<=1000)(hf0:Q2 e=0)(h0:0<=e.type)(h1:e.type<=(l.length:Int) - 1)(h2:1<=e.id)(h3:e.id<=999)
  (hDo:∀D id,(∀q∈[(T,J9 S),(c,⟨xs,zC,false,false⟩),(I,⟨BI.map eI,.int .i64 0,false,false⟩)],q.1≠D)->A2 Tryz.prog 195 [.ptr D 0 0] ((D,L7 l (.bsl T 0 S.length) e 0)::[(T,J9 S),(c,⟨xs,zC,false,false⟩),(I,⟨BI.map eI,.int .i64 0,false,false⟩)]) id (.int .i64 0) ((D,some (L7 l (.bsl T 0 S.length) e m))::[(c,some ⟨xs.set k (.agg [.int .i64 n,.str t,.bsl id 0 ys.length]),zC,false,false⟩),(id,some ⟨ys.map eI,.int .i64 0,false,false⟩)])) :
  A2 Tryz.prog 126 [.agg [.sl (l.map H6),.bsl T 0 S.length],N5 e] [(T,J9 S),(c,⟨xs,zC,false,false⟩),(I,⟨BI.map eI,.int .i64 0,false,false⟩)] id (.tup [.agg [.sl (l.map H6),(.bsl T 0 S.length)],.int .i64 0]) ([(c,some ⟨xs.set k (.agg [.int .i64 n,.str t,.bsl id 0 ys.length]),zC,false,false⟩),(id,some ⟨ys.map eI,.int .i64 0,false,false⟩)]):=by
 have hFm:=fun id=>S9 e id;have hw1:IntKind.i64.wrap ((l.length:Int) - 1)=(l.length:Int) - 1:=wrap64 (by omega);replace hDo:=fun D id hne=>(hDo D id hne).setD ⟨[eD l (.bsl T 0 S.length) e 0],eD l (.bsl T 0 S.length) e 0,false,false⟩ rfl rfl rfl rfl hne;unfold J9 L7 eD N5 at *;refine w126.b.1 fun E hP hR hl hid hB hu=>?_;simp[w126,C4];have hT:=hl (T,_) (zb ..);simp only at hT;have T1:=lf hT;have hTn:∀x∈S.map N8,A4 E.G0.used x:=A9 hB (zb ..);have hc:=hl (c,_) (za _ (zb ..));simp only at hc;have c1:=lf hc;have hXn:∀x∈xs,A4 E.G0.used x:=A9 hB (za _ (zb ..));have hI:=hl (I,_) (za _ (za _ (zb ..)));simp only at hI;have I1:=lf hI;(refine yC rfl (hFm _) ?_; simp[T1,c1,I1,d3,d3.symm,d5,d5.symm,d6,d6.symm]);refine A0 (by simp[hf0]) ?_;simp[T1,c1,I1,d3,d3.symm,d5,d5.symm,d6,d6.symm];rw[hw1];(refine C6 hP rfl (C5 _ _ _ _) (by simp[T1,c1,I1,d3,d3.symm,d5,d5.symm,d6,d6.symm]) (by simp[T1,c1,I1,d3,d3.symm,d5,d5.symm,d6,d6.symm]<;>rfl) ?_; refine A6 4000 ?_; simp[T1,c1,I1,d3,d3.symm,d5,d5.symm,d6,d6.symm]);refine A0 (by simp; omega) ?_;simp[T1,c1,I1,d3,d3.symm,d5,d5.symm,d6,d6.symm];(refine C6 hP rfl (C5 _ _ _ _) (by simp[T1,c1,I1,d3,d3.symm,d5,d5.symm,d6,d6.symm]) (by simp[T1,c1,I1,d3,d3.symm,d5,d5.symm,d6,d6.symm]<;>rfl) ?_; refine A6 4000 ?_; simp[T1,c1,I1,d3,d3.symm,d5,d5.symm,d6,d6.symm]);refine A0 (by simp; omega) ?_;simp[T1,c1,I1,d3,d3.symm,d5,d5.symm,d6,d6.symm];refine A0 (by simp[hf0]) ?_;simp[T1,c1,I1,d3,d3.symm,d5,d5.symm,d6,d6.symm];(refine C6 hP rfl (hDo _ _ (by exact fun q hq=>by have:=(hl q hq).1; omega)) (by simp[T1,c1,I1,d3,d3.symm,d5,d5.symm,d6,d6.symm]) (by simp[T1,c1,I1,d3,d3.symm,d5,d5.symm,d6,d6.symm]<;>rfl) ?_; refine A6 4000 ?_; simp[T1,c1,I1,d3,d3.symm,d5,d5.symm,d6,d6.symm]);refine yE hR [(id,E.n0+32768)] (by simp[T1,c1,I1,d3,d3.symm,d5,d5.symm,d6,d6.symm,B2 hid]) fun hrn=>⟨?_,?_,?_,?_,?_,?_⟩<;>(try simp[T1,c1,I1,d3,d3.symm,d5,d5.symm,d6,d6.symm,B2 hid]);exact⟨by exact yO hu hTn,E9 (by simp[B2 hid]) k (by exact yO hu hXn)⟩
def E6(s:F1)(e:Ev):Nat:=B3 s.things e.type e.id
def x9(s:F1)(e:Ev):Bool:=C3 s.things e.type e.id
def Z1(s:F1)(e:Ev):Option Fd:=if e.field<0 then none else (C2 s.types e.type)[e.field.toNat]?
def A1r(s:F1)(e:Ev):Option Cl:=match s.things[E6 s e]? with
 | some t=>t.cells[e.field.toNat]?
 | none=>none
def chE(s:F1)(e:Ev):Int:=match Z1 s e,A1r s e with
 | some f,some c=>if H8 e.kind f=true then O7 s f c e else 7
 | _,_=>5
def doE(s:F1)(e:Ev):Int :=
 if e.kind=1 then (if x9 s e=true then 6 else if s.things.length=12 then 2 else 0)
 else if x9 s e=false then 5 else if e.kind=2 then (if M2 (P8 s.types e) s.types s.things=false then 4 else 0) else chE s e
def T9(s:F1)(e:Ev):Int:=if O8 s.types e≠0 then O8 s.types e else doE s e
def A8o(s:F1)(i k:Nat)(c:Cl):F1:=⟨s.types,match s.things[i]? with
 | some t=>s.things.set i ⟨t.type,t.id,t.cells.set k c⟩
 | none=>s.things⟩
def A0M(s:F1)(e:Ev):F1 :=
 if e.kind=1 then ⟨s.types,s.things.take (E6 s e)++⟨e.type,e.id,List.replicate (C2 s.types e.type).length cl0⟩::s.things.drop (E6 s e)⟩
 else if e.kind=2 then ⟨s.types,s.things.take (E6 s e)++s.things.drop (E6 s e+1)⟩
 else match Z1 s e,A1r s e with
  | some f,some c=>A8o s (E6 s e) e.field.toNat (s9 f c e)
  | _,_=>s
structure StR(s:F1):Prop where
 sch:A3v s.types
 len:s.things.length<=12
 tg:∀t∈s.things,A3z s t
theorem A1s{α:Type}{l:List α}{i:Nat}{x:α}(h:l[i]?=some x):l=l.take i++x::l.drop (i+1):=by
 obtain⟨h1,h2⟩:=ze.1 h;conv=>lhs; rw[←xa i l,yv h1,h2]
theorem V5{l:List Ty}{e:Ev}(h:O8 l e=0):Q2 e=0/\0<=e.type/\e.type<=(l.length:Int) - 1/\1<=e.id/\e.id<=999/\1<=e.kind/\e.kind<=6:=by
 unfold O8 at h;split at h
 ·rename_i h1; exact (h1 h).elim
 ·rename_i h1;split at h
  ·omega
  ·split at h
   ·omega
   ·rename_i h2 h3;have h1:Q2 e=0:=(by omega);have hk:1<=e.kind/\e.kind<=6:=by
     unfold Q2 at h1;split at h1
     ·omega
     ·rename_i h4; omega
    exact⟨h1,by omega,by omega,by omega,by omega,hk.1,hk.2⟩
theorem B43(l:List Tg)(a b:Int):B3 l a b<=l.length:=(A9K _ _ _ (uo _)).2
theorem A6S{l:List Tg}{a b:Int}(h:C3 l a b=true):B3 l a b<l.length:=by unfold C3 at h; simp at h; exact h.1
section
variable {l:List Ty} {S:List D2} {T:Nat} {e:Ev} {id:Nat} (hnd:(p7 T S).Nodup) (hfr:∀z∈p7 T S,z<id\/id+1024<=z) (hok:∀o∈S,o.Ok) (hR:StR (A3 l S))
include hnd hfr hok hR
theorem A1t:l.length<=5/\S.length<=12/\(∀t∈l,t.fields.length<=6)/\∀t∈S.map D2.t,0<=t.type/\t.type.toNat<l.length/\t.cells.length=(C2 l t.type).length/\t.cells.length<=1000000/\∀c∈t.cells,c.ids.length<=6:=by
 refine⟨hR.sch.len,by have:=hR.len; simpa [A3] using this,hR.sch.fields,fun t ht=>?_⟩;have h:=hR.tg t ht;have h6:=h.cells6 hR.sch;refine⟨h.ty0,h.ty1,h.len,by omega,fun c hc=>?_⟩;obtain⟨k,hk⟩:=yk.1 hc;obtain⟨f,_,hco⟩:=h.cellOk hk;exact hco.i1
theorem A5W(h1 : -1<=e.type/\e.type<=1000)(h2:1<=e.id/\e.id<=999)(hb:x9 (A3 l S) e=true){o:D2}(ho:S[E6 (A3 l S) e]?=some o){ty:Ty}(hty:l[e.type.toNat]?=some ty):o.t.type=e.type/\o.t.id=e.id/\o.t.cells.length=ty.fields.length:=by
 have ht:(A3 l S).things[E6 (A3 l S) e]?=some o.t:=by simp only[A3] at ho ⊢; rw[ye,ho]; rfl
 have hg:=hR.tg o.t (zf ht);have h5:=hR.sch.len;have hz:F4 (A3 l S).things e.type e.id (E6 (A3 l S) e)=0:=by unfold x9 C3 at hb; simp at hb; exact hb.2
 unfold F4 at hz;rw[ht] at hz;have hz:S5 o.t.type o.t.id e.type e.id=0:=hz;have g1:=hg.ty0;have g2:=hg.ty1;have g3:=hg.id1;have g4:=hg.id2;obtain⟨e1,e2⟩:=(A1n (by omega) (by omega) (by omega) (by unfold I64; omega)).1 hz;refine⟨e1,e2,?_⟩;have:=hg.len;rw[e1] at this;have hfl:C2 (A3 l S).types e.type=ty.fields:=by simp[C2,A3,hty]
 rw[this,hfl]
omit hfr hok hR in
theorem B2X{o:D2}(ho:o∈S){I:Nat}{b:Bx}(h:(I,b)∈X7 o.t.cells o.is):o.c≠I:=fun e=>by
 rw[p7,yw] at hnd;obtain⟨i,hi⟩:=yk.1 ho;have hs:=A1s hi;have h2:=hnd.2;rw[hs,p8,A1p,xj,xj] at h2;have h3:=h2.2.1.1;rw[nmO,D2.bxs,yd,yw] at h3;exact h3.1 (e▸yi.2 ⟨_,h,rfl⟩)
theorem B0j(h:T9 (A3 l S) e≠0):A2 Tryz.prog 126 [.agg [.sl (l.map H6),.bsl T 0 S.length],N5 e] (trB T S) id (.tup [eS0,.int .i64 (T9 (A3 l S) e)]) []:=by
 obtain⟨q1,q2,q3,q4⟩:=A1t hnd hfr hok hR;have hE0:T9 (A3 l S) e=if O8 l e≠0 then O8 l e else doE (A3 l S) e:=rfl
 rw[hE0] at h ⊢;by_cases h0:O8 l e≠0
 ·rw[zk h0];exact (B2M l e T S.length id (by omega) h0).more fun q hq=>by cases hq
 rw[zh h0] at h ⊢;obtain⟨hf0,a1,a2,a3,a4,a5,a6⟩:=V5 (by omega:O8 l e=0);have hty:e.type.toNat<l.length:=by omega
 obtain⟨ty,htya⟩:∃ty,l[e.type.toNat]?=some ty:=⟨_,zd hty⟩;have hfl:C2 l e.type=ty.fields:=by simp[C2,htya]
 have hf6:ty.fields.length<=6:=q3 ty (zf htya);have hds:doE (A3 l S) e=doE (A3 l S) e:=rfl;have hdo:∀D id,(∀q∈trB T S,q.1≠D)->A2 Tryz.prog 195 [.ptr D 0 0] ((D,L7 l (.bsl T 0 S.length) e 0)::trB T S) id (.int .i64 (doE (A3 l S) e)) [(D,some (L7 l (.bsl T 0 S.length) e (E6 (A3 l S) e)))]:=fun D id hD=>by
  have d1:D≠T:=fun e=>hD _ (zb ..) e.symm;have dr:∀q∈E8 S,q.1≠D:=fun q hq=>hD q (za _ hq);have hnd':=hnd;rw[p7,yw] at hnd';have dT:∀q∈E8 S,q.1≠T:=fun q hq e=>hnd'.1 (e▸A2N hq);have hm2:∀q∈[(D,L7 l (.bsl T 0 S.length) e 0),(T,J9 S)],q∈(D,L7 l (.bsl T 0 S.length) e 0)::trB T S:=fun q hq=>by
   simp only[zi,ym,or_false] at hq;rcases hq with rfl|rfl
   ·exact zb ..
   ·exact za _ (zb ..)
  have hll:(A3 l S).things.length=S.length:=xd ..;by_cases k1:e.kind=1
  ·have hE:doE (A3 l S) e=if x9 (A3 l S) e=true then 6 else if S.length=12 then 2 else 0:=(by unfold doE; rw[zk k1,hll]);rw[hE] at h ⊢;refine (B2J l S e 0 D T id _ ?_ (by omega) d1).more hm2;by_cases b:x9 (A3 l S) e=true
   ·exact .inl ⟨k1,b,zk b⟩
   ·rw[zh b] at h ⊢;by_cases b2:S.length=12
    ·exact .inr (.inl ⟨k1,eq_false_of_ne_true b,b2,zk b2⟩)
    ·rw[zh b2] at h; exact (h rfl).elim
  ·by_cases b:x9 (A3 l S) e=false
   ·have hE:doE (A3 l S) e=5:=(by unfold doE; rw[zh k1,zk b]);rw[hE];exact (B2J l S e 0 D T id _ (.inr (.inr ⟨k1,b,rfl⟩)) (by omega) d1).more hm2
   ·have b':x9 (A3 l S) e=true:=(by simpa using b);by_cases k2:e.kind=2
    ·have hE:doE (A3 l S) e=if M2 (P8 l e) l (S.map D2.t)=false then 4 else 0:=(by unfold doE; rw[zh k1,zh b,zk k2]; rfl);rw[hE] at h ⊢;by_cases m:M2 (P8 l e) l (S.map D2.t)=false
     ·rw[zk m];exact B2L l S e 0 D T id k2 b' hok (by omega) (by omega) d1 hnd'.2 dr dT q4 m
     ·rw[zh m] at h; exact (h rfl).elim
    ·have hE:doE (A3 l S) e=chE (A3 l S) e:=(by unfold doE; rw[zh k1,zh b,zh k2]);rw[hE] at h ⊢;have hlt:=A6S b';obtain⟨o,ho⟩:∃o,S[E6 (A3 l S) e]?=some o:=⟨_,zd (hll▸hlt)⟩;have hoS:=zf ho;have hot:=q4 o.t (yi.2 ⟨o,hoS,rfl⟩);have hlen:=(A5W hnd hfr hok hR (by omega) (by omega) b' ho htya).2.2;have hbx:∀q∈o.bxs,q∈E8 S:=fun q hq=>xq.2 ⟨o,hoS,hq⟩;have dc:o.c≠D/\o.c≠T:=⟨dr _ (hbx _ (zb ..)),dT _ (hbx _ (zb ..))⟩;have his:=(hok o hoS).len;have hm3:∀q∈[(D,L7 l (.bsl T 0 S.length) e 0),(T,J9 S),(o.c,cBn o)],q∈(D,L7 l (.bsl T 0 S.length) e 0)::trB T S:=fun q hq=>by
      simp only[zi,ym,or_false] at hq;rcases hq with rfl|rfl|rfl
      ·exact zb ..
      ·exact za _ (zb ..)
      ·exact za _ (za _ (hbx _ (zb ..)))
     have k3:3<=e.kind:=(by omega);have fin5:Z1 (A3 l S) e=none->A2 Tryz.prog 195 [.ptr D 0 0] ((D,L7 l (.bsl T 0 S.length) e 0)::trB T S) id (.int .i64 (chE (A3 l S) e)) [(D,some (L7 l (.bsl T 0 S.length) e (E6 (A3 l S) e)))]:=fun hfd=>by
      have hw:chE (A3 l S) e=5:=(by unfold chE; rw[hfd]);rw[hw];have hfr:T7 ty e o.c = .tup [.agg [.str [],.int .i64 0,.str []],.nilp,.int .i64 5]:=by
       unfold Z1 at hfd;unfold T7;by_cases h5:e.field<0
       ·rw[zk h5]
       ·rw[zh h5] at hfd ⊢;have hfd:(C2 l e.type)[e.field.toNat]?=none:=hfd;rw[hfl] at hfd;rw[hfd]
      exact (A6R l S e 0 D T o.c id (List.zipWith H4 o.t.cells o.is) 5 k3 b' (by omega) d1 dc.1.symm dc.2.symm fun id=>A4D l S e (E6 (A3 l S) e) o ty D T id _ 5 (by omega) ⟨_,_,_,rfl⟩ hfr htya a1 ho hlen his (by omega) d1 dc.1.symm dc.2.symm).more hm3
     cases hfd:Z1 (A3 l S) e with
     | none=>exact fin5 hfd
     | some f =>
      clear fin5;have hfd':=hfd;unfold Z1 at hfd;by_cases h5:e.field<0
      ·rw[zk h5] at hfd; cases hfd
      rw[zh h5] at hfd;have hfd:(C2 l e.type)[e.field.toNat]?=some f:=hfd;rw[hfl] at hfd;have hkl:e.field.toNat<ty.fields.length:=(ze.1 hfd).1;obtain⟨cl,hcl⟩:∃cl,o.t.cells[e.field.toNat]?=some cl:=⟨_,zd (by omega)⟩;obtain⟨io,hio⟩:∃io,o.is[e.field.toNat]?=some io:=⟨_,zd (by omega)⟩;have hclo:A1r (A3 l S) e=some cl:=by
       unfold A1r;have:(A3 l S).things[E6 (A3 l S) e]?=some o.t:=by simp only[A3] at ho ⊢; rw[ye,ho]; rfl
       rw[this];exact hcl
      have hchE:chE (A3 l S) e=if H8 e.kind f=true then O7 (A3 l S) f cl e else 7:=(by unfold chE; rw[hfd',hclo]);rw[hchE] at h ⊢;by_cases hkf:H8 e.kind f=true
      ·rw[zk hkf] at h ⊢;have hc8:cl.ids.length<=1000:=(by have:=hot.2.2.2.2 cl (zf hcl); omega);cases io with
       | none =>
        have hn:=(hok o hoS).nil _ _ hcl hio;have hW:∀id,L4 (A3 l S) f cl e o.c e.field.toNat id (List.zipWith H4 o.t.cells o.is) none=[]:=fun id=>by unfold L4; rw[zk h]
        refine (A6R l S e 0 D T o.c id (List.zipWith H4 o.t.cells o.is) _ k3 b' (by omega) d1 dc.1.symm dc.2.symm fun id=>?_).more hm3;have:=A0h l S e (E6 (A3 l S) e) o ty f cl D T id k3 a6 (by omega) hfd hkf hcl hio htya a1 ho hlen his hn (by omega) (by omega) (by omega) hc8 d1 dc.1.symm dc.2.symm;rw[hW] at this;exact this
       | some I =>
        have hIm:(I,iBx cl)∈o.bxs:=za _ (A1o _ hcl hio _ (zb ..));have hIr:=hbx _ hIm;have hW:∀id,L4 (A3 l S) f cl e o.c e.field.toNat id (List.zipWith H4 o.t.cells o.is) (some I)=[]:=fun id=>by unfold L4; rw[zk h]
        have dI:D≠I/\T≠I/\o.c≠I:=⟨fun e=>dr _ hIr e.symm,fun e=>dT _ hIr e.symm,B2X hnd hoS (A1o _ hcl hio _ (zb ..))⟩;refine (B2U l S e 0 D T o.c id (List.zipWith H4 o.t.cells o.is) _ I cl.ids dI.1 dI.2.1 dI.2.2 k3 b' (by omega) d1 dc.1.symm dc.2.symm fun id=>?_).more fun q hq=>?_
        ·have:=p6 l S e (E6 (A3 l S) e) o ty f cl I D T id k3 a6 (by omega) hfd hkf hcl hio htya a1 ho hlen his (by omega) (by omega) (by omega) hc8 d1 dc.1.symm dc.2.symm dI.1 dI.2.1 dI.2.2;rw[hW] at this;exact this
        ·simp only[zi,ym,or_false] at hq;rcases hq with rfl|rfl|rfl|rfl
         ·exact zb ..
         ·exact za _ (zb ..)
         ·exact za _ (za _ (hbx _ (zb ..)))
         ·exact za _ (za _ hIr)
      ·rw[zh hkf];have hfr:T7 ty e o.c = .tup [M4 f,.nilp,.int .i64 7]:=(by unfold T7; rw[zh h5,hfd]; simp only; rw[zh hkf]);exact (A6R l S e 0 D T o.c id (List.zipWith H4 o.t.cells o.is) 7 k3 b' (by omega) d1 dc.1.symm dc.2.symm fun id=>A4D l S e (E6 (A3 l S) e) o ty D T id _ 7 (by omega) ⟨_,_,_,rfl⟩ hfr htya a1 ho hlen his (by omega) d1 dc.1.symm dc.2.symm).more hm3
 exact B2R l S e T id _ _ (trB T S) (by rw[B0b]; exact hnd) h (by omega) hf0 a1 a2 a3 a4 hdo
end
end Go.Am
