/- Parts of the proof: an abstract machine for Go functions, and what functions of the program give back (Lt2, Lt3, St1, St2, St3, Ex1, St4, St0, St5, Ex2, Ex3, Ex4, Ex5, Ex6, Ex7). No condition. -/
import Derived.Test.YtphjabjjnncebaaGreatDoorXH
import Derived.Test.YtphjabjjnncebaaGreatDoorXE
import Derived.Test.YtphjabjjnncebaaGreatDoorXF
import Derived.Test.YtphjabjjnncebaaGreatDoorXG
set_option maxRecDepth 100000
set_option linter.all false
set_option maxHeartbeats 4000000
namespace Go.Am
open Go Go.Proofs Go.RowKit
theorem A7V(x s:D7)(M j:Nat)(id:Nat)(hd:M≠j):A2 Tryz.prog 237 [.bsl M 0 0,.fn 169 [.ptr j 0 0]] [(M,mB x),(j,mB s)] id (.int .i64 (-1)) []:=by
 rw[A0c,A0c];refine w237.e.1 fun E hP hR hl hid=>?_;simp[w237];have hM:=hl (M,_) (zb ..);simp only at hM;have M1:=lf hM;have hj:=hl (j,_) (za _ (zb ..));simp only at hj;have j1:=lf hj;refine C8 (X:=Unit) (fun i=>⟨[(0,true,.bsl M 0 0),(1,true,.fn 169 [.ptr j 0 0]),(7,true,.int .i64 0),(8,true,.int .i64 0)],[(M,some ⟨[.agg [.str x.alias,.str x.name,.sl (x.args.map x1),.sl (x.kids.map D0)]],.agg [.str [],.str [],.nils,.nils],false,false⟩),(j,some ⟨[.agg [.str s.alias,.str s.name,.sl (s.args.map x1),.sl (s.kids.map D0)]],.agg [.str [],.str [],.nils,.nils],false,false⟩)],0⟩) (fun _=>True) (fun _=>0) () ?_ trivial ?_
 ·refine yV [] (by simp[M1,j1,hd,hd.symm]) fun hrn=>⟨?_,?_,?_,?_,?_⟩<;>(try simp[M1,j1,hd,hd.symm])
 ·rintro i - p hp;refine A6 4000 ?_;simp[M1,j1,hd,hd.symm];refine yE hR [] (by simp[M1,j1,hd,hd.symm,B2 hid]) fun hrn=>⟨?_,?_,?_,?_,?_,?_⟩<;>(try simp[M1,j1,hd,hd.symm,B2 hid])
theorem A3w(x s:D7)(M j:Nat)(id:Nat)(hd:M≠j):A2 Tryz.prog 168 [.bsl M 0 0,.fn 169 [.ptr j 0 0]] [(M,mB x),(j,mB s)] id (.bool false) []:=by
 have hI:=fun id=>A7V x s M j id hd;simp only[A0c] at *;refine w168.e.1 fun E hP hR hl hid=>?_;simp[w168];have hM:=hl (M,_) (zb ..);simp only at hM;have M1:=lf hM;have hj:=hl (j,_) (za _ (zb ..));simp only at hj;have j1:=lf hj;(refine yC rfl (hI _) ?_; simp[M1,j1,hd,hd.symm]);refine yE hR [] (by simp[M1,j1,hd,hd.symm,B2 hid]) fun hrn=>⟨?_,?_,?_,?_,?_,?_⟩<;>(try simp[M1,j1,hd,hd.symm,B2 hid])
theorem A8Z(x:D7)(M:Nat)(id:Nat)(hl:o8 [x]<=1099511627776):A2 Tryz.prog 100 [.bsl M 0 1] [(M,mB x)] id (.int .i64 (N7 [x] [])) []:=by
 have hsz:=A0Y (l:=[x]) (s:=x) (by simp);have hC:=fun j id hd=>A3w x x M j id hd;have hK:=fun id=>A3t (o8 [x]+1) x.kids id (by omega) (by omega);have hf:N7 [x] []=if A2k x []≠0 then A2k x [] else if N7 x.kids []≠0 then N7 x.kids [] else 0:=by simp only[N7,A1j]
 rw[hf,A3s];clear hf;simp only[A0c] at *;refine w100.e.1 fun E hP hR hl hid=>?_;simp[w100];have hM:=hl (M,_) (zb ..);simp only at hM;have M1:=lf hM;refine C8 (X:=Nat) (fun i=>⟨[(0,true,.bsl M 0 1),(6,true,.bsl M 0 1),(7,true,.int .i64 1),(8,true,.int .i64 i)],[(M,some ⟨[.agg [.str x.alias,.str x.name,.sl (x.args.map x1),.sl (x.kids.map D0)]],.agg [.str [],.str [],.nils,.nils],false,false⟩)],0⟩) (fun i=>i=0\/i=1/\fNm x=0/\U3 x.args=0/\N7 x.kids []=0) (fun i=>1 - i) 0 ?_ (.inl rfl) ?_
 ·refine yV [] (by simp[M1]) fun hrn=>⟨?_,?_,?_,?_,?_⟩<;>(try simp[M1])
 ·rintro i hi p hp;rcases hi with rfl|⟨rfl,g1,g2,g3⟩
  ·refine A6 4000 ?_;simp[M1];refine C6 hP rfl (o6 x.name _) (by simp) (by simp[M1]<;>rfl) ?_;refine B1d (X:=Int) (fun e=>⟨[(0,true,.bsl M 0 1),(3,true,.int .i64 0),(4,true,.ptr E.n0 0 0),(5,true,.int .i64 e),(6,true,.bsl M 0 1),(7,true,.int .i64 1),(8,true,.int .i64 0)],[(E.n0,some ⟨[.agg [.str x.alias,.str x.name,.sl (x.args.map x1),.sl (x.kids.map D0)]],.agg [.str [],.str [],.nils,.nils],false,false⟩),(M,some ⟨[.agg [.str x.alias,.str x.name,.sl (x.args.map x1),.sl (x.kids.map D0)]],.agg [.str [],.str [],.nils,.nils],false,false⟩)],1⟩) (fun e=>e=fNm x) (fun q hq=>?_) (fun e he=>?_)
   ·refine A6 4000 ?_;simp[M1];refine C9 (fun h1=>?_) (fun h1=>?_)<;>simp[M1]
    ·simp at h1;(refine yC rfl (o6 x.alias _) ?_; simp[M1]);refine hq _ (F2 x.alias) (by unfold fNm; rw[zh (by simp[h1.1]),zk h1.2]) ?_;refine yV [(E.n0,E.n0+4096)] (by simp[M1]) fun hrn=>⟨?_,?_,?_,?_,?_⟩<;>(try simp[M1])
    ·simp at h1;refine hq _ (F2 x.name) (by
      unfold fNm;split
      ·rfl
      ·rename_i h0;have h0:F2 x.name=0:=(by simpa using h0);rw[zh (by simp[h1 h0]),h0]) ?_
     refine yV [(E.n0,E.n0+4096)] (by simp[M1]) fun hrn=>⟨?_,?_,?_,?_,?_⟩<;>(try simp[M1])
   ·subst he;by_cases h2:fNm x=0
    ·refine A6 4000 ?_;simp[h2,M1];by_cases h4:U3 x.args=0
     ·have hA:=fun id=>A69 x.args id;rw[h4] at hA;have hsl:=fun id=>B3l (P:=Tryz.prog) (n:=4) (x:=.t 34) (hi:=.t 35) (J:=M) (off:=0) (len:=1) (l:=0) (b:=⟨[.agg [.str x.alias,.str x.name,.sl (x.args.map x1),.sl (x.kids.map D0)]],.agg [.str [],.str [],.nils,.nils],false,false⟩) (id:=id) (by omega) (by omega) (by simp) (fun y hy=>by simp at hy; subst hy; rfl);refine C6 hP rfl (hA _) (by simp) (by simp[M1]<;>rfl) ?_;refine A6 28 ?_;simp[M1];refine B5D hP rfl (by simp) (by simp) (by simp[W6.args]<;>exact⟨rfl,rfl⟩) (hsl _) (by simp) (by simp[M1]) ?_;refine A6 4000 ?_;simp[M1];refine K3 hP (by simp) rfl (fun hc=>⟨hC E.n0 _ (by have:=hM.1; omega),by simp,by simp[M1]<;>rfl⟩) ?_;refine A6 4000 ?_;simp[M1];(refine yC rfl (hK _) ?_; simp[M1]);refine C9 (fun h5=>?_) (fun h5=>?_)
      ·have h5:N7 x.kids []≠0:=(by simpa using h5);simp[M1];refine yE hR [] (by simp[M1,B2 hid]) fun hrn=>⟨?_,?_,?_,?_,?_,?_⟩<;>(try simp[M1,B2 hid]);simp[h2,h4,h5]
      ·have h5:N7 x.kids []=0:=(by simpa using h5);simp[M1];refine hp _ 1 (.inr ⟨rfl,h2,h4,h5⟩) (by omega) ?_;refine yV [] (by simp[M1]) fun hrn=>⟨?_,?_,?_,?_,?_⟩<;>(try simp[M1]);exact wrap64 (by omega)
     ·have hA:=fun id=>A69 x.args id;have h4':(U3 x.args==0)=false:=(by simpa using h4);refine C6 hP rfl (hA _) (by simp) (by simp[M1]<;>rfl) ?_;refine A6 28 ?_;simp[M1];refine A6B (by simp) (by simp[h4']) ?_;refine A6 4000 ?_;simp[h4',M1];refine A6B (by simp) (by simp[h4']) ?_;refine A6 4000 ?_;simp[h4',M1];refine D5 (by simpa using h4) ?_;simp[M1];refine yE hR [] (by simp[M1,B2 hid]) fun hrn=>⟨?_,?_,?_,?_,?_,?_⟩<;>(try simp[M1,B2 hid]);simp[h2,h4]
    ·have h2':(fNm x==0)=false:=(by simpa using h2);refine A6 39 ?_;simp[h2',M1];refine A6B (by simp) (by simp[h2']) ?_;refine A6 4000 ?_;simp[h2',M1];refine A6B (by simp) (by simp[h2']) ?_;refine A6 4000 ?_;simp[h2',M1];refine D5 (by simpa using h2) ?_;simp[M1];refine yE hR [] (by simp[M1,B2 hid]) fun hrn=>⟨?_,?_,?_,?_,?_,?_⟩<;>(try simp[M1,B2 hid]);simp[h2]
  ·refine A6 4000 ?_;simp[M1];refine yE hR [] (by simp[M1,B2 hid]) fun hrn=>⟨?_,?_,?_,?_,?_,?_⟩<;>(try simp[M1,B2 hid]);simp[g1,g2,g3]
theorem A7W(x:D7)(M:Nat)(id:Nat)(h:o8 [x]<=1099511627776):A2 Tryz.prog 41 [.bsl M 0 1] [(M,mB x)] id (.int .i64 (N6 [x])) []:=by
 have h1:=fun id=>B0I x M id h;have h3:=fun id=>A8Z x M id h;simp only[A0c] at *;refine w41.e.1 fun E hP hR hl hid=>?_;simp[w41];have hM:=hl (M,_) (zb ..);simp only at hM;have M1:=lf hM;(refine yC rfl (h1 _) ?_; simp[M1]);refine C9 (fun h2=>?_) (fun h2=>?_)<;>simp[M1]
 ·refine yE hR [] (by simp[M1,B2 hid]) fun hrn=>⟨?_,?_,?_,?_,?_,?_⟩<;>(try simp[M1,B2 hid]);simp at h2; unfold N6; rw[zh (by simp),zk (by omega)]
 ·have h2:¬(40<N2 5 [x]\/5<J2 5 [x]):=by simp at h2; omega
  (refine yC rfl (h3 _) ?_; simp[M1]);refine yE hR [] (by simp[M1,B2 hid]) fun hrn=>⟨?_,?_,?_,?_,?_,?_⟩<;>(try simp[M1,B2 hid]);unfold N6; rw[zh (by simp),zh h2]
theorem B0J(l:List Ty)(x:D7)(M:Nat)(id:Nat)(hL:A3u l)(hl8:l.length<=1000)(ht8:∀t∈l,t.fields.length<=1000)(hq8:o8 [x]<=1099511627776):
  A2 Tryz.prog 57 [.sl (l.map H6),.bsl M 0 1] [(M,mB x)] id (.int .i64 (Y8 l [x])) []:=by
 have hsx:=Z6 (l:=[x]) (s:=x) (by simp);have hff:Y8 l [x]=A1k l x:=by simp[Y8,U9]; intro h; exact h.symm
 simp only[A0c] at *;refine w57.e.1 fun E hP hR hl hid=>?_;simp[w57];have hM:=hl (M,_) (zb ..);simp only at hM;have M1:=lf hM;simp[M1];refine C8 (X:=Nat) (fun i=>⟨[(5,true,.ptr E.n0 0 0),(12,true,.bsl M 0 1),(13,true,.int .i64 1),(14,true,.int .i64 i)],[(E.n0,some ⟨[.agg [.sl (l.map H6)]],.agg [.sl (l.map H6)],false,false⟩),(M,some ⟨[.agg [.str x.alias,.str x.name,.sl (x.args.map x1),.sl (x.kids.map D0)]],.agg [.str [],.str [],.nils,.nils],false,false⟩)],1⟩) (fun i=>i=0\/i=1/\Y8 l [x]=0) (fun i=>1 - i) 0 ?_ (.inl rfl) ?_
 ·refine yV [(E.n0,E.n0+3072)] (by simp[M1]) fun hrn=>⟨?_,?_,?_,?_,?_⟩<;>(try simp[M1])
 ·rintro i hi p hp;have hK:=fun id=>A9J l x E.n0 id hL hl8 ht8 (by omega);rw[C7] at hK;simp only[bxF] at hK;rcases hi with rfl|⟨rfl,g⟩
  ·refine A6 4000 ?_;simp[M1];(refine yC rfl (hK _) ?_; simp[M1]);refine C9 (fun h1=>?_) (fun h1=>?_)
   ·simp[M1];refine yE hR [] (by simp[M1,B2 hid]) fun hrn=>⟨?_,?_,?_,?_,?_,?_⟩<;>(try simp[M1,B2 hid]);exact hff.symm
   ·simp[M1];refine hp _ 1 (.inr ⟨rfl,by rw[hff]; simpa using h1⟩) (by omega) ?_;refine yV [(E.n0,E.n0)] (by simp[M1]) fun hrn=>⟨?_,?_,?_,?_,?_⟩<;>(try simp[M1]);exact wrap64 (by omega)
  ·refine A6 4000 ?_;simp[M1];refine yE hR [] (by simp[M1,B2 hid]) fun hrn=>⟨?_,?_,?_,?_,?_,?_⟩<;>(try simp[M1,B2 hid]);exact g.symm
theorem A7X(l:List Ty)(x:D7)(M:Nat)(id:Nat)(hq8:o8 [x]<=1099511627776):
  A2 Tryz.prog 62 [.sl (l.map H6),.bsl M 0 1] [(M,mB x)] id (.int .i64 (M0 l [x])) []:=by
 have hC:=fun id=>A7W x M id hq8;have hF:=fun h1 h2 h3 id=>B0J l x M id h1 h2 h3 hq8;simp only[A0c] at *;refine w62.e.1 fun E hP hR hl hid=>?_;simp[w62];have hM:=hl (M,_) (zb ..);simp only at hM;have M1:=lf hM;(refine yC rfl (A25 l _) ?_; simp[M1]);refine C9 (fun h1=>?_) (fun h1=>?_)<;>simp[M1]
 ·have h1:F8 l=0:=by simpa using h1
  have hs:=A5H h1;(refine yC rfl (hC _) ?_; simp[M1]);refine C9 (fun h2=>?_) (fun h2=>?_)<;>simp[M1]
  ·have h2:N6 [x]=0:=(by simpa using h2);(refine yC rfl (hF hs.linked (by have:=hs.len; omega) (fun t ht=>by have:=hs.fields t ht; omega) _) ?_; simp[M1]);refine yE hR [] (by simp[M1,B2 hid]) fun hrn=>⟨?_,?_,?_,?_,?_,?_⟩<;>(try simp[M1,B2 hid]);unfold M0; rw[zh (by simp[h1]),zh (by simp[h2])]
  ·have h2:N6 [x]≠0:=(by simpa using h2);refine yE hR [] (by simp[M1,B2 hid]) fun hrn=>⟨?_,?_,?_,?_,?_,?_⟩<;>(try simp[M1,B2 hid]);unfold M0; rw[zh (by simp[h1]),zk h2]
 ·have h1:F8 l≠0:=by simpa using h1
  refine A0 (by simpa using h1) ?_;simp[M1];refine yE hR [] (by simp[M1,B2 hid]) fun hrn=>⟨?_,?_,?_,?_,?_,?_⟩<;>(try simp[M1,B2 hid]);unfold M0; rw[zk h1]
structure Cl where
 n:Int
 text:List UInt8
 ids:List Int
structure Tg where
 type:Int
 id:Int
 cells:List Cl
structure F1 where
 types:List Ty
 things:List Tg
def eI(n:Int):AV:=.int .i64 n
def t8(c:Cl):AV:=.agg [.int .i64 c.n,.str c.text,.sl (c.ids.map eI)]
def M5(t:Tg):AV:=.agg [.int .i64 t.type,.int .i64 t.id,.sl (t.cells.map t8)]
def B4(s:F1):AV:=.agg [.sl (s.types.map H6),.sl (s.things.map M5)]
theorem B4U(n:Int):eI n = .int .i64 n:=rfl
theorem A6C(c:Cl):t8 c = .agg [.int .i64 c.n,.str c.text,.sl (c.ids.map eI)]:=rfl
theorem A0d(t:Tg):M5 t = .agg [.int .i64 t.type,.int .i64 t.id,.sl (t.cells.map t8)]:=rfl
theorem B3m(n:Int):(eI n).pureB=true:=rfl
@[simp] theorem c8 (l:List Int):E7 (l.map eI)=true:=D6 B3m l
@[simp] theorem B5E (S:Nat->Prop) (l:List Int):D9 S (l.map eI):=A5 _ (c8 l)
@[simp] theorem B1u (R:Rn) (S:Nat->Prop) (l:List Int):K2 R S (l.map eI) (l.map eI):=F7 rfl (c8 l)
theorem B1v(c:Cl):(t8 c).pureB=true:=by simp[t8]
@[simp] theorem B1w (l:List Cl):E7 (l.map t8)=true:=D6 B1v l
@[simp] theorem B5e (S:Nat->Prop) (l:List Cl):D9 S (l.map t8):=A5 _ (B1w l)
theorem A3x(t:Tg):(M5 t).pureB=true:=by simp[M5]
@[simp] theorem B1x (l:List Tg):E7 (l.map M5)=true:=D6 A3x l
@[simp] theorem B5f (S:Nat->Prop) (l:List Tg):D9 S (l.map M5):=A5 _ (B1x l)
def S5(ta ia tb ib:Int):Int:=if ta≠tb then IntKind.i64.wrap (ta - tb) else IntKind.i64.wrap (ia - ib)
theorem A0e(ta ia tb ib:Int)(x y:AV)(id:Nat):A2 Tryz.prog 67 [.agg [.int .i64 ta,.int .i64 ia,x],.agg [.int .i64 tb,.int .i64 ib,y]] [] id (.int .i64 (S5 ta ia tb ib)) []:=by
 refine w67.e.1 fun E hP hR hl hid=>?_;simp[w67];refine C9 (fun h=>?_) (fun h=>?_)<;>simp
 ·exact yP hR (h1:=by simp; simp at h; unfold S5; rw[zk h])
 ·exact yP hR (h1:=by simp; simp at h; unfold S5; rw[zh (by simpa using h)])
theorem C5(n a b:Int)(id:Nat):A2 Tryz.prog 129 [.int .i64 n,.int .i64 a,.int .i64 b] [] id (.bool (decide (a<=n)&&decide (n<=b))) []:=by
 refine w129.e.1 fun E hP hR hl hid=>?_;simp[w129];(repeat (refine And.intro (by first|assumption|omega|(simp; omega)|(simp_all; done)) ?_));exact yP hR
def O5(k:Int):Bool:=decide (k=3)||decide (k=4)
theorem A3y(k:Int)(id:Nat):A2 Tryz.prog 198 [.int .i64 k] [] id (.bool (O5 k)) []:=by
 refine w198.e.1 fun E hP hR hl hid=>?_;simp[w198];(repeat (refine And.intro (by first|assumption|omega|(simp; omega)|(simp_all; done)) ?_));exact yP hR (h1:=by simp; unfold O5; rw[xp]; simp)
def bs(f:Nat->Int)(i j:Nat):Nat:=if h:i<j then (if f ((i+j) / 2)<0 then bs f ((i+j) / 2+1) j else bs f i ((i+j) / 2)) else i
termination_by j - i
theorem A9K(f:Nat->Int)(i j:Nat)(h:i<=j):i<=bs f i j/\bs f i j<=j:=by
 fun_induction bs f i j with
 | case1 i j h hf ih=>have:=ih (by omega); omega
 | case2 i j h hf ih=>have:=ih (by omega); omega
 | case3 i j h=>omega
def F4(l:List Tg)(kind id:Int)(k:Nat):Int:=match l[k]? with
 | some t=>S5 t.type t.id kind id
 | none=>0
def B3(l:List Tg)(kind id:Int):Nat:=bs (F4 l kind id) 0 l.length
def C3(l:List Tg)(kind id:Int):Bool:=decide (B3 l kind id<l.length)&&decide (F4 l kind id (B3 l kind id)=0)
theorem B1y{i j:Nat}(hi:i<1000000)(hj:j<1000000):IntKind.i64.wrap (IntKind.u64.wrap (IntKind.i64.wrap ((i:Int)+j)) / 2)=(((i+j) / 2:Nat):Int):=by
 have a:IntKind.i64.wrap ((i:Int)+j)=((i+j:Nat):Int):=by rw[wrap64 (by omega)]; omega
 have b:IntKind.u64.wrap ((i+j:Nat):Int)=((i+j:Nat):Int):=IntWalk.u64_in _ (by omega);rw[a,b,wrap64 (by omega)];omega
theorem A6D(l:List Tg)(kind tid:Int)(id:Nat)(hl:l.length<1000000):A2 Tryz.prog 132 [.sl (l.map M5),.agg [.int .i64 kind,.int .i64 tid,.nils],.fn 67 []] [] id (.tup [.int .i64 (B3 l kind tid),.bool (C3 l kind tid)]) []:=by
 refine w132.e.1 fun E hP hR hl hid=>?_;simp[w132];refine C8 (X:=Nat×Nat) (fun q=>⟨[(0,true,.sl (l.map M5)),(2,true,.fn 67 []),(4,true,.ptr E.n0 0 0),(8,true,.int .i64 l.length),(9,true,.int .i64 q.1),(10,true,.int .i64 q.2)],[(E.n0,some ⟨[.agg [.int .i64 kind,.int .i64 tid,.nils]],.agg [.int .i64 0,.int .i64 0,.nils],false,false⟩)],1⟩) (fun q=>q.1<=q.2/\q.2<=l.length/\bs (F4 l kind tid) q.1 q.2=B3 l kind tid) (fun q=>q.2 - q.1) (0,l.length) ?_ ⟨by simp,by simp,rfl⟩ ?_
 ·refine yV [(E.n0,E.n0)] (by simp) fun hrn=>⟨?_,?_,?_,?_,?_⟩<;>(try simp)
 ·rintro⟨i,j⟩ ⟨hij,hj,hf⟩ p hp;simp only at hij hj hf;refine A6 4000 ?_;simp;refine C9 (fun h=>?_) (fun h=>?_)
  ·have h:=zp h;have h':i<j:=(by omega);have hk:(i+j) / 2<l.length:=(by omega);obtain⟨t,ht⟩:∃t,l[(i+j) / 2]?=some t:=⟨_,zd hk⟩;have hh:=B1y (i:=i) (j:=j) (by omega) (by omega);have h64:(1:Int)<=↑IntKind.u64.bits:=(by decide);generalize hm:(i+j) / 2=m at hh hk ht;simp[hh,ht,A0d t];refine⟨h64,hk,?_⟩;refine P2 hP rfl rfl (A0e t.type t.id kind tid (.sl (t.cells.map t8)) .nils _) (by simp) (by simp<;>rfl) ?_;refine A6 4000 ?_;have hfo:F4 l kind tid m=S5 t.type t.id kind tid:=(by simp only[F4,ht]);rw[bs,dif_pos h',hm,hfo] at hf;simp;refine C9 (fun h1=>?_) (fun h1=>?_)
   ·have hm1:IntKind.i64.wrap ((m:Int)+1)=((m+1:Nat):Int):=wrap64 (by omega);simp at h1;rw[zk h1] at hf;simp;refine hp _ (m+1,j) ⟨by simp only; omega,hj,hf⟩ (by simp only; omega) ?_;refine yV [(E.n0,E.n0)] (by simp[hm1]) fun hrn=>⟨?_,?_,?_,?_,?_⟩<;>(try simp[hm1])
   ·simp at h1;rw[zh (by omega)] at hf;simp;refine hp _ (i,m) ⟨by simp only; omega,by simp only; omega,hf⟩ (by simp only; omega) ?_;refine yV [(E.n0,E.n0)] (by simp) fun hrn=>⟨?_,?_,?_,?_,?_⟩<;>(try simp)
  ·have h:=zq h;have he:i=B3 l kind tid:=(by rw[←hf,bs,dif_neg (by omega)]);simp;by_cases hi:i<l.length
   ·obtain⟨t,ht⟩:∃t,l[i]?=some t:=⟨_,zd hi⟩;have hfo:F4 l kind tid i=S5 t.type t.id kind tid:=(by simp only[F4,ht]);have hg:l[i]=t:=(by rw[zd hi] at ht; injection ht);simp[hi,hg,A0d t];refine o5 (.int .i64 0) (by simp) (fun _=>?_) (fun hg=>by simp at hg);refine P2 hP rfl rfl (A0e t.type t.id kind tid (.sl (t.cells.map t8)) .nils _) (by simp) (by simp<;>rfl) ?_;refine A6 4000 ?_;simp;exact yP hR (h1:=by simp; rw[←he]; refine⟨rfl,?_⟩; unfold C3; rw[←he,hfo,xp]; simp[hi])
   ·have ht:l[i]?=none:=xx (by omega);simp[hi,ht];refine o5 (.int .i64 0) (by simp) (fun hg=>by simp at hg) (fun _=>?_);refine A6 4000 ?_;simp;exact yP hR (h1:=by simp; rw[←he]; exact⟨rfl,by unfold C3; rw[←he]; simp[hi]⟩)
theorem S1(s:F1)(kind tid:Int)(id:Nat)(hl8:s.things.length<1000000):A2 Tryz.prog 71 [B4 s,.int .i64 kind,.int .i64 tid] [] id (.tup [.int .i64 (B3 s.things kind tid),.bool (C3 s.things kind tid)]) []:=by
 unfold B4;refine w71.e.1 fun E hP hR hl hid=>?_;simp[w71];(refine yH rfl (A6D s.things kind tid _ hl8) ?_; simp);exact yP hR
def A2z:List Int->Bool
 | a::b::r=>decide (a<b)&&A2z (b::r)
 | _=>true
theorem B0K{l:List Int}{i:Nat}{a b:Int}(h1:l[i]?=some a)(h2:l[i+1]?=some b):A2z (l.drop i)=(decide (a<b)&&A2z (l.drop (i+1))):=by
 have e1:l.drop i=a::l.drop (i+1):=by
  have hi:=(ze.1 h1).1;obtain⟨x,hx,hd⟩:=B6 hi;rw[h1] at hx; injection hx with hx; subst hx; exact hd
 have e2:l.drop (i+1)=b::l.drop (i+2):=by
  have hi:=(ze.1 h2).1;obtain⟨x,hx,hd⟩:=B6 hi;rw[h2] at hx; injection hx with hx; subst hx; exact hd
 rw[e1,e2]; rfl
theorem B1z{l:List Int}{i:Nat}(h:l.length<=i+1):A2z (l.drop i)=true:=by
 have:(l.drop i).length<=1:=by simp; omega
 match hm:l.drop i,this with
 | [],_=>rfl
 | [a],_=>rfl
def A1l(k:Int):Int:=if k=3 then 1 else 6
def A15(f:Fd)(c:Cl):Int :=
 if (f.kind≠1/\c.n≠0)\/(f.kind≠2/\c.text≠[])\/(O5 f.kind=false/\c.ids≠[]) then 1
 else if ¬(-999999999<=c.n/\c.n<=999999999) then 3
 else if 40<c.text.length\/A1l f.kind<c.ids.length then 2
 else if A2z c.ids=true then 0 else 4
theorem B3n(f:Fd)(c:Cl)(id:Nat):A2 Tryz.prog 130 [M4 f,t8 c] [] id (.int .i64 (A15 f c)) []:=by
 unfold M4 t8;refine w130.e.1 fun E hP hR hl hid=>?_;simp[w130];refine C9 (fun h3=>?_) (fun h3=>?_)<;>simp;all_goals repeat' first
  | (refine And.intro ?_ ?_)
  | (refine C9 (fun h=>?_) (fun h=>?_)<;>simp)
  | (refine yH rfl (A3y _ _) ?_; simp)
  | (refine yH rfl (w8 _ _) ?_; simp)
 all_goals first
  | (rw[hR]; refine H2 (by simp<;>rfl) [] trivial (X3 ?_ (by simp) (by simp)); simp[A15,O5,A1l] at *; first|done|grind)
  | (exfalso; simp_all; done)
  | skip
 all_goals
  have h6:c.ids.length<=6:=by simp at *; omega
  have hf:A15 f c=if A2z c.ids=true then 0 else 4:=by
   simp[O5] at *;unfold A15;rw[zh (by simp[O5]; grind),zh (by omega),zh (by simp[A1l]; grind)]
  rw[hf] at hR;refine C8 (X:=Nat) (fun i=>⟨[(3,true,.ptr (E.n0+1024) 0 0),(6,true,.int .i64 (i+1))],[(E.n0+1024,some ⟨[.agg [.int .i64 c.n,.str c.text,.sl (c.ids.map eI)]],.agg [.int .i64 c.n,.str c.text,.sl (c.ids.map eI)],false,false⟩)],1025⟩) (fun i=>i<=c.ids.length/\A2z (c.ids.drop i)=A2z c.ids) (fun i=>c.ids.length - i) 0 ?_ ⟨by omega,rfl⟩ ?_
  ·refine yV [(E.n0+1024,E.n0+1024)] (by simp) fun hrn=>⟨?_,?_,?_,?_,?_⟩<;>(try simp)
  ·rintro i ⟨hi,ha⟩ p hp;have hw1:IntKind.i64.wrap (i:Int)=(i:Int):=wrap64 (by omega);have hw2:IntKind.i64.wrap ((i:Int)+1+1)=((i+1:Nat):Int)+1:=(by rw[wrap64 (by omega)]; omega);have hw3:(0:Int)<=(i:Int)+1:=(by omega);have hw4:((i:Int)+1).toNat=i+1:=(by omega);refine A6 4000 ?_;simp;refine C9 (fun h=>?_) (fun h=>?_)
   ·have h:=zp h;obtain⟨a,hx⟩:∃a,c.ids[i]?=some a:=⟨_,zd (by omega)⟩;obtain⟨b,hy⟩:∃b,c.ids[i+1]?=some b:=⟨_,zd (by omega)⟩;have hst:=B0K hx hy;simp[hw1,hw3,hw4,hx,hy,eI];refine⟨by omega,by omega,?_⟩;refine C9 (fun h1=>?_) (fun h1=>?_)<;>simp
    ·exact yP hR (h1:=by simp; simp at h1; rw[←ha,hst]; simp; intro h2; omega)
    ·simp at h1;rw[hst] at ha;refine hp _ (i+1) ⟨by omega,by rw[←ha]; simp; intro _; exact h1⟩ (by omega) ?_;refine yV [(E.n0+1024,E.n0+1024)] (by simp[hw2]) fun hrn=>⟨?_,?_,?_,?_,?_⟩<;>(try simp[hw2])
   ·have h:=zq h;have:A2z c.ids=true:=by rw[←ha]; exact B1z (by omega)
    simp;exact yP hR (h1:=by simp; exact this)
def C2(l:List Ty)(k:Int):List Fd:=((l[k.toNat]?).map Ty.fields).getD []
def s7(fs:List Fd)(k:Nat)(c:Cl):Int:=match fs[k]? with
 | some f=>A15 f c
 | none=>0
def R5(l:List Ty)(t:Tg):Int :=
 if ¬(0<=t.type/\t.type<l.length) then 5 else if ¬(1<=t.id/\t.id<=999) then 3
 else if t.cells.length≠(C2 l t.type).length then 1 else B9 (fun k c=>s7 (C2 l t.type) k c) t.cells 0
theorem B20(s:F1)(t:Tg)(id:Nat)(h5:s.types.length<=5)(h6:t.cells.length<=1000000\/∀x∈s.types,x.fields.length<=6):A2 Tryz.prog 66 [B4 s,M5 t] [] id (.int .i64 (R5 s.types t)) []:=by
 rw[A0d t];unfold B4;have hw:IntKind.i64.wrap ((s.types.length:Int) - 1)=(s.types.length:Int) - 1:=wrap64 (by omega);refine w66.e.1 fun E hP hR hl hid=>?_;simp[w66,hw];(refine yH rfl (C5 _ _ _ _) ?_; simp);refine C9 (fun h=>?_) (fun h=>?_)<;>simp
 ·exact yP hR (h1:=by simp; simp at h; unfold R5; rw[zk (by omega)])
 have h1:¬¬(0<=t.type/\t.type<s.types.length):=by simp at h; omega
 (refine yH rfl (C5 _ _ _ _) ?_; simp);refine C9 (fun h=>?_) (fun h=>?_)<;>simp
 ·exact yP hR (h1:=by simp; simp at h; unfold R5; rw[zh h1,zk (by omega)])
 have h2:¬¬(1<=t.id/\t.id<=999):=by simp at h; omega
 obtain⟨ty,hty⟩:∃ty,s.types[t.type.toNat]?=some ty:=⟨_,zd (by omega)⟩;have hfl:C2 s.types t.type=ty.fields:=by simp[C2,hty]
 have hr1:0<=t.type:=by omega
 have hr2:t.type.toNat<s.types.length:=by omega
 simp[hty,H6];refine⟨⟨hr1,hr2⟩,?_⟩;refine C9 (fun h=>?_) (fun h=>?_)<;>simp
 ·exact yP hR (h1:=by simp; simp at h; unfold R5; rw[zh h1,zh h2,hfl,zk (by omega)])
 have h3:t.cells.length=ty.fields.length:=by simp at h; omega
 have hft:R5 s.types t=B9 (fun k c=>s7 ty.fields k c) t.cells 0:=by unfold R5; rw[zh h1,zh h2,hfl,zh (by omega)]
 rw[hft] at hR;have h7:t.cells.length<=1000000:=by
  rcases h6 with h6|h6
  ·exact h6
  ·have:=h6 ty (zf hty); omega
 refine C8 (X:=Nat) (fun k=>⟨[(2,true,.ptr E.n0 0 0),(3,true,.ptr (E.n0+1024) 0 0),(36,true,.sl (t.cells.map t8)),(37,true,.int .i64 t.cells.length),(38,true,.int .i64 k)],[(E.n0,some ⟨[.agg [.sl (s.types.map H6),.sl (s.things.map M5)]],.agg [.sl (s.types.map H6),.sl (s.things.map M5)],false,false⟩),(E.n0+1024,some ⟨[.agg [.int .i64 t.type,.int .i64 t.id,.sl (t.cells.map t8)]],.agg [.int .i64 t.type,.int .i64 t.id,.sl (t.cells.map t8)],false,false⟩)],1025⟩) (fun k=>k<=t.cells.length/\B9 (fun k c=>s7 ty.fields k c) (t.cells.drop k) k=B9 (fun k c=>s7 ty.fields k c) t.cells 0) (fun k=>t.cells.length - k) 0 ?_ ⟨by omega,rfl⟩ ?_
 ·refine yV [(E.n0,E.n0),(E.n0+1024,E.n0+1024)] (by simp) fun hrn=>⟨?_,?_,?_,?_,?_⟩<;>(try simp)
 ·rintro k ⟨hk,hf⟩ p hp;refine A6 4000 ?_;simp;refine C9 (fun h=>?_) (fun h=>?_)
  ·have h:=zp h;obtain⟨x,hx,hd⟩:=B6 h;obtain⟨f,hfx⟩:∃f,ty.fields[k]?=some f:=⟨_,zd (by omega)⟩;rw[hd] at hf;simp only[B9] at hf;have hca:s7 ty.fields k x=A15 f x:=(by simp only[s7,hfx]);rw[hca] at hf;have hi1:IntKind.i64.wrap ((k:Int)+1)=((k+1:Nat):Int):=wrap64 (by omega);simp[hx,A6C x,hty,H6,hfx,M4];have hcx:=fun id=>B3n f x id;simp only[M4,A6C x] at hcx;refine⟨h,⟨hr1,hr2⟩,by omega,?_⟩;(refine yH rfl (hcx _) ?_; simp);refine C9 (fun h1=>?_) (fun h1=>?_)
   ·simp;rw[zk (by simpa using h1)] at hf;exact yP hR (h1:=by simp; exact hf)
   ·simp;rw[zh (by simpa using h1)] at hf;refine hp _ (k+1) ⟨h,hf⟩ (by omega) ?_;refine yV [(E.n0,E.n0),(E.n0+1024,E.n0+1024)] (by simp[hi1]) fun hrn=>⟨?_,?_,?_,?_,?_⟩<;>(try simp[hi1])
  ·have h:=zq h;simp;rw[zt (by omega)] at hf;exact yP hR (h1:=by simp; exact hf)
theorem A5I(s:F1):(B4 s).pureB=true:=by simp[B4]
@[simp] theorem B21 (R:Rn) (S:Nat->Prop) (f:Fd):J8 R S (M4 f) (M4 f):=U7 rfl (A7L f)
@[simp] theorem B6Q (R:Rn) (S:Nat->Prop) (s:F1):J8 R S (B4 s) (B4 s):=U7 rfl (A5I s)
@[simp] theorem B6X (R:Rn) (S:Nat->Prop) (t:Tg):J8 R S (M5 t) (M5 t):=U7 rfl (A3x t)
def A8(l:List Ty)(n:List UInt8):Int:=B7 (fun t=>t.name==n) l 0
def F9(s:F1)(f:Fd)(x:Int):Bool:=C3 s.things (A8 s.types f.of) x
theorem V1(l:List Ty)(n:List UInt8):B7 (fun t=>t.name==n) l 0=A8 l n:=rfl
theorem A8a(x:Int)(s:F1)(f:Fd)(js jf:Nat)(id:Nat)(h5:s.types.length<=5)(h12:s.things.length<=12)(d1:js≠jf):A2 Tryz.prog 70 [.int .i64 x,.ptr js 0 0,.ptr jf 0 0] [(js,⟨[B4 s],B4 s,false,false⟩),(jf,⟨[M4 f],M4 f,false,false⟩)] id (.bool (!F9 s f x)) []:=by
 have hF:=S1 s (A8 s.types f.of) x;unfold B4 M4 at *;refine w70.e.1 fun E hP hR hl hid=>?_;simp[w70];have hjs:=hl (js,_) (zb ..);simp only at hjs;have js1:=lf hjs;have hjf:=hl (jf,_) (za _ (zb ..));simp only at hjf;have jf1:=lf hjf;try simp[js1,jf1,d1,d1.symm]
 (refine yC rfl (T2 s.types f.of _ (by omega)) ?_; simp[js1,jf1,d1,d1.symm,V1]);(refine yC rfl (hF _ (by omega)) ?_; simp[js1,jf1,d1,d1.symm,F9]);refine yE hR [] (by simp[js1,jf1,d1,d1.symm,F9,B2 hid]) fun hrn=>⟨?_,?_,?_,?_,?_,?_⟩<;>(try simp[js1,jf1,d1,d1.symm,F9,B2 hid])
theorem A7Y(l:List Int)(s:F1)(f:Fd)(js jf:Nat)(id:Nat)(h5:s.types.length<=5)(h12:s.things.length<=12)(d1:js≠jf)(hl8:l.length<9223372036854775807):A2 Tryz.prog 131 [.sl (l.map eI),.fn 70 [.ptr js 0 0,.ptr jf 0 0]] [(js,⟨[B4 s],B4 s,false,false⟩),(jf,⟨[M4 f],M4 f,false,false⟩)] id (.int .i64 (B7 (fun x=>!F9 s f x) l 0)) []:=by
 refine w131.e.1 fun E hP hR hl hid=>?_;simp[w131];have hjs:=hl (js,_) (zb ..);simp only at hjs;have js1:=lf hjs;have hjf:=hl (jf,_) (za _ (zb ..));simp only at hjf;have jf1:=lf hjf;refine C8 (X:=Nat) (fun i=>⟨[(0,true,.sl (l.map eI)),(1,true,.fn 70 [.ptr js 0 0,.ptr jf 0 0]),(7,true,.int .i64 l.length),(8,true,.int .i64 i)],[(js,some (⟨[B4 s],B4 s,false,false⟩)),(jf,some (⟨[M4 f],M4 f,false,false⟩))],0⟩) (fun i=>i<=l.length/\B7 (fun x=>!F9 s f x) (l.drop i) i=B7 (fun x=>!F9 s f x) l 0) (fun i=>l.length - i) 0 ?_ ⟨by omega,rfl⟩ ?_
 ·refine yV [] (by simp[js1,jf1,d1,d1.symm]) fun hrn=>⟨?_,?_,?_,?_,?_⟩<;>(try simp[js1,jf1,d1,d1.symm])
 ·rintro i ⟨hi,hf⟩ p hp;refine A6 4000 ?_;simp;refine C9 (fun h=>?_) (fun h=>?_)
  ·have h:=zp h;obtain⟨x,hx,hd⟩:=B6 h;have hcl:=A8a x s f js jf;rw[hd] at hf;simp only[B7] at hf;have hi1:IntKind.i64.wrap ((i:Int)+1)=((i+1:Nat):Int):=wrap64 (by omega);simp[hx,eI];refine⟨h,?_⟩;refine P2 hP rfl rfl (hcl _ h5 h12 d1) (by simp) (by simp[js1,jf1,d1,d1.symm]<;>rfl) ?_;refine A6 4000 ?_;simp[js1,jf1,d1,d1.symm];refine C9 (fun h1=>?_) (fun h1=>?_)
   ·simp[js1,jf1,d1,d1.symm];rw[zk h1] at hf;rw[←hf] at hR;refine yE hR [] (by simp[js1,jf1,d1,d1.symm,B7,B2 hid]) fun hrn=>⟨?_,?_,?_,?_,?_,?_⟩<;>(try simp[js1,jf1,d1,d1.symm,B7,B2 hid])
   ·simp[js1,jf1,d1,d1.symm];rw[zh (by simpa using h1)] at hf;refine hp _ (i+1) ⟨h,hf⟩ (by omega) ?_;refine yV [] (by simp[hi1,js1,jf1,d1,d1.symm]) fun hrn=>⟨?_,?_,?_,?_,?_⟩<;>(try simp[hi1,js1,jf1,d1,d1.symm])
  ·have h:=zq h;simp;rw[zt (by omega)] at hf;rw[←hf] at hR;refine yE hR [] (by simp[js1,jf1,d1,d1.symm,B7,B2 hid]) fun hrn=>⟨?_,?_,?_,?_,?_,?_⟩<;>(try simp[js1,jf1,d1,d1.symm,B7,B2 hid])
theorem A8b(l:List Int)(s:F1)(f:Fd)(js jf:Nat)(id:Nat)(h5:s.types.length<=5)(h12:s.things.length<=12)(d1:js≠jf)(hl8:l.length<9223372036854775807):A2 Tryz.prog 69 [.sl (l.map eI),.fn 70 [.ptr js 0 0,.ptr jf 0 0]] [(js,⟨[B4 s],B4 s,false,false⟩),(jf,⟨[M4 f],M4 f,false,false⟩)] id (.bool (l.any fun x=>!F9 s f x)) []:=by
 refine w69.e.1 fun E hP hR hl hid=>?_;simp[w69];have hjs:=hl (js,_) (zb ..);simp only at hjs;have js1:=lf hjs;have hjf:=hl (jf,_) (za _ (zb ..));simp only at hjf;have jf1:=lf hjf;try simp[js1,jf1,d1,d1.symm]
 (refine yC rfl (A7Y l s f js jf _ h5 h12 d1 hl8) ?_; simp[js1,jf1,d1,d1.symm]);have hj:=S0 (fun x=>!F9 s f x) l 0;simp[hj];refine yE hR [] (by simp[js1,jf1,d1,d1.symm,B2 hid]) fun hrn=>⟨?_,?_,?_,?_,?_,?_⟩<;>(try simp[js1,jf1,d1,d1.symm,B2 hid])
theorem B0L(f:Fd)(c:Cl)(s:F1)(js:Nat)(id:Nat)(h5:s.types.length<=5)(h12:s.things.length<=12)(hl8:c.ids.length<9223372036854775807):A2 Tryz.prog 68 [M4 f,.cptr [.int .i64 c.n,.str c.text,.sl (c.ids.map eI)],.ptr js 0 0] [(js,⟨[B4 s],B4 s,false,false⟩)] id (.bool (!c.ids.any fun x=>!F9 s f x)) []:=by
 refine w68.e.1 fun E hP hR hl hid=>?_;simp[w68];have hjs:=hl (js,_) (zb ..);simp only at hjs;have js1:=lf hjs;try simp[js1]
 have hne:js≠E.n0:=by omega
 (refine yC rfl (A8b c.ids s f js E.n0 _ h5 h12 hne hl8) ?_; simp[js1]);refine yE hR [] (by simp[js1,B2 hid]) fun hrn=>⟨?_,?_,?_,?_,?_,?_⟩<;>(try simp[js1,B2 hid])
def bR(s:F1)(m:Nat):Bx:=⟨[.agg [.sl (s.types.map H6),.sl (s.things.map M5),.int .i64 m]],.agg [.sl (s.types.map H6),.sl (s.things.map M5),.int .i64 0],false,false⟩
theorem T3(s:F1)(m:Nat):bR s m=⟨[.agg [.sl (s.types.map H6),.sl (s.things.map M5),.int .i64 m]],.agg [.sl (s.types.map H6),.sl (s.things.map M5),.int .i64 0],false,false⟩:=rfl
def tm:AV:=.iface 173 (.agg [])
def rnR(s:F1)(J m w:Nat)(v:AV):Except AV (AV×List (Nat×Option Bx)):=if m+w<=2000 then .ok (v,[(J,some (bR s (m+w)))]) else .error tm
theorem F5{s:F1}{J m w:Nat}{v:AV}(h:m+w<=2000):rnR s J m w v = .ok (v,[(J,some (bR s (m+w)))]):=zk h
theorem E4{s:F1}{J m w:Nat}{v:AV}(h:¬m+w<=2000):rnR s J m w v = .error tm:=zh h
theorem A9L(s:F1)(J m:Nat)(k n:Int)(tx:List UInt8)(id:Nat)(hm:m<=2000):u9 Tryz.prog 186 [.ptr J 0 0,.agg [.int .i64 k,.int .i64 n,.str tx,.nils,.nils]] [(J,bR s m)] id (rnR s J m 1 (.agg [.int .i64 k,.int .i64 n,.str tx,.nils,.nils])):=by
 have hw:IntKind.i64.wrap ((m:Int)+1)=((m+1:Nat):Int):=wrap64 (by omega);rw[T3];refine B1f w186.hf w186.hc w186.hn w186.hr (by simp[Tryz.ntmps186]) fun E hP hR hPn hl hid hB hu=>?_;refine A6 74 ?_;simp[w186];have hJ:=hl (J,_) (zb ..);simp only at hJ;have J1:=lf hJ;simp[J1,hw];refine⟨fun h=>?_,fun h=>?_⟩
 ·refine A6 9 ?_;simp;refine B3g (by simp<;>rfl) (by simp) ⟨by simp,hPn _ _ (E4 (by omega)) rfl (by simp[J1])⟩
 ·refine A6 4000 ?_;simp[J1];have hrn:I0 []:=by simp[bR,J1,B2 hid]
  refine hR _ _ _ (F5 (by omega)) ?_;refine H2 (by simp[bR,J1,B2 hid]<;>rfl) [] hrn ⟨?_,?_,?_,?_,?_,?_⟩<;>(try simp[bR,J1,B2 hid])
def P7(p:Fd->Cl->Bool):List Fd->List Cl->Bool
 | f::fs,c::cs=>p f c&&P7 p fs cs
 | _,_=>true
def M2(p:Fd->Cl->Bool)(l:List Ty)(ts:List Tg):Bool:=ts.all fun t=>P7 p (C2 l t.type) t.cells
theorem A9M(s:F1)(g j:Nat)(y:AV)(p:Fd->Cl->Bool)(hy:y.pureB=true)
  (hcl:∀f c id,c.ids.length<=6->A2 Tryz.prog g [M4 f,.cptr [.int .i64 c.n,.str c.text,.sl (c.ids.map eI)],.ptr j 0 0] [(j,⟨[y],y,false,false⟩)] id (.bool (p f c)) [])
  (hok:∀t∈s.things,0<=t.type/\t.type.toNat<s.types.length/\t.cells.length=(C2 s.types t.type).length/\t.cells.length<=1000000/\∀c∈t.cells,c.ids.length<=6) (h12:s.things.length<=1000000) (id:Nat) :
  A2 Tryz.prog 73 [B4 s,.fn g [.ptr j 0 0]] [(j,⟨[y],y,false,false⟩)] id (.bool (M2 p s.types s.things)) []:=by
 have hr:∀R S,J8 R S y y:=fun R S=>U7 rfl hy;have hn:∀S,A4 S y:=fun S=>L0 _ hy;unfold B4;refine w73.e.1 fun E hP hR hl hid=>?_;simp[w73];have hj:=hl (j,_) (zb ..);simp only at hj;have j1:=lf hj;refine C8 (X:=Nat) (fun i=>⟨[(1,true,.fn g [.ptr j 0 0]),(2,true,.ptr E.n0 0 0),(9,true,.sl (s.things.map M5)),(10,true,.int .i64 s.things.length),(11,true,.int .i64 i)],[(j,some ⟨[y],y,false,false⟩),(E.n0,some ⟨[.agg [.sl (s.types.map H6),.sl (s.things.map M5)]],.agg [.sl (s.types.map H6),.sl (s.things.map M5)],false,false⟩)],1⟩) (fun i=>i<=s.things.length/\M2 p s.types (s.things.drop i)=M2 p s.types s.things) (fun i=>s.things.length - i) 0 ?_ ⟨by omega,rfl⟩ ?_
 ·refine yV [(E.n0,E.n0)] (by simp[j1,hr,hn]) fun hrn=>⟨?_,?_,?_,?_,?_⟩<;>(try simp[j1,hr,hn])
 ·rintro i ⟨hi,hf⟩ q hq;refine A6 4000 ?_;simp;refine C9 (fun h=>?_) (fun h=>?_)
  ·have h:=zp h;obtain⟨t,hx,hd⟩:=B6 h;have hi1:IntKind.i64.wrap ((i:Int)+1)=((i+1:Nat):Int):=wrap64 (by omega);obtain⟨k1,k2,k3,k4,k5⟩:=hok t (zf hx);obtain⟨ty,hty⟩:∃ty,s.types[t.type.toNat]?=some ty:=⟨_,zd k2⟩;have hfl:C2 s.types t.type=ty.fields:=(by simp[C2,hty]);rw[hd,M2,List.all_cons,hfl] at hf;rw[hfl] at k3;simp[hx,A0d t,j1];refine⟨h,?_⟩;refine C8 (X:=Nat) (fun k=>⟨[(1,true,.fn g [.ptr j 0 0]),(2,true,.ptr E.n0 0 0),(6,true,.ptr (E.n0+1) 0 0),(9,true,.sl (s.things.map M5)),(10,true,.int .i64 s.things.length),(11,true,.int .i64 i),(16,true,.sl (t.cells.map t8)),(17,true,.int .i64 t.cells.length),(18,true,.int .i64 k)],[(j,some ⟨[y],y,false,false⟩),(E.n0,some ⟨[.agg [.sl (s.types.map H6),.sl (s.things.map M5)]],.agg [.sl (s.types.map H6),.sl (s.things.map M5)],false,false⟩),(E.n0+1,some ⟨[.agg [.int .i64 t.type,.int .i64 t.id,.sl (t.cells.map t8)]],.agg [.int .i64 0,.int .i64 0,.nils],false,false⟩)],2⟩) (fun k=>k<=t.cells.length/\P7 p (ty.fields.drop k) (t.cells.drop k)=P7 p ty.fields t.cells) (fun k=>t.cells.length - k) 0 ?_ ⟨by omega,rfl⟩ ?_
   ·refine yV [(E.n0,E.n0),(E.n0+1,E.n0+3073)] (by simp[j1,hr,hn]) fun hrn=>⟨?_,?_,?_,?_,?_⟩<;>(try simp[j1,hr,hn])
   ·rintro k ⟨hk,hf2⟩ q2 hq2;refine A6 4000 ?_;simp;refine C9 (fun h=>?_) (fun h=>?_)
    ·have h:=zp h;obtain⟨c,hcx,hcd⟩:=B6 h;obtain⟨f,hfx,hfd⟩:=B6 (l:=ty.fields) (i:=k) (by omega);have hi2:IntKind.i64.wrap ((k:Int)+1)=((k+1:Nat):Int):=wrap64 (by omega);rw[hcd,hfd,P7] at hf2;have hfc:=fun id=>hcl f c id (k5 c (zf hcx));simp only[M4] at hfc;simp[hcx,hfx,A6C c,hty,H6,M4,j1];refine⟨⟨k1,k2⟩,by omega,h,?_⟩;refine P2 hP rfl rfl (hfc _) (by simp) (by simp[j1]<;>rfl) ?_;refine A6 4000 ?_;simp;refine C9 (fun h1=>?_) (fun h1=>?_)
     ·have h1:p f c=false:=(by simpa using h1);rw[h1,uk] at hf2;rw[←hf2,uk] at hf;rw[←hf] at hR;simp;refine yE hR [] (by simp[j1,hr,hn,B2 hid]) fun hrn=>⟨?_,?_,?_,?_,?_,?_⟩<;>(try simp[j1,hr,hn,B2 hid])
     ·have h1:p f c=true:=(by simpa using h1);rw[h1,uc] at hf2;simp;refine hq2 _ (k+1) ⟨h,hf2⟩ (by omega) ?_;refine yV [(E.n0,E.n0),(E.n0+1,E.n0+1)] (by simp[hi2,j1,hr,hn]) fun hrn=>⟨?_,?_,?_,?_,?_⟩<;>(try simp[hi2,j1,hr,hn])
    ·have h:=zq h;rw[zt (l:=t.cells) (by omega)] at hf2;have hb:P7 p ty.fields t.cells=true:=(by rw[←hf2]; cases ty.fields.drop k<;>rfl);rw[hb,uc] at hf;simp;refine hq _ (i+1) ⟨by omega,hf⟩ (by omega) ?_;refine yV [(E.n0,E.n0)] (by simp[hi1,j1,hr,hn]) fun hrn=>⟨?_,?_,?_,?_,?_⟩<;>(try simp[hi1,j1,hr,hn])
  ·have h:=zq h;simp;rw[zt (by omega)] at hf;have:M2 p s.types s.things=true:=by rw[←hf]; rfl
   rw[this] at hR;refine yE hR [] (by simp[j1,hr,hn,B2 hid]) fun hrn=>⟨?_,?_,?_,?_,?_,?_⟩<;>(try simp[j1,hr,hn,B2 hid])
end Go.Am
namespace Go.Am
end Go.Am
namespace Go.Am
open Go Go.Proofs Go.RowKit
def k9(s:F1)(i:Nat)(t:Tg):Int :=
 if R5 s.types t≠0 then R5 s.types t else if 0<i/\0<=F4 s.things t.type t.id (i - 1) then 4 else 0
def fSt(s:F1):Int :=
 if F8 s.types≠0 then F8 s.types else if 12<s.things.length then 2
 else if B9 (fun i t=>k9 s i t) s.things 0≠0 then B9 (fun i t=>k9 s i t) s.things 0
 else if M2 (fun f c=>!c.ids.any fun x=>!F9 s f x) s.types s.things=true then 0 else 5
structure A3z(s:F1)(t:Tg):Prop where
 ty0:0<=t.type
 ty1:t.type.toNat<s.types.length
 id1:1<=t.id
 id2:t.id<=999
 len:t.cells.length=(C2 s.types t.type).length
 cell:∀(k:Nat) c,t.cells[k]?=some c->s7 (C2 s.types t.type) k c=0
theorem B5F{s:F1}{t:Tg}(h:R5 s.types t=0):A3z s t:=by
 unfold R5 at h;repeat' split at h
 all_goals first|(exfalso; omega)|skip
 rename_i h1 h2 h3;refine⟨by omega,by omega,by omega,by omega,by omega,fun k c hc=>?_⟩;have:=N0 _ _ _ h k c hc
 rwa [yu] at this
structure B5z(f:Fd)(c:Cl):Prop where
 n0:f.kind≠1->c.n=0
 t0:f.kind≠2->c.text=[]
 i0:O5 f.kind=false->c.ids=[]
 n1 : -999999999<=c.n/\c.n<=999999999
 t1:c.text.length<=40
 i1:c.ids.length<=6
 i3:f.kind=3->c.ids.length<=1
 asc:A2z c.ids=true
theorem B6Y{f:Fd}{c:Cl}(h:A15 f c=0):B5z f c:=by
 unfold A15 at h;repeat' split at h
 all_goals first|(exfalso; omega)|skip
 rename_i h1 h2 h3 h4;have hm:A1l f.kind<=6:=by unfold A1l; split<;>omega
 have hm3:f.kind=3->A1l f.kind=1:=fun e=>by unfold A1l; rw[zk e]
 refine⟨by grind,by grind,by grind,by omega,by omega,by omega,fun e=>by have:=hm3 e; omega,h4⟩
theorem A3z.cellOk{s:F1}{t:Tg}(h:A3z s t){k:Nat}{c:Cl}(hc:t.cells[k]?=some c):∃f,(C2 s.types t.type)[k]?=some f/\B5z f c:=by
 obtain⟨f,hf⟩:∃f,(C2 s.types t.type)[k]?=some f:=⟨_,zd (by rw[←h.len]; exact (ze.1 hc).1)⟩;refine⟨f,hf,B6Y ?_⟩;have:=h.cell k c hc;simpa only[s7,hf] using this
theorem A3z.cells6{s:F1}(hS:A3v s.types){t:Tg}(h:A3z s t):t.cells.length<=6:=by
 rw[h.len];obtain⟨ty,hty⟩:∃ty,s.types[t.type.toNat]?=some ty:=⟨_,zd h.ty1⟩;simpa [C2,hty] using hS.fields ty (zf hty)
theorem R6(s:F1)(id:Nat):A2 Tryz.prog 24 [B4 s] [] id (.int .i64 (fSt s)) []:=by
 unfold B4;refine w24.e.1 fun E hP hR hl hid=>?_;simp[w24];(refine yH rfl (A25 _ _) ?_; simp);refine C9 (fun h=>?_) (fun h=>?_)<;>simp
 ·exact yP hR (h1:=by simp; simp at h; unfold fSt; rw[zk h])
 have h1:F8 s.types=0:=by simpa using h
 refine C9 (fun h=>?_) (fun h=>?_)<;>simp
 ·exact yP hR (h1:=by simp; simp at h; unfold fSt; rw[zh (by omega),zk (by omega)])
 have h2:¬12<s.things.length:=by simp at h; omega
 have hS:=A5H h1;have hft:fSt s=if B9 (fun i t=>k9 s i t) s.things 0≠0 then B9 (fun i t=>k9 s i t) s.things 0
   else if M2 (fun f c=>!c.ids.any fun x=>!F9 s f x) s.types s.things=true then 0 else 5:=by unfold fSt; rw[zh (by omega),zh h2]
 refine C8 (X:=Nat) (fun i=>⟨[(1,true,.ptr E.n0 0 0),(19,true,.sl (s.things.map M5)),(20,true,.int .i64 s.things.length),(21,true,.int .i64 i)],[(E.n0,some ⟨[.agg [.sl (s.types.map H6),.sl (s.things.map M5)]],.agg [.sl (s.types.map H6),.sl (s.things.map M5)],false,false⟩)],1⟩) (fun i=>i<=s.things.length/\B9 (fun i t=>k9 s i t) (s.things.drop i) i=B9 (fun i t=>k9 s i t) s.things 0) (fun i=>s.things.length - i) 0 ?_ ⟨by omega,rfl⟩ ?_
 ·refine yV [(E.n0,E.n0)] (by simp) fun hrn=>⟨?_,?_,?_,?_,?_⟩<;>(try simp)
 ·rintro i ⟨hi,hf⟩ p hp;refine A6 4000 ?_;simp;refine C9 (fun h=>?_) (fun h=>?_)
  ·have h:=zp h;obtain⟨t,hx,hd⟩:=B6 h;rw[hd] at hf;simp only[B9] at hf;have hi1:IntKind.i64.wrap ((i:Int)+1)=((i+1:Nat):Int):=wrap64 (by omega);have hth:=fun id=>B20 s t id hS.len (.inr hS.fields);unfold B4 at hth;rw[A0d t] at hth;simp[hx,A0d t];refine⟨h,?_⟩;(refine yH rfl (hth _) ?_; simp);refine C9 (fun h1=>?_) (fun h1=>?_)<;>simp
   ·have h1:R5 s.types t≠0:=(by simpa using h1);have e:k9 s i t=R5 s.types t:=(by unfold k9; rw[zk h1]);rw[e,zk h1] at hf;exact yP hR (h1:=by simp; rw[hft,←hf,zk h1])
   have h1:R5 s.types t=0:=(by simpa using h1);rcases ui i with hz|hz
   ·subst hz;have e:k9 s 0 t=0:=(by unfold k9; rw[zh (by omega),zh (by omega)]);rw[e,zh (by omega)] at hf;simp;refine o5 (.int .i64 0) (by simp) (fun hg=>by simp at hg) (fun _=>?_);refine A6 4000 ?_;simp;refine hp _ 1 ⟨by omega,hf⟩ (by omega) ?_;have h01:IntKind.i64.wrap 1=1:=wrap64 (by omega);refine yV [(E.n0,E.n0)] (by simp[h01]) fun hrn=>⟨?_,?_,?_,?_,?_⟩<;>(try simp[h01])
   ·obtain⟨m,rfl⟩:∃m,i=m+1:=⟨i - 1,by omega⟩;obtain⟨u,hu⟩:∃u,s.things[m]?=some u:=⟨_,zd (by omega)⟩;have hwm:IntKind.i64.wrap (m:Int)=(m:Int):=wrap64 (by omega);have hmi:IntKind.i64.wrap ((m:Int)+1+1)=((m+1+1:Nat):Int):=(by rw[wrap64 (by omega)]; omega);have e:k9 s (m+1) t=if 0<=S5 u.type u.id t.type t.id then 4 else 0:=by
     unfold k9;rw[zh (by omega)];simp[F4,hu]
    have hlt:m<s.things.length:=(by omega);rw[e] at hf;have hug:s.things[m]=u:=(by rw[zd hlt] at hu; injection hu);simp[hwm,hug,A0d u,hlt];refine o5 (.int .i64 0) (by simp) (fun _=>?_) (fun hg=>by simp at hg);(refine yH rfl (A0e _ _ _ _ _ _ _) ?_; simp);refine C9 (fun h3=>?_) (fun h3=>?_)<;>simp
    ·have h3:0<=S5 u.type u.id t.type t.id:=(by simpa using h3);rw[zk h3,zk (by omega)] at hf;exact yP hR (h1:=by simp; rw[hft,←hf,zk (by omega)])
    ·have h3:¬0<=S5 u.type u.id t.type t.id:=(by simpa using h3);rw[zh h3,zh (by omega)] at hf;refine hp _ (m+1+1) ⟨h,hf⟩ (by omega) ?_;refine yV [(E.n0,E.n0)] (by simp[hmi]) fun hrn=>⟨?_,?_,?_,?_,?_⟩<;>(try simp[hmi])
  ·have h:=zq h;simp;rw[zt (by omega)] at hf;have hz:B9 (fun i t=>k9 s i t) s.things 0=0:=(by rw[←hf]; rfl);have hall:∀t∈s.things,A3z s t:=fun t ht=>by
    obtain⟨k,hk⟩:=yk.1 ht;have h0:=N0 _ _ _ hz k t hk;refine B5F ?_;unfold k9 at h0;split at h0
    ·rename_i g; exact (g h0).elim
    ·rename_i g; exact zm g
   rw[hft,hz,zh (by omega)] at hR;have hE:=fun id=>A9M s 68 E.n0 (B4 s) (fun f c=>!c.ids.any fun x=>!F9 s f x) (A5I s) (fun f c id h6=>B0L f c s E.n0 id hS.len (by omega) (by omega))
    (fun t ht=>⟨(hall t ht).ty0,(hall t ht).ty1,(hall t ht).len,by have:=(hall t ht).cells6 hS; omega,fun c hc=>by
     obtain⟨k,hk⟩:=yk.1 hc;obtain⟨f,_,hco⟩:=(hall t ht).cellOk hk;exact hco.i1⟩) (by omega) id
   unfold B4 at hE;(refine yH rfl (hE _) ?_; simp);refine C9 (fun h=>?_) (fun h=>?_)<;>simp
   ·have h:M2 (fun f c=>!c.ids.any fun x=>!F9 s f x) s.types s.things=false:=(by simpa using h);exact yP hR (h1:=by simp; rw[h])
   ·have h:M2 (fun f c=>!c.ids.any fun x=>!F9 s f x) s.types s.things=true:=(by simpa using h);exact yP hR (h1:=by simp; rw[h])
inductive H3 where
 | mk (kind n:Int) (text:List UInt8) (keys:List (List UInt8)) (list:List H3)
mutual
def eO:H3->AV
 | .mk k n t ks l=>.agg [.int .i64 k,.int .i64 n,.str t,.sl (ks.map .str),.sl (eOs l)]
def eOs:List H3->List AV
 | []=>[]
 | o::r=>eO o::eOs r
end
theorem A9N(l:List H3):eOs l=l.map eO:=by
 induction l with
 | nil=>rfl
 | cons o r ih=>simp[eOs,ih]
theorem Q3(k n:Int)(t:List UInt8)(ks:List (List UInt8))(l:List H3):eO (.mk k n t ks l) = .agg [.int .i64 k,.int .i64 n,.str t,.sl (ks.map .str),.sl (l.map eO)]:=by
 simp[eO,A9N]
theorem O6(l:List (List UInt8)):E7 (l.map AV.str)=true:=D6 (fun _=>rfl) l
mutual
theorem W5:∀o:H3,(eO o).pureB=true
 | .mk k n t ks l=>by simp[eO,O6,A7Z l]
theorem A7Z:∀l:List H3,E7 (eOs l)=true
 | []=>rfl
 | o::r=>by simp[eOs,W5 o,A7Z r]
end
theorem V2(l:List H3):E7 (l.map eO)=true:=D6 W5 l
def A0G:H3:=.mk 1 0 [] [] []
def A0L(n:Int):H3:=.mk 2 n [] [] []
def B22(t:List UInt8):H3:=.mk 3 0 t [] []
def P3(l:List H3):H3:=.mk 4 0 [] [] l
def l3(ks:List (List UInt8))(l:List H3):H3:=.mk 5 0 [] ks l
def thA(s:F1)(kd id:Int):Option Tg:=if C3 s.things kd id=true then s.things[B3 s.things kd id]? else none
def A7a(s:F1)(t:Tg)(name:List UInt8):Option (Fd×Cl) :=
 match (C2 s.types t.type)[(B7 (fun f=>f.name==name) (C2 s.types t.type) 0).toNat]?,t.cells[(B7 (fun f=>f.name==name) (C2 s.types t.type) 0).toNat]? with
 | some f,some c=>some (f,c)
 | _,_=>none
def A0f(args:List Ag)(ids:List Int):List Int:=match args with
 | []=>ids
 | a::_=>ids.take a.n.toNat
def thW(s:F1)(g:Tg->Nat)(kd id:Int):Nat:=match thA s kd id with
 | none=>1
 | some u=>1+g u
def thO(s:F1)(ks:List (List UInt8))(g:Tg->List H3)(kd id:Int):H3:=match thA s kd id with
 | none=>A0G
 | some u=>l3 ks (g u)
mutual
def wS(s:F1):D7->Tg->Nat
 | .mk _ name args kids,t=>if name=o7 then 1 else match A7a s t name with
  | none=>1
  | some (f,c)=>if f.kind=1\/f.kind=2 then 1
   else if f.kind=4 then 1+((A0f args c.ids).map (thW s (wL s kids) (A8 s.types f.of))).sum
   else match c.ids with
    | []=>1
    | x::_=>thW s (wL s kids) (A8 s.types f.of) x
def wL(s:F1):List D7->Tg->Nat
 | [],_=>0
 | a::r,t=>wS s a t+wL s r t
end
mutual
def oS(s:F1):D7->Tg->H3
 | .mk _ name args kids,t=>if name=o7 then A0L t.id else match A7a s t name with
  | none=>A0G
  | some (f,c)=>if f.kind=1 then A0L c.n else if f.kind=2 then B22 c.text
   else if f.kind=4 then P3 ((A0f args c.ids).map (thO s (kids.map B8) (oL s kids) (A8 s.types f.of)))
   else match c.ids with
    | []=>A0G
    | x::_=>thO s (kids.map B8) (oL s kids) (A8 s.types f.of) x
def oL(s:F1):List D7->Tg->List H3
 | [],_=>[]
 | a::r,t=>oS s a t::oL s r t
end
theorem B23(s:F1)(t:Tg):∀l:List D7,wL s l t=(l.map fun x=>wS s x t).sum
 | []=>by simp[wL]
 | a::r=>by simp[wL,B23 s t r]
theorem A6E(s:F1)(t:Tg):∀l:List D7,oL s l t=l.map fun x=>oS s x t
 | []=>by simp[oL]
 | a::r=>by simp[oL,A6E s t r]
theorem A7b{l:List Nat}(i:Nat):(l.take i).sum<=l.sum:=by
 have:l.sum=(l.take i).sum+(l.drop i).sum:=by rw[←uz,xa]
 omega
theorem s8{α:Type}{l:List α}{i:Nat}{x:α}(f:α->Nat)(hx:l[i]?=some x):((l.take (i+1)).map f).sum=((l.take i).map f).sum+f x:=by
 rw[xw,hx]; simp
theorem A28{α:Type}{l:List α}{i:Nat}(f:α->Nat):((l.take i).map f).sum<=(l.map f).sum:=by
 rw[yr]; exact A7b i
theorem S2{s:F1}{J m:Nat}(k n:Int)(tx:List UInt8)(id:Nat)(h:m+1<=2000):A2 Tryz.prog 186 [.ptr J 0 0,.agg [.int .i64 k,.int .i64 n,.str tx,.nils,.nils]] [(J,bR s m)] id (.agg [.int .i64 k,.int .i64 n,.str tx,.nils,.nils]) [(J,some (bR s (m+1)))]:=by
 have:=A9L s J m k n tx id (by omega);rw[F5 h] at this; exact this
theorem o9{s:F1}{J m:Nat}(k n:Int)(tx:List UInt8)(id:Nat)(hm:m<=2000)(h:¬m+1<=2000):u9 Tryz.prog 186 [.ptr J 0 0,.agg [.int .i64 k,.int .i64 n,.str tx,.nils,.nils]] [(J,bR s m)] id (.error tm):=by
 have:=A9L s J m k n tx id hm;rw[E4 h] at this; exact this
def bP(J:Nat):Bx:=⟨[.ptr J 0 0],.ptr J 0 0,false,false⟩
def bT(t:Tg):Bx:=⟨[M5 t],.agg [.int .i64 0,.int .i64 0,.nils],false,false⟩
theorem B24(s:F1)(t:Tg)(l:List D7)(J A B m:Nat)(id:Nat)(d1:J≠A)(d2:J≠B)(d3:A≠B)(hm:m<=2000)(hl8:l.length<=1000000)
  (hdo:∀x∈l,∀m id,m<=2000->u9 Tryz.prog 255 [D0 x,.ptr A 0 0,.ptr B 0 0] [(J,bR s m),(A,bP J),(B,bT t)] id (rnR s J m (wS s x t) (eO (oS s x t)))) :
  u9 Tryz.prog 121 [.ptr J 0 0,.sl (l.map D0),.fn 255 [.ptr A 0 0,.ptr B 0 0]] [(J,bR s m),(A,bP J),(B,bT t)] id (rnR s J m (1+wL s l t) (eO (l3 (l.map B8) (oL s l t)))):=by
 have hsum:=B23 s t l;refine w121.x.1 fun E hP hR hPn hl hid hB hu=>?_;simp[w121];have hJ:=hl (J,_) (zb ..);simp only at hJ;have J1:=lf hJ;have hA:=hl (A,_) (za _ (zb ..));simp only at hA;have A1:=lf hA;have hB:=hl (B,_) (za _ (za _ (zb ..)));simp only at hB;have B1:=lf hB;by_cases h1:m+1<=2000
 rotate_left
 ·refine K4 hP rfl (o9 5 0 [] _ hm h1) (by simp[J1,A1,B1,d1,d2,d3]) (by simp[J1,A1,B1,d1,d2,d3]<;>rfl) (fun pv hpv=>⟨by simp[J1,A1,B1,d1,d2,d3],by injection hpv with hpv; subst hpv; exact hPn _ _ (E4 (by omega)) rfl (by simp[J1,A1,B1,d1,d2,d3])⟩) (fun v wr h=>by cases h)
 (refine C6 hP rfl (S2 5 0 [] _ h1) (by simp[J1,A1,B1,d1,d2,d3]) (by simp[J1,A1,B1,d1,d2,d3]<;>rfl) ?_; refine A6 4000 ?_; simp[J1,A1,B1,d1,d2,d3]);refine C8 (X:=Nat) (fun i=>⟨[(2,true,.fn 255 [.ptr A 0 0,.ptr B 0 0]),(6,true,.ptr E.n0 0 0),(7,true,.ptr (E.n0+1) 0 0),(13,true,.sl (l.map D0)),(14,true,.int .i64 l.length),(15,true,.int .i64 i)],
   [(J,some (bR s (m+1+((l.take i).map fun x=>wS s x t).sum))),(A,some (bP J)),(B,some (bT t)),(E.n0,some ⟨[.agg [.int .i64 0,.int .i64 0,.str [],.nils,.nils]],.agg [.int .i64 0,.int .i64 0,.str [],.nils,.nils],false,false⟩),(E.n0+1,some ⟨[.agg [.int .i64 5,.int .i64 0,.str [],.bsl (E.n0+2) 0 i,.bsl (E.n0+3) 0 i]],.agg [.int .i64 0,.int .i64 0,.str [],.nils,.nils],false,false⟩),(E.n0+2,some ⟨((l.map B8).map .str).take i,.str [],false,false⟩),(E.n0+3,some ⟨((oL s l t).map eO).take i,.agg [.int .i64 0,.int .i64 0,.str [],.nils,.nils],false,false⟩)],4⟩)
  (fun i=>i<=l.length/\m+1+((l.take i).map fun x=>wS s x t).sum<=2000) (fun i=>l.length - i) 0 ?_ ⟨by omega,by simp; omega⟩ ?_
 ·refine H0.trans (H0.voidBox (E.n0+4096) (by simp; rfl) rfl (.agg [.int .i64 5,.int .i64 0,.str [],.nils,.nils] [.int .i64 5,.int .i64 0,.str [],.bsl (E.n0+9216) 0 0,.nils] rfl (fun m x y h1 h2=>?_)) (.str [])) (H0.trans (H0.voidBox (E.n0+4096) (by simp; rfl) rfl (.agg [.int .i64 5,.int .i64 0,.str [],.bsl (E.n0+9216) 0 0,.nils] [.int .i64 5,.int .i64 0,.str [],.bsl (E.n0+9216) 0 0,.bsl (E.n0+9217) 0 0] rfl (fun m x y h1 h2=>?_)) (.agg [.int .i64 0,.int .i64 0,.str [],.nils,.nils])) ?_)
  ·match m,h1,h2 with
   | 0,h1,h2|1,h1,h2|2,h1,h2|4,h1,h2=>simp at h1 h2; exact .inl (h1.symm.trans h2)
   | 3,h1,h2=>simp at h1 h2; exact .inr ⟨h1.symm,h2.symm⟩
   | m+5,h1,h2=>simp at h1
  ·match m,h1,h2 with
   | 0,h1,h2|1,h1,h2|2,h1,h2|3,h1,h2=>simp at h1 h2; exact .inl (h1.symm.trans h2)
   | 4,h1,h2=>simp at h1 h2; exact .inr ⟨h1.symm,h2.symm⟩
   | m+5,h1,h2=>simp at h1
  ·refine yV [(E.n0,E.n0),(E.n0+1,E.n0+4096),(E.n0+2,E.n0+9216),(E.n0+3,E.n0+9217)] (by simp[bR,bP,bT,J1,A1,B1,d1,d2,d3,yl d1,yl d2,yl d3]) fun hrn=>⟨?_,?_,?_,?_,?_⟩<;>(try simp[bR,bP,bT,J1,A1,B1,d1,d2,d3,yl d1,yl d2,yl d3])
 ·rintro i ⟨hi,hm2⟩ p hp;refine A6 4000 ?_;simp;refine C9 (fun h=>?_) (fun h=>?_)
  ·have h:=zp h;obtain⟨x,hx,hd⟩:=B6 h;have hi1:IntKind.i64.wrap ((i:Int)+1)=((i+1:Nat):Int):=wrap64 (by omega);have hxm:=zf hx;have hst:=s8 (fun x=>wS s x t) hx;have hCa:=x2 x;rw[C7] at hCa;have hdx:=hdo x hxm;have hk1:((l.map B8).map AV.str).take (i+1)=((l.map B8).map AV.str).take i++[.str (B8 x)]:=I7 (by simp[hx]);have ho1:((oL s l t).map eO).take (i+1)=((oL s l t).map eO).take i++[eO (oS s x t)]:=I7 (by rw[A6E]; simp[hx]);have hlo:(oL s l t).length=l.length:=(by rw[A6E]; simp);obtain⟨ok,on,ot,oks,ols,hoe⟩:∃(a b:Int) (c:List UInt8) (d:List (List UInt8)) (e:List H3),eO (oS s x t) = .agg [.int .i64 a,.int .i64 b,.str c,.sl (d.map .str),.sl (e.map eO)]:=by
    cases oS s x t with|mk a b c d e=>exact⟨a,b,c,d,e,Q3 a b c d e⟩
   rw[hoe,C7] at hdx;rw[hoe] at ho1;simp only[xv] at *;simp[hx,C7 x,J1,A1,B1,d1,d2,d3,yl d1,yl d2,yl d3];refine⟨h,?_⟩;(refine yC rfl (hCa _) ?_; simp[J1,A1,B1,d1,d2,d3,yl d1,yl d2,yl d3]);refine⟨⟨by omega,by omega,by omega⟩,?_⟩;have hsl:=A28 (l:=l) (i:=i+1) (fun x=>wS s x t);by_cases h2:m+1+((l.take i).map fun x=>wS s x t).sum+wS s x t<=2000
   ·have hd2:∀id,A2 Tryz.prog 255 _ _ id _ _:=fun id=>by
     have:=hdx (m+1+((l.take i).map fun x=>wS s x t).sum) id hm2;rw[F5 h2] at this; exact this
    simp only[yr] at *;refine P2 hP rfl rfl (hd2 _) (by simp) (by simp[J1,A1,B1,d1,d2,d3,yl d1,yl d2,yl d3]<;>rfl) ?_;refine A6 4000 ?_;simp[J1,A1,B1,d1,d2,d3,yl d1,yl d2,yl d3];refine⟨⟨by omega,by omega,by omega⟩,?_⟩;have hst2:(List.take (i+1) (List.map (fun x=>wS s x t) l)).sum=(List.take i (List.map (fun x=>wS s x t) l)).sum+wS s x t:=(by simpa only[yr] using hst);refine hp _ (i+1) ⟨h,by omega⟩ (by omega) ?_;refine yV [(E.n0,E.n0),(E.n0+1,E.n0+1),(E.n0+2,E.n0+10244),(E.n0+3,E.n0+19460)] (by simp[hi1,bR,bP,bT,hst2,hk1,ho1,J1,A1,B1,d1,d2,d3,yl d1,yl d2,yl d3]) fun hrn=>⟨?_,?_,?_,?_,?_⟩<;>(try simp[hi1,bR,bP,bT,hst2,hk1,ho1,J1,A1,B1,d1,d2,d3,yl d1,yl d2,yl d3]);refine⟨by omega,F7 rfl (I5 (by rw[←yr]; exact D6 (fun _=>rfl) _) rfl),F7 rfl (I5 (by rw[←yr]; exact V2 _) (by simp[O6,V2]))⟩
   ·have hd2:∀id,u9 Tryz.prog 255 _ _ id _:=fun id=>by
     have:=hdx (m+1+((l.take i).map fun x=>wS s x t).sum) id hm2;rw[E4 h2] at this; exact this
    simp only[yr] at *;refine B1g hP rfl rfl (hd2 _) (by simp) (by simp[J1,A1,B1,d1,d2,d3,yl d1,yl d2,yl d3]<;>rfl) (fun pv hpv=>⟨by simp[J1,A1,B1,d1,d2,d3,yl d1,yl d2,yl d3],by injection hpv with hpv; subst hpv; exact hPn _ _ (E4 (by omega)) rfl (by simp[J1,A1,B1,d1,d2,d3,yl d1,yl d2,yl d3])⟩) (fun v wr h=>by cases h)
  ·have h:¬i<l.length:=zq h;have hil:i=l.length:=(by omega);subst hil;simp[J1,A1,B1,d1,d2,d3,yl d1,yl d2,yl d3];have hlo:(oL s l t).length=l.length:=(by rw[A6E]; simp);have hsa:(List.take l.length (List.map (fun x=>wS s x t) l)).sum=wL s l t:=(by rw[hsum,zn (by simp)]);have hka:List.take l.length (List.map (AV.str∘B8) l)=List.map (AV.str∘B8) l:=zn (by simp);have hoa:List.take l.length ((oL s l t).map eO)=(oL s l t).map eO:=zn (by simp[hlo]);simp only[yr] at hm2;rw[hsa] at hm2;unfold l3 at hR;rw[Q3,xv] at hR;have hrn:I0 []:=(by simp[bR,bP,bT,hsa,hka,hoa,hlo,J1,A1,B1,d1,d2,d3,yl d1,yl d2,yl d3,B2 hid]);refine hR _ _ _ (F5 (by omega)) ?_;refine n9 (by simp[bR,bP,bT,hsa,hka,hoa,hlo,J1,A1,B1,d1,d2,d3,yl d1,yl d2,yl d3,B2 hid]<;>rfl) (by simp[bR,bP,bT,hsa,hka,hoa,hlo,J1,A1,B1,d1,d2,d3,yl d1,yl d2,yl d3,B2 hid]<;>exact⟨rfl,rfl⟩) [] hrn ⟨?_,?_,?_,?_,?_,?_⟩<;>(try simp[bR,bP,bT,hsa,hka,hoa,hlo,J1,A1,B1,d1,d2,d3,yl d1,yl d2,yl d3,B2 hid])
   ·exact⟨A5 _ (D6 (fun _=>rfl) _),A5 _ (V2 _)⟩
   ·omega
@[simp] theorem B60 (S:Nat->Prop):D9 S []:=A5 _ rfl
@[simp] theorem B3F (S:Nat->Prop) (l:List D7):D9 S (l.map (AV.str∘B8)):=A5 _ (D6 (fun _=>rfl) l)
@[simp] theorem B5G (S:Nat->Prop) (l:List (List UInt8)):D9 S (l.map .str):=A5 _ (O6 l)
@[simp] theorem B5H (S:Nat->Prop) (l:List H3):D9 S (l.map eO):=A5 _ (V2 l)
attribute [simp] O6 V2
theorem u9.nrm{P:Program}{f:Nat}{args:List AV}{rd:List (Nat×Bx)}{id:Nat}{s:F1}{J m w:Nat}{v:AV}(h:u9 P f args rd id (rnR s J m w v)):u9 P f args rd id (rnR s J m w v.nrm):=by
 by_cases k:m+w<=2000
 ·rw[F5 k] at h ⊢; exact A2.nrm h
 ·rw[E4 k] at h ⊢; exact h
theorem A7c(s:F1)(J m:Nat)(id:Nat)(hm:m<=2000):u9 Tryz.prog 254 [.ptr J 0 0] [(J,bR s m)] id (rnR s J m 1 (eO A0G)):=by
 refine u9.nrm (v:=.agg [.int .i64 1,.int .i64 0,.str [],.nils,.nils]) ?_;refine w254.x.1 fun E hP hR hPn hl hid hB hu=>?_;simp[w254];have hJ:=hl (J,_) (zb ..);simp only at hJ;have J1:=lf hJ;by_cases h1:m+1<=2000
 rotate_left
 ·refine K4 hP rfl (o9 1 0 [] _ hm h1) (by simp[J1]) (by simp[J1]<;>rfl) (fun pv hpv=>⟨by simp[J1],by injection hpv with hpv; subst hpv; exact hPn _ _ (E4 h1) rfl (by simp[J1])⟩) (fun v wr h=>by cases h)
 (refine C6 hP rfl (S2 1 0 [] _ h1) (by simp[J1]) (by simp[J1]<;>rfl) ?_; refine A6 4000 ?_; simp[J1]);have hrn:I0 []:=by simp[bR,J1,B2 hid]
 refine hR _ _ _ (F5 h1) ?_;refine H2 (by simp[bR,J1,B2 hid]<;>rfl) [] hrn ⟨?_,?_,?_,?_,?_,?_⟩<;>(try simp[bR,J1,B2 hid])
theorem B0M{s:F1}{t:Tg}{x:D7}{J A B m w:Nat}{o:H3}(id:Nat)(d1:J≠A)(d2:J≠B)(d3:A≠B)
  (hF:∀id,u9 Tryz.prog 256 [.ptr J 0 0,M5 t,D0 x] [(J,bR s m)] id (rnR s J m w (eO o))) :
  u9 Tryz.prog 255 [D0 x,.ptr A 0 0,.ptr B 0 0] [(J,bR s m),(A,bP J),(B,bT t)] id (rnR s J m w (eO o)):=by
 obtain⟨ok,on,ot,oks,ols,hoe⟩:∃(a b:Int) (c:List UInt8) (d:List (List UInt8)) (e:List H3),eO o = .agg [.int .i64 a,.int .i64 b,.str c,.sl (d.map .str),.sl (e.map eO)]:=by
  cases o with|mk a b c d e=>exact⟨a,b,c,d,e,Q3 a b c d e⟩
 have hTg:M5 t = .agg [.int .i64 t.type,.int .i64 t.id,.sl (t.cells.map t8)]:=rfl;unfold bP bT;simp only[hoe,C7 x,hTg] at *;refine w255.x.1 fun E hP hR hPn hl hid hB hu=>?_;simp[w255];have hJ:=hl (J,_) (zb ..);simp only at hJ;have J1:=lf hJ;have hA:=hl (A,_) (za _ (zb ..));simp only at hA;have A1:=lf hA;have hB:=hl (B,_) (za _ (za _ (zb ..)));simp only at hB;have B1:=lf hB;simp[J1,A1,B1,d1,d2,d3,yl d1,yl d2,yl d3];by_cases h1:m+w<=2000
 rotate_left
 ·simp only[E4 h1] at hF;refine K4 hP rfl (hF _) (by simp[J1,A1,B1,d1,d2,d3,yl d1,yl d2,yl d3]) (by simp[J1,A1,B1,d1,d2,d3,yl d1,yl d2,yl d3]<;>rfl) (fun pv hpv=>⟨by simp[J1,A1,B1,d1,d2,d3,yl d1,yl d2,yl d3],by injection hpv with hpv; subst hpv; exact hPn _ _ (E4 h1) rfl (by simp[J1,A1,B1,d1,d2,d3,yl d1,yl d2,yl d3])⟩) (fun v wr h=>by cases h)
 have hF1:∀id,A2 Tryz.prog 256 _ _ id _ _:=fun id=>by
  have:=hF id;rw[F5 h1] at this; exact this
 (refine yC rfl (hF1 _) ?_; simp[J1,A1,B1,d1,d2,d3,yl d1,yl d2,yl d3]);have hrn:I0 []:=by simp[bR,J1,A1,B1,d1,d2,d3,yl d1,yl d2,yl d3,B2 hid]
 refine hR _ _ _ (F5 h1) ?_;refine H2 (by simp[bR,J1,A1,B1,d1,d2,d3,yl d1,yl d2,yl d3,B2 hid]<;>rfl) [] hrn ⟨?_,?_,?_,?_,?_,?_⟩<;>(try simp[bR,J1,A1,B1,d1,d2,d3,yl d1,yl d2,yl d3,B2 hid])
theorem A40{s:F1}{kids:List D7}{J m:Nat}{kd tid:Int}(id:Nat)(hm:m<=2000)(h12:s.things.length<=1000)(hk8:kids.length<=1000000)
  (hF:∀u,thA s kd tid=some u->∀x∈kids,∀m id,m<=2000->u9 Tryz.prog 256 [.ptr J 0 0,M5 u,D0 x] [(J,bR s m)] id (rnR s J m (wS s x u) (eO (oS s x u)))) :
  u9 Tryz.prog 188 [.ptr J 0 0,.int .i64 kd,.int .i64 tid,.sl (kids.map D0)] [(J,bR s m)] id (rnR s J m (thW s (wL s kids) kd tid) (eO (thO s (kids.map B8) (oL s kids) kd tid))):=by
 have hFi:=fun id=>S1 s kd tid id (by omega);unfold B4 at hFi;cases hb:C3 s.things kd tid with
 | false =>
  have ht:thA s kd tid=none:=by unfold thA; rw[hb]; rfl
  have e1:thW s (wL s kids) kd tid=1:=by unfold thW; rw[ht]
  have e2:thO s (kids.map B8) (oL s kids) kd tid=A0G:=by unfold thO; rw[ht]
  rw[hb] at hFi;rw[e1,e2];have hN:=fun id=>A7c s J m id hm;have hoe:eO A0G = .agg [.int .i64 1,.int .i64 0,.str [],.sl [],.sl []]:=rfl;rw[hoe] at hN ⊢;rw[T3] at *;refine w188.x.1 fun E hP hR hPn hl hid hB hu=>?_;simp[w188];have hJ:=hl (J,_) (zb ..);simp only at hJ;have J1:=lf hJ;simp[J1];(refine yC rfl (hFi _) ?_; simp[J1]);by_cases h1:m+1<=2000
  rotate_left
  ·simp only[E4 h1] at hN;refine K4 hP rfl (hN _) (by simp[J1]) (by simp[J1]<;>rfl) (fun pv hpv=>⟨by simp[J1],by injection hpv with hpv; subst hpv; exact hPn _ _ (E4 h1) rfl (by simp[J1])⟩) (fun v wr h=>by cases h)
  have hN1:∀id,A2 Tryz.prog 254 _ _ id _ _:=fun id=>by
   have:=hN id;rw[F5 h1] at this; exact this
  (refine yC rfl (hN1 _) ?_; simp[J1]);have hrn:I0 []:=by simp[bR,J1,B2 hid]
  refine hR _ _ _ (F5 h1) ?_;refine H2 (by simp[bR,J1,B2 hid]<;>rfl) [] hrn ⟨?_,?_,?_,?_,?_,?_⟩<;>(try simp[bR,J1,B2 hid])
 | true =>
  obtain⟨u,hus⟩:∃u,s.things[B3 s.things kd tid]?=some u:=by
   unfold C3 at hb;simp at hb;exact⟨_,zd hb.1⟩
  have hlt:=(ze.1 hus).1;have ht:thA s kd tid=some u:=by unfold thA; rw[hb,zk rfl,hus]
  have e1:thW s (wL s kids) kd tid=1+wL s kids u:=by unfold thW; rw[ht]
  have e2:thO s (kids.map B8) (oL s kids) kd tid=l3 (kids.map B8) (oL s kids u):=by unfold thO; rw[ht]
  rw[hb] at hFi;rw[e1,e2];have hP2:=fun A B id (d1:J≠A) (d2:J≠B) (d3:A≠B)=>B24 s u kids J A B m id d1 d2 d3 hm hk8 fun x hx m id hm=>B0M id d1 d2 d3 fun id=>hF u ht x hx m id hm;unfold l3 at hP2 ⊢;rw[Q3] at hP2 ⊢;have hTu:M5 u = .agg [.int .i64 u.type,.int .i64 u.id,.sl (u.cells.map t8)]:=rfl;unfold bP bT at hP2;rw[hTu] at hP2;rw[T3] at *;generalize hv:(AV.agg [.int .i64 5,.int .i64 0,.str [],.sl ((kids.map B8).map .str),.sl ((oL s kids u).map eO)])=V at hP2 ⊢;refine w188.x.1 fun E hP hR hPn hl hid hB hu=>?_;simp[w188];have hJ:=hl (J,_) (zb ..);simp only at hJ;have J1:=lf hJ;simp[J1];(refine yC rfl (hFi _) ?_; simp[hus,hTu,J1]);refine⟨hlt,?_⟩;have hP3:=fun id=>hP2 E.n0 (E.n0+24576) id (by simp[J1]) (by simp[J1]) (by omega);by_cases h1:m+(1+wL s kids u)<=2000
  rotate_left
  ·simp only[E4 h1] at hP3;refine K4 hP rfl (hP3 _) (by simp[J1]) (by simp[J1]<;>rfl) (fun pv hpv=>⟨by simp[J1],by injection hpv with hpv; subst hpv; exact hPn _ _ (E4 h1) rfl (by simp[J1])⟩) (fun v wr h=>by cases h)
  have hP4:∀id,A2 Tryz.prog 121 _ _ id _ _:=fun id=>by
   have:=hP3 id;rw[F5 h1] at this; exact this
  rw[←hv] at hP4;(refine yC rfl (hP4 _) ?_; simp[J1]);rw[←hv] at hR;have hrn:I0 []:=by simp[bR,J1,B2 hid]
  refine hR _ _ _ (F5 h1) ?_;refine H2 (by simp[bR,J1,B2 hid]<;>rfl) [] hrn ⟨?_,?_,?_,?_,?_,?_⟩<;>(try simp[bR,J1,B2 hid])
mutual
theorem A8c:∀o:H3,(eO o).nrm=eO o
 | .mk k n t ks l=>by
  have h1:A1h (ks.map AV.str)=ks.map AV.str:=by
   induction ks with
   | nil=>rfl
   | cons a r ih=>simp[A1h,AV.nrm,ih]
  simp[eO,AV.nrm,A1h,h1,A6F l]
theorem A6F:∀l:List H3,A1h (eOs l)=eOs l
 | []=>rfl
 | o::r=>by simp[eOs,A1h,A8c o,A6F r]
end
theorem A9O{s:F1}{kids:List D7}{ids:List Int}{J m:Nat}{kd:Int}{W:Int->Nat}{O:Int->H3}(id:Nat)(hm:m<=2000)(hi8:ids.length<=1000000)
  (hT:∀x∈ids,∀m id,m<=2000->u9 Tryz.prog 188 [.ptr J 0 0,.int .i64 kd,.int .i64 x,.sl (kids.map D0)] [(J,bR s m)] id (rnR s J m (W x) (eO (O x)))) :
  u9 Tryz.prog 189 [.ptr J 0 0,.int .i64 kd,.sl (ids.map eI),.sl (kids.map D0)] [(J,bR s m)] id (rnR s J m (1+(ids.map W).sum) (eO (P3 (ids.map O)))):=by
 have hres:(AV.agg [.int .i64 4,.int .i64 0,.str [],.nils,.sl ((ids.map O).map eO)]).nrm=eO (P3 (ids.map O)):=by
  have:=A6F (ids.map O);rw[A9N] at this;unfold P3;rw[Q3];simp[AV.nrm,A1h] at this ⊢;exact this
 rw[←hres];refine u9.nrm ?_;refine w189.x.1 fun E hP hR hPn hl hid hB hu=>?_;simp[w189];have hJ:=hl (J,_) (zb ..);simp only at hJ;have J1:=lf hJ;by_cases h1:m+1<=2000
 rotate_left
 ·refine K4 hP rfl (o9 4 0 [] _ hm h1) (by simp[J1]) (by simp[J1]<;>rfl) (fun pv hpv=>⟨by simp[J1],by injection hpv with hpv; subst hpv; exact hPn _ _ (E4 (by omega)) rfl (by simp[J1])⟩) (fun v wr h=>by cases h)
 (refine C6 hP rfl (S2 4 0 [] _ h1) (by simp[J1]) (by simp[J1]<;>rfl) ?_; refine A6 4000 ?_; simp[J1]);refine C8 (X:=Nat) (fun i=>⟨[(0,true,.ptr J 0 0),(1,true,.int .i64 kd),(3,true,.sl (kids.map D0)),(8,true,.ptr E.n0 0 0),(9,true,.ptr (E.n0+1) 0 0),(15,true,.sl (ids.map eI)),(16,true,.int .i64 ids.length),(17,true,.int .i64 i)],
   [(J,some (bR s (m+1+((ids.take i).map W).sum))),(E.n0,some ⟨[.agg [.int .i64 0,.int .i64 0,.str [],.nils,.nils]],.agg [.int .i64 0,.int .i64 0,.str [],.nils,.nils],false,false⟩),(E.n0+1,some ⟨[.agg [.int .i64 4,.int .i64 0,.str [],.nils,.bsl (E.n0+2) 0 i]],.agg [.int .i64 0,.int .i64 0,.str [],.nils,.nils],false,false⟩),(E.n0+2,some ⟨((ids.map O).map eO).take i,.agg [.int .i64 0,.int .i64 0,.str [],.nils,.nils],false,false⟩)],3⟩)
  (fun i=>i<=ids.length/\m+1+((ids.take i).map W).sum<=2000) (fun i=>ids.length - i) 0 ?_ ⟨by omega,by simp; omega⟩ ?_
 ·refine H0.trans (H0.voidBox (E.n0+4096) (by simp; rfl) rfl (.agg [.int .i64 4,.int .i64 0,.str [],.nils,.nils] [.int .i64 4,.int .i64 0,.str [],.nils,.bsl (E.n0+9216) 0 0] rfl (fun m x y h1 h2=>?_)) (.agg [.int .i64 0,.int .i64 0,.str [],.nils,.nils])) ?_
  ·match m,h1,h2 with
   | 0,h1,h2|1,h1,h2|2,h1,h2|3,h1,h2=>simp at h1 h2; exact .inl (h1.symm.trans h2)
   | 4,h1,h2=>simp at h1 h2; exact .inr ⟨h1.symm,h2.symm⟩
   | m+5,h1,h2=>simp at h1
  ·refine yV [(E.n0,E.n0),(E.n0+1,E.n0+4096),(E.n0+2,E.n0+9216)] (by simp[bR,J1]) fun hrn=>⟨?_,?_,?_,?_,?_⟩<;>(try simp[bR,J1])
 ·rintro i ⟨hi,hm2⟩ p hp;refine A6 4000 ?_;simp;refine C9 (fun h=>?_) (fun h=>?_)
  ·have h:=zp h;obtain⟨x,hx,hd⟩:=B6 h;have hi1:IntKind.i64.wrap ((i:Int)+1)=((i+1:Nat):Int):=wrap64 (by omega);have hxm:=zf hx;have hst:=s8 W hx;have hdx:=hT x hxm;have ho1:((ids.map O).map eO).take (i+1)=((ids.map O).map eO).take i++[eO (O x)]:=I7 (by simp[hx]);obtain⟨ok,on,ot,oks,ols,hoe⟩:∃(a b:Int) (c:List UInt8) (d:List (List UInt8)) (e:List H3),eO (O x) = .agg [.int .i64 a,.int .i64 b,.str c,.sl (d.map .str),.sl (e.map eO)]:=by
    cases O x with|mk a b c d e=>exact⟨a,b,c,d,e,Q3 a b c d e⟩
   rw[hoe] at ho1;simp only[hoe] at hdx;have hsl:=A28 (l:=ids) (i:=i+1) W;have heI:eI x = .int .i64 x:=rfl;simp[hx,heI,J1];refine⟨h,?_⟩;by_cases h2:m+1+((ids.take i).map W).sum+W x<=2000
   ·have hd2:∀id,A2 Tryz.prog 188 _ _ id _ _:=fun id=>by
     have:=hdx (m+1+((ids.take i).map W).sum) id hm2;rw[F5 h2] at this; exact this
    have hst2:(List.take (i+1) (List.map W ids)).sum=(List.take i (List.map W ids)).sum+W x:=(by simpa only[yr] using hst);simp only[yr,xv] at *;(refine yC rfl (hd2 _) ?_; simp[J1]);refine⟨⟨by omega,by omega,by omega⟩,?_⟩;refine hp _ (i+1) ⟨h,by omega⟩ (by omega) ?_;refine yV [(E.n0,E.n0),(E.n0+1,E.n0+1),(E.n0+2,E.n0+12291)] (by simp[hi1,bR,hst2,ho1,J1]) fun hrn=>⟨?_,?_,?_,?_,?_⟩<;>(try simp[hi1,bR,hst2,ho1,J1]);exact⟨by omega,F7 rfl (I5 (by rw[←yr]; exact D6 (fun _=>W5 _) _) (by simp[O6,V2]))⟩
   ·have hd2:∀id,u9 Tryz.prog 188 _ _ id _:=fun id=>by
     have:=hdx (m+1+((ids.take i).map W).sum) id hm2;rw[E4 h2] at this; exact this
    simp only[yr,xv] at *;refine K4 hP rfl (hd2 _) (by simp[J1]) (by simp[J1]<;>rfl) (fun pv hpv=>⟨by simp[J1],by injection hpv with hpv; subst hpv; exact hPn _ _ (E4 (by omega)) rfl (by simp[J1])⟩) (fun v wr h=>by cases h)
  ·have h:¬i<ids.length:=zq h;have hil:i=ids.length:=(by omega);subst hil;simp[J1];have hsa:(List.take ids.length (List.map W ids)).sum=(List.map W ids).sum:=(by rw[zn (by simp)]);have hoa:List.take ids.length (List.map (eO∘O) ids)=List.map (eO∘O) ids:=zn (by simp);simp only[yr,xv] at *;rw[hsa] at hm2;have hrn:I0 []:=(by simp[bR,hsa,hoa,J1,B2 hid]);refine hR _ _ _ (F5 (by omega)) ?_;refine n9 (by simp[bR,hsa,hoa,J1,B2 hid]<;>rfl) (by simp[bR,hsa,hoa,J1,B2 hid]<;>exact⟨rfl,rfl⟩) [] hrn ⟨?_,?_,?_,?_,?_,?_⟩<;>(try simp[bR,hsa,hoa,J1,B2 hid])
   ·exact A5 _ (D6 (fun _=>W5 _) _)
   ·omega
theorem A9P(x:D7)(id:Nat):A2 Tryz.prog 187 [D0 x] [] id (.tup [.int .i64 (match x.args with|[]=>0|a::_=>a.n),.bool (!x.args.isEmpty)]) []:=by
 rw[C7];cases h:x.args with
 | nil =>
  refine w187.e.1 fun E hP hR hl hid=>?_;simp[w187];exact yP hR
 | cons a r =>
  refine w187.e.1 fun E hP hR hl hid=>?_;simp[w187];refine A0 (by simp; omega) ?_;simp[A26 a];exact yP hR
theorem B4V(s:F1)(x:D7)(t:Tg):wS s x t=if x.name=o7 then 1 else match A7a s t x.name with
  | none=>1
  | some (f,c)=>if f.kind=1\/f.kind=2 then 1
   else if f.kind=4 then 1+((A0f x.args c.ids).map (thW s (wL s x.kids) (A8 s.types f.of))).sum
   else match c.ids with
    | []=>1
    | y::_=>thW s (wL s x.kids) (A8 s.types f.of) y:=by cases x; rfl
theorem B4W(s:F1)(x:D7)(t:Tg):oS s x t=if x.name=o7 then A0L t.id else match A7a s t x.name with
  | none=>A0G
  | some (f,c)=>if f.kind=1 then A0L c.n else if f.kind=2 then B22 c.text
   else if f.kind=4 then P3 ((A0f x.args c.ids).map (thO s (x.kids.map B8) (oL s x.kids) (A8 s.types f.of)))
   else match c.ids with
    | []=>A0G
    | y::_=>thO s (x.kids.map B8) (oL s x.kids) (A8 s.types f.of) y:=by cases x; rfl
theorem B25(n:Int):eO (A0L n)=(AV.agg [.int .i64 2,.int .i64 n,.str [],.nils,.nils]).nrm:=rfl
theorem B3o(t:List UInt8):eO (B22 t)=(AV.agg [.int .i64 3,.int .i64 0,.str t,.nils,.nils]).nrm:=rfl
theorem B26{s:F1}{t:Tg}{x:D7}{J m:Nat}(id:Nat)(hm:m<=2000)(hn:x.name=o7):
  u9 Tryz.prog 256 [.ptr J 0 0,M5 t,D0 x] [(J,bR s m)] id (rnR s J m (wS s x t) (eO (oS s x t))):=by
 rw[B4V,B4W,zk hn,zk hn,B25];refine u9.nrm ?_;have hTt:M5 t = .agg [.int .i64 t.type,.int .i64 t.id,.sl (t.cells.map t8)]:=rfl;rw[hTt,C7,hn];unfold o7;refine w256.x.1 fun E hP hR hPn hl hid hB hu=>?_;simp[w256];have hJ:=hl (J,_) (zb ..);simp only at hJ;have J1:=lf hJ;by_cases h1:m+1<=2000
 rotate_left
 ·refine K4 hP rfl (o9 2 t.id [] _ hm h1) (by simp[J1]) (by simp[J1]<;>rfl) (fun pv hpv=>⟨by simp[J1],by injection hpv with hpv; subst hpv; exact hPn _ _ (E4 h1) rfl (by simp[J1])⟩) (fun v wr h=>by cases h)
 (refine C6 hP rfl (S2 2 t.id [] _ h1) (by simp[J1]) (by simp[J1]<;>rfl) ?_; refine A6 4000 ?_; simp[J1]);have hrn:I0 []:=by simp[bR,J1,B2 hid]
 refine hR _ _ _ (F5 h1) ?_;refine H2 (by simp[bR,J1,B2 hid]<;>rfl) [] hrn ⟨?_,?_,?_,?_,?_,?_⟩<;>(try simp[bR,J1,B2 hid])
theorem B27{s:F1}{t:Tg}{x:D7}{J m q k:Nat}{ty:Ty}{f:Fd}{c:Cl}(id:Nat)(hm:m<=2000)(hne:x.name≠o7)(hq:t.type=q)(hty:s.types[q]?=some ty)(hl8:s.types.length<=1000)(hf8:ty.fields.length<=1000)
  (hk:B7 (fun g=>g.name==x.name) ty.fields 0=(k:Int)) (hf:ty.fields[k]?=some f) (hc:t.cells[k]?=some c) (hkd:1<=f.kind/\f.kind<=4) (hi8:c.ids.length<=1000000) (ha:∀a r,x.args=a::r->0<=a.n/\a.n<=999999999)
  (hT:∀y∈c.ids,∀m id,m<=2000->u9 Tryz.prog 188 [.ptr J 0 0,.int .i64 (A8 s.types f.of),.int .i64 y,.sl (x.kids.map D0)] [(J,bR s m)] id (rnR s J m (thW s (wL s x.kids) (A8 s.types f.of) y) (eO (thO s (x.kids.map B8) (oL s x.kids) (A8 s.types f.of) y)))) :
  u9 Tryz.prog 256 [.ptr J 0 0,M5 t,D0 x] [(J,bR s m)] id (rnR s J m (wS s x t) (eO (oS s x t))):=by
 have hfl:C2 s.types t.type=ty.fields:=by unfold C2; rw[hq]; simp[hty]
 have hfc:A7a s t x.name=some (f,c):=by
  unfold A7a;rw[hfl,hk];simp[hf,hc]
 have hw:=B4V s x t;have ho:=B4W s x t;rw[zh hne,hfc] at hw ho;simp only at hw ho;have hFo:=fun id=>A05 ty.fields ty.name x.name id (by omega);rw[hk] at hFo;have hFn:=fun id=>T2 s.types f.of id (by omega);rw[show B7 (fun z:Ty=>z.name==f.of) s.types 0=A8 s.types f.of from rfl] at hFn;have hVa:=fun id=>A9P x id;have hTt:M5 t = .agg [.int .i64 t.type,.int .i64 t.id,.sl (t.cells.map t8)]:=rfl;have hTy:H6 ty = .agg [.str ty.name,.sl (ty.fields.map M4)]:=rfl;have hFd:M4 f = .agg [.str f.name,.int .i64 f.kind,.str f.of]:=rfl;have hCl:t8 c = .agg [.int .i64 c.n,.str c.text,.sl (c.ids.map eI)]:=rfl;have hql:=(ze.1 hty).1;have hkl:=(ze.1 hf).1;have hcl:=(ze.1 hc).1;rw[C7] at hVa;obtain⟨V,hV0,hV1,hV2,hV3⟩:∃V:AV,V.nrm=eO (oS s x t)/\(f.kind=1->V = .agg [.int .i64 2,.int .i64 c.n,.str [],.nils,.nils])/\(f.kind=2->V = .agg [.int .i64 3,.int .i64 0,.str c.text,.nils,.nils])/\(f.kind≠1->f.kind≠2->V=eO (oS s x t)):=by
  by_cases k1:f.kind=1
  ·exact⟨_,by rw[ho,zk k1,B25],fun _=>rfl,fun k2=>by omega,fun k=>(k k1).elim⟩
  ·by_cases k2:f.kind=2
   ·exact⟨_,by rw[ho,zh k1,zk k2,B3o],fun k=>(k1 k).elim,fun _=>rfl,fun _ k=>(k k2).elim⟩
   ·exact⟨_,A8c _,fun k=>(k1 k).elim,fun k=>(k2 k).elim,fun _ _=>rfl⟩
 rw[←hV0];refine u9.nrm ?_;rw[hTt,C7,hq];have hnb:(x.name==[105,100])=false:=by simpa [o7] using hne
 rw[T3];refine w256.x.1 fun E hP hR hPn hl hid hB hu=>?_;simp[w256];have hJ:=hl (J,_) (zb ..);simp only at hJ;have J1:=lf hJ;refine A0 hnb ?_;simp[J1,hty,hTy];refine⟨hql,?_⟩;(refine yC rfl (hFo _) ?_; simp[J1,hty,hTy,hf,hc,hFd,hCl]);refine⟨hql,hkl,hcl,?_⟩;(refine yC rfl (hFn _) ?_; simp[J1]);refine C9 (fun h3=>?_) (fun h3=>?_)<;>simp[J1]
 ·have h3:f.kind=1:=by simpa using h3
  have hw1:wS s x t=1:=by rw[hw,zk (.inl h3)]
  simp only[hw1,hV1 h3] at hR hPn;by_cases h1:m+1<=2000
  rotate_left
  ·have hO:=fun id=>o9 (s:=s) (J:=J) (m:=m) 2 c.n [] id hm h1;rw[T3] at hO;refine K4 hP rfl (hO _) (by simp[J1]) (by simp[J1]<;>rfl) (fun pv hpv=>⟨by simp[J1],by injection hpv with hpv; subst hpv; exact hPn _ _ (E4 h1) rfl (by simp[J1])⟩) (fun v wr h=>by cases h)
  have hO:=fun id=>S2 (s:=s) (J:=J) (m:=m) 2 c.n [] id h1;rw[T3 s m] at hO;(refine yC rfl (hO _) ?_; simp[J1]);have hrn:I0 []:=by simp[bR,J1,B2 hid]
  refine hR _ _ _ (F5 h1) ?_;refine H2 (by simp[bR,J1,B2 hid]<;>rfl) [] hrn ⟨?_,?_,?_,?_,?_,?_⟩<;>(try simp[bR,J1,B2 hid])
 refine C9 (fun h4=>?_) (fun h4=>?_)<;>simp[J1]
 ·have h4:f.kind=2:=by simpa using h4
  have hw1:wS s x t=1:=by rw[hw,zk (.inr h4)]
  simp only[hw1,hV2 h4] at hR hPn;by_cases h1:m+1<=2000
  rotate_left
  ·have hO:=fun id=>o9 (s:=s) (J:=J) (m:=m) 3 0 c.text id hm h1;rw[T3] at hO;refine K4 hP rfl (hO _) (by simp[J1]) (by simp[J1]<;>rfl) (fun pv hpv=>⟨by simp[J1],by injection hpv with hpv; subst hpv; exact hPn _ _ (E4 h1) rfl (by simp[J1])⟩) (fun v wr h=>by cases h)
  have hO:=fun id=>S2 (s:=s) (J:=J) (m:=m) 3 0 c.text id h1;rw[T3 s m] at hO;(refine yC rfl (hO _) ?_; simp[J1]);have hrn:I0 []:=by simp[bR,J1,B2 hid]
  refine hR _ _ _ (F5 h1) ?_;refine H2 (by simp[bR,J1,B2 hid]<;>rfl) [] hrn ⟨?_,?_,?_,?_,?_,?_⟩<;>(try simp[bR,J1,B2 hid])
 have h3:f.kind≠1:=by simpa using h3
 have h4:f.kind≠2:=by simpa using h4
 rw[zh (by omega)] at hw;rw[zh h3,zh h4] at ho;simp only[hV3 h3 h4] at hR hPn;obtain⟨ok,on,ot,oks,ols,hoe⟩:∃(a b:Int) (c:List UInt8) (d:List (List UInt8)) (e:List H3),eO (oS s x t) = .agg [.int .i64 a,.int .i64 b,.str c,.sl (d.map .str),.sl (e.map eO)]:=by
  cases oS s x t with|mk a b c d e=>exact⟨a,b,c,d,e,Q3 a b c d e⟩
 rw[hoe] at hR;refine C9 (fun h5=>?_) (fun h5=>?_)<;>simp[J1]
 ·have h5:f.kind=4:=by simpa using h5
  rw[zk h5] at hw ho;have hL:=fun id=>A9O (s:=s) (kids:=x.kids) (ids:=A0f x.args c.ids) (J:=J) (kd:=A8 s.types f.of) (W:=thW s (wL s x.kids) (A8 s.types f.of)) (O:=thO s (x.kids.map B8) (oL s x.kids) (A8 s.types f.of)) id hm (by unfold A0f; split<;>(try simp only[zu])<;>omega) (fun y hy=>hT y (by
   unfold A0f at hy;split at hy
   ·exact hy
   ·exact wc hy))
  rw[←hw,←ho,hoe] at hL;cases hx:x.args with
  | nil =>
   rw[hx] at hVa hL;simp only[A0f] at hL;(refine yC rfl (hVa _) ?_; simp[J1]);by_cases h1:m+wS s x t<=2000
   rotate_left
   ·simp only[E4 h1] at hL;rw[T3] at hL;refine K4 hP rfl (hL _) (by simp[J1]) (by simp[J1]<;>rfl) (fun pv hpv=>⟨by simp[J1],by injection hpv with hpv; subst hpv; exact hPn _ _ (E4 h1) rfl (by simp[J1])⟩) (fun v wr h=>by cases h)
   have hL1:∀id,A2 Tryz.prog 189 _ _ id _ _:=fun id=>by
    have:=hL id;rw[F5 h1] at this; exact this
   rw[T3 s m] at hL1;(refine yC rfl (hL1 _) ?_; simp[J1]);have hrn:I0 []:=(by simp[bR,J1,B2 hid]);refine hR _ _ _ (F5 h1) ?_;refine H2 (by simp[bR,J1,B2 hid]<;>rfl) [] hrn ⟨?_,?_,?_,?_,?_,?_⟩<;>(try simp[bR,J1,B2 hid])
  | cons a r =>
   obtain⟨ha0,ha1⟩:=ha a r hx;rw[hx] at hVa hL;simp only[A0f] at hL;(refine yC rfl (hVa _) ?_; simp[J1]);refine⟨⟨fun _ _=>rfl,by omega,by omega⟩,?_⟩;have htk:List.take (min a.n (c.ids.length:Int)).toNat (c.ids.map eI)=(c.ids.take a.n.toNat).map eI:=by
    rw[yr];rcases Int.le_total a.n c.ids.length with g|g
    ·rw[Int.min_eq_left g]
    ·rw[Int.min_eq_right g,zn (by simp),zn (by simp; omega)]
   rw[htk];by_cases h1:m+wS s x t<=2000
   rotate_left
   ·simp only[E4 h1] at hL;rw[T3] at hL;refine K4 hP rfl (hL _) (by simp[J1]) (by simp[J1]<;>rfl) (fun pv hpv=>⟨by simp[J1],by injection hpv with hpv; subst hpv; exact hPn _ _ (E4 h1) rfl (by simp[J1])⟩) (fun v wr h=>by cases h)
   have hL1:∀id,A2 Tryz.prog 189 _ _ id _ _:=fun id=>by
    have:=hL id;rw[F5 h1] at this; exact this
   rw[T3 s m] at hL1;(refine yC rfl (hL1 _) ?_; simp[J1]);have hrn:I0 []:=(by simp[bR,J1,B2 hid]);refine hR _ _ _ (F5 h1) ?_;refine H2 (by simp[bR,J1,B2 hid]<;>rfl) [] hrn ⟨?_,?_,?_,?_,?_,?_⟩<;>(try simp[bR,J1,B2 hid])
 ·have h5:f.kind≠4:=by simpa using h5
  rw[zh h5] at hw ho;cases hi:c.ids with
  | nil =>
   rw[hi] at hw ho;simp only at hw ho;have hN:=fun id=>A7c s J m id hm;rw[←ho,←hw,hoe] at hN;refine D5 (by rfl) ?_;simp[J1];by_cases h1:m+wS s x t<=2000
   rotate_left
   ·simp only[E4 h1] at hN;rw[T3] at hN;refine K4 hP rfl (hN _) (by simp[J1]) (by simp[J1]<;>rfl) (fun pv hpv=>⟨by simp[J1],by injection hpv with hpv; subst hpv; exact hPn _ _ (E4 h1) rfl (by simp[J1])⟩) (fun v wr h=>by cases h)
   have hN1:∀id,A2 Tryz.prog 254 _ _ id _ _:=fun id=>by
    have:=hN id;rw[F5 h1] at this; exact this
   rw[T3 s m] at hN1;(refine yC rfl (hN1 _) ?_; simp[J1]);have hrn:I0 []:=(by simp[bR,J1,B2 hid]);refine hR _ _ _ (F5 h1) ?_;refine H2 (by simp[bR,J1,B2 hid]<;>rfl) [] hrn ⟨?_,?_,?_,?_,?_,?_⟩<;>(try simp[bR,J1,B2 hid])
  | cons y r =>
   rw[hi] at hw ho;simp only at hw ho;have hTy:=fun id=>hT y (by rw[hi]; simp) m id hm;rw[←hw,←ho,hoe] at hTy;refine A0 (by simp; omega) ?_;simp[J1,eI];by_cases h1:m+wS s x t<=2000
   rotate_left
   ·simp only[E4 h1] at hTy;rw[T3] at hTy;refine K4 hP rfl (hTy _) (by simp[J1]) (by simp[J1]<;>rfl) (fun pv hpv=>⟨by simp[J1],by injection hpv with hpv; subst hpv; exact hPn _ _ (E4 h1) rfl (by simp[J1])⟩) (fun v wr h=>by cases h)
   have hT1:∀id,A2 Tryz.prog 188 _ _ id _ _:=fun id=>by
    have:=hTy id;rw[F5 h1] at this; exact this
   rw[T3 s m] at hT1;(refine yC rfl (hT1 _) ?_; simp[J1]);have hrn:I0 []:=(by simp[bR,J1,B2 hid]);refine hR _ _ _ (F5 h1) ?_;refine H2 (by simp[bR,J1,B2 hid]<;>rfl) [] hrn ⟨?_,?_,?_,?_,?_,?_⟩<;>(try simp[bR,J1,B2 hid])
structure RtS(s:F1):Prop where
 sch:A3v s.types
 len:s.things.length<=12
 tg:∀t∈s.things,A3z s t
theorem A8d{s:F1}(h:fSt s=0):RtS s:=by
 unfold fSt at h;split at h
 ·exact (by assumption:F8 s.types≠0) h |>.elim
 rename_i h1;split at h
 ·omega
 rename_i h2;split at h
 ·exact (by assumption:B9 _ _ _≠0) h |>.elim
 rename_i h3;refine⟨A5H (zm h1),by omega,fun t ht=>?_⟩;obtain⟨i,hi⟩:=yk.1 ht;have h0:=N0 _ _ _ (zm h3) i t hi;unfold k9 at h0;refine B5F (zm fun hn=>?_);rw[zk hn] at h0;exact hn h0
theorem A6G{s:F1}{kd id:Int}{u:Tg}(hs:RtS s)(hk : -1<=kd/\kd<=5)(h:thA s kd id=some u):u∈s.things/\u.type=kd:=by
 unfold thA at h;split at h
 ·rename_i hb;have hm:=zf h;refine⟨hm,?_⟩;unfold C3 at hb;simp only[yh,decide_eq_true_eq] at hb;have h2:=hb.2;have ht:=hs.tg u hm;have a1:=ht.ty0;have a2:=ht.ty1;have a3:=hs.sch.len;unfold F4 at h2;rw[h] at h2;simp only[S5] at h2;split at h2
  ·rw[wrap64 (by omega)] at h2; omega
  ·omega
 ·cases h
theorem A29(l:List Ty)(n:List UInt8)(h:l.length<=5): -1<=A8 l n/\A8 l n<=5:=by
 unfold A8;rcases L5 (fun t=>t.name==n) l 0 with⟨q1,q2⟩|⟨j,t',q1,q2,q3⟩
 ·omega
 ·have:=(ze.1 q1).1; omega
theorem A0u{l:List Ty}{t:Ty}:∀{q:List D7},X4 l t q=0->∀x∈q,A8Y l t x=0
 | [],_,x,hx=>by cases hx
 | a::r,h,x,hx=>by
  simp only[X4] at h;split at h
  ·rename_i h0; exact (h0 h).elim
  ·rename_i h0;rcases zi.1 hx with rfl|hx
   ·exact zm h0
   ·exact A0u h x hx
theorem A41{name:List UInt8}{may:Bool}{a b:Int}{x:Ag}{r:List Ag}(h:J3 (x::r) name may a b=0):a<=x.n/\x.n<=b:=by
 unfold J3 U9 at h;split at h
 ·rename_i h0; exact (h0 h).elim
 ·rename_i h0;have h0:=zm h0;unfold A0b at h0;repeat' split at h0
  all_goals first|(exfalso; omega)|omega
theorem A2A{s:F1}(hs:RtS s):∀(n:Nat) (x:D7) (u:Tg) (ty:Ty) (J m id:Nat),x.sz<n->x.sz<=1000000->A3z s u->s.types[u.type.toNat]?=some ty->A8Y s.types ty x=0->m<=2000 ->
  u9 Tryz.prog 256 [.ptr J 0 0,M5 u,D0 x] [(J,bR s m)] id (rnR s J m (wS s x u) (eO (oS s x u)))
 | 0,x,u,ty,J,m,id,hn,_,_,_,_,_=>by omega
 | n+1,x,u,ty,J,m,id,hn,h8,hu,hty,hk,hm=>by
  by_cases hid:x.name=o7
  ·exact B26 id hm hid
  rw[A3F] at hk;unfold fieldAt at hk;rw[zh hid] at hk;have hsz:=A1i x;have hkl:=W4 x.kids;have hl5:=hs.sch.len;have hf6:=hs.sch.fields ty (zf hty);have hfl:C2 s.types u.type=ty.fields:=by unfold C2; rw[hty]; rfl
  rcases L5 (fun g=>g.name==x.name) ty.fields 0 with⟨r1,r2⟩|⟨k,f,r1,r2,r3⟩
  ·rw[r1] at hk; simp at hk
  rw[r3] at hk;simp only at hk;rw[yu] at r2;have hkd:=hs.sch.kinds ty (zf hty) f (zf r1);have hlen:=hu.len;rw[hfl] at hlen;have hk6:=(ze.1 r1).1;obtain⟨c,hc⟩:∃c,u.cells[k]?=some c:=⟨_,zd (by omega)⟩;obtain⟨f',hf',hcl⟩:=hu.cellOk hc;rw[hfl,r1] at hf';obtain rfl:f=f':=by simpa using hf'
  split at hk
  ·rename_i h0; exact (h0 hk).elim
  rename_i hA;have hA:=zm hA;split at hk
  ·simp at hk
  have hi6:=hcl.i1;refine B27 id hm hid (q:=u.type.toNat) (by have:=hu.ty0; omega) hty (by omega) (by omega) r2 r1 hc hkd (by omega) (fun a r e=>A41 (by rw[e] at hA; exact hA)) fun y hy m id hm=>?_;have hk34:f.kind=3\/f.kind=4:=by
   refine zm fun hn=>?_;have:c.ids=[]:=hcl.i0 (by unfold O5; simp; omega);rw[this] at hy; cases hy
  rw[zh (by simp; omega)] at hk;refine A40 id hm (by have:=hs.len; omega) (by omega) fun v hv z hz m id hm=>?_;obtain⟨hv1,hv2⟩:=A6G hs (A29 _ _ hl5) hv;have hz1:=Z6 hz;have hv4:=hs.tg v hv1;have htyp:∃ty',s.types[v.type.toNat]?=some ty'/\V0 s.types f.of=some ty':=by
   rcases L5 (fun t=>t.name==f.of) s.types 0 with⟨q1,q2⟩|⟨j,t',q1,q2,q3⟩
   ·have:=hv4.ty0;rw[hv2] at this;unfold A8 at this;omega
   ·refine⟨t',?_,q3⟩;rw[hv2];unfold A8;rw[q2];simpa using q1
  obtain⟨ty',ht1,ht2⟩:=htyp;rw[ht2] at hk;exact A2A hs n z v ty' J m id (by omega) (by omega) hv4 ht1 (A0u hk z hz) hm
end Go.Am
