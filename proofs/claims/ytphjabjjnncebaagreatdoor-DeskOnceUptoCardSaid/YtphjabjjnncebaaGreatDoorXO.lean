/- Parts of the proof: an abstract machine for Go functions, and what functions of the program give back (Pu4, Dw2, Rd2, Bf2, Un1, CcH, Hi1, Hi2, Hi3, Ch1, Ch2, Ch3, Ch4). No condition. -/
import Derived.Test.YtphjabjjnncebaaGreatDoorXN
import Derived.Test.YtphjabjjnncebaaGreatDoorXI
import Derived.Test.YtphjabjjnncebaaGreatDoorXK
import Derived.Test.YtphjabjjnncebaaGreatDoorXG
import Derived.Test.YtphjabjjnncebaaGreatDoorXF
import Derived.Test.YtphjabjjnncebaaGreatDoorXJ
import Derived.Test.YtphjabjjnncebaaGreatDoorXH
set_option maxRecDepth 100000
set_option linter.all false
set_option maxHeartbeats 4000000
namespace Go.Am
open Go Go.Proofs Go.RowKit
/-! An event of one thing leaves all others. -/
def P3(l:List Bt):List Ev:=l.flatMap (·.events)
def bxQ(x y:AV)(bs:List Bt):Bx:=⟨[.agg [x,y,.sl (bs.map Y9)]],.agg [.nils,.nils,.sl (bs.map Y9)],false,false⟩
def bxO(s:H0)(bs:List Bt):Bx:=bxQ (.sl (s.types.map I8)) (.sl (s.things.map T4)) bs
theorem A8G{l:List Bt}(h:∀b∈l,b.events.length<=8):(P3 l).length<=8*l.length:=by
 induction l with
 | nil=>simp[P3]
 | cons b r ih =>
  have h1:=h b (za ..);have h2:=ih fun x hx=>h x (zb _ hx);simp only[P3,xj,yl,yd] at h2 ⊢; omega
theorem A9y(j:Nat)(x y:AV)(hx:x.pureB=true)(hy:y.pureB=true)(bs:List Bt)(n:Nat)(hn:n<=bs.length)(id:Nat)(h8:bs.length<=10000)(he:∀b∈bs,b.events.length<=8):A2 Tryz.prog 59 [.ptr j 0 0,.int .i64 n] [(j,bxQ x y bs)] id (.sl ((P3 (bs.take n)).map K7)) []:=by
 unfold bxQ;refine w59.e.1 fun E hP hR hl hid=>?_;simp[w59];have hj:=hl (j,_) (za ..);simp only at hj;have j1:=lf hj;simp[j1,hn];have htl:(bs.take n).length=n:=by rw[zw]; omega
 have hte:∀b∈bs.take n,b.events.length<=8:=fun b hb=>he b (xh hb);have hall:=A8G hte;refine⟨fun a _=>rfl,?_⟩;rw[←yu];generalize bs.take n=ts at *;refine D0 (X:=Nat×List Ev) (fun q=>⟨[(13,true,.sl (ts.map Y9)),(14,true,.int .i64 n),(15,true,.int .i64 q.1),(5,true,.bsl E.n0 0 q.2.length)],[(j,some ⟨[.agg [x,y,.sl (bs.map Y9)]],.agg [.nils,.nils,.sl (bs.map Y9)],false,false⟩),(E.n0,some (bxE q.2 false))],1⟩)
  (fun q=>q.1<=n/\q.2++P3 (ts.drop q.1)=P3 ts) (fun q=>n - q.1) (0,[]) ?_ ⟨by simp,rfl⟩ ?_
 ·refine E4.trans (E4.voidSlot 5 (x:=.nils) (by simp) .nils (.agg [.int .i64 0,.int .i64 0,.int .i64 0,.int .i64 0,.int .i64 0,.str []])) ?_;refine yV [(E.n0,E.n0+10240)] (by simp[bxE,j1]) fun hrn=>⟨?_,?_,?_,?_,?_⟩<;>(try simp[bxE,j1]);all_goals exact⟨K9 rfl hx,K9 rfl hy⟩
 rintro⟨i,acc⟩ ⟨hi,ha⟩ p hp;simp only at hi ha;have hal:acc.length<=80000:=by
  have:=congrArg List.length ha;rw[yl] at this; omega
 rcases yh i n with h|h
 rotate_left
 ·rw[zn (by omega)] at ha;have ha:acc=P3 ts:=by simpa [P3] using ha
  rw[←ha] at hR;refine A3 4000 ?_;simp[ru.2 h];have hrn:H5 []:=by simp[bxE,j1,A4 hid]
  rw[hR];refine L6 (by simp<;>rfl) (by simp[bxE,j1,A4 hid]<;>exact⟨rfl,rfl⟩) [] hrn ⟨?_,?_,?_,?_,?_,?_⟩<;>(try simp[bxE,j1,A4 hid]);all_goals exact⟨K9 rfl hx,K9 rfl hy⟩
 obtain⟨b,hb,hd⟩:=B2 (show i<ts.length by omega);have hi1:IntKind.i64.wrap ((i:Int)+1)=((i+1:Nat):Int):=A5 (by omega);have hbl:b.events.length<=8:=hte b (zg hb);rw[hd] at ha;have ha:(acc++b.events)++P3 (ts.drop (i+1))=P3 ts:=by rw[←ha]; simp[P3]
 refine A3 4000 ?_;simp[h,hb,Y9,bxE,j1];refine⟨by omega,⟨fun a _=>⟨rfl,fun z hz=>?_⟩,by omega,by omega⟩,hp _ (i+1,acc++b.events) ⟨h,ha⟩ (by simp; omega) ?_⟩
 ·have hz:z∈(K7 a).cells:=hz;simp only[K7,AV.cells,zh,yn,or_false] at hz;rcases hz with rfl|rfl|rfl|rfl|rfl|rfl<;>rfl
 ·refine yV [(E.n0,E.n0+8193)] (by simp[bxE,hi1,j1]) fun hrn=>⟨?_,?_,?_,?_,?_⟩<;>(try simp[bxE,hi1,j1]);all_goals exact⟨⟨K9 rfl hx,K9 rfl hy⟩,C2 rfl (C4 (A3A _) (A3A _))⟩
def A2D(s:H0)(e:Ev):Int:=if fSt s≠0 then fSt s else U6 s e
def B9d(s:H0)(e:Ev):AV:=if A2D s e=0 then D7 (A06 s e) else eS0
theorem p6{q:Nat×Option Bx}:∀{wr l:List (Nat×Option Bx)},q∈W9 l wr->q∈l\/q∈wr
 | [],_,h=>.inl h
 | p::wr,l,h=>by
  rw[W9] at h;rcases p6 h with h|h
  ·rcases zh.1 h with rfl|h
   ·exact .inr (za ..)
   ·exact .inl h
  ·exact .inr (zb _ h)
theorem A2i{l:List (Nat×Option Bx)}{r:List Nat}(h:∀q∈l,q.1∉r):l8 (l.map (fun x=>x.fst)) r:=R6.2 fun x hx=>by
 obtain⟨q,hq,rfl⟩:=zu.1 hx;exact h q hq
theorem B4Z{T:Nat}{S:List H1}:∀q∈r9 T S,q.2.ro=false:=fun q hq=>by
 rcases zh.1 hq with rfl|hq
 ·rfl
 ·obtain⟨o,_,hq⟩:=xy.1 hq;rcases zh.1 hq with rfl|hq
  ·rfl
  ·have:∀(cs:List Cl) (is:List (Option Nat)),∀q∈A0N cs is,q.2.ro=false:=fun cs=>by
    induction cs with
    | nil=>intro is q h; cases h
    | cons c cs ih =>
     intro is q h;cases is with
     | nil=>cases h
     | cons i is =>
      rcases zo.1 h with h|h
      ·cases i with
       | none=>cases h
       | some i=>simp only[idB,xq] at h; subst h; rfl
      ·exact ih is q h
   exact this _ _ q hq
theorem m6{y:Nat}{b:Option Bx}{L:List (Nat×Option Bx)}:bk ((y,b)::L) y=b:=by simp[bk]
theorem C2D(s:H0)(e:Ev)(id:Nat)(h:fSt s≠0):A2 Tryz.prog 63 [D7 s,K7 e] [] id (.tup [eS0,.int .i64 (fSt s)]) []:=by
 have hC:=fun id=>m3 s id;unfold D7 K7 eS0 at *;refine w63.e.1 fun E hP hR hl hid=>?_;simp[w63];(refine yH rfl (hC _) ?_; simp);refine A9 (by simpa using h) ?_;simp;exact yP hR
theorem B9e(s:H0)(e:Ev)(id:Nat)(h:fSt s=0)(he:U6 s e≠0):A2 Tryz.prog 63 [D7 s,K7 e] [] id (.tup [eS0,.int .i64 (U6 s e)]) []:=by
 obtain⟨hr,hs,hl⟩:=B14 h;have hC:=fun id=>m3 s id;have h6:∀x∈s.things,x.cells.length<=16/\∀c∈x.cells,c.ids.length<=1000:=fun x hx=>by
  have h1:=(hr.tg x hx).cells6 hr.sch;refine⟨by omega,fun c hc=>?_⟩;obtain⟨k,hk⟩:=ye.1 hc;obtain⟨f,_,hco⟩:=(hr.tg x hx).cellOk hk;have:=hco.i1; omega
 have h5:=hr.sch.len;have h12:=hr.len;have hW:∀id,A2 Tryz.prog 117 [D7 s] [] id (.agg [.sl (s.types.map I8),.bsl id 0 s.things.length]) ((id,some ⟨P8 id s.things s.things.length,zT,false,false⟩)::M4 id s.things s.things.length):=fun id=>A83 s id (by omega) (fun t ht=>by have:=hr.sch.fields t ht; omega) h12 h6;have h16:∀x∈s.things,x.cells.length<=16:=fun x hx=>(h6 x hx).1;have hkey:∀t,∀q∈M4 t s.things s.things.length,t+1<=q.1/\q.1<t+1000:=fun t q hq=>by
  obtain⟨y,b⟩:=q;rcases A04 h16 hq with⟨j,h1,h2⟩|⟨j,m,h1,h2,h3⟩<;>simp only<;>omega
 have hRw:∀t id,t+1000<=id->A2 Tryz.prog 126 [.agg [.sl (s.types.map I8),.bsl t 0 s.things.length],K7 e] (r9 t (q9 t 0 s.things)) id (.tup [eS0,.int .i64 (U6 s e)]) []:=fun t id ht=>by
  have:=A5u (l:=s.types) (S:=q9 t 0 s.things) (T:=t) (e:=e) (id:=id) (B4V h16 h12) (fun z hz=>by have:=A5w h16 h12 z hz; omega) (A6z t s.things 0) (by rw[A3P]; exact hr) (by rw[A3P]; exact he);rw[A3P,A2C] at this;exact this
 unfold D7 K7 eS0 at *;refine w63.e.1 fun E hP hR hl hid=>?_;simp[w63];have hsk:∀L z,z<E.n0+10240->bk (W9 L (M4 (E.n0+10240) s.things s.things.length)) z=bk L z:=fun L z hz=>by
  rw[W5];exact Q3 fun q hq=>by have:=hkey _ q hq; omega
 have hin:∀L,∀q∈r9 (E.n0+10240) (q9 (E.n0+10240) 0 s.things),bk (W9 ((E.n0+10240,some ⟨P8 (E.n0+10240) s.things s.things.length,zT,false,false⟩)::L) (M4 (E.n0+10240) s.things s.things.length)) q.1=some q.2:=fun L q hq=>by
  have hm:=B4U hq;rw[W5];rcases zh.1 hm with hm|hm
  ·injection hm with h1 h2
   rw[Q3 fun q' hq'=>by have:=hkey _ q' hq'; omega,h1,h2];exact m6
  ·exact A4y (Q9 (S:=fun _=>True) h16 s.things.length h12 (fun _ _=>trivial) fun _ _ _ _=>trivial).nd hm
 (refine yH rfl (hC _) ?_; simp);refine A0 (by simpa using h) ?_;simp;refine D8 hP rfl (hW _) (by simp) (by simp) ?_;refine A3 4 ?_;simp[hsk];refine D8 hP rfl (hRw (E.n0+10240) _ (by simp)) (by simp) (l9.of (hin _)) ?_;refine A3 18 ?_;simp[hsk];refine⟨⟨A2i fun q hq=>by have:=hkey _ q hq; simp; omega,A2i fun q hq=>by simp⟩,?_⟩;refine A33 (E4.deep 4 [(E.n0+2048,⟨[.agg [.nils,.nils]],.agg [.nils,.nils],false,false⟩)] (x:=.ptr (E.n0+2048) 0 0) (y:=.cptr [.nils,.nils]) rfl (fun q hq=>?_) ?_ fun q hq=>?_) ?_
 ·simp only[xq] at hq;subst hq;exact⟨m6,rfl⟩
 ·exact .ptr _ _ (.agg [.nils,.nils]) _ (xq.2 rfl) rfl rfl fun j c d h1 h2=>by
   have h1:[AV.nils,AV.nils][j]?=some c:=h1;rw[h1] at h2; injection h2 with h2; subst h2; exact .same _
 ·rcases zh.1 hq with rfl|hq
  ·simp only; omega
  ·rcases p6 hq with hq|hq
   ·simp only[zh,yn,or_false] at hq;rcases hq with rfl|rfl|rfl|rfl<;>simp only<;>omega
   ·have:=hkey _ q hq; omega
 ·refine A3 5 ?_;simp;exact yP hR
theorem B17(s:H0)(e:Ev)(id:Nat)(h:fSt s=0)(he:U6 s e=0):A2 Tryz.prog 63 [D7 s,K7 e] [] id (.tup [D7 (A06 s e),.int .i64 0]) []:=by
 obtain⟨hr,hs,hl⟩:=B14 h;have hC:=fun id=>m3 s id;have h6:∀x∈s.things,x.cells.length<=16/\∀c∈x.cells,c.ids.length<=1000:=fun x hx=>by
  have h1:=(hr.tg x hx).cells6 hr.sch;refine⟨by omega,fun c hc=>?_⟩;obtain⟨k,hk⟩:=ye.1 hc;obtain⟨f,_,hco⟩:=(hr.tg x hx).cellOk hk;have:=hco.i1; omega
 have h5:=hr.sch.len;have h12:=hr.len;have hW:∀id,A2 Tryz.prog 117 [D7 s] [] id (.agg [.sl (s.types.map I8),.bsl id 0 s.things.length]) ((id,some ⟨P8 id s.things s.things.length,zT,false,false⟩)::M4 id s.things s.things.length):=fun id=>A83 s id (by omega) (fun t ht=>by have:=hr.sch.fields t ht; omega) h12 h6;have h16:∀x∈s.things,x.cells.length<=16:=fun x hx=>(h6 x hx).1;have hkey:∀t,∀q∈M4 t s.things s.things.length,t+1<=q.1/\q.1<t+1000:=fun t q hq=>by
  obtain⟨y,b⟩:=q;rcases A04 h16 hq with⟨j,h1,h2⟩|⟨j,m,h1,h2,h3⟩<;>simp only<;>omega
 have hRw:∀t id,t+1000<=id->∃T' S' wr,A9w s.types (q9 t 0 s.things) t e id T' S' wr:=fun t id ht=>A8A (l:=s.types) (S:=q9 t 0 s.things) (T:=t) (e:=e) (id:=id) (B4V h16 h12) (fun z hz=>by have:=A5w h16 h12 z hz; omega) (A6z t s.things 0) (by rw[A3P]; exact hr) (by rw[A3P]; exact he);unfold D7 K7 at *;refine w63.e.1 fun E hP hR hl hid=>?_;simp[w63];have hsk:∀L z,z<E.n0+10240->bk (W9 L (M4 (E.n0+10240) s.things s.things.length)) z=bk L z:=fun L z hz=>by
  rw[W5];exact Q3 fun q hq=>by have:=hkey _ q hq; omega
 have hin:∀L,∀q∈r9 (E.n0+10240) (q9 (E.n0+10240) 0 s.things),bk (W9 ((E.n0+10240,some ⟨P8 (E.n0+10240) s.things s.things.length,zT,false,false⟩)::L) (M4 (E.n0+10240) s.things s.things.length)) q.1=some q.2:=fun L q hq=>by
  have hm:=B4U hq;rw[W5];rcases zh.1 hm with hm|hm
  ·injection hm with h1 h2
   rw[Q3 fun q' hq'=>by have:=hkey _ q' hq'; omega,h1,h2];exact m6
  ·exact A4y (Q9 (S:=fun _=>True) h16 s.things.length h12 (fun _ _=>trivial) fun _ _ _ _=>trivial).nd hm
 obtain⟨T',S',wr,hf,ht,hst⟩:=hRw (E.n0+10240) (E.n0+12288) (by omega);rw[A3P] at hst;rw[A2C] at hf;have hRs:A06 s e=⟨s.types,S'.map H1.t⟩:=hst.symm;rw[hRs] at hR;unfold K7 at hf;have hwk:∀q∈wr,E.n0+10240<=q.1:=fun q hq=>by
  rcases ht.kw q hq with h|h
  ·have:=A5w h16 h12 _ h; omega
  ·omega
 have hsk2:∀L z,z<E.n0+10240->bk (W9 L wr) z=bk L z:=fun L z hz=>by
  rw[W5];exact Q3 fun q hq=>by have:=hwk q hq; omega
 (refine yH rfl (hC _) ?_; simp);refine A0 (by simpa using h) ?_;simp;refine D8 hP rfl (hW _) (by simp) (by simp) ?_;refine A3 4 ?_;simp[hsk];refine D8 hP rfl hf (by simp) (l9.of (hin _)) ?_;refine A3 18 ?_;simp[hsk,hsk2];refine⟨⟨A2i fun q hq=>by have:=hkey _ q hq; simp; omega,A2i fun q hq=>by simp⟩,?_⟩;refine A33 (E4.deep 4 ((E.n0+2048,⟨[.agg [.sl (s.types.map I8),.bsl T' 0 S'.length]],.agg [.nils,.nils],false,false⟩)::r9 T' S') (x:=.ptr (E.n0+2048) 0 0) (y:=.cptr [.sl (s.types.map I8),.sl ((S'.map H1.t).map T4)]) rfl (fun q hq=>?_) ?_ fun q hq=>?_) ?_
 ·rcases zh.1 hq with rfl|hq
  ·exact⟨m6,rfl⟩
  ·refine⟨?_,B4Z q hq⟩;have hne:q.1≠E.n0+2048:=by
    rcases ht.nm q.1 (zu.2 ⟨q,hq,rfl⟩) with h|h
    ·have:=A5w h16 h12 _ h; omega
    ·omega
   rw[A3k hne,W5];exact ht.has _ (hin _) q hq
 ·refine .ptr _ _ (.agg [.sl (s.types.map I8),.bsl T' 0 S'.length]) _ (za ..) rfl rfl fun j c d h1 h2=>?_;match j,h1,h2 with
  | 0,h1,h2 =>
   injection h1 with h1; injection h2 with h2
   subst h1 h2; exact .same _
  | 1,h1,h2 =>
   injection h1 with h1; injection h2 with h2
   subst h1 h2;exact A3v ht.ok (zb _ (za ..)) fun q hq=>zb _ (zb _ hq)
  | j+2,h1,h2=>simp[AV.cells] at h1
 ·rcases zh.1 hq with rfl|hq
  ·simp only; omega
  ·rcases p6 hq with hq|hq
   ·rcases p6 hq with hq|hq
    ·simp only[zh,yn,or_false] at hq;rcases hq with rfl|rfl|rfl|rfl<;>simp only<;>omega
    ·have:=hkey _ q hq; omega
   ·have:=hwk q hq; omega
 ·refine A3 5 ?_;simp;have hp:F9 (List.map (T4∘H1.t) S')=true:=E7 (f:=T4∘H1.t) (fun o=>A3F o.t) S';rw[hR]; exact E8 (by simp<;>rfl) [] trivial (S6 (by simp) (by simp[hp]) (by simp))
theorem C59(s:H0)(e:Ev)(id:Nat):A2 Tryz.prog 63 [D7 s,K7 e] [] id (.tup [B9d s e,.int .i64 (A2D s e)]) []:=by
 by_cases h:fSt s=0
 ·have e1:A2D s e=U6 s e:=by unfold A2D; rw[zf (by simpa using h)]
  unfold B9d;rw[e1];by_cases he:U6 s e=0
  ·rw[zj he,he]; exact B17 s e id h he
  ·rw[zf he]; exact B9e s e id h he
 ·have e1:A2D s e=fSt s:=by unfold A2D; rw[zj h]
  unfold B9d;rw[e1,zf h];exact C2D s e id h
theorem B9f(s:H0)(ty i fd n:Int)(tx:List UInt8)(id:Nat)(h12:s.things.length<=1000): A2 Tryz.prog 127 [D7 s,K7 ⟨1,ty,i,fd,n,tx⟩] [] id (.tup [K7 ⟨2,ty,i,fd,0,[]⟩,.int .i64 0]) []:=by
 have hF:=fun id=>o8 s ty i id (by omega);unfold D7 K7 at *;refine w127.e.1 fun E hP hR hl hid=>?_;simp[w127];(refine yH rfl (hF _) ?_; simp);exact yP hR
theorem B9g(s:H0)(ty i fd n:Int)(tx:List UInt8)(id:Nat)(h12:s.things.length<=1000): A2 Tryz.prog 127 [D7 s,K7 ⟨6,ty,i,fd,n,tx⟩] [] id (.tup [K7 ⟨5,ty,i,fd,n,[]⟩,.int .i64 0]) []:=by
 have hF:=fun id=>o8 s ty i id (by omega);unfold D7 K7 at *;refine w127.e.1 fun E hP hR hl hid=>?_;simp[w127];(refine yH rfl (hF _) ?_; simp);exact yP hR
theorem B9h(s:H0)(ty i fd n:Int)(tx:List UInt8)(id:Nat)(h12:s.things.length<=1000)(t:Tg)(hx:s.things[B9 s.things ty i]?=some t)(h6:t.cells.length<=1000):A2 Tryz.prog 127 [D7 s,K7 ⟨2,ty,i,fd,n,tx⟩] [] id (.tup [if A1r t.cells=true then K7 ⟨1,ty,i,fd,0,[]⟩ else K7 ⟨0,0,0,0,0,[]⟩,.int .i64 (if A1r t.cells=true then 0 else 4)]) []:=by
 have hF:=fun id=>o8 s ty i id (by omega);unfold D7 K7 at *;refine w127.e.1 fun E hP hR hl hid=>?_;simp[w127];(refine yH rfl (hF _) ?_; simp);have hlt:=(ze.1 hx).1;simp[hx,T4];(repeat (refine And.intro (by first|assumption|omega|(simp; omega)|(simp_all; done)) ?_));(refine yC rfl (B9b t.cells _ (by omega)) ?_; simp[hx,T4]);refine E5 (fun h=>?_) (fun h=>?_)<;>simp
 ·have hb:¬(A1r t.cells=true):=by simpa using h
  rw[zf hb,zf hb] at hR;exact yP hR
 ·have hb:A1r t.cells=true:=by simpa using h
  rw[zj hb,zj hb] at hR;exact yP hR
theorem B9i(s:H0)(ty i fd n:Int)(tx:List UInt8)(id:Nat)(h12:s.things.length<=1000)(t:Tg)(hx:s.things[B9 s.things ty i]?=some t)(k:Nat)(hk:fd=k)(c:Cl)(hc:t.cells[k]?=some c):A2 Tryz.prog 127 [D7 s,K7 ⟨3,ty,i,fd,n,tx⟩] [] id (.tup [K7 ⟨3,ty,i,fd,c.n,[]⟩,.int .i64 0]) []:=by
 have hF:=fun id=>o8 s ty i id (by omega);unfold D7 K7 at *;refine w127.e.1 fun E hP hR hl hid=>?_;simp[w127];(refine yH rfl (hF _) ?_; simp);have hlt:=(ze.1 hx).1;have hlc:=(ze.1 hc).1;subst hk;simp[hx,T4,hc,eCl];(repeat (refine And.intro (by first|assumption|omega|(simp; omega)|(simp_all; done)) ?_));exact yP hR
theorem B9j(s:H0)(ty i fd n:Int)(tx:List UInt8)(id:Nat)(h12:s.things.length<=1000)(t:Tg)(hx:s.things[B9 s.things ty i]?=some t)(k:Nat)(hk:fd=k)(c:Cl)(hc:t.cells[k]?=some c):A2 Tryz.prog 127 [D7 s,K7 ⟨4,ty,i,fd,n,tx⟩] [] id (.tup [K7 ⟨4,ty,i,fd,0,c.text⟩,.int .i64 0]) []:=by
 have hF:=fun id=>o8 s ty i id (by omega);unfold D7 K7 at *;refine w127.e.1 fun E hP hR hl hid=>?_;simp[w127];(refine yH rfl (hF _) ?_; simp);have hlt:=(ze.1 hx).1;have hlc:=(ze.1 hc).1;subst hk;simp[hx,T4,hc,eCl];(repeat (refine And.intro (by first|assumption|omega|(simp; omega)|(simp_all; done)) ?_));exact yP hR
theorem B9k(s:H0)(ty i fd n:Int)(tx:List UInt8)(id:Nat)(h12:s.things.length<=1000)(t:Tg)(hx:s.things[B9 s.things ty i]?=some t)(k:Nat)(hk:fd=k)(c:Cl)(hc:t.cells[k]?=some c)(q:Nat)(hq:ty=q)(y:Ty)(hy:s.types[q]?=some y)(f:Fd)(hf:y.fields[k]?=some f):A2 Tryz.prog 127 [D7 s,K7 ⟨5,ty,i,fd,n,tx⟩] [] id (.tup [if f.kind=3/\c.ids≠[] then K7 ⟨5,ty,i,fd,c.ids.headD 0,[]⟩ else K7 ⟨6,ty,i,fd,n,[]⟩,.int .i64 0]) []:=by
 have hF:=fun id=>o8 s ty i id (by omega);unfold D7 K7 at *;refine w127.e.1 fun E hP hR hl hid=>?_;simp[w127];(refine yH rfl (hF _) ?_; simp);have hlt:=(ze.1 hx).1;have hlc:=(ze.1 hc).1;have hly:=(ze.1 hy).1;have hlf:=(ze.1 hf).1;subst hk hq;simp[hx,T4,hc,eCl,hy,hf,I8,T2];(repeat (refine And.intro (by first|assumption|omega|(simp; omega)|(simp_all; done)) ?_));refine E5 (fun h=>?_) (fun h=>?_)
 ·have h3:f.kind=3/\c.ids≠[]:=by
   simp at h;exact⟨h.1,fun e=>by rw[e] at h; simp at h⟩
  obtain⟨m,r,hm⟩:∃m r,c.ids=m::r:=by
   cases hh:c.ids with
   | nil=>exact (h3.2 hh).elim
   | cons m r=>exact⟨m,r,rfl⟩
  rw[zj h3] at hR;rw[hm] at hR;simp[hm,eI];exact yP hR
 ·have h3:¬(f.kind=3/\c.ids≠[]):=fun⟨a,b⟩=>by
   simp[a] at h;exact b h
  rw[zf h3] at hR;simp;exact yP hR
def ev0:Ev:=⟨0,0,0,0,0,[]⟩
def A6g(s:H0)(e:Ev):Ev:=if B16 s e=0 then B9c s e else ev0
theorem B7O(s:H0)(e:Ev)(id:Nat)(h:Rt s)(he:U6 s e=0):A2 Tryz.prog 127 [D7 s,K7 e] [] id (.tup [K7 (A6g s e),.int .i64 (B16 s e)]) []:=by
 have ho:=C57 h he;have h12:=h.r.len;have hev:∀k:Int,e.kind=k->K7 e=K7 ⟨k,e.type,e.id,e.field,e.n,e.text⟩:=fun k hk=>by unfold K7; rw[←hk]
 have hz:e.kind≠2->B16 s e=0:=fun hk=>by unfold B16; rw[zf hk]
 by_cases k1:e.kind=1
 ·have hb:=hz (by omega);have hx:A6g s e=⟨2,e.type,e.id,e.field,0,[]⟩:=by unfold A6g; rw[zj hb]; unfold B9c; rw[zj k1]
  rw[hx,hb,hev 1 k1];exact B9f s e.type e.id e.field e.n e.text id (by omega)
 by_cases k2:e.kind=2
 ·obtain⟨t,ht,e1,e2⟩:=h.srt.thereAt ⟨ho.ty0,ho.ty2⟩ ⟨ho.id1,ho.id2⟩ (A8F ho k1);have ht':s.things[H2 s e]?=some t:=ht;have h6:=(h.r.tg t (zg ht)).cells6 h.r.sch;have:=B9h s e.type e.id e.field e.n e.text id (by omega) t ht (by omega);rw[hev 2 k2];have hb:B16 s e=if A1r t.cells=true then 0 else 4:=by unfold B16; rw[zj k2,ht']
  have hx:K7 (A6g s e)=if A1r t.cells=true then K7 ⟨1,e.type,e.id,e.field,0,[]⟩ else K7 ⟨0,0,0,0,0,[]⟩:=by
   unfold A6g;rw[hb];by_cases hf:A1r t.cells=true
   ·rw[zj hf,zj hf,zj rfl]; unfold B9c; rw[zf k1,zj k2]
   ·rw[zf hf,zf hf,zf (by omega)]; rfl
  rw[hx,hb];exact this
 have hk3:3<=e.kind:=by have:=ho.k1; omega
 obtain⟨t,f,c,hh⟩:=C58 h ho hk3;have hclo:A53 s e=some c:=by unfold A53; rw[hh.tt]; exact hh.cc
 have hfdo:A0e s e=some f:=by unfold A0e; rw[zf (by have:=hh.f0; omega)]; exact hh.ff
 have hb:=hz (by omega);have f0:=hh.f0;have hfd:e.field=(e.field.toNat:Int):=by omega
 have ty0:=ho.ty0;have htd:e.type=(e.type.toNat:Int):=by omega
 have hX:A6g s e=if e.kind=3 then ⟨3,e.type,e.id,e.field,c.n,[]⟩ else if e.kind=4 then ⟨4,e.type,e.id,e.field,0,c.text⟩
   else if e.kind=5 then (if f.kind=3/\c.ids≠[] then ⟨5,e.type,e.id,e.field,c.ids.headD 0,[]⟩ else ⟨6,e.type,e.id,e.field,e.n,[]⟩)
   else ⟨5,e.type,e.id,e.field,e.n,[]⟩:=by
  unfold A6g;rw[zj hb];unfold B9c;rw[zf k1,zf k2,hclo,hfdo]
 rw[hb];by_cases k3:e.kind=3
 ·rw[zj k3] at hX;rw[hX,hev 3 k3];exact B9i s e.type e.id e.field e.n e.text id (by omega) t hh.tt e.field.toNat hfd c hh.cc
 rw[zf k3] at hX;by_cases k4:e.kind=4
 ·rw[zj k4] at hX;rw[hX,hev 4 k4];exact B9j s e.type e.id e.field e.n e.text id (by omega) t hh.tt e.field.toNat hfd c hh.cc
 rw[zf k4] at hX;by_cases k5:e.kind=5
 ·rw[zj k5] at hX;have hty:e.type.toNat<s.types.length:=ho.ty1;obtain⟨y,hy⟩:∃y,s.types[e.type.toNat]?=some y:=⟨_,zc hty⟩;have hfl:C8 s.types e.type=y.fields:=by simp[C8,hy]
  have hff:=hh.ff;rw[hfl] at hff;have:=B9k s e.type e.id e.field e.n e.text id (by omega) t hh.tt e.field.toNat hfd c hh.cc e.type.toNat htd y hy f hff;have hx:K7 (A6g s e)=if f.kind=3/\c.ids≠[] then K7 ⟨5,e.type,e.id,e.field,c.ids.headD 0,[]⟩ else K7 ⟨6,e.type,e.id,e.field,e.n,[]⟩:=by rw[hX]; split<;>rfl
  rw[hx,hev 5 k5];exact this
 ·rw[zf k5] at hX;have k6:e.kind=6:=by have:=ho.k2; omega
  rw[hX,hev 6 k6];exact B9g s e.type e.id e.field e.n e.text id (by omega)
def doA(s:H0)(e:Ev):AV:=if A2D s e=0 then .sl ((A06 s e).types.map I8) else .nils
def doB(s:H0)(e:Ev):AV:=if A2D s e=0 then .sl ((A06 s e).things.map T4) else .nils
theorem B5i(s:H0)(e:Ev):AV.one (doA s e)=true:=by unfold doA; split<;>rfl
theorem B5j(s:H0)(e:Ev):AV.one (doB s e)=true:=by unfold doB; split<;>rfl
theorem C3u(s:H0)(e:Ev)(id:Nat):A2 Tryz.prog 63 [D7 s,K7 e] [] id (.tup [.agg [doA s e,doB s e],.int .i64 (A2D s e)]) []:=by
 have:=C59 s e id;have hx:B9d s e = .agg [doA s e,doB s e]:=by
  unfold B9d doA doB;by_cases h:A2D s e=0
  ·rw[zj h,zj h,zj h]; rfl
  ·rw[zf h,zf h,zf h]; rfl
 rw[hx] at this;exact this
theorem A9z{s:H0}{e:Ev}(h:A2D s e=0):fSt s=0/\U6 s e=0:=by
 unfold A2D at h;split at h
 ·rename_i h1; exact (h1 h).elim
 ·rename_i h1; exact⟨zl h1,h⟩
theorem C2E{s:H0}{e:Ev}(h:fSt s=0):A2D s e=U6 s e:=by unfold A2D; rw[zf (by simpa using h)]
def B4a(s:H0)(e:Ev):Int:=if A2D s e≠0 then A2D s e else B16 s e
def B4b(s:H0)(e:Ev):Ev:=if A2D s e≠0 then ev0 else A6g s e
theorem C2F(s:H0)(e:Ev)(id:Nat)(hI:B4W s):A2 Tryz.prog 64 [D7 s,K7 e] [] id (.tup [K7 (B4b s e),.int .i64 (B4a s e)]) []:=by
 have hD:=C3u s e;have hB:=fun h id=>B7O s e id (C2r (A9z h).1 hI) (A9z h).2;by_cases h:A2D s e=0
 ·have hB:=hB h;have e1:B4a s e=B16 s e:=by unfold B4a; rw[zf (by simpa using h)]
  have e2:B4b s e=A6g s e:=by unfold B4b; rw[zf (by simpa using h)]
  rw[e1,e2];unfold D7 K7 at *;refine w64.e.1 fun E hP hR hl hid=>?_;simp[w64];(refine yH rfl (hD _) ?_; simp);refine⟨⟨B5i _ _,B5j _ _⟩,?_⟩;refine A0 (by simpa using h) ?_;simp;(refine yH rfl (hB _) ?_; simp);exact yP hR
 ·have e1:B4a s e=A2D s e:=by unfold B4a; rw[zj h]
  have e2:B4b s e=ev0:=by unfold B4b; rw[zj h]
  rw[e1,e2];unfold D7 K7 ev0 at *;refine w64.e.1 fun E hP hR hl hid=>?_;simp[w64];(refine yH rfl (hD _) ?_; simp);refine⟨⟨B5i _ _,B5j _ _⟩,?_⟩;refine A9 (by simpa using h) ?_;simp;exact yP hR
end Go.Am
namespace Go.Am
end Go.Am
namespace Go.Am
open Go Go.Proofs Go.RowKit
theorem B9l{n:Nat}{v:Bool×AV}:∀{l:List (Nat×Bool×AV)},lk l n=some v->(n,v)∈l
 | [],h=>by cases h
 | (m,c,u)::l,h=>by
  simp only[lk] at h;split at h
  ·rename_i e; subst e; injection h with h; subst h; exact za ..
  ·exact zb _ (B9l h)
theorem B9m{y:Nat}{b:Bx}:∀{l:List (Nat×Option Bx)},bk l y=some b->(y,some b)∈l
 | [],h=>by cases h
 | (m,c)::l,h=>by
  simp only[bk] at h;split at h
  ·rename_i e; subst e; rw[h]; exact za ..
  ·exact zb _ (B9m h)
theorem E4.stayL{E:R4}{σ σ':St}(hk:σ.k<=σ'.k)(hf:∀q∈σ'.fr,lk σ.fr q.1=some q.2)(hb:∀q∈σ'.bx,∀b,q.2=some b->bk σ.bx q.1=some b)(hc:∀q∈σ.bx,E.n0<=q.1\/J7 q.1 σ'.bx):E4 E σ σ' :=
 E4.stay hk (fun n c v h=>hf _ (B9l h)) (fun y b h=>hb _ (B9m h) b rfl) hc
theorem T8{q:Nat×Option Bx}:∀{l:List (Nat×Bx)},q∈C9 l->∃p∈l,q=(p.1,some p.2)
 | [],h=>by cases h
 | (i,b)::l,h=>by
  rcases zh.1 h with rfl|h
  ·exact⟨_,za ..,rfl⟩
  ·obtain⟨p,h1,h2⟩:=T8 h;exact⟨p,zb _ h1,h2⟩
theorem p7{q:Nat×Option Bx}{l:List (Nat×Bx)}(h:q∈S8 l):∃p∈l,q=(p.1,none):=by
 obtain⟨p,h1,h2⟩:=zu.1 h;exact⟨p,h1,h2.symm⟩
theorem Z1{M:List (Nat×Option Bx)}{q:Nat×Bx}:∀{l:List (Nat×Bx)},(l.map Prod.fst).Nodup->q∈l->bk (C9 l++M) q.1=some q.2
 | [],_,h=>by cases h
 | (i,b)::l,hn,h=>by
  rw[ym,xc] at hn;show (if q.1=i then some b else bk (C9 l++M) q.1)=some q.2;rcases zh.1 h with rfl|h
  ·simp
  ·rw[zf fun e=>hn.1 (zu.2 ⟨q,h,e⟩)];exact Z1 hn.2 h
theorem A8H{T:Nat}{S:List H1}{q:Nat×Bx}(h:q∈r9 T S):q.1∈d0 T S:=zu.2 ⟨q,h,rfl⟩
theorem C5A{T:Nat}{S:List H1}{z:Nat}(h:z∈d0 T S):∃q∈r9 T S,q.1=z:=zu.1 h
def r8(s:H0):List Ev->H0
 | []=>s
 | e::l=>r8 (A06 s e) l
def U7(s:H0):List Ev->Int
 | []=>0
 | e::l=>if U6 s e≠0 then U6 s e else U7 (A06 s e) l
def A3R(s:H0)(l:List Ev):AV:=if U7 s l=0 then D7 (r8 s l) else eS0
theorem A72{l:List Ty}{S:List H1}(h:Rt (A6 l S)):StR (A6 l S):=h.r
theorem C3v(l:List Ty)(S0:List H1)(T0:Nat)(ev:List Ev)(id:Nat)(hnd:(d0 T0 S0).Nodup)(hok:∀o∈S0,o.Ok)(hR0:Rt (A6 l S0))(hI:∀e∈ev,I64 e.n)(hlen:ev.length<=1000000000000000):
  A2 Tryz.prog 116 [.agg [.sl (l.map I8),.bsl T0 0 S0.length],.sl (ev.map K7)] (r9 T0 S0) id (.tup [A3R (A6 l S0) ev,.int .i64 (U7 (A6 l S0) ev)]) (S8 (r9 T0 S0)):=by
 refine w116.b.1 fun E hP hR hl hid hB hu=>?_;simp[w116];have hlt:∀z∈d0 T0 S0,z<E.n0:=fun z hz=>by
  obtain⟨q,hq,rfl⟩:=zu.1 (show z∈(r9 T0 S0).map Prod.fst from hz);exact (hl q hq).1
 have hgone:∀z∈d0 T0 S0,∀(A B:Nat×Option Bx) X,J7 z (A::B::(X++S8 (r9 T0 S0))):=fun z hz A B X=>by
  obtain⟨q,hq,rfl⟩:=zu.1 (show z∈(r9 T0 S0).map Prod.fst from hz);exact .inr (.inr (A00.2 ⟨(q.1,none),yb _ (zu.2 ⟨q,hq,rfl⟩),rfl⟩))
 refine D0 (X:=Nat×Nat×List H1×Nat) (fun q=>⟨[(2,true,.ptr E.n0 0 0),(4,true,.ptr (E.n0+1024) 0 0),(10,true,.sl (ev.map K7)),(11,true,.int .i64 ev.length),(12,true,.int .i64 q.1)],
  (E.n0,some ⟨[.agg [.sl (l.map I8),.bsl q.2.1 0 q.2.2.1.length]],.agg [.sl (l.map I8),.bsl T0 0 S0.length],false,false⟩)::(E.n0+1024,some ⟨[.agg [.nils,.nils]],.agg [.nils,.nils],false,false⟩)::(C9 (r9 q.2.1 q.2.2.1)++S8 (r9 T0 S0)),q.2.2.2⟩)
  (fun q=>q.1<=ev.length/\6144<=q.2.2.2/\(d0 q.2.1 q.2.2.1).Nodup/\(∀z∈d0 q.2.1 q.2.2.1,z∈d0 T0 S0\/(E.n0+6144<=z/\z<E.n0+q.2.2.2))/\(∀o∈q.2.2.1,o.Ok)/\Rt (A6 l q.2.2.1)/\r8 (A6 l q.2.2.1) (ev.drop q.1)=r8 (A6 l S0) ev/\U7 (A6 l q.2.2.1) (ev.drop q.1)=U7 (A6 l S0) ev)
  (fun q=>ev.length - q.1) (0,T0,S0,6144) ?_ ⟨by omega,by simp,hnd,fun z hz=>.inl hz,hok,hR0,rfl,rfl⟩ ?_
 ·refine E4.stayL (by simp) (by simp) (fun q hq b hb=>?_) fun q hq=>?_
  ·rcases zh.1 hq with rfl|hq
   ·injection hb with hb; subst hb; simp
   rcases zh.1 hq with rfl|hq
   ·injection hb with hb; subst hb; simp
   rcases zo.1 hq with hq|hq
   ·obtain⟨p,hp,rfl⟩:=T8 hq;injection hb with hb; subst hb
    have h1:=(hl p hp).1;have:=Z1 (M:=[]) (l:=r9 T0 S0) hnd hp;rw[xr] at this;simp only[bk];rw[zf (by omega),zf (by omega)];exact this
   ·obtain⟨p,hp,rfl⟩:=p7 hq;cases hb
  ·rcases zh.1 hq with rfl|hq
   ·left; simp
   rcases zh.1 hq with rfl|hq
   ·left; simp
   obtain⟨p,hp,rfl⟩:=T8 hq;right
   exact .inr (.inr (A00.2 ⟨_,yp _ hq,rfl⟩))
 ·rintro⟨i,T,S,K⟩ ⟨hi,hK,hnd1,hnm,hok1,hR1,hfs,hfe⟩ p hp;simp only at hi hK hnd1 hnm hok1 hR1 hfs hfe;refine A3 8 ?_;simp;refine B3v (b:=decide (i<ev.length)) (by simp) (by simp) (fun h=>?_) (fun h=>?_)
  ·have h:=zr h;obtain⟨e,he,hd⟩:=B2 h;rw[hd] at hfs hfe;simp only[r8,U7] at hfs hfe;have hei:=hI e (zg he);have hi1:IntKind.i64.wrap ((i:Int)+1)=((i+1:Nat):Int):=A5 (by omega);have hin:∀q∈r9 T S,bk (C9 (r9 T S)++S8 (r9 T0 S0)) q.1=some q.2:=fun q hq=>Z1 (l:=r9 T S) hnd1 hq;have hnz:∀z∈d0 T S,z≠E.n0/\z≠E.n0+1024/\(z<E.n0+K):=fun z hz=>by
    rcases hnm z hz with h|h
    ·have:=hlt z h; omega
    ·omega
   by_cases hE:U6 (A6 l S) e=0
   ·rw[zf (by simpa using hE)] at hfe;obtain⟨T',S',wr,hf,ht,hst⟩:=A8A (id:=E.n0+(K+1024+4096+1024*2)) hnd1 (fun z hz=>by have:=hnz z hz; omega) hok1 (A72 hR1) hE;unfold K7 at hf;have hwk:∀q∈wr,q.1∈d0 T S\/(E.n0+(K+1024+4096+1024*2)<=q.1/\q.1<E.n0+(K+1024+4096+1024*2)+1024):=ht.kw;have hsk:∀L z,(z=E.n0\/z=E.n0+1024)->bk (W9 L wr) z=bk L z:=fun L z hz=>by
     rw[W5];exact Q3 fun q hq=>by
      rcases hwk q hq with h|h
      ·have:=hnz _ h; omega
      ·omega
    have hsk0:=fun L=>hsk L E.n0 (.inl rfl);have hsk1:=fun L=>hsk L (E.n0+1024) (.inr rfl);refine A3 4000 ?_;simp[he,K7];refine⟨h,?_⟩;refine D8 hP rfl hf (by simp) (l9.of fun q hq=>?_) ?_
    ·have:=hnz q.1 (zu.2 ⟨q,hq,rfl⟩);simp only[bk];rw[zf (by omega),zf (by omega),zf (by omega),zf (by omega)];exact hin q hq
    refine A3 4000 ?_;simp[hsk0,hsk1];have hL0:K5 (bk ((E.n0+(K+1024+2048),some ⟨[.agg [.int .i64 e.kind,.int .i64 e.type,.int .i64 e.id,.int .i64 e.field,.int .i64 e.n,.str e.text]],.agg [.int .i64 0,.int .i64 0,.int .i64 0,.int .i64 0,.int .i64 0,.str []],false,false⟩)::(E.n0+(K+1024+2048),some ⟨[.agg [.int .i64 0,.int .i64 0,.int .i64 0,.int .i64 0,.int .i64 0,.str []]],.agg [.int .i64 0,.int .i64 0,.int .i64 0,.int .i64 0,.int .i64 0,.str []],false,false⟩)::(E.n0,some ⟨[.agg [.sl (l.map I8),.bsl T 0 S.length]],.agg [.sl (l.map I8),.bsl T0 0 S0.length],false,false⟩)::(E.n0+1024,some ⟨[.agg [.nils,.nils]],.agg [.nils,.nils],false,false⟩)::(C9 (r9 T S)++S8 (r9 T0 S0)))) (r9 T S):=fun q hq=>by
     have:=hnz q.1 (zu.2 ⟨q,hq,rfl⟩);simp only[bk];rw[zf (by omega),zf (by omega),zf (by omega),zf (by omega)];exact hin q hq
    refine hp _ (i+1,T',S',K+1024+21504) ⟨by simp only; omega,by simp only; omega,ht.nd,fun z hz=>?_,ht.ok,?_,?_,?_⟩ (by simp only; omega) ?_
    ·simp only;rcases ht.nm z hz with h|h
     ·exact (hnm z h).imp _root_.id fun h=>by omega
     ·right; omega
    ·simp only;rw[hst]; exact (B4Y hR1 hei hE).1
    ·simp only;rw[hst]; exact hfs
    ·simp only;rw[hst]; exact hfe
    ·refine E4.stayL (by simp only; omega) (by simp[hi1]) (fun q hq b hb=>?_) fun q hq=>?_
     ·rcases zh.1 hq with rfl|hq
      ·injection hb with hb; subst hb; simp
      rcases zh.1 hq with rfl|hq
      ·injection hb with hb; subst hb; simp[hsk1]
      rcases zo.1 hq with hq|hq
      ·obtain⟨p,hp,rfl⟩:=T8 hq;injection hb with hb; subst hb
       have hz:p.1<E.n0+(K+1024+4096+1024*2)+1024/\p.1≠E.n0:=by
        rcases ht.nm p.1 (zu.2 ⟨p,hp,rfl⟩) with h|h
        ·have:=hnz _ h; omega
        ·omega
       simp only[bk];rw[zf (by omega),zf (by omega),zf (by omega),W5];exact ht.has _ hL0 p hp
      ·obtain⟨p,hp,rfl⟩:=p7 hq;cases hb
     ·have hT:∀z,z∈d0 T S->E.n0<=z\/z∈d0 T0 S0:=fun z hz=>by
       rcases hnm z hz with h|h
       ·exact .inr h
       ·left; omega
      have hfin:E.n0<=q.1\/q.1∈d0 T0 S0:=by
       rcases zh.1 hq with rfl|hq
       ·left; simp
       rcases zh.1 hq with rfl|hq
       ·left; simp
       rcases zh.1 hq with rfl|hq
       ·left; simp
       rcases p6 hq with hq|hq
       ·rcases zh.1 hq with rfl|hq
        ·left; simp
        rcases zh.1 hq with rfl|hq
        ·left; simp
        rcases zh.1 hq with rfl|hq
        ·left; simp
        rcases zh.1 hq with rfl|hq
        ·left; simp
        rcases zo.1 hq with hq|hq
        ·obtain⟨p,hp,rfl⟩:=T8 hq;exact hT _ (A8H hp)
        ·obtain⟨p,hp,rfl⟩:=p7 hq;exact .inr (A8H hp)
       ·rcases hwk q hq with h|h
        ·exact hT _ h
        ·left; omega
      exact hfin.imp _root_.id fun h=>hgone _ h _ _ _
   ·have hf:=A5u (id:=E.n0+(K+1024+4096+1024*2)) hnd1 (fun z hz=>by have:=hnz z hz; omega) hok1 (A72 hR1) hE;unfold K7 at hf;refine A3 4000 ?_;simp[he,K7];refine⟨h,?_⟩;unfold eS0 at hf;refine D8 hP rfl hf (by simp) (l9.of fun q hq=>?_) ?_
    ·have:=hnz q.1 (zu.2 ⟨q,hq,rfl⟩);simp only[bk];rw[zf (by omega),zf (by omega),zf (by omega),zf (by omega)];exact hin q hq
    refine A3 4000 ?_;simp;refine A9 (by simpa using hE) ?_;simp;rw[zj hE] at hfe;have hA:A3R (A6 l S0) ev = .agg [.nils,.nils]:=(by unfold A3R eS0; rw[zf (by rw[←hfe]; exact hE)]);rw[hA,←hfe] at hR;rw[hR];refine E8 (by simp<;>rfl) [] trivial (A3l (by simp) (by simp) fun q hq=>?_);simp only[zh] at hq;rcases hq with rfl|rfl|rfl|rfl|rfl|rfl|rfl|hq
    all_goals first|(left; simp; done)|skip
    rcases zo.1 hq with hq|hq
    ·obtain⟨p,hp,rfl⟩:=T8 hq;rcases hnm p.1 (zu.2 ⟨p,hp,rfl⟩) with h|h
     ·exact .inr h
     ·left; simp only; omega
    ·obtain⟨p,hp,rfl⟩:=p7 hq;exact .inr (A8H hp)
  ·have h:=zp h;rw[zn (by omega)] at hfs hfe;simp only[r8,U7] at hfs hfe;refine A3 21 ?_;simp;have hA:A3R (A6 l S0) ev = .agg [.sl (l.map I8),.sl ((S.map H1.t).map T4)]:=(by unfold A3R; rw[zj hfe.symm,←hfs]; rfl);rw[hA,←hfe] at hR;have hin:∀q∈r9 T S,bk (C9 (r9 T S)++S8 (r9 T0 S0)) q.1=some q.2:=fun q hq=>Z1 (l:=r9 T S) hnd1 hq;have hnz:∀z∈d0 T S,z≠E.n0/\z≠E.n0+1024:=fun z hz=>by
    rcases hnm z hz with h|h
    ·have:=hlt z h; omega
    ·omega
   refine A33 (E4.deepL 4 ((E.n0+1024,⟨[.agg [.sl (l.map I8),.bsl T 0 S.length]],.agg [.nils,.nils],false,false⟩)::r9 T S) (S8 (r9 T0 S0)) (x:=.ptr (E.n0+1024) 0 0) (y:=.cptr [.sl (l.map I8),.sl ((S.map H1.t).map T4)]) rfl (fun q hq=>?_) ?_ ⟨fun y b hy=>?_,fun q hq=>?_⟩) ?_
   ·rcases zh.1 hq with rfl|hq
    ·exact⟨m6,rfl⟩
    ·have:=hnz q.1 (zu.2 ⟨q,hq,rfl⟩);refine⟨?_,B4Z q hq⟩;simp only[bk];rw[zf (by omega),zf (by omega),zf (by omega)];exact hin q hq
   ·refine .ptr _ _ (.agg [.sl (l.map I8),.bsl T 0 S.length]) _ (za ..) rfl rfl fun j c d h1 h2=>?_;match j,h1,h2 with
    | 0,h1,h2 =>
     injection h1 with h1; injection h2 with h2
     subst h1 h2; exact .same _
    | 1,h1,h2 =>
     injection h1 with h1; injection h2 with h2
     subst h1 h2;exact A3v hok1 (zb _ (za ..)) fun q hq=>zb _ (zb _ hq)
    | j+2,h1,h2=>simp[AV.cells] at h1
   ·rw[B2L] at hy; cases hy
   ·have hfin:E.n0<=q.1\/q.1∈d0 T0 S0:=by
     simp only[zh] at hq;rcases hq with rfl|rfl|rfl|hq
     all_goals first|(left; simp; done)|skip
     rcases zo.1 hq with hq|hq
     ·obtain⟨p,hp,rfl⟩:=T8 hq;rcases hnm p.1 (zu.2 ⟨p,hp,rfl⟩) with h|h
      ·exact .inr h
      ·left; simp only; omega
     ·obtain⟨p,hp,rfl⟩:=p7 hq;exact .inr (A8H hp)
    refine hfin.imp _root_.id fun h=>?_;obtain⟨p,hp,e⟩:=C5A h;rw[←e];exact B0k hp
   ·refine A3 5 ?_;simp;have hp:F9 (List.map (T4∘H1.t) S)=true:=E7 (f:=T4∘H1.t) (fun o=>A3F o.t) S;rw[hR];refine E8 (by simp<;>rfl) [] trivial (A3l (by simp) (by simp[hp]) fun q hq=>?_);obtain⟨p,hp,rfl⟩:=p7 hq;exact .inr (A8H hp)
theorem C3w(l:List Ty)(ev:List Ev)(id:Nat)(hR0:Rt (A6 l []))(hI:∀e∈ev,I64 e.n)(hlen:ev.length<=1000000000000000):
  A2 Tryz.prog 116 [.agg [.sl (l.map I8),.nils],.sl (ev.map K7)] (([]:List (Nat×Bx))) id (.tup [A3R (A6 l []) ev,.int .i64 (U7 (A6 l []) ev)]) (S8 (([]:List (Nat×Bx)))):=by
 refine w116.e.1 fun E hP hR hl hid=>?_;simp[w116];refine D0 (X:=Nat×Nat×List H1×Nat) (fun q=>⟨[(2,true,.ptr E.n0 0 0),(4,true,.ptr (E.n0+1024) 0 0),(10,true,.sl (ev.map K7)),(11,true,.int .i64 ev.length),(12,true,.int .i64 q.1)],
  (E.n0,some ⟨[.agg [.sl (l.map I8),.bsl q.2.1 0 q.2.2.1.length]],.agg [.sl (l.map I8),.nils],false,false⟩)::(E.n0+1024,some ⟨[.agg [.nils,.nils]],.agg [.nils,.nils],false,false⟩)::(C9 (r9 q.2.1 q.2.2.1)++S8 (([]:List (Nat×Bx)))),q.2.2.2⟩)
  (fun q=>q.1<=ev.length/\6144<=q.2.2.2/\(d0 q.2.1 q.2.2.1).Nodup/\(∀z∈d0 q.2.1 q.2.2.1,z∈([]:List Nat)\/(E.n0+6144<=z/\z<E.n0+q.2.2.2))/\(∀o∈q.2.2.1,o.Ok)/\Rt (A6 l q.2.2.1)/\r8 (A6 l q.2.2.1) (ev.drop q.1)=r8 (A6 l []) ev/\U7 (A6 l q.2.2.1) (ev.drop q.1)=U7 (A6 l []) ev)
  (fun q=>ev.length - q.1) (0,E.n0+6144,[],6145) ?_ ⟨by omega,by simp,by simp[d0,nmR,I6],fun z hz=>.inr (by simp[d0,nmR,I6] at hz; simp only; omega),fun o ho=>(by cases ho),hR0,rfl,rfl⟩ ?_
 ·refine E4.trans (E4.voidBox E.n0 (by simp; rfl) rfl (.agg [.sl (l.map I8),.nils] [.sl (l.map I8),.bsl (E.n0+6144) 0 0] rfl (fun m x y h1 h2=>?_)) zT) ?_
  ·match m,h1,h2 with
   | 0,h1,h2=>injection h1 with h1; injection h2 with h2; subst h1 h2; exact .inl rfl
   | 1,h1,h2=>injection h1 with h1; injection h2 with h2; subst h1 h2; exact .inr ⟨rfl,rfl⟩
   | m+2,h1,h2=>simp at h1
  ·refine E4.stayL (by simp) (by simp) (fun q hq b hb=>?_) fun q hq=>?_
   ·simp only[r9,I6,sr,C9,S8,uc,xr,zh,yn,or_false] at hq;rcases hq with rfl|rfl|rfl
    ·injection hb with hb; subst hb; simp
    ·injection hb with hb; subst hb; simp
    ·injection hb with hb; subst hb; simp[P2]
   ·left
    simp only[zh,yn,or_false] at hq;rcases hq with rfl|rfl|rfl|rfl<;>simp
 ·rintro⟨i,T,S,K⟩ ⟨hi,hK,hnd1,hnm,hok1,hR1,hfs,hfe⟩ p hp;simp only at hi hK hnd1 hnm hok1 hR1 hfs hfe;refine A3 8 ?_;simp;refine B3v (b:=decide (i<ev.length)) (by simp) (by simp) (fun h=>?_) (fun h=>?_)
  ·have h:=zr h;obtain⟨e,he,hd⟩:=B2 h;rw[hd] at hfs hfe;simp only[r8,U7] at hfs hfe;have hei:=hI e (zg he);have hi1:IntKind.i64.wrap ((i:Int)+1)=((i+1:Nat):Int):=A5 (by omega);have hin:∀q∈r9 T S,bk (C9 (r9 T S)++S8 (([]:List (Nat×Bx)))) q.1=some q.2:=fun q hq=>Z1 (l:=r9 T S) hnd1 hq;have hnz:∀z∈d0 T S,z≠E.n0/\z≠E.n0+1024/\(z<E.n0+K):=fun z hz=>by
    rcases hnm z hz with h|h
    ·cases h
    ·omega
   by_cases hE:U6 (A6 l S) e=0
   ·rw[zf (by simpa using hE)] at hfe;obtain⟨T',S',wr,hf,ht,hst⟩:=A8A (id:=E.n0+(K+1024+4096+1024*2)) hnd1 (fun z hz=>by have:=hnz z hz; omega) hok1 (A72 hR1) hE;unfold K7 at hf;have hwk:∀q∈wr,q.1∈d0 T S\/(E.n0+(K+1024+4096+1024*2)<=q.1/\q.1<E.n0+(K+1024+4096+1024*2)+1024):=ht.kw;have hsk:∀L z,(z=E.n0\/z=E.n0+1024)->bk (W9 L wr) z=bk L z:=fun L z hz=>by
     rw[W5];exact Q3 fun q hq=>by
      rcases hwk q hq with h|h
      ·have:=hnz _ h; omega
      ·omega
    have hsk0:=fun L=>hsk L E.n0 (.inl rfl);have hsk1:=fun L=>hsk L (E.n0+1024) (.inr rfl);refine A3 4000 ?_;simp[he,K7];refine⟨h,?_⟩;refine D8 hP rfl hf (by simp) (l9.of fun q hq=>?_) ?_
    ·have:=hnz q.1 (zu.2 ⟨q,hq,rfl⟩);simp only[bk];rw[zf (by omega),zf (by omega),zf (by omega),zf (by omega)];exact hin q hq
    refine A3 4000 ?_;simp[hsk0,hsk1];have hL0:K5 (bk ((E.n0+(K+1024+2048),some ⟨[.agg [.int .i64 e.kind,.int .i64 e.type,.int .i64 e.id,.int .i64 e.field,.int .i64 e.n,.str e.text]],.agg [.int .i64 0,.int .i64 0,.int .i64 0,.int .i64 0,.int .i64 0,.str []],false,false⟩)::(E.n0+(K+1024+2048),some ⟨[.agg [.int .i64 0,.int .i64 0,.int .i64 0,.int .i64 0,.int .i64 0,.str []]],.agg [.int .i64 0,.int .i64 0,.int .i64 0,.int .i64 0,.int .i64 0,.str []],false,false⟩)::(E.n0,some ⟨[.agg [.sl (l.map I8),.bsl T 0 S.length]],.agg [.sl (l.map I8),.nils],false,false⟩)::(E.n0+1024,some ⟨[.agg [.nils,.nils]],.agg [.nils,.nils],false,false⟩)::(C9 (r9 T S)++S8 (([]:List (Nat×Bx)))))) (r9 T S):=fun q hq=>by
     have:=hnz q.1 (zu.2 ⟨q,hq,rfl⟩);simp only[bk];rw[zf (by omega),zf (by omega),zf (by omega),zf (by omega)];exact hin q hq
    refine hp _ (i+1,T',S',K+1024+21504) ⟨by simp only; omega,by simp only; omega,ht.nd,fun z hz=>?_,ht.ok,?_,?_,?_⟩ (by simp only; omega) ?_
    ·simp only;rcases ht.nm z hz with h|h
     ·exact (hnm z h).imp _root_.id fun h=>by omega
     ·right; omega
    ·simp only;rw[hst]; exact (B4Y hR1 hei hE).1
    ·simp only;rw[hst]; exact hfs
    ·simp only;rw[hst]; exact hfe
    ·refine E4.stayL (by simp only; omega) (by simp[hi1]) (fun q hq b hb=>?_) fun q hq=>?_
     ·rcases zh.1 hq with rfl|hq
      ·injection hb with hb; subst hb; simp
      rcases zh.1 hq with rfl|hq
      ·injection hb with hb; subst hb; simp[hsk1]
      rcases zo.1 hq with hq|hq
      ·obtain⟨p,hp,rfl⟩:=T8 hq;injection hb with hb; subst hb
       have hz:p.1<E.n0+(K+1024+4096+1024*2)+1024/\p.1≠E.n0:=by
        rcases ht.nm p.1 (zu.2 ⟨p,hp,rfl⟩) with h|h
        ·have:=hnz _ h; omega
        ·omega
       simp only[bk];rw[zf (by omega),zf (by omega),zf (by omega),W5];exact ht.has _ hL0 p hp
      ·cases hq
     ·have hT:∀z,z∈d0 T S->E.n0<=z\/z∈([]:List Nat):=fun z hz=>by
       rcases hnm z hz with h|h
       ·exact .inr h
       ·left; omega
      have hfin:E.n0<=q.1\/q.1∈([]:List Nat):=by
       rcases zh.1 hq with rfl|hq
       ·left; simp
       rcases zh.1 hq with rfl|hq
       ·left; simp
       rcases zh.1 hq with rfl|hq
       ·left; simp
       rcases p6 hq with hq|hq
       ·rcases zh.1 hq with rfl|hq
        ·left; simp
        rcases zh.1 hq with rfl|hq
        ·left; simp
        rcases zh.1 hq with rfl|hq
        ·left; simp
        rcases zh.1 hq with rfl|hq
        ·left; simp
        rcases zo.1 hq with hq|hq
        ·obtain⟨p,hp,rfl⟩:=T8 hq;exact hT _ (A8H hp)
        ·cases hq
       ·rcases hwk q hq with h|h
        ·exact hT _ h
        ·left; omega
      exact hfin.imp _root_.id fun h=>by cases h
   ·have hf:=A5u (id:=E.n0+(K+1024+4096+1024*2)) hnd1 (fun z hz=>by have:=hnz z hz; omega) hok1 (A72 hR1) hE;unfold K7 at hf;refine A3 4000 ?_;simp[he,K7];refine⟨h,?_⟩;unfold eS0 at hf;refine D8 hP rfl hf (by simp) (l9.of fun q hq=>?_) ?_
    ·have:=hnz q.1 (zu.2 ⟨q,hq,rfl⟩);simp only[bk];rw[zf (by omega),zf (by omega),zf (by omega),zf (by omega)];exact hin q hq
    refine A3 4000 ?_;simp;refine A9 (by simpa using hE) ?_;simp;rw[zj hE] at hfe;have hA:A3R (A6 l []) ev = .agg [.nils,.nils]:=(by unfold A3R eS0; rw[zf (by rw[←hfe]; exact hE)]);rw[hA,←hfe] at hR;rw[hR];refine E8 (by simp<;>rfl) [] trivial (A3l (by simp) (by simp) fun q hq=>?_);simp only[zh] at hq;rcases hq with rfl|rfl|rfl|rfl|rfl|rfl|rfl|hq
    all_goals first|(left; simp; done)|skip
    rcases zo.1 hq with hq|hq
    ·obtain⟨p,hp,rfl⟩:=T8 hq;rcases hnm p.1 (zu.2 ⟨p,hp,rfl⟩) with h|h
     ·exact .inr h
     ·left; simp only; omega
    ·cases hq
  ·have h:=zp h;rw[zn (by omega)] at hfs hfe;simp only[r8,U7] at hfs hfe;refine A3 21 ?_;simp;have hA:A3R (A6 l []) ev = .agg [.sl (l.map I8),.sl ((S.map H1.t).map T4)]:=(by unfold A3R; rw[zj hfe.symm,←hfs]; rfl);rw[hA,←hfe] at hR;have hin:∀q∈r9 T S,bk (C9 (r9 T S)++S8 (([]:List (Nat×Bx)))) q.1=some q.2:=fun q hq=>Z1 (l:=r9 T S) hnd1 hq;have hnz:∀z∈d0 T S,z≠E.n0/\z≠E.n0+1024:=fun z hz=>by
    rcases hnm z hz with h|h
    ·cases h
    ·omega
   refine A33 (E4.deepL 4 ((E.n0+1024,⟨[.agg [.sl (l.map I8),.bsl T 0 S.length]],.agg [.nils,.nils],false,false⟩)::r9 T S) (S8 (([]:List (Nat×Bx)))) (x:=.ptr (E.n0+1024) 0 0) (y:=.cptr [.sl (l.map I8),.sl ((S.map H1.t).map T4)]) rfl (fun q hq=>?_) ?_ ⟨fun y b hy=>?_,fun q hq=>?_⟩) ?_
   ·rcases zh.1 hq with rfl|hq
    ·exact⟨m6,rfl⟩
    ·have:=hnz q.1 (zu.2 ⟨q,hq,rfl⟩);refine⟨?_,B4Z q hq⟩;simp only[bk];rw[zf (by omega),zf (by omega),zf (by omega)];exact hin q hq
   ·refine .ptr _ _ (.agg [.sl (l.map I8),.bsl T 0 S.length]) _ (za ..) rfl rfl fun j c d h1 h2=>?_;match j,h1,h2 with
    | 0,h1,h2 =>
     injection h1 with h1; injection h2 with h2
     subst h1 h2; exact .same _
    | 1,h1,h2 =>
     injection h1 with h1; injection h2 with h2
     subst h1 h2;exact A3v hok1 (zb _ (za ..)) fun q hq=>zb _ (zb _ hq)
    | j+2,h1,h2=>simp[AV.cells] at h1
   ·rw[B2L] at hy; cases hy
   ·have hfin:E.n0<=q.1\/q.1∈([]:List Nat):=by
     simp only[zh] at hq;rcases hq with rfl|rfl|rfl|hq
     all_goals first|(left; simp; done)|skip
     rcases zo.1 hq with hq|hq
     ·obtain⟨p,hp,rfl⟩:=T8 hq;rcases hnm p.1 (zu.2 ⟨p,hp,rfl⟩) with h|h
      ·exact .inr h
      ·left; simp only; omega
     ·cases hq
    refine hfin.imp _root_.id fun h=>?_;cases h
   ·refine A3 5 ?_;simp;have hp:F9 (List.map (T4∘H1.t) S)=true:=E7 (f:=T4∘H1.t) (fun o=>A3F o.t) S;rw[hR];refine E8 (by simp<;>rfl) [] trivial (A3l (by simp) (by simp[hp]) fun q hq=>?_);cases hq
def B4c(w:Int)(s:H0):AV:=if w=0 then .sl (s.types.map I8) else .nils
def B4d(w:Int)(s:H0):AV:=if w=0 then .sl (s.things.map T4) else .nils
def A1H(w:Int)(s:H0):AV:=.agg [B4c w s,B4d w s]
theorem A0C(w:Int)(s:H0):A1H w s=if w=0 then D7 s else eS0:=by
 unfold A1H B4c B4d;by_cases h:w=0
 ·rw[zj h,zj h,zj h]; rfl
 ·rw[zf h,zf h,zf h]; rfl
@[simp] theorem C4l (w:Int) (s:H0):(B4c w s).pureB=true:=by unfold B4c; split<;>simp
@[simp] theorem C4m (w:Int) (s:H0):(B4d w s).pureB=true:=by unfold B4d; split<;>simp
@[simp] theorem A57 (w:Int) (s:H0):AV.one (B4c w s)=true:=by unfold B4c; split<;>rfl
@[simp] theorem A58 (w:Int) (s:H0):AV.one (B4d w s)=true:=by unfold B4d; split<;>rfl
theorem B9n{l:List Ty}(h:J2 l=0):Rt ⟨l,[]⟩ :=
 ⟨h,⟨A6P h,by simp,fun t ht=>(by cases ht)⟩,⟨fun t ht=>(by cases ht),fun t ht=>(by cases ht),fun i j a b _ ha _=>(by simp at ha)⟩,fun t ht=>(by cases ht)⟩
def atE(l:List Ty)(ev:List Ev)(n:Int):Int:=if J2 l≠0 then J2 l else if n<0\/(ev.length:Int)<n then 3 else U7 ⟨l,[]⟩ (ev.take n.toNat)
def atS(l:List Ty)(ev:List Ev)(n:Int):H0:=r8 ⟨l,[]⟩ (ev.take n.toNat)
theorem C5B(l:List Ty)(ev:List Ev)(n:Int)(id:Nat)(hI:∀e∈ev,I64 e.n)(hlen:ev.length<=1000000000000000):A2 Tryz.prog 119 [.sl (l.map I8),.sl (ev.map K7),.int .i64 n] [] id (.tup [A1H (atE l ev n) (atS l ev n),.int .i64 (atE l ev n)]) []:=by
 have hC:=fun id=>A5h l id;by_cases h0:J2 l=0
 rotate_left
 ·have hE:atE l ev n=J2 l:=by unfold atE; rw[zj h0]
  have hV:A1H (J2 l) (atS l ev n) = .agg [.nils,.nils]:=by rw[A0C,zf h0]; rfl
  rw[hE,hV];refine w119.e.1 fun E hP hR hl hid=>?_;simp[w119];(refine yH rfl (hC _) ?_; simp);refine⟨fun a=>(h0 a).elim,?_⟩;refine A0 (by simp[h0]) ?_;simp;refine A9 (by simp[h0]) ?_;simp;exact yP hR
 by_cases h1:n<0\/(ev.length:Int)<n
 ·have hE:atE l ev n=3:=by unfold atE; rw[zf (by simpa using h0),zj h1]
  have hV:A1H 3 (atS l ev n) = .agg [.nils,.nils]:=by rw[A0C,zf (by decide)]; rfl
  rw[hE,hV];rw[h0] at hC;refine w119.e.1 fun E hP hR hl hid=>?_;simp[w119];(refine yH rfl (hC _) ?_; simp);refine A9 (by simp; omega) ?_;simp;exact yP hR
 ·have hE:atE l ev n=U7 ⟨l,[]⟩ (ev.take n.toNat):=by unfold atE; rw[zf (by simpa using h0),zf h1]
  rw[h0] at hC;have hS:=A6P h0;have hO:=fun id=>A9l l id (by have:=hS.len; omega) (fun t ht=>by have:=hS.fields t ht; omega);have hF:=fun id=>C3w l (ev.take n.toNat) id (B9n h0) (fun e he=>hI e (xh he)) (by simp; omega);have hV:A3R (A6 l []) (ev.take n.toNat)=A1H (atE l ev n) (atS l ev n):=by rw[A0C,hE]; rfl
  rw[hV,show U7 (A6 l []) (ev.take n.toNat)=atE l ev n by rw[hE]; rfl,yu] at hF;simp only[S8,uc] at hF;unfold A1H at *;refine w119.e.1 fun E hP hR hl hid=>?_;simp[w119];(refine yH rfl (hC _) ?_; simp);refine A0 (by simp; omega) ?_;simp;(refine yH rfl (hO _) ?_; simp);refine⟨⟨fun a _=>rfl,by omega,by omega⟩,?_⟩;(refine yH rfl (hF _) ?_; simp);refine⟨⟨A57 _ _,A58 _ _⟩,?_⟩;exact yP hR
theorem B9o(l:List Ty)(ev:List Ev)(id:Nat)(hI:∀e∈ev,I64 e.n)(hlen:ev.length<=1000000000000000):A2 Tryz.prog 58 [.sl (l.map I8),.sl (ev.map K7)] [] id (.tup [A1H (atE l ev ev.length) (atS l ev ev.length),.int .i64 (atE l ev ev.length)]) []:=by
 have hA:=fun id=>C5B l ev ev.length id hI hlen;unfold A1H at *;refine w58.e.1 fun E hP hR hl hid=>?_;simp[w58];(refine yH rfl (hA _) ?_; simp);refine⟨⟨A57 _ _,A58 _ _⟩,?_⟩;exact yP hR
def A5y(s:H0)(ev:List Ev):Int:=if fSt s≠0 then fSt s else if 8<ev.length then 2 else 0
theorem B9p(s:H0)(ev:List Ev)(id:Nat):A2 Tryz.prog 115 [D7 s,.sl (ev.map K7)] [] id (.int .i64 (A5y s ev)) []:=by
 have hC:=fun id=>m3 s id;unfold D7 at *;refine w115.e.1 fun E hP hR hl hid=>?_;simp[w115];(refine yH rfl (hC _) ?_; simp);refine E5 (fun h=>?_) (fun h=>?_)<;>simp
 ·have hE:A5y s ev=2:=by unfold A5y; simp at h; rw[zf (by omega),zj (by omega)]
  rw[hE] at hR;exact yP hR
 ·have hE:A5y s ev=fSt s:=by
   unfold A5y;simp at h;by_cases g:fSt s=0
   ·rw[zf (by simpa using g),zf (by have:=h g; omega),g]
   ·rw[zj g]
  rw[hE] at hR;exact yP hR
def A8y(s:H0)(ev:List Ev):Int:=if A5y s ev≠0 then A5y s ev else U7 s ev
theorem B18{L:List (Nat×Option Bx)}{rd:List (Nat×Bx)}{z:Nat}(h:z∉rd.map Prod.fst):bk (W9 L (S8 rd)) z=bk L z:=by
 rw[W5];exact Q3 fun q hq e=>by
  obtain⟨p,hp,rfl⟩:=p7 hq;exact h (e▸zu.2 ⟨p,hp,rfl⟩)
theorem B9q(s:H0)(ev:List Ev)(id:Nat)(hI:B4W s)(hn:∀e∈ev,I64 e.n):A2 Tryz.prog 55 [D7 s,.sl (ev.map K7)] [] id (.tup [A1H (A8y s ev) (r8 s ev),.int .i64 (A8y s ev)]) []:=by
 have hC:=fun id=>B9p s ev id;by_cases h0:A5y s ev=0
 rotate_left
 ·have hE:A8y s ev=A5y s ev:=by unfold A8y; rw[zj h0]
  have hV:A1H (A5y s ev) (r8 s ev) = .agg [.nils,.nils]:=by rw[A0C,zf h0]; rfl
  rw[hE,hV];unfold D7 at *;refine w55.e.1 fun E hP hR hl hid=>?_;simp[w55];(refine yH rfl (hC _) ?_; simp);refine A9 (by simpa using h0) ?_;simp;exact yP hR
 have hE:A8y s ev=U7 s ev:=by unfold A8y; rw[zf (by simpa using h0)]
 rw[h0] at hC;have h8:fSt s=0/\ev.length<=8:=by
  unfold A5y at h0;split at h0
  ·rename_i g; exact (g h0).elim
  ·rename_i g;split at h0
   ·omega
   ·exact⟨zl g,by omega⟩
 have hR:=C2r h8.1 hI;obtain⟨hr,hs,hl⟩:=B14 h8.1;have h6:∀x∈s.things,x.cells.length<=16/\∀c∈x.cells,c.ids.length<=1000:=fun x hx=>by
  have h1:=(hr.tg x hx).cells6 hr.sch;refine⟨by omega,fun c hc=>?_⟩;obtain⟨k,hk⟩:=ye.1 hc;obtain⟨f,_,hco⟩:=(hr.tg x hx).cellOk hk;have:=hco.i1; omega
 have h5:=hr.sch.len;have h12:=hr.len;have hW:∀id,A2 Tryz.prog 117 [D7 s] [] id (.agg [.sl (s.types.map I8),.bsl id 0 s.things.length]) ((id,some ⟨P8 id s.things s.things.length,zT,false,false⟩)::M4 id s.things s.things.length):=fun id=>A83 s id (by omega) (fun t ht=>by have:=hr.sch.fields t ht; omega) h12 h6;have h16:∀x∈s.things,x.cells.length<=16:=fun x hx=>(h6 x hx).1;have hkey:∀t,∀q∈M4 t s.things s.things.length,t+1<=q.1/\q.1<t+1000:=fun t q hq=>by
  obtain⟨y,b⟩:=q;rcases A04 h16 hq with⟨j,h1,h2⟩|⟨j,m,h1,h2,h3⟩<;>simp only<;>omega
 have hF:∀t id,A2 Tryz.prog 116 [.agg [.sl (s.types.map I8),.bsl t 0 s.things.length],.sl (ev.map K7)] (r9 t (q9 t 0 s.things)) id (.tup [A1H (A8y s ev) (r8 s ev),.int .i64 (A8y s ev)]) (S8 (r9 t (q9 t 0 s.things))):=fun t id=>by
  have:=C3v s.types (q9 t 0 s.things) t ev id (B4V h16 h12) (A6z t s.things 0) (by rw[A3P]; exact hR) hn (by omega);rw[A3P,A2C] at this;rw[A0C,hE]; exact this
 unfold A1H D7 at *;refine w55.e.1 fun E hP hR hl hid=>?_;simp[w55];(refine yH rfl (hC _) ?_; simp);have hsk:∀L z,z<E.n0+10240->bk (W9 L (M4 (E.n0+10240) s.things s.things.length)) z=bk L z:=fun L z hz=>by
  rw[W5];exact Q3 fun q hq=>by have:=hkey _ q hq; omega
 have hin:∀L,∀q∈r9 (E.n0+10240) (q9 (E.n0+10240) 0 s.things),bk (W9 ((E.n0+10240,some ⟨P8 (E.n0+10240) s.things s.things.length,zT,false,false⟩)::L) (M4 (E.n0+10240) s.things s.things.length)) q.1=some q.2:=fun L q hq=>by
  have hm:=B4U hq;rw[W5];rcases zh.1 hm with hm|hm
  ·injection hm with h1 h2
   rw[Q3 fun q' hq'=>by have:=hkey _ q' hq'; omega,h1,h2];exact m6
  ·exact A4y (Q9 (S:=fun _=>True) h16 s.things.length h12 (fun _ _=>trivial) fun _ _ _ _=>trivial).nd hm
 have hsk2:∀L z,z<E.n0+10240->bk (W9 L (S8 (r9 (E.n0+10240) (q9 (E.n0+10240) 0 s.things)))) z=bk L z:=fun L z hz=>B18 fun hm=>by
  have:=A5w h16 h12 z hm; omega
 refine D8 hP rfl (hW _) (by simp) (by simp) ?_;refine A3 4 ?_;simp[hsk];refine D8 hP rfl (hF (E.n0+10240) _) (by simp) (l9.of (hin _)) ?_;refine A3 4000 ?_;simp[hsk,hsk2];refine⟨⟨A57 _ _,A58 _ _⟩,?_⟩;rw[hR];refine E8 (by simp<;>rfl) [] trivial (S6 (by simp) (by simp) (z8 fun q hq=>?_));rcases zh.1 hq with rfl|hq
 ·simp
 rcases p6 hq with hq|hq
 ·rcases p6 hq with hq|hq
  ·simp only[zh,yn,or_false] at hq;rcases hq with rfl|rfl|rfl<;>simp
  ·have:=hkey _ q hq; omega
 ·obtain⟨p,hp,rfl⟩:=p7 hq;have:=A5w h16 h12 _ (A8H hp);simp only; omega
def ag0:Ag:=⟨[],false,[],0⟩
def V2(l:List Ag)(n:List UInt8):Ag:=(l.find? (fun x=>x.name==n)).getD ag0
theorem B9r(l:List Ag)(n:List UInt8):(B8 (fun x=>x.name==n) l 0 = -1/\A2d l n=false/\V2 l n=ag0)\/∃k:Nat,B8 (fun x=>x.name==n) l 0=(k:Int)/\k<l.length/\l[k]?=some (V2 l n)/\A2d l n=true:=by
 have ha:decide (0<=B8 (fun x:Ag=>x.name==n) l 0)=A2d l n:=T3 _ l 0;rcases R9 (fun x:Ag=>x.name==n) l 0 with⟨h1,h2⟩|⟨k,x,h1,h2,h3⟩
 ·refine .inl ⟨h2,?_,?_⟩
  ·rw[←ha,h2]; rfl
  ·unfold V2; rw[h1]; rfl
 ·have hk:k<l.length:=by
   have:=ze.1 h1;exact this.1
  refine .inr ⟨k,by rw[h2]; simp,hk,?_,?_⟩
  ·unfold V2; rw[h3,h1]; rfl
  ·rw[←ha,h2]; simp
def eMk(l:List Ty)(s:F6):AV:=.agg [.sl (l.map I8),.str s.alias,.str s.name,.sl (s.args.map t7),.sl (s.kids.map E0)]
theorem B9s(x:Ag)(j:Nat)(name:List UInt8)(id:Nat):A2 Tryz.prog 272 [t7 x,.ptr j 0 0] [(j,⟨[.str name],.str name,false,false⟩)] id (.bool (x.name==name)) []:=by
 unfold t7;refine w272.e.1 fun E hP hR hl hid=>?_;simp[w272];have hj:=hl (j,_) (za ..);simp only at hj;have j1:=lf hj;simp[j1];refine yE hR [] (by simp[j1,A4 hid]) fun hrn=>⟨?_,?_,?_,?_,?_,?_⟩<;>(try simp[j1,A4 hid])
theorem B4e(l:List Ag)(j:Nat)(name:List UInt8)(id:Nat)(hl8:l.length<9223372036854775807):A2 Tryz.prog 271 [.sl (l.map t7),.fn 272 [.ptr j 0 0]] [(j,⟨[.str name],.str name,false,false⟩)] id (.int .i64 (B8 (fun x=>x.name==name) l 0)) []:=by
 refine w271.e.1 fun E hP hR hl hid=>?_;simp[w271];have hj:=hl (j,_) (za ..);simp only at hj;have j1:=lf hj;refine D0 (X:=Nat) (fun i=>⟨[(0,true,.sl (l.map t7)),(1,true,.fn 272 [.ptr j 0 0]),(7,true,.int .i64 l.length),(8,true,.int .i64 i)],[(j,some (⟨[.str name],.str name,false,false⟩))],0⟩) (fun i=>i<=l.length/\B8 (fun x=>x.name==name) (l.drop i) i=B8 (fun x=>x.name==name) l 0) (fun i=>l.length - i) 0 ?_ ⟨by omega,rfl⟩ ?_
 ·refine yV [] (by simp[j1]) fun hrn=>⟨?_,?_,?_,?_,?_⟩<;>(try simp[j1])
 ·rintro i ⟨hi,hf⟩ p hp;refine A3 4000 ?_;simp;refine E5 (fun h=>?_) (fun h=>?_)
  ·have h:=zr h;obtain⟨x,hx,hd⟩:=B2 h;have hcl:=B9s x j name;simp only[U5 x] at hcl;rw[hd] at hf;simp only[B8] at hf;have hi1:IntKind.i64.wrap ((i:Int)+1)=((i+1:Nat):Int):=A5 (by omega);simp[hx,U5 x];refine⟨h,?_⟩;refine L5 hP rfl rfl (hcl _) (by simp) (by simp[j1]<;>rfl) ?_;refine A3 4000 ?_;simp[j1];refine E5 (fun h1=>?_) (fun h1=>?_)
   ·simp[j1];rw[zj h1] at hf;rw[←hf] at hR;refine yE hR [] (by simp[j1,B8,A4 hid]) fun hrn=>⟨?_,?_,?_,?_,?_,?_⟩<;>(try simp[j1,B8,A4 hid])
   ·simp[j1];rw[zf (by simpa using h1)] at hf;refine hp _ (i+1) ⟨h,hf⟩ (by omega) ?_;refine yV [] (by simp[hi1,j1]) fun hrn=>⟨?_,?_,?_,?_,?_⟩<;>(try simp[hi1,j1])
  ·have h:=zp h;simp;rw[zn (by omega)] at hf;rw[←hf] at hR;refine yE hR [] (by simp[j1,B8,A4 hid]) fun hrn=>⟨?_,?_,?_,?_,?_,?_⟩<;>(try simp[j1,B8,A4 hid])
theorem A59(l:List Ty)(s:F6)(J:Nat)(name:List UInt8)(id:Nat)(hl8:s.args.length<9223372036854775807):A2 Tryz.prog 228 [.ptr J 0 0,.str name] [(J,⟨[eMk l s],eMk l s,false,false⟩)] id (.tup [t7 (V2 s.args name),.bool (A2d s.args name)]) []:=by
 have hI:=fun id=>B4e s.args id name;unfold eMk;simp only[U5 (V2 s.args name)];refine w228.e.1 fun E hP hR hl hid=>?_;simp[w228];have hJ:=hl (J,_) (za ..);simp only at hJ;have J1:=lf hJ;simp[J1];(refine yC rfl (hI E.n0 _ hl8) ?_; simp[J1]);rcases B9r s.args name with⟨h1,h2,h3⟩|⟨k,h1,hk,h2,h3⟩
 ·rw[h2,h3] at hR;refine A9 (by rw[h1]; decide) ?_;simp[J1];refine yE hR [] (by simp[J1,ag0,A4 hid]) fun hrn=>⟨?_,?_,?_,?_,?_,?_⟩<;>(try simp[J1,ag0,A4 hid])
 ·rw[h3] at hR;refine A0 (by rw[h1]; simp) ?_;rw[h1];simp[J1,h2,U5 (V2 s.args name)];refine⟨hk,?_⟩;refine yE hR [] (by simp[J1,A4 hid]) fun hrn=>⟨?_,?_,?_,?_,?_,?_⟩<;>(try simp[J1,A4 hid])
def A1d:List UInt8:=[116,121,112,101]
def nId:List UInt8:=[105,100]
def A08:List UInt8:=[102,105,101,108,100]
def W7:List UInt8:=[116,101,120,116]
def W8:List UInt8:=[110,117,109,98,101,114]
def nTo:List UInt8:=[116,111]
def A6T:List UInt8:=[109,97,107,101]
def A8I:List UInt8:=[100,114,111,112]
def B19:List UInt8:=[115,101,116]
def B00:List UInt8:=[108,105,110,107]
def B9t:List UInt8:=[99,117,116]
def X0(s:F6):Int:=if s.name=A6T then 1 else if s.name=A8I then 2 else if s.name=B19 then (if A2d s.args W7=true then 4 else 3) else if s.name=B00 then 5 else if s.name=B9t then 6 else 0
def B1A(k:Int):List UInt8:=if k=3 then W8 else if k=4 then W7 else nTo
def T9(k:Int):List (List UInt8):=if k=1\/k=2 then [A1d,nId] else [A1d,nId,A08,B1A k]
def A8J(k:Int):AV:=if k=0 then .nils else .sl ((T9 k).map .str)
theorem C2s{k:Int}(h:k=1\/k=2):A8J k = .sl [.str [116,121,112,101],.str [105,100]]:=by
 unfold A8J T9; rw[zf (by omega),zj h]; rfl
theorem C5C:A8J 3 = .sl [.str [116,121,112,101],.str [105,100],.str [102,105,101,108,100],.str [110,117,109,98,101,114]]:=rfl
theorem C5D:A8J 4 = .sl [.str [116,121,112,101],.str [105,100],.str [102,105,101,108,100],.str [116,101,120,116]]:=rfl
theorem C2t{k:Int}(h:k=5\/k=6):A8J k = .sl [.str [116,121,112,101],.str [105,100],.str [102,105,101,108,100],.str [116,111]]:=by
 unfold A8J T9 B1A; rw[zf (by omega),zf (by omega),zf (by omega),zf (by omega)]; rfl
theorem C5E{s:F6}(h:(s.name==A6T)=true):X0 s=1:=by unfold X0; rw[zj (by simpa using h)]
theorem C5F{s:F6}(a:(s.name==A6T)=false)(h:(s.name==A8I)=true):X0 s=2:=by unfold X0; rw[zf (by simpa using a),zj (by simpa using h)]
theorem C5G{s:F6}(a:(s.name==A6T)=false)(b:(s.name==A8I)=false)(h:(s.name==B19)=true)(t:A2d s.args W7=true):X0 s=4:=by
 unfold X0; rw[zf (by simpa using a),zf (by simpa using b),zj (by simpa using h),zj t]
theorem C5H{s:F6}(a:(s.name==A6T)=false)(b:(s.name==A8I)=false)(h:(s.name==B19)=true)(t:A2d s.args W7=false):X0 s=3:=by
 unfold X0; rw[zf (by simpa using a),zf (by simpa using b),zj (by simpa using h),zf (by simpa using t)]
theorem C5I{s:F6}(a:(s.name==A6T)=false)(b:(s.name==A8I)=false)(c:(s.name==B19)=false)(h:(s.name==B00)=true):X0 s=5:=by
 unfold X0; rw[zf (by simpa using a),zf (by simpa using b),zf (by simpa using c),zj (by simpa using h)]
theorem C5J{s:F6}(a:(s.name==A6T)=false)(b:(s.name==A8I)=false)(c:(s.name==B19)=false)(d:(s.name==B00)=false)(h:(s.name==B9t)=true):X0 s=6:=by
 unfold X0; rw[zf (by simpa using a),zf (by simpa using b),zf (by simpa using c),zf (by simpa using d),zj (by simpa using h)]
theorem C5K{s:F6}(a:(s.name==A6T)=false)(b:(s.name==A8I)=false)(c:(s.name==B19)=false)(d:(s.name==B00)=false)(h:(s.name==B9t)=false):X0 s=0:=by
 unfold X0; rw[zf (by simpa using a),zf (by simpa using b),zf (by simpa using c),zf (by simpa using d),zf (by simpa using h)]
theorem B9u(l:List Ty)(s:F6)(J:Nat)(id:Nat)(hl8:s.args.length<9223372036854775807):A2 Tryz.prog 225 [.ptr J 0 0] [(J,⟨[eMk l s],eMk l s,false,false⟩)] id (A8J (X0 s)) []:=by
 have hF:=fun id=>A59 l s J W7 id hl8;unfold eMk W7 at hF;simp only[U5] at hF;unfold eMk;refine w225.e.1 fun E hP hR hl hid=>?_;simp[w225];have hJ:=hl (J,_) (za ..);simp only at hJ;have J1:=lf hJ;refine E5 (fun h1=>?_) (fun h1=>?_)<;>simp
 ·refine A9 h1 ?_;simp;rw[C5E h1,C2s (.inl rfl)] at hR;have hrn:H5 []:=by simp[J1,A4 hid]
  rw[hR];refine L6 (by simp<;>rfl) (by simp[J1,A4 hid]<;>exact⟨rfl,rfl⟩) [] hrn ⟨?_,?_,?_,?_,?_,?_⟩<;>(try simp[J1,A4 hid]);exact B3 _ rfl
 refine E5 (fun h2=>?_) (fun h2=>?_)<;>simp
 ·rw[C5F h1 h2,C2s (.inr rfl)] at hR;have hrn:H5 []:=by simp[J1,A4 hid]
  rw[hR];refine L6 (by simp<;>rfl) (by simp[J1,A4 hid]<;>exact⟨rfl,rfl⟩) [] hrn ⟨?_,?_,?_,?_,?_,?_⟩<;>(try simp[J1,A4 hid]);exact B3 _ rfl
 refine E5 (fun h3=>?_) (fun h3=>?_)<;>simp
 ·(refine yC rfl (hF _) ?_; simp[J1]);refine E5 (fun h4=>?_) (fun h4=>?_)<;>simp
  ·rw[C5G h1 h2 h3 h4,C5D] at hR;have hrn:H5 []:=(by simp[J1,A4 hid]);rw[hR];refine L6 (by simp<;>rfl) (by simp[J1,A4 hid]<;>exact⟨rfl,rfl⟩) [] hrn ⟨?_,?_,?_,?_,?_,?_⟩<;>(try simp[J1,A4 hid]);exact B3 _ rfl
  ·rw[C5H h1 h2 h3 h4,C5C] at hR;have hrn:H5 []:=(by simp[J1,A4 hid]);rw[hR];refine L6 (by simp<;>rfl) (by simp[J1,A4 hid]<;>exact⟨rfl,rfl⟩) [] hrn ⟨?_,?_,?_,?_,?_,?_⟩<;>(try simp[J1,A4 hid]);exact B3 _ rfl
 refine E5 (fun h4=>?_) (fun h4=>?_)<;>simp
 ·refine A9 h4 ?_;simp;rw[C5I h1 h2 h3 h4,C2t (.inl rfl)] at hR;have hrn:H5 []:=by simp[J1,A4 hid]
  rw[hR];refine L6 (by simp<;>rfl) (by simp[J1,A4 hid]<;>exact⟨rfl,rfl⟩) [] hrn ⟨?_,?_,?_,?_,?_,?_⟩<;>(try simp[J1,A4 hid]);exact B3 _ rfl
 refine E5 (fun h5=>?_) (fun h5=>?_)<;>simp
 ·rw[C5J h1 h2 h3 h4 h5,C2t (.inr rfl)] at hR;have hrn:H5 []:=by simp[J1,A4 hid]
  rw[hR];refine L6 (by simp<;>rfl) (by simp[J1,A4 hid]<;>exact⟨rfl,rfl⟩) [] hrn ⟨?_,?_,?_,?_,?_,?_⟩<;>(try simp[J1,A4 hid]);exact B3 _ rfl
 ·rw[C5K h1 h2 h3 h4 h5,show A8J 0 = .nils from rfl] at hR;refine yE hR [] (by simp[J1,A4 hid]) fun hrn=>⟨?_,?_,?_,?_,?_,?_⟩<;>(try simp[J1,A4 hid])
theorem C2G(l:List Ty)(s:F6)(J:Nat)(id:Nat)(hl8:s.args.length<9223372036854775807)(hk:X0 s≠0):A2 Tryz.prog 227 [.ptr J 0 0] [(J,⟨[eMk l s],eMk l s,false,false⟩)] id (.int .i64 (X0 s)) []:=by
 have hF:=fun id=>A59 l s J W7 id hl8;unfold eMk W7 at hF;simp only[U5] at hF;unfold eMk;refine w227.e.1 fun E hP hR hl hid=>?_;simp[w227];have hJ:=hl (J,_) (za ..);simp only at hJ;have J1:=lf hJ;refine E5 (fun h1=>?_) (fun h1=>?_)<;>simp
 ·rw[C5E h1] at hR;refine yE hR [] (by simp[J1,A4 hid]) fun hrn=>⟨?_,?_,?_,?_,?_,?_⟩<;>(try simp[J1,A4 hid])
 refine E5 (fun h2=>?_) (fun h2=>?_)<;>simp
 ·rw[C5F h1 h2] at hR;refine yE hR [] (by simp[J1,A4 hid]) fun hrn=>⟨?_,?_,?_,?_,?_,?_⟩<;>(try simp[J1,A4 hid])
 refine E5 (fun h4=>?_) (fun h4=>?_)<;>simp
 ·have h3:(s.name==B19)=false:=by
   have:s.name=B00:=by simpa [B00] using h4
   rw[this]; rfl
  rw[C5I h1 h2 h3 h4] at hR;refine yE hR [] (by simp[J1,A4 hid]) fun hrn=>⟨?_,?_,?_,?_,?_,?_⟩<;>(try simp[J1,A4 hid])
 refine E5 (fun h5=>?_) (fun h5=>?_)<;>simp
 ·have h3:(s.name==B19)=false:=by
   have:s.name=B9t:=by simpa [B9t] using h5
   rw[this]; rfl
  rw[C5J h1 h2 h3 h4 h5] at hR;refine yE hR [] (by simp[J1,A4 hid]) fun hrn=>⟨?_,?_,?_,?_,?_,?_⟩<;>(try simp[J1,A4 hid])
 have h3:(s.name==B19)=true:=zl fun h3=>hk (C5K h1 h2 (by simpa using h3) h4 h5);(refine yC rfl (hF _) ?_; simp[J1]);refine E5 (fun h6=>?_) (fun h6=>?_)<;>simp
 ·rw[C5G h1 h2 h3 h6] at hR;refine yE hR [] (by simp[J1,A4 hid]) fun hrn=>⟨?_,?_,?_,?_,?_,?_⟩<;>(try simp[J1,A4 hid])
 ·rw[C5H h1 h2 h3 h6] at hR;refine yE hR [] (by simp[J1,A4 hid]) fun hrn=>⟨?_,?_,?_,?_,?_,?_⟩<;>(try simp[J1,A4 hid])
def isT(n:List UInt8):Bool:=n==A1d||n==A08||n==W7
def A48(l:List Ag):List (List UInt8)->Int->Int
 | [],w=>w
 | n::r,w=>if A2d l n=false then 1 else A48 l r (if (V2 l n).isText=isT n then w else 7)
def A0f(l:List Ag)(ns:List (List UInt8)):Int:=if l.length≠ns.length then 1 else A48 l ns 0
theorem L9(S:Nat->Prop)(l:List (List UInt8)):F3 S (l.map .str):=B3 _ (E7 (fun _=>rfl) l)
theorem B9v(l:List Ty)(s:F6)(ns:List (List UInt8))(J:Nat)(id:Nat)(hl8:s.args.length<9223372036854775807)(hn8:ns.length<=1000):A2 Tryz.prog 226 [.ptr J 0 0,.sl (ns.map .str)] [(J,⟨[eMk l s],eMk l s,false,false⟩)] id (.int .i64 (A0f s.args ns)) []:=by
 have hF:=fun n id=>A59 l s J n id hl8;unfold eMk at hF;simp only[U5 (V2 _ _)] at hF;unfold eMk;refine w226.e.1 fun E hP hR hl hid=>?_;simp[w226];have hJ:=hl (J,_) (za ..);simp only at hJ;have J1:=lf hJ;refine E5 (fun h1=>?_) (fun h1=>?_)<;>simp
 ·have e:A0f s.args ns=1:=by unfold A0f; rw[zj (by simp at h1; omega)]
  rw[e] at hR;refine yE hR [] (by simp[J1,A4 hid]) fun hrn=>⟨?_,?_,?_,?_,?_,?_⟩<;>(try simp[J1,A4 hid])
 have e:A0f s.args ns=A48 s.args ns 0:=by unfold A0f; rw[zf (by simp at h1; omega)]
 rw[e] at hR;refine D0 (X:=Nat×Int) (fun x=>⟨[(0,true,.ptr J 0 0),(5,true,.int .i64 x.2),(19,true,.sl (ns.map .str)),(20,true,.int .i64 ns.length),(21,true,.int .i64 x.1)],[(J,some ⟨[.agg [.sl (l.map I8),.str s.alias,.str s.name,.sl (s.args.map t7),.sl (s.kids.map E0)]],.agg [.sl (l.map I8),.str s.alias,.str s.name,.sl (s.args.map t7),.sl (s.kids.map E0)],false,false⟩)],0⟩) (fun x=>x.1<=ns.length/\A48 s.args (ns.drop x.1) x.2=A48 s.args ns 0) (fun x=>ns.length - x.1) (0,0) ?_ ⟨by simp,rfl⟩ ?_
 ·refine yV [] (by simp[L9,J1]) fun hrn=>⟨?_,?_,?_,?_,?_⟩<;>(try simp[L9,J1])
 ·rintro⟨i,w⟩ ⟨hi,hf⟩ p hp;simp only at hi hf hp;refine A3 4000 ?_;simp;refine E5 (fun h=>?_) (fun h=>?_)
  ·have h:=zr h;obtain⟨x,hx,hd⟩:=B2 h;rw[hd] at hf;simp only[A48] at hf;have hi1:IntKind.i64.wrap ((i:Int)+1)=((i+1:Nat):Int):=A5 (by omega);simp[hx];refine⟨h,?_⟩;(refine yC rfl (hF x _) ?_; simp[J1]);refine E5 (fun h2=>?_) (fun h2=>?_)<;>simp[J1]
   ·rw[zj (by simpa using h2)] at hf;rw[←hf] at hR;refine yE hR [] (by simp[J1,A4 hid]) fun hrn=>⟨?_,?_,?_,?_,?_,?_⟩<;>(try simp[J1,A4 hid])
   ·rw[zf (by simpa using h2)] at hf;refine E5 (fun h3=>?_) (fun h3=>?_)<;>simp[J1]
    ·refine hp _ (i+1,7) ⟨h,?_⟩ (by simp only[]; omega) ?_
     ·rw[←hf,zf];simpa [isT,A1d,A08,W7] using h3
     ·refine yV [] (by simp[hi1,L9,J1]) fun hrn=>⟨?_,?_,?_,?_,?_⟩<;>(try simp[hi1,L9,J1])
    ·refine hp _ (i+1,w) ⟨h,?_⟩ (by simp only[]; omega) ?_
     ·rw[←hf,zj];simpa [isT,A1d,A08,W7] using h3
     ·refine yV [] (by simp[hi1,L9,J1]) fun hrn=>⟨?_,?_,?_,?_,?_⟩<;>(try simp[hi1,L9,J1])
  ·have h:=zp h;simp;rw[zn (by omega)] at hf;rw[←hf] at hR;refine yE hR [] (by simp[J1,A48,A4 hid]) fun hrn=>⟨?_,?_,?_,?_,?_,?_⟩<;>(try simp[J1,A48,A4 hid])
theorem B01{l:List Ag}(h:x8 l=0):l.length<=5/\∀a∈l,B4K a=0:=by
 unfold x8 at h;split at h
 ·omega
 ·refine⟨by omega,fun a ha=>?_⟩;obtain⟨i,hi⟩:=ye.1 ha;have h0:=Q8 _ _ _ h i a hi;unfold A3I at h0;split at h0
  ·rename_i g; exact (g h0).elim
  ·split at h0
   ·omega
   ·exact h0
theorem B7P{a:Ag}(h:B4K a=0): -999999999<=a.n/\a.n<=999999999/\a.text.length<=40:=by
 unfold B4K at h;split at h
 ·omega
 ·split at h
  ·omega
  ·split at h
   ·omega
   ·rename_i g; omega
theorem B9w(l:List Ag)(n:List UInt8):V2 l n=ag0\/V2 l n∈l:=by
 rcases B9r l n with⟨_,_,h⟩|⟨k,_,_,h,_⟩
 ·exact .inl h
 ·exact .inr (zg h)
theorem B1B{l:List Ag}(h:x8 l=0)(n:List UInt8): -999999999<=(V2 l n).n/\(V2 l n).n<=999999999/\(V2 l n).text.length<=40:=by
 rcases B9w l n with e|e
 ·rw[e]; exact⟨by decide,by decide,by decide⟩
 ·exact B7P ((B01 h).2 _ e)
theorem B7Q{l:List Ag}{n:List UInt8}(h:A2d l n=false):V2 l n=ag0:=by
 rcases B9r l n with⟨_,_,e⟩|⟨k,_,_,_,e⟩
 ·exact e
 ·rw[h] at e; cases e
theorem A4T{l:List Ag}:∀{ns:List (List UInt8)} {w:Int},A48 l ns w=0->w=0/\∀n∈ns,A2d l n=true/\(V2 l n).isText=isT n
 | [],w,h=>⟨h,fun n hn=>by cases hn⟩
 | n::r,w,h=>by
  simp only[A48] at h;split at h
  ·omega
  ·rename_i g;obtain⟨e,hr⟩:=A4T h;split at e
   ·rename_i g2;refine⟨e,fun m hm=>?_⟩;rcases zh.1 hm with rfl|hm
    ·exact⟨by simpa using g,g2⟩
    ·exact hr m hm
   ·omega
theorem B9x{n:List UInt8}:∀{ns l:List (List UInt8)},ns.Nodup->(∀m∈ns,m∈l)->n∈l->n∉ns->ns.length<l.length
 | [],l,_,_,hn,_=>ra hn
 | a::r,l,hd,hs,hn,hnn=>by
  obtain⟨h1,h2⟩:=xc.1 hd;have ha:=hs a (by simp);have ih:=B9x (n:=n) (ns:=r) (l:=l.erase a) h2 (fun m hm=>(List.mem_erase_of_ne (by rintro rfl; exact h1 hm)).2 (hs m (by simp[hm]))) ((List.mem_erase_of_ne (by rintro rfl; exact hnn (by simp))).2 hn) (fun e=>hnn (by simp[e]));have h3:=List.length_erase_of_mem ha;have h4:=ra ha;simp only[yd];omega
theorem B2z{l:List Ag}{n:List UInt8}:A2d l n=true↔n∈l.map Ag.name:=by
 unfold A2d;rw[vg,zu];constructor
 ·rintro⟨a,h1,h2⟩; exact⟨a,h1,by simpa using h2⟩
 ·rintro⟨a,h1,h2⟩; exact⟨a,h1,by simpa using h2⟩
theorem B02{l:List Ag}{ns:List (List UInt8)}{n:List UInt8}(hd:ns.Nodup)(hl:l.length=ns.length)(ha:∀m∈ns,A2d l m=true)(hn:n∉ns):A2d l n=false:=by
 refine zl fun h=>?_;have h:A2d l n=true:=by simpa using h
 have:=B9x hd (fun m hm=>B2z.1 (ha m hm)) (B2z.1 h) hn;simp at this;omega
theorem B4f(s:F6):0<=X0 s/\X0 s<=6:=by
 unfold X0;repeat' split
 all_goals omega
theorem B03(s:F6):X0 s=0\/X0 s=1\/X0 s=2\/X0 s=3\/X0 s=4\/X0 s=5\/X0 s=6:=by have:=B4f s; omega
def B04(k:Int):List (List UInt8):=if k=1\/k=2 then [] else [A08,B1A k]
theorem A1e(k:Int):T9 k=A1d::nId::B04 k:=by unfold T9 B04; split<;>rfl
theorem A5A{k:Int}(h:1<=k/\k<=6):(T9 k).Nodup:=by
 have:k=1\/k=2\/k=3\/k=4\/k=5\/k=6:=by omega
 rcases this with rfl|rfl|rfl|rfl|rfl|rfl<;>decide
def tyI(l:List Ty)(s:F6):Int:=C3 l (V2 s.args A1d).text
def fdI(l:List Ty)(s:F6):Int:=B8 (fun f=>f.name==(V2 s.args A08).text) (C8 l (tyI l s)) 0
def mkE(l:List Ty)(s:F6):Int :=
 if s.kids≠[] then 4 else if X0 s=0 then 5 else if A0f s.args (T9 (X0 s))≠0 then A0f s.args (T9 (X0 s))
 else if tyI l s<0 then 5 else if 2<X0 s/\fdI l s<0 then 5 else 0
def B7R(s:F6):Ag:=if 2<X0 s then V2 s.args (B1A (X0 s)) else ag0
def mkX(l:List Ty)(s:F6):Ev:=⟨X0 s,tyI l s,(V2 s.args nId).n,if 2<X0 s then fdI l s else 0,(B7R s).n,(B7R s).text⟩
def evX(l:List Ty)(s:F6):Ev:=if mkE l s=0 then mkX l s else ⟨0,0,0,0,0,[]⟩
def nm3:Nat->List UInt8|0=>W8|1=>nTo|_=>W7
def sN(l:List Ag):Nat->Int|0=>0|i+1=>sN l i+(V2 l (nm3 i)).n
def sT(l:List Ag):Nat->List UInt8|0=>[]|i+1=>sT l i++(V2 l (nm3 i)).text
theorem C2H{l:List Ag}(h:x8 l=0):∀i:Nat,-(999999999*(i:Int))<=sN l i/\sN l i<=999999999*(i:Int)/\(sT l i).length<=40*i
 | 0=>⟨by simp[sN],by simp[sN],by simp[sT]⟩
 | i+1=>by
  have h1:=C2H h i;have h2:=B1B h (nm3 i);simp only[sN,sT,yl];omega
theorem s3{s:F6}(hk:X0 s≠0)(h:A0f s.args (T9 (X0 s))=0):sN s.args 3=(B7R s).n/\sT s.args 3=(B7R s).text:=by
 unfold A0f at h;split at h
 ·omega
 rename_i hl;have hl:s.args.length=(T9 (X0 s)).length:=by omega
 have ha:=fun m hm=>((A4T h).2 m hm).1;have hd:=A5A (k:=X0 s) (by have:=B4f s; omega);have no:=fun (n:List UInt8) (hn:n∉T9 (X0 s))=>B7Q (B02 hd hl ha hn);simp only[sN,sT,nm3];unfold B7R;have c:=B03 s;generalize X0 s=k at *;rcases c with rfl|rfl|rfl|rfl|rfl|rfl|rfl
 ·exact (hk rfl).elim
 ·rw[no W8 (by decide),no nTo (by decide),no W7 (by decide),zf (by decide)]; exact⟨rfl,rfl⟩
 ·rw[no W8 (by decide),no nTo (by decide),no W7 (by decide),zf (by decide)]; exact⟨rfl,rfl⟩
 ·rw[no nTo (by decide),no W7 (by decide),zj (by decide),show B1A 3=W8 from rfl]; simp[ag0]
 ·rw[no nTo (by decide),no W8 (by decide),zj (by decide),show B1A 4=W7 from rfl]; simp[ag0]
 ·rw[no W7 (by decide),no W8 (by decide),zj (by decide),show B1A 5=nTo from rfl]; simp[ag0]
 ·rw[no W7 (by decide),no W8 (by decide),zj (by decide),show B1A 6=nTo from rfl]; simp[ag0]
theorem B7S{s:F6}(hk:X0 s≠0)(h:A0f s.args (T9 (X0 s))=0):A2d s.args A08=decide (2<X0 s):=by
 unfold A0f at h;split at h
 ·omega
 rename_i hl;have hl:s.args.length=(T9 (X0 s)).length:=by omega
 have ha:=fun m hm=>((A4T h).2 m hm).1;have hd:=A5A (k:=X0 s) (by have:=B4f s; omega);have no:=fun (n:List UInt8) (hn:n∉T9 (X0 s))=>B02 hd hl ha hn;have c:=B03 s;generalize X0 s=k at *;rcases c with rfl|rfl|rfl|rfl|rfl|rfl|rfl
 ·exact (hk rfl).elim
 ·rw[no A08 (by decide)]; rfl
 ·rw[no A08 (by decide)]; rfl
 all_goals rw[ha A08 (by decide)]; rfl
end Go.Am
