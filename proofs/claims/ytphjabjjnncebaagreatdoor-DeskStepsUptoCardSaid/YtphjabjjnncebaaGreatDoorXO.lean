/- Parts of the proof: an abstract machine for Go functions, and what functions of the program give back (Pu4, Dw2, Rd2, Bf2, Un1, CcH, Hi1, Hi2, Hi3, Ch1, Ch2, Ch3, Ch4). No condition. -/
import Derived.Test.YtphjabjjnncebaaGreatDoorXN
import Derived.Test.YtphjabjjnncebaaGreatDoorXI
import Derived.Test.YtphjabjjnncebaaGreatDoorXK
import Derived.Test.YtphjabjjnncebaaGreatDoorXG
import Derived.Test.YtphjabjjnncebaaGreatDoorXF
import Derived.Test.YtphjabjjnncebaaGreatDoorXJ
import Derived.Test.YtphjabjjnncebaaGreatDoorXH
set_option maxRecDepth 100000
set_option linter.all false
set_option maxHeartbeats 4000000
namespace Go.Am
open Go Go.Proofs Go.RowKit Go.Proofs.Tryz
/-! An event of one thing leaves all others. -/
def P3(l:List Bt):List Ev:=l.flatMap (·.events)
def bxQ(x y:AV)(bs:List Bt):Bx:=⟨[.agg [x,y,.sl (bs.map v7)]],.agg [.nils,.nils,.sl (bs.map v7)],false,false⟩
def bxO(s:H6)(bs:List Bt):Bx:=bxQ (.sl (s.types.map I9)) (.sl (s.things.map Q9)) bs
def A91{l:List Bt}(h:∀b∈l,b.events.length<=8):(P3 l).length<=8*l.length:=by
 induction l with
 | nil=>simp[P3]
 | cons b r ih =>
  have h1:=h b (za ..);have h2:=ih λx hx=>h x (zb _ hx);simp only[P3,xo,zu,zt] at h2 ⊢; omega
def B0j(j:Nat)(x y:AV)(hx:x.pureB=true)(hy:y.pureB=true)(bs:List Bt)(n:Nat)(hn:n<=bs.length)(id:Nat)(h8:bs.length<=10000)(he:∀b∈bs,b.events.length<=8):A2 prog 59 [.ptr j 0 0,.int .i64 n] [(j,bxQ x y bs)] id (.sl ((P3 (bs.take n)).map S1)) []:=by
 unfold bxQ;refine w59.e.1 λE hP hR hl hid=>?_;simp[w59];have hj:=hl (j,_) (za ..);simp only at hj;have j1:=lf hj;simp[hn];have htl:(bs.take n).length=n:=by rw[zy]; omega
 have hte:∀b∈bs.take n,b.events.length<=8:=λb hb=>he b (xn hb);have hall:=A91 hte;refine⟨λa _=>rfl,?_⟩;rw[←yt];generalize bs.take n=ts at *;refine B9 (X:=Nat×List Ev) (λq=>⟨[(13,true,.sl (ts.map v7)),(14,true,.int .i64 n),(15,true,.int .i64 q.1),(5,true,.bsl E.n0 0 q.2.length)],[(j,some ⟨[.agg [x,y,.sl (bs.map v7)]],.agg [.nils,.nils,.sl (bs.map v7)],false,false⟩),(E.n0,some (bxE q.2 false))],1⟩)
  (λq=>q.1<=n/\q.2++P3 (ts.drop q.1)=P3 ts) (λq=>n - q.1) (0,[]) ?_ ⟨s_,rfl⟩ ?_
 ·refine D9.trans (D9.voidSlot 5 (x:=.nils) s_ .nils (.agg [.int .i64 0,.int .i64 0,.int .i64 0,.int .i64 0,.int .i64 0,.str []])) ?_;refine yV [(E.n0,E.n0+10240)] s_ λhrn=>⟨?_,?_,?_,?_,?_⟩<;>(try simp[bxE,j1]);all_goals exact⟨K0 rfl hx,K0 rfl hy⟩
 rintro⟨i,acc⟩ ⟨hi,ha⟩ p hp;simp only at hi ha;have hal:acc.length<=80000:=by
  have:=congrArg List.length ha;rw[zu] at this; omega
 rcases yd i n with h|h
 rotate_left
 ·rw[zp o_] at ha;have ha:acc=P3 ts:=by simpa [P3] using ha
  rw[←ha] at hR;refine A3 4000 ?_;simp[to.2 h];have hrn:F7 []:=by simp
  rw[hR];refine J0 f_ (by simp[j1]<;>exact⟨rfl,rfl⟩) [] hrn ⟨?_,?_,?_,?_,?_,?_⟩<;>(try simp[j1]);all_goals exact⟨K0 rfl hx,K0 rfl hy⟩
 obtain⟨b,hb,hd⟩:=A5 (show i<ts.length by omega);have hi1:IntKind.i64.wrap ((i:Int)+1)=((i+1:Nat):Int):=wrap64 o_;have hbl:b.events.length<=8:=hte b (zg hb);rw[hd] at ha;have ha:(acc++b.events)++P3 (ts.drop (i+1))=P3 ts:=by rw[←ha]; simp[P3]
 refine A3 4000 ?_;simp[h,hb,v7,bxE,j1];refine⟨o_,⟨λa _=>⟨rfl,λz hz=>?_⟩,o_,o_⟩,hp _ (i+1,acc++b.events) ⟨h,ha⟩ m_ ?_⟩
 ·have hz:z∈(S1 a).cells:=hz;simp only[S1,AV.cells,zi,yp,or_false] at hz;rcases hz with rfl|rfl|rfl|rfl|rfl|rfl<;>rfl
 ·refine yV [(E.n0,E.n0+8193)] s_ λhrn=>⟨?_,?_,?_,?_,?_⟩<;>(try simp[bxE,hi1,j1]);all_goals exact⟨⟨K0 rfl hx,K0 rfl hy⟩,B4 rfl (B3 (A3a _) (A3a _))⟩
def A4O{q:Nat×Option Bx}:∀{wr l:List (Nat×Option Bx)},q∈t7 l wr->q∈l\/q∈wr
 | [],_,h=>.inl h
 | p::wr,l,h=>by
  rw[t7] at h;rcases A4O h with h|h
  ·rcases zi.1 h with rfl|h
   ·exact .inr (za ..)
   ·exact .inl h
  ·exact .inr (zb _ h)
def C6h{T:Nat}{S:List I0}:∀q∈trB T S,q.2.ro=false:=λq hq=>by
 rcases zi.1 hq with rfl|hq
 ·rfl
 ·obtain⟨o,_,hq⟩:=xz.1 hq;rcases zi.1 hq with rfl|hq
  ·rfl
  ·have:∀(cs:List Cl) (is:List (Option Nat)),∀q∈A0c cs is,q.2.ro=false:=λcs=>by
    induction cs with
    | nil=>intro is q h; cases h
    | cons c cs ih =>
     intro is q h;cases is with
     | nil=>cases h
     | cons i is =>
      rcases zr.1 h with h|h
      ·cases i with
       | none=>cases h
       | some i=>simp only[idB,wj] at h; subst h; rfl
      ·exact ih is q h
   exact this _ _ q hq
def A92{y:Nat}{b:Option Bx}{L:List (Nat×Option Bx)}:bk ((y,b)::L) y=b:=by simp[bk]
end Go.Am
namespace Go.Am
end Go.Am
namespace Go.Am
open Go Go.Proofs Go.RowKit Go.Proofs.Tryz
def C1Z{n:Nat}{v:Bool×AV}:∀{l:List (Nat×Bool×AV)},lk l n=some v->(n,v)∈l
 | [],h=>by cases h
 | (m,c,u)::l,h=>by
  simp only[lk] at h;split at h
  ·rename_i e; subst e; injection h with h; subst h; exact za ..
  ·exact zb _ (C1Z h)
def C1a{y:Nat}{b:Bx}:∀{l:List (Nat×Option Bx)},bk l y=some b->(y,some b)∈l
 | [],h=>by cases h
 | (m,c)::l,h=>by
  simp only[bk] at h;split at h
  ·rename_i e; subst e; rw[h]; exact za ..
  ·exact zb _ (C1a h)
def D9.stayL{E:O8}{σ σ':St}(hk:σ.k<=σ'.k)(hf:∀q∈σ'.fr,lk σ.fr q.1=some q.2)(hb:∀q∈σ'.bx,∀b,q.2=some b->bk σ.bx q.1=some b)(hc:∀q∈σ.bx,E.n0<=q.1\/K6 q.1 σ'.bx):D9 E σ σ' :=
 D9.stay hk (λn c v h=>hf _ (C1Z h)) (λy b h=>hb _ (C1a h) b rfl) hc
def A0H{q:Nat×Option Bx}:∀{l:List (Nat×Bx)},q∈D4 l->∃p∈l,q=(p.1,some p.2)
 | [],h=>by cases h
 | (i,b)::l,h=>by
  rcases zi.1 h with rfl|h
  ·exact⟨_,za ..,rfl⟩
  ·obtain⟨p,h1,h2⟩:=A0H h;exact⟨p,zb _ h1,h2⟩
def s8{q:Nat×Option Bx}{l:List (Nat×Bx)}(h:q∈W6 l):∃p∈l,q=(p.1,none):=by
 obtain⟨p,h1,h2⟩:=zw.1 h;exact⟨p,h1,h2.symm⟩
def A16{M:List (Nat×Option Bx)}{q:Nat×Bx}:∀{l:List (Nat×Bx)},(l.map Prod.fst).Nodup->q∈l->bk (D4 l++M) q.1=some q.2
 | [],_,h=>by cases h
 | (i,b)::l,hn,h=>by
  rw[yg,xd] at hn;show (if q.1=i then some b else bk (D4 l++M) q.1)=some q.2;rcases zi.1 h with rfl|h
  ·simp
  ·rw[zf λe=>hn.1 (zw.2 ⟨q,h,e⟩)];exact A16 hn.2 h
def C5Y{T:Nat}{S:List I0}{q:Nat×Bx}(h:q∈trB T S):q.1∈nmT T S:=zw.2 ⟨q,h,rfl⟩
def C9g{T:Nat}{S:List I0}{z:Nat}(h:z∈nmT T S):∃q∈trB T S,q.1=z:=zw.1 h
def Z4(s:H6):List Ev->H6
 | []=>s
 | e::l=>Z4 (A1i s e) l
def V0(s:H6):List Ev->Int
 | []=>0
 | e::l=>if A14 s e≠0 then A14 s e else V0 (A1i s e) l
def A7J(s:H6)(l:List Ev):AV:=if V0 s l=0 then H4 (Z4 s l) else eS0
def B79{l:List Ty}{S:List I0}(h:Rt (A6 l S)):StR (A6 l S):=h.r
def C1b(l:List Ty)(S0:List I0)(A:AV)(R0:List (Nat×Bx))(ev:List Ev)(id:Nat)(hok:∀o∈S0,o.Ok)(hR0:Rt (A6 l S0))(hI:∀e∈ev,I64 e.n)(hlen:ev.length<=1000000000000000)
  (hst:∀E:O8,(∀q∈R0,q.1<E.n0)->∃T K,6144<=K/\(nmT T S0).Nodup/\(∀z∈nmT T S0,z∈R0.map Prod.fst\/(E.n0+6144<=z/\z<E.n0+K)) /\
   D9 E ⟨[(12,true,.int .i64 0),(11,true,.int .i64 ev.length),(10,true,.sl (ev.map S1)),(5,true,.int .i64 0),(4,true,.ptr (E.n0+1024) 0 0),(2,true,.ptr E.n0 0 0),(0,true,.agg [.sl (l.map I9),A]),(1,true,.sl (ev.map S1))],(E.n0+1024,some ⟨[.agg [.nils,.nils]],.agg [.nils,.nils],false,false⟩)::(E.n0,some ⟨[.agg [.sl (l.map I9),A]],.agg [.sl (l.map I9),A],false,false⟩)::D4 R0,6144⟩
    ⟨[(2,true,.ptr E.n0 0 0),(4,true,.ptr (E.n0+1024) 0 0),(10,true,.sl (ev.map S1)),(11,true,.int .i64 ev.length),(12,true,.int .i64 0)],(E.n0,some ⟨[.agg [.sl (l.map I9),.bsl T 0 S0.length]],.agg [.sl (l.map I9),A],false,false⟩)::(E.n0+1024,some ⟨[.agg [.nils,.nils]],.agg [.nils,.nils],false,false⟩)::(D4 (trB T S0)++W6 R0),K⟩) :
  A2 prog 116 [.agg [.sl (l.map I9),A],.sl (ev.map S1)] R0 id (.tup [A7J (A6 l S0) ev,.int .i64 (V0 (A6 l S0) ev)]) (W6 R0):=by
 refine w116.b.1 λE hP hR hl hid hB hu=>?_;simp[w116];obtain⟨T1,K1,hK1,hnd0,hnm0,hcv⟩:=hst E λq hq=>(hl q hq).1;have hlt:∀z∈R0.map Prod.fst,z<E.n0:=λz hz=>by
  obtain⟨q,hq,rfl⟩:=zw.1 hz;exact (hl q hq).1
 have hgone:∀z∈R0.map Prod.fst,∀(A B:Nat×Option Bx) X,K6 z (A::B::(X++W6 R0)):=λz hz A B X=>by
  obtain⟨q,hq,rfl⟩:=zw.1 hz;exact .inr (.inr (A1T.2 ⟨(q.1,none),ye _ (zw.2 ⟨q,hq,rfl⟩),rfl⟩))
 refine B9 (X:=Nat×Nat×List I0×Nat) (λq=>⟨[(2,true,.ptr E.n0 0 0),(4,true,.ptr (E.n0+1024) 0 0),(10,true,.sl (ev.map S1)),(11,true,.int .i64 ev.length),(12,true,.int .i64 q.1)],
  (E.n0,some ⟨[.agg [.sl (l.map I9),.bsl q.2.1 0 q.2.2.1.length]],.agg [.sl (l.map I9),A],false,false⟩)::(E.n0+1024,some ⟨[.agg [.nils,.nils]],.agg [.nils,.nils],false,false⟩)::(D4 (trB q.2.1 q.2.2.1)++W6 R0),q.2.2.2⟩)
  (λq=>q.1<=ev.length/\6144<=q.2.2.2/\(nmT q.2.1 q.2.2.1).Nodup/\(∀z∈nmT q.2.1 q.2.2.1,z∈R0.map Prod.fst\/(E.n0+6144<=z/\z<E.n0+q.2.2.2))/\(∀o∈q.2.2.1,o.Ok)/\Rt (A6 l q.2.2.1)/\Z4 (A6 l q.2.2.1) (ev.drop q.1)=Z4 (A6 l S0) ev/\V0 (A6 l q.2.2.1) (ev.drop q.1)=V0 (A6 l S0) ev)
  (λq=>ev.length - q.1) (0,T1,S0,K1) hcv ⟨o_,hK1,hnd0,hnm0,hok,hR0,rfl,rfl⟩ ?_
 ·rintro⟨i,T,S,K⟩ ⟨hi,hK,hnd1,hnm,hok1,hR1,hfs,hfe⟩ p hp;simp only at hi hK hnd1 hnm hok1 hR1 hfs hfe;refine A3 8 ?_;simp;refine C0H (b:=decide (i<ev.length)) s_ s_ (λh=>?_) (λh=>?_)
  ·have h:=zq h;obtain⟨e,he,hd⟩:=A5 h;rw[hd] at hfs hfe;simp only[Z4,V0] at hfs hfe;have hei:=hI e (zg he);have hi1:IntKind.i64.wrap ((i:Int)+1)=((i+1:Nat):Int):=wrap64 o_;have hin:∀q∈trB T S,bk (D4 (trB T S)++W6 R0) q.1=some q.2:=λq hq=>A16 (l:=trB T S) hnd1 hq;have hnz:∀z∈nmT T S,z≠E.n0/\z≠E.n0+1024/\(z<E.n0+K):=λz hz=>by
    rcases hnm z hz with h|h
    ·have:=hlt z h; omega
    ·omega
   by_cases hE:A14 (A6 l S) e=0
   ·rw[zf (v_ hE)] at hfe;obtain⟨T',S',wr,hf,ht,hst⟩:=C1Q (id:=E.n0+(K+1024+4096+1024*2)) hnd1 (λz hz=>by have:=hnz z hz; omega) hok1 (B79 hR1) hE;unfold S1 at hf;have hwk:∀q∈wr,q.1∈nmT T S\/(E.n0+(K+1024+4096+1024*2)<=q.1/\q.1<E.n0+(K+1024+4096+1024*2)+1024):=ht.kw;have hsk:∀L z,(z=E.n0\/z=E.n0+1024)->bk (t7 L wr) z=bk L z:=λL z hz=>by
     rw[A4F];exact A1K λq hq=>by
      rcases hwk q hq with h|h
      ·have:=hnz _ h; omega
      ·omega
    have hsk0:=λL=>hsk L E.n0 (.inl rfl);have hsk1:=λL=>hsk L (E.n0+1024) (.inr rfl);refine A3 4000 ?_;simp[he,S1];refine⟨h,?_⟩;refine E5 hP rfl hf s_ (A04.of λq hq=>?_) ?_
    ·have:=hnz q.1 (zw.2 ⟨q,hq,rfl⟩);simp only[bk];rw[zf o_,zf o_,zf o_,zf o_];exact hin q hq
    refine A3 4000 ?_;simp[hsk0,hsk1];have hL0:K8 (bk ((E.n0+(K+1024+2048),some ⟨[.agg [.int .i64 e.kind,.int .i64 e.type,.int .i64 e.id,.int .i64 e.field,.int .i64 e.n,.str e.text]],.agg [.int .i64 0,.int .i64 0,.int .i64 0,.int .i64 0,.int .i64 0,.str []],false,false⟩)::(E.n0+(K+1024+2048),some ⟨[.agg [.int .i64 0,.int .i64 0,.int .i64 0,.int .i64 0,.int .i64 0,.str []]],.agg [.int .i64 0,.int .i64 0,.int .i64 0,.int .i64 0,.int .i64 0,.str []],false,false⟩)::(E.n0,some ⟨[.agg [.sl (l.map I9),.bsl T 0 S.length]],.agg [.sl (l.map I9),A],false,false⟩)::(E.n0+1024,some ⟨[.agg [.nils,.nils]],.agg [.nils,.nils],false,false⟩)::(D4 (trB T S)++W6 R0))) (trB T S):=λq hq=>by
     have:=hnz q.1 (zw.2 ⟨q,hq,rfl⟩);simp only[bk];rw[zf o_,zf o_,zf o_,zf o_];exact hin q hq
    refine hp _ (i+1,T',S',K+1024+21504) ⟨n_,n_,ht.nd,λz hz=>?_,ht.ok,?_,?_,?_⟩ n_ ?_
    ·simp only;rcases ht.nm z hz with h|h
     ·exact (hnm z h).imp _root_.id λh=>by omega
     ·right; omega
    ·simp only;rw[hst]; exact (C1Y hR1 hei hE).1
    ·simp only;rw[hst]; exact hfs
    ·simp only;rw[hst]; exact hfe
    ·refine D9.stayL n_ (t_ hi1) (λq hq b hb=>?_) λq hq=>?_
     ·rcases zi.1 hq with rfl|hq
      ·injection hb with hb; subst hb; simp
      rcases zi.1 hq with rfl|hq
      ·injection hb with hb; subst hb; simp[hsk1]
      rcases zr.1 hq with hq|hq
      ·obtain⟨p,hp,rfl⟩:=A0H hq;injection hb with hb; subst hb
       have hz:p.1<E.n0+(K+1024+4096+1024*2)+1024/\p.1≠E.n0:=by
        rcases ht.nm p.1 (zw.2 ⟨p,hp,rfl⟩) with h|h
        ·have:=hnz _ h; omega
        ·omega
       simp only[bk];rw[zf o_,zf o_,zf o_,A4F];exact ht.has _ hL0 p hp
      ·obtain⟨p,hp,rfl⟩:=s8 hq;cases hb
     ·have hT:∀z,z∈nmT T S->E.n0<=z\/z∈R0.map Prod.fst:=λz hz=>by
       rcases hnm z hz with h|h
       ·exact .inr h
       ·left; omega
      have hfin:E.n0<=q.1\/q.1∈R0.map Prod.fst:=by
       rcases zi.1 hq with rfl|hq
       ·left; simp
       rcases zi.1 hq with rfl|hq
       ·left; simp
       rcases zi.1 hq with rfl|hq
       ·left; simp
       rcases A4O hq with hq|hq
       ·rcases zi.1 hq with rfl|hq
        ·left; simp
        rcases zi.1 hq with rfl|hq
        ·left; simp
        rcases zi.1 hq with rfl|hq
        ·left; simp
        rcases zi.1 hq with rfl|hq
        ·left; simp
        rcases zr.1 hq with hq|hq
        ·obtain⟨p,hp,rfl⟩:=A0H hq;exact hT _ (C5Y hp)
        ·obtain⟨p,hp,rfl⟩:=s8 hq;exact .inr (zw.2 ⟨p,hp,rfl⟩)
       ·rcases hwk q hq with h|h
        ·exact hT _ h
        ·left; omega
      exact hfin.imp _root_.id λh=>hgone _ h _ _ _
   ·have hf:=B8x (id:=E.n0+(K+1024+4096+1024*2)) hnd1 (λz hz=>by have:=hnz z hz; omega) hok1 (B79 hR1) hE;unfold S1 at hf;refine A3 4000 ?_;simp[he,S1];refine⟨h,?_⟩;unfold eS0 at hf;refine E5 hP rfl hf s_ (A04.of λq hq=>?_) ?_
    ·have:=hnz q.1 (zw.2 ⟨q,hq,rfl⟩);simp only[bk];rw[zf o_,zf o_,zf o_,zf o_];exact hin q hq
    refine A3 4000 ?_;simp;refine A7 (v_ hE) ?_;simp;rw[zj hE] at hfe;have hA:A7J (A6 l S0) ev = .agg [.nils,.nils]:=(by unfold A7J eS0; rw[zf (by rw[←hfe]; exact hE)]);rw[hA,←hfe] at hR;rw[hR];refine F5 f_ [] trivial (B0H s_ s_ λq hq=>?_);simp only[zi] at hq;rcases hq with rfl|rfl|rfl|rfl|rfl|rfl|rfl|hq
    all_goals first|(left; simp; done)|skip
    rcases zr.1 hq with hq|hq
    ·obtain⟨p,hp,rfl⟩:=A0H hq;rcases hnm p.1 (zw.2 ⟨p,hp,rfl⟩) with h|h
     ·exact .inr h
     ·left; simp only; omega
    ·obtain⟨p,hp,rfl⟩:=s8 hq;exact .inr (zw.2 ⟨p,hp,rfl⟩)
  ·have h:=zo h;rw[zp o_] at hfs hfe;simp only[Z4,V0] at hfs hfe;refine A3 21 ?_;simp;have hA:A7J (A6 l S0) ev = .agg [.sl (l.map I9),.sl ((S.map I0.t).map Q9)]:=(by unfold A7J; rw[zj hfe.symm,←hfs]; rfl);rw[hA,←hfe] at hR;have hin:∀q∈trB T S,bk (D4 (trB T S)++W6 R0) q.1=some q.2:=λq hq=>A16 (l:=trB T S) hnd1 hq;have hnz:∀z∈nmT T S,z≠E.n0/\z≠E.n0+1024:=λz hz=>by
    rcases hnm z hz with h|h
    ·have:=hlt z h; omega
    ·omega
   refine A6J (D9.deepL 4 ((E.n0+1024,⟨[.agg [.sl (l.map I9),.bsl T 0 S.length]],.agg [.nils,.nils],false,false⟩)::trB T S) (W6 R0) (x:=.ptr (E.n0+1024) 0 0) (y:=.cptr [.sl (l.map I9),.sl ((S.map I0.t).map Q9)]) rfl (λq hq=>?_) ?_ ⟨λy b hy=>?_,λq hq=>?_⟩) ?_
   ·rcases zi.1 hq with rfl|hq
    ·exact⟨A92,rfl⟩
    ·have:=hnz q.1 (zw.2 ⟨q,hq,rfl⟩);refine⟨?_,C6h q hq⟩;simp only[bk];rw[zf o_,zf o_,zf o_];exact hin q hq
   ·refine .ptr _ _ (.agg [.sl (l.map I9),.bsl T 0 S.length]) _ (za ..) rfl rfl λj c d h1 h2=>?_;match j,h1,h2 with
    | 0,h1,h2 =>
     injection h1 with h1; injection h2 with h2
     subst h1 h2; exact .same _
    | 1,h1,h2 =>
     injection h1 with h1; injection h2 with h2
     subst h1 h2;exact B0e hok1 (zb _ (za ..)) λq hq=>zb _ (zb _ hq)
    | j+2,h1,h2=>simp[AV.cells] at h1
   ·rw[C0Z] at hy; cases hy
   ·have hfin:E.n0<=q.1\/q.1∈R0.map Prod.fst:=by
     simp only[zi] at hq;rcases hq with rfl|rfl|rfl|hq
     all_goals first|(left; simp; done)|skip
     rcases zr.1 hq with hq|hq
     ·obtain⟨p,hp,rfl⟩:=A0H hq;rcases hnm p.1 (zw.2 ⟨p,hp,rfl⟩) with h|h
      ·exact .inr h
      ·left; simp only; omega
     ·obtain⟨p,hp,rfl⟩:=s8 hq;exact .inr (zw.2 ⟨p,hp,rfl⟩)
    refine hfin.imp _root_.id λh=>?_;obtain⟨p,hp,e⟩:=zw.1 h;rw[←e];exact B1V hp
   ·refine A3 5 ?_;simp;have hp:F8 (List.map (Q9∘I0.t) S)=true:=E9 (f:=Q9∘I0.t) (λo=>A8g o.t) S;rw[hR];refine F5 f_ [] trivial (B0H s_ (t_ hp) λq hq=>?_);obtain⟨p,hp,rfl⟩:=s8 hq;exact .inr (zw.2 ⟨p,hp,rfl⟩)
def C6i(l:List Ty)(S0:List I0)(T0:Nat)(ev:List Ev)(id:Nat)(hnd:(nmT T0 S0).Nodup)(hok:∀o∈S0,o.Ok)(hR0:Rt (A6 l S0))(hI:∀e∈ev,I64 e.n)(hlen:ev.length<=1000000000000000):
  A2 prog 116 [.agg [.sl (l.map I9),.bsl T0 0 S0.length],.sl (ev.map S1)] (trB T0 S0) id (.tup [A7J (A6 l S0) ev,.int .i64 (V0 (A6 l S0) ev)]) (W6 (trB T0 S0)):=by
 refine C1b l S0 _ _ ev id hok hR0 hI hlen λE hl=>⟨T0,6144,zx _,hnd,λz hz=>.inl hz,?_⟩
 ·refine D9.stayL s_ s_ (λq hq b hb=>?_) λq hq=>?_
  ·rcases zi.1 hq with rfl|hq
   ·injection hb with hb; subst hb; simp
   rcases zi.1 hq with rfl|hq
   ·injection hb with hb; subst hb; simp
   rcases zr.1 hq with hq|hq
   ·obtain⟨p,hp,rfl⟩:=A0H hq;injection hb with hb; subst hb
    have h1:=hl p hp;have:=A16 (M:=[]) (l:=trB T0 S0) hnd hp;rw[xr] at this;simp only[bk];rw[zf o_,zf o_];exact this
   ·obtain⟨p,hp,rfl⟩:=s8 hq;cases hb
  ·rcases zi.1 hq with rfl|hq
   ·left; simp
   rcases zi.1 hq with rfl|hq
   ·left; simp
   obtain⟨p,hp,rfl⟩:=A0H hq;right
   exact .inr (.inr (A1T.2 ⟨_,yq _ hq,rfl⟩))
def C6j(l:List Ty)(ev:List Ev)(id:Nat)(hR0:Rt (A6 l []))(hI:∀e∈ev,I64 e.n)(hlen:ev.length<=1000000000000000):
  A2 prog 116 [.agg [.sl (l.map I9),.nils],.sl (ev.map S1)] (([]:List (Nat×Bx))) id (.tup [A7J (A6 l []) ev,.int .i64 (V0 (A6 l []) ev)]) (W6 (([]:List (Nat×Bx)))):=by
 refine C1b l [] _ [] ev id (λo ho=>(by cases ho)) hR0 hI hlen λE hl=>⟨E.n0+6144,6145,o_,by simp[nmT,nmR,J2],λz hz=>.inr (by simp[nmT,nmR,J2] at hz; omega),?_⟩
 ·refine D9.trans (D9.voidBox E.n0 (by simp; rfl) rfl (.agg [.sl (l.map I9),.nils] [.sl (l.map I9),.bsl (E.n0+6144) 0 0] rfl (λm x y h1 h2=>?_)) zT) ?_
  ·match m,h1,h2 with
   | 0,h1,h2=>injection h1 with h1; injection h2 with h2; subst h1 h2; exact .inl rfl
   | 1,h1,h2=>injection h1 with h1; injection h2 with h2; subst h1 h2; exact .inr ⟨rfl,rfl⟩
   | m+2,h1,h2=>simp at h1
  ·refine D9.stayL s_ s_ (λq hq b hb=>?_) λq hq=>?_
   ·simp only[trB,J2,List.flatMap_nil,D4,W6,uc,xr,zi,yp,or_false] at hq;rcases hq with rfl|rfl|rfl
    ·injection hb with hb; subst hb; simp
    ·injection hb with hb; subst hb; simp
    ·injection hb with hb; subst hb; simp[P9]
   ·left
    simp only[D4,zi,yp,or_false] at hq;rcases hq with rfl|rfl|rfl|rfl<;>simp
def B5k(w:Int)(s:H6):AV:=if w=0 then .sl (s.types.map I9) else .nils
def B5l(w:Int)(s:H6):AV:=if w=0 then .sl (s.things.map Q9) else .nils
def A17(w:Int)(s:H6):AV:=.agg [B5k w s,B5l w s]
def y9(w:Int)(s:H6):A17 w s=if w=0 then H4 s else eS0:=by
 unfold A17 B5k B5l;by_cases h:w=0
 ·rw[zj h,zj h,zj h]; rfl
 ·rw[zf h,zf h,zf h]; rfl
@[simp] theorem C7f (w:Int) (s:H6):(B5k w s).pureB=true:=by unfold B5k; split<;>simp
@[simp] theorem C7g (w:Int) (s:H6):(B5l w s).pureB=true:=by unfold B5l; split<;>simp
@[simp] theorem A5f (w:Int) (s:H6):AV.one (B5k w s)=true:=by unfold B5k; split<;>rfl
@[simp] theorem A5g (w:Int) (s:H6):AV.one (B5l w s)=true:=by unfold B5l; split<;>rfl
def C1c{l:List Ty}(h:H9 l=0):Rt ⟨l,[]⟩ :=
 ⟨h,⟨A5W h,s_,λt ht=>(by cases ht)⟩,⟨λt ht=>(by cases ht),λt ht=>(by cases ht),λi j a b _ ha _=>(by simp at ha)⟩,λt ht=>(by cases ht)⟩
def atE(l:List Ty)(ev:List Ev)(n:Int):Int:=if H9 l≠0 then H9 l else if n<0\/(ev.length:Int)<n then 3 else V0 ⟨l,[]⟩ (ev.take n.toNat)
def atS(l:List Ty)(ev:List Ev)(n:Int):H6:=Z4 ⟨l,[]⟩ (ev.take n.toNat)
def C82(l:List Ty)(ev:List Ev)(n:Int)(id:Nat)(hI:∀e∈ev,I64 e.n)(hlen:ev.length<=1000000000000000):A2 prog 119 [.sl (l.map I9),.sl (ev.map S1),.int .i64 n] [] id (.tup [A17 (atE l ev n) (atS l ev n),.int .i64 (atE l ev n)]) []:=by
 have hC:=λid=>A4J l id;by_cases h0:H9 l=0
 rotate_left
 ·have hE:atE l ev n=H9 l:=by unfold atE; rw[zj h0]
  have hV:A17 (H9 l) (atS l ev n) = .agg [.nils,.nils]:=by rw[y9,zf h0]; rfl
  rw[hE,hV];refine w119.e.1 λE hP hR hl hid=>?_;simp[w119];(refine yH rfl (hC _) ?_; simp);refine⟨λa=>(h0 a).elim,?_⟩;refine A0 (t_ h0) ?_;simp;refine A7 (t_ h0) ?_;simp;exact yP hR
 by_cases h1:n<0\/(ev.length:Int)<n
 ·have hE:atE l ev n=3:=by unfold atE; rw[zf (v_ h0),zj h1]
  have hV:A17 3 (atS l ev n) = .agg [.nils,.nils]:=by rw[y9,zf d_]; rfl
  rw[hE,hV];rw[h0] at hC;refine w119.e.1 λE hP hR hl hid=>?_;simp[w119];(refine yH rfl (hC _) ?_; simp);refine A7 m_ ?_;simp;exact yP hR
 ·have hE:atE l ev n=V0 ⟨l,[]⟩ (ev.take n.toNat):=by unfold atE; rw[zf (v_ h0),zf h1]
  rw[h0] at hC;have hS:=A5W h0;have hO:=λid=>B0W l id (by have:=hS.len; omega) (λt ht=>by have:=hS.fields t ht; omega);have hF:=λid=>C6j l (ev.take n.toNat) id (C1c h0) (λe he=>hI e (xn he)) m_;have hV:A7J (A6 l []) (ev.take n.toNat)=A17 (atE l ev n) (atS l ev n):=by rw[y9,hE]; rfl
  rw[hV,show V0 (A6 l []) (ev.take n.toNat)=atE l ev n by rw[hE]; rfl,yt] at hF;simp only[W6,uc] at hF;unfold A17 at *;refine w119.e.1 λE hP hR hl hid=>?_;simp[w119];(refine yH rfl (hC _) ?_; simp);refine A0 m_ ?_;simp;(refine yH rfl (hO _) ?_; simp);refine⟨⟨λa _=>rfl,o_,o_⟩,?_⟩;(refine yH rfl (hF _) ?_; simp);refine⟨⟨A5f _ _,A5g _ _⟩,?_⟩;exact yP hR
def C1d(l:List Ty)(ev:List Ev)(id:Nat)(hI:∀e∈ev,I64 e.n)(hlen:ev.length<=1000000000000000):A2 prog 58 [.sl (l.map I9),.sl (ev.map S1)] [] id (.tup [A17 (atE l ev ev.length) (atS l ev ev.length),.int .i64 (atE l ev ev.length)]) []:=by
 have hA:=λid=>C82 l ev ev.length id hI hlen;unfold A17 at *;refine w58.e.1 λE hP hR hl hid=>?_;simp[w58];(refine yH rfl (hA _) ?_; simp);refine⟨⟨A5f _ _,A5g _ _⟩,?_⟩;exact yP hR
def A6j(s:H6)(ev:List Ev):Int:=if fSt s≠0 then fSt s else if 8<ev.length then 2 else 0
def C1e(s:H6)(ev:List Ev)(id:Nat):A2 prog 115 [H4 s,.sl (ev.map S1)] [] id (.int .i64 (A6j s ev)) []:=by
 have hC:=λid=>A4x s id;unfold H4 at *;refine w115.e.1 λE hP hR hl hid=>?_;simp[w115];(refine yH rfl (hC _) ?_; simp);refine D0 (λh=>?_) (λh=>?_)<;>simp
 ·have hE:A6j s ev=2:=by unfold A6j; simp at h; rw[zf o_,zj o_]
  rw[hE] at hR;exact yP hR
 ·have hE:A6j s ev=fSt s:=by
   unfold A6j;simp at h;by_cases g:fSt s=0
   ·rw[zf (v_ g),zf (by have:=h g; omega),g]
   ·rw[zj g]
  rw[hE] at hR;exact yP hR
def A9l(s:H6)(ev:List Ev):Int:=if A6j s ev≠0 then A6j s ev else V0 s ev
def B1r{L:List (Nat×Option Bx)}{rd:List (Nat×Bx)}{z:Nat}(h:z∉rd.map Prod.fst):bk (t7 L (W6 rd)) z=bk L z:=by
 rw[A4F];exact A1K λq hq e=>by
  obtain⟨p,hp,rfl⟩:=s8 hq;exact h (e▸zw.2 ⟨p,hp,rfl⟩)
def C1f(s:H6)(ev:List Ev)(id:Nat)(hI:B90 s)(hn:∀e∈ev,I64 e.n):A2 prog 55 [H4 s,.sl (ev.map S1)] [] id (.tup [A17 (A9l s ev) (Z4 s ev),.int .i64 (A9l s ev)]) []:=by
 have hC:=λid=>C1e s ev id;by_cases h0:A6j s ev=0
 rotate_left
 ·have hE:A9l s ev=A6j s ev:=by unfold A9l; rw[zj h0]
  have hV:A17 (A6j s ev) (Z4 s ev) = .agg [.nils,.nils]:=by rw[y9,zf h0]; rfl
  rw[hE,hV];unfold H4 at *;refine w55.e.1 λE hP hR hl hid=>?_;simp[w55];(refine yH rfl (hC _) ?_; simp);refine A7 (v_ h0) ?_;simp;exact yP hR
 have hE:A9l s ev=V0 s ev:=by unfold A9l; rw[zf (v_ h0)]
 rw[h0] at hC;have h8:fSt s=0/\ev.length<=8:=by
  unfold A6j at h0;split at h0
  ·rename_i g; exact (g h0).elim
  ·rename_i g;split at h0
   ·omega
   ·exact⟨zk g,o_⟩
 have hR:=C81 h8.1 hI;obtain⟨hr,hs,hl⟩:=C1V h8.1;have h6:∀x∈s.things,x.cells.length<=16/\∀c∈x.cells,c.ids.length<=1000:=λx hx=>by
  have h1:=(hr.tg x hx).cells6 hr.sch;refine⟨o_,λc hc=>?_⟩;obtain⟨k,hk⟩:=yi.1 hc;obtain⟨f,_,hco⟩:=(hr.tg x hx).cellOk hk;have:=hco.i1; omega
 have h5:=hr.sch.len;have h12:=hr.len;have hW:∀id,A2 prog 117 [H4 s] [] id (.agg [.sl (s.types.map I9),.bsl id 0 s.things.length]) ((id,some ⟨U9 id s.things s.things.length,zT,false,false⟩)::R6 id s.things s.things.length):=λid=>C15 s id o_ (λt ht=>by have:=hr.sch.fields t ht; omega) h12 h6;have h16:∀x∈s.things,x.cells.length<=16:=λx hx=>(h6 x hx).1;have hkey:∀t,∀q∈R6 t s.things s.things.length,t+1<=q.1/\q.1<t+1000:=λt q hq=>by
  obtain⟨y,b⟩:=q;rcases A2U h16 hq with⟨j,h1,h2⟩|⟨j,m,h1,h2,h3⟩<;>simp only<;>omega
 have hF:∀t id,A2 prog 116 [.agg [.sl (s.types.map I9),.bsl t 0 s.things.length],.sl (ev.map S1)] (trB t (A15 t 0 s.things)) id (.tup [A17 (A9l s ev) (Z4 s ev),.int .i64 (A9l s ev)]) (W6 (trB t (A15 t 0 s.things))):=λt id=>by
  have:=C6i s.types (A15 t 0 s.things) t ev id (C6d h16 h12) (B74 t s.things 0) (by rw[C1U]; exact hR) hn o_;rw[C1U,A5c] at this;rw[y9,hE]; exact this
 unfold A17 H4 at *;refine w55.e.1 λE hP hR hl hid=>?_;simp[w55];(refine yH rfl (hC _) ?_; simp);have hsk:∀L z,z<E.n0+10240->bk (t7 L (R6 (E.n0+10240) s.things s.things.length)) z=bk L z:=λL z hz=>by
  rw[A4F];exact A1K λq hq=>by have:=hkey _ q hq; omega
 have hin:∀L,∀q∈trB (E.n0+10240) (A15 (E.n0+10240) 0 s.things),bk (t7 ((E.n0+10240,some ⟨U9 (E.n0+10240) s.things s.things.length,zT,false,false⟩)::L) (R6 (E.n0+10240) s.things s.things.length)) q.1=some q.2:=λL q hq=>by
  have hm:=C6c hq;rw[A4F];rcases zi.1 hm with hm|hm
  ·injection hm with h1 h2
   rw[A1K λq' hq'=>by have:=hkey _ q' hq'; omega,h1,h2];exact A92
  ·exact B3w (Y2 (S:=λ_=>True) h16 s.things.length h12 (λ_ _=>trivial) λ_ _ _ _=>trivial).nd hm
 have hsk2:∀L z,z<E.n0+10240->bk (t7 L (W6 (trB (E.n0+10240) (A15 (E.n0+10240) 0 s.things)))) z=bk L z:=λL z hz=>B1r λhm=>by
  have:=C1T h16 h12 z hm; omega
 refine E5 hP rfl (hW _) s_ s_ ?_;refine A3 4 ?_;simp;refine E5 hP rfl (hF (E.n0+10240) _) s_ (A04.of (hin _)) ?_;refine A3 4000 ?_;simp[hsk,hsk2];refine⟨⟨A5f _ _,A5g _ _⟩,?_⟩;rw[hR];refine F5 f_ [] trivial (S9 s_ s_ (A0C λq hq=>?_));rcases zi.1 hq with rfl|hq
 ·simp
 rcases A4O hq with hq|hq
 ·rcases A4O hq with hq|hq
  ·simp only[zi,yp,or_false] at hq;rcases hq with rfl|rfl|rfl<;>simp
  ·have:=hkey _ q hq; omega
 ·obtain⟨p,hp,rfl⟩:=s8 hq;have:=C1T h16 h12 _ (C5Y hp);simp only; omega
def ag0:Ag:=⟨[],false,[],0⟩
def V2(l:List Ag)(n:List UInt8):Ag:=(l.find? (λx=>x.name==n)).getD ag0
def C1g(l:List Ag)(n:List UInt8):(E0 (λx=>x.name==n) l 0 = -1/\A2x l n=false/\V2 l n=ag0)\/∃k:Nat,E0 (λx=>x.name==n) l 0=(k:Int)/\k<l.length/\l[k]?=some (V2 l n)/\A2x l n=true:=by
 have ha:decide (0<=E0 (λx:Ag=>x.name==n) l 0)=A2x l n:=V4 _ l 0;rcases S3 (λx:Ag=>x.name==n) l 0 with⟨h1,h2⟩|⟨k,x,h1,h2,h3⟩
 ·refine .inl ⟨h2,?_,?_⟩
  ·rw[←ha,h2]; rfl
  ·unfold V2; rw[h1]; rfl
 ·have hk:k<l.length:=by
   have:=ze.1 h1;exact this.1
  refine .inr ⟨k,by rw[h2]; simp,hk,?_,?_⟩
  ·unfold V2; rw[h3,h1]; rfl
  ·rw[←ha,h2]; simp
def eMk(l:List Ty)(s:C5):AV:=.agg [.sl (l.map I9),.str s.alias,.str s.name,.sl (s.args.map s6),.sl (s.kids.map C6)]
def C1h(x:Ag)(j:Nat)(name:List UInt8)(id:Nat):A2 prog 272 [s6 x,.ptr j 0 0] [(j,⟨[.str name],.str name,false,false⟩)] id (.bool (x.name==name)) []:=by
 unfold s6;refine w272.e.1 λE hP hR hl hid=>?_;simp[w272];have hj:=hl (j,_) (za ..);simp only at hj;have j1:=lf hj;simp[j1];refine yE hR [] s_ λhrn=>⟨?_,?_,?_,?_,?_,?_⟩<;>(try simp[j1])
def B5m(l:List Ag)(j:Nat)(name:List UInt8)(id:Nat)(hl8:l.length<9223372036854775807):A2 prog 271 [.sl (l.map s6),.fn 272 [.ptr j 0 0]] [(j,⟨[.str name],.str name,false,false⟩)] id (.int .i64 (E0 (λx=>x.name==name) l 0)) []:=by
 refine w271.e.1 λE hP hR hl hid=>?_;simp[w271];have hj:=hl (j,_) (za ..);simp only at hj;have j1:=lf hj;refine B9 (X:=Nat) (λi=>⟨[(0,true,.sl (l.map s6)),(1,true,.fn 272 [.ptr j 0 0]),(7,true,.int .i64 l.length),(8,true,.int .i64 i)],[(j,some (⟨[.str name],.str name,false,false⟩))],0⟩) (λi=>i<=l.length/\E0 (λx=>x.name==name) (l.drop i) i=E0 (λx=>x.name==name) l 0) (λi=>l.length - i) 0 ?_ ⟨o_,rfl⟩ ?_
 ·refine yV [] s_ λhrn=>⟨?_,?_,?_,?_,?_⟩<;>(try simp[j1])
 ·rintro i ⟨hi,hf⟩ p hp;refine A3 4000 ?_;simp;refine D0 (λh=>?_) (λh=>?_)
  ·have h:=zq h;obtain⟨x,hx,hd⟩:=A5 h;have hcl:=C1h x j name;simp only[U3 x] at hcl;rw[hd] at hf;simp only[E0] at hf;have hi1:IntKind.i64.wrap ((i:Int)+1)=((i+1:Nat):Int):=wrap64 o_;simp[hx,U3 x];refine⟨h,?_⟩;refine E8 hP rfl rfl (hcl _) s_ f_ ?_;refine A3 4000 ?_;simp;refine D0 (λh1=>?_) (λh1=>?_)
   ·simp;rw[zj h1] at hf;rw[←hf] at hR;refine yE hR [] s_ λhrn=>⟨?_,?_,?_,?_,?_,?_⟩<;>(try simp[j1])
   ·simp;rw[zf (v_ h1)] at hf;refine hp _ (i+1) ⟨h,hf⟩ o_ ?_;refine yV [] s_ λhrn=>⟨?_,?_,?_,?_,?_⟩<;>(try simp[hi1,j1])
  ·have h:=zo h;simp;rw[zp o_] at hf;rw[←hf] at hR;refine yE hR [] s_ λhrn=>⟨?_,?_,?_,?_,?_,?_⟩<;>(try simp[j1,E0])
def A5h(l:List Ty)(s:C5)(J:Nat)(name:List UInt8)(id:Nat)(hl8:s.args.length<9223372036854775807):A2 prog 228 [.ptr J 0 0,.str name] [(J,⟨[eMk l s],eMk l s,false,false⟩)] id (.tup [s6 (V2 s.args name),.bool (A2x s.args name)]) []:=by
 have hI:=λid=>B5m s.args id name;unfold eMk;simp only[U3 (V2 s.args name)];refine w228.e.1 λE hP hR hl hid=>?_;simp[w228];have hJ:=hl (J,_) (za ..);simp only at hJ;have J1:=lf hJ;simp[J1];(refine yC rfl (hI E.n0 _ hl8) ?_; simp);rcases C1g s.args name with⟨h1,h2,h3⟩|⟨k,h1,hk,h2,h3⟩
 ·rw[h2,h3] at hR;refine A7 (by rw[h1]; decide) ?_;simp;refine yE hR [] s_ λhrn=>⟨?_,?_,?_,?_,?_,?_⟩<;>(try simp[J1,ag0])
 ·rw[h3] at hR;refine A0 (by rw[h1]; simp) ?_;rw[h1];simp[J1,h2,U3 (V2 s.args name)];refine⟨hk,?_⟩;refine yE hR [] s_ λhrn=>⟨?_,?_,?_,?_,?_,?_⟩<;>(try simp[J1])
def A1u:List UInt8:=[116,121,112,101]
def nId:List UInt8:=[105,100]
def A0I:List UInt8:=[102,105,101,108,100]
def X0:List UInt8:=[116,101,120,116]
def X1:List UInt8:=[110,117,109,98,101,114]
def nTo:List UInt8:=[116,111]
def A7K:List UInt8:=[109,97,107,101]
def A93:List UInt8:=[100,114,111,112]
def B1s:List UInt8:=[115,101,116]
def B0k:List UInt8:=[108,105,110,107]
def C1i:List UInt8:=[99,117,116]
def X3(s:C5):Int:=if s.name=A7K then 1 else if s.name=A93 then 2 else if s.name=B1s then (if A2x s.args X0=true then 4 else 3) else if s.name=B0k then 5 else if s.name=C1i then 6 else 0
def B1t(k:Int):List UInt8:=if k=3 then X1 else if k=4 then X0 else nTo
def T5(k:Int):List (List UInt8):=if k=1\/k=2 then [A1u,nId] else [A1u,nId,A0I,B1t k]
def A94(k:Int):AV:=if k=0 then .nils else .sl ((T5 k).map .str)
def C5Z{k:Int}(h:k=1\/k=2):A94 k = .sl [.str [116,121,112,101],.str [105,100]]:=by
 unfold A94 T5; rw[zf o_,zj h]; rfl
theorem C83:A94 3 = .sl [.str [116,121,112,101],.str [105,100],.str [102,105,101,108,100],.str [110,117,109,98,101,114]]:=rfl
theorem C84:A94 4 = .sl [.str [116,121,112,101],.str [105,100],.str [102,105,101,108,100],.str [116,101,120,116]]:=rfl
def C5a{k:Int}(h:k=5\/k=6):A94 k = .sl [.str [116,121,112,101],.str [105,100],.str [102,105,101,108,100],.str [116,111]]:=by
 unfold A94 T5 B1t; rw[zf o_,zf o_,zf o_,zf o_]; rfl
def C85{s:C5}(h:(s.name==A7K)=true):X3 s=1:=by unfold X3; rw[zj (v_ h)]
def C86{s:C5}(a:(s.name==A7K)=false)(h:(s.name==A93)=true):X3 s=2:=by unfold X3; rw[zf (v_ a),zj (v_ h)]
def C87{s:C5}(a:(s.name==A7K)=false)(b:(s.name==A93)=false)(h:(s.name==B1s)=true)(t:A2x s.args X0=true):X3 s=4:=by
 unfold X3; rw[zf (v_ a),zf (v_ b),zj (v_ h),zj t]
def C88{s:C5}(a:(s.name==A7K)=false)(b:(s.name==A93)=false)(h:(s.name==B1s)=true)(t:A2x s.args X0=false):X3 s=3:=by
 unfold X3; rw[zf (v_ a),zf (v_ b),zj (v_ h),zf (v_ t)]
def C89{s:C5}(a:(s.name==A7K)=false)(b:(s.name==A93)=false)(c:(s.name==B1s)=false)(h:(s.name==B0k)=true):X3 s=5:=by
 unfold X3; rw[zf (v_ a),zf (v_ b),zf (v_ c),zj (v_ h)]
def C8A{s:C5}(a:(s.name==A7K)=false)(b:(s.name==A93)=false)(c:(s.name==B1s)=false)(d:(s.name==B0k)=false)(h:(s.name==C1i)=true):X3 s=6:=by
 unfold X3; rw[zf (v_ a),zf (v_ b),zf (v_ c),zf (v_ d),zj (v_ h)]
def C8B{s:C5}(a:(s.name==A7K)=false)(b:(s.name==A93)=false)(c:(s.name==B1s)=false)(d:(s.name==B0k)=false)(h:(s.name==C1i)=false):X3 s=0:=by
 unfold X3; rw[zf (v_ a),zf (v_ b),zf (v_ c),zf (v_ d),zf (v_ h)]
def C1j(l:List Ty)(s:C5)(J:Nat)(id:Nat)(hl8:s.args.length<9223372036854775807):A2 prog 225 [.ptr J 0 0] [(J,⟨[eMk l s],eMk l s,false,false⟩)] id (A94 (X3 s)) []:=by
 have hF:=λid=>A5h l s J X0 id hl8;unfold eMk X0 at hF;simp only[U3] at hF;unfold eMk;refine w225.e.1 λE hP hR hl hid=>?_;simp[w225];have hJ:=hl (J,_) (za ..);simp only at hJ;have J1:=lf hJ;refine D0 (λh1=>?_) (λh1=>?_)<;>simp
 ·refine A7 h1 ?_;simp;rw[C85 h1,C5Z (.inl rfl)] at hR;have hrn:F7 []:=by simp
  rw[hR];refine J0 f_ (by simp<;>exact⟨rfl,rfl⟩) [] hrn ⟨?_,?_,?_,?_,?_,?_⟩<;>(try simp[J1]);exact A4 _ rfl
 refine D0 (λh2=>?_) (λh2=>?_)<;>simp
 ·rw[C86 h1 h2,C5Z (.inr rfl)] at hR;have hrn:F7 []:=by simp
  rw[hR];refine J0 f_ (by simp<;>exact⟨rfl,rfl⟩) [] hrn ⟨?_,?_,?_,?_,?_,?_⟩<;>(try simp[J1]);exact A4 _ rfl
 refine D0 (λh3=>?_) (λh3=>?_)<;>simp
 ·(refine yC rfl (hF _) ?_; simp);refine D0 (λh4=>?_) (λh4=>?_)<;>simp
  ·rw[C87 h1 h2 h3 h4,C84] at hR;have hrn:F7 []:=s_;rw[hR];refine J0 f_ (by simp<;>exact⟨rfl,rfl⟩) [] hrn ⟨?_,?_,?_,?_,?_,?_⟩<;>(try simp[J1]);exact A4 _ rfl
  ·rw[C88 h1 h2 h3 h4,C83] at hR;have hrn:F7 []:=s_;rw[hR];refine J0 f_ (by simp<;>exact⟨rfl,rfl⟩) [] hrn ⟨?_,?_,?_,?_,?_,?_⟩<;>(try simp[J1]);exact A4 _ rfl
 refine D0 (λh4=>?_) (λh4=>?_)<;>simp
 ·refine A7 h4 ?_;simp;rw[C89 h1 h2 h3 h4,C5a (.inl rfl)] at hR;have hrn:F7 []:=by simp
  rw[hR];refine J0 f_ (by simp<;>exact⟨rfl,rfl⟩) [] hrn ⟨?_,?_,?_,?_,?_,?_⟩<;>(try simp[J1]);exact A4 _ rfl
 refine D0 (λh5=>?_) (λh5=>?_)<;>simp
 ·rw[C8A h1 h2 h3 h4 h5,C5a (.inr rfl)] at hR;have hrn:F7 []:=by simp
  rw[hR];refine J0 f_ (by simp<;>exact⟨rfl,rfl⟩) [] hrn ⟨?_,?_,?_,?_,?_,?_⟩<;>(try simp[J1]);exact A4 _ rfl
 ·rw[C8B h1 h2 h3 h4 h5,show A94 0 = .nils from rfl] at hR;refine yE hR [] s_ λhrn=>⟨?_,?_,?_,?_,?_,?_⟩<;>(try simp[J1])
def C4U(l:List Ty)(s:C5)(J:Nat)(id:Nat)(hl8:s.args.length<9223372036854775807)(hk:X3 s≠0):A2 prog 227 [.ptr J 0 0] [(J,⟨[eMk l s],eMk l s,false,false⟩)] id (.int .i64 (X3 s)) []:=by
 have hF:=λid=>A5h l s J X0 id hl8;unfold eMk X0 at hF;simp only[U3] at hF;unfold eMk;refine w227.e.1 λE hP hR hl hid=>?_;simp[w227];have hJ:=hl (J,_) (za ..);simp only at hJ;have J1:=lf hJ;refine D0 (λh1=>?_) (λh1=>?_)<;>simp
 ·rw[C85 h1] at hR;refine yE hR [] s_ λhrn=>⟨?_,?_,?_,?_,?_,?_⟩<;>(try simp[J1])
 refine D0 (λh2=>?_) (λh2=>?_)<;>simp
 ·rw[C86 h1 h2] at hR;refine yE hR [] s_ λhrn=>⟨?_,?_,?_,?_,?_,?_⟩<;>(try simp[J1])
 refine D0 (λh4=>?_) (λh4=>?_)<;>simp
 ·have h3:(s.name==B1s)=false:=by
   have:s.name=B0k:=by simpa [B0k] using h4
   rw[this]; rfl
  rw[C89 h1 h2 h3 h4] at hR;refine yE hR [] s_ λhrn=>⟨?_,?_,?_,?_,?_,?_⟩<;>(try simp[J1])
 refine D0 (λh5=>?_) (λh5=>?_)<;>simp
 ·have h3:(s.name==B1s)=false:=by
   have:s.name=C1i:=by simpa [C1i] using h5
   rw[this]; rfl
  rw[C8A h1 h2 h3 h4 h5] at hR;refine yE hR [] s_ λhrn=>⟨?_,?_,?_,?_,?_,?_⟩<;>(try simp[J1])
 have h3:(s.name==B1s)=true:=zk λh3=>hk (C8B h1 h2 (v_ h3) h4 h5);(refine yC rfl (hF _) ?_; simp);refine D0 (λh6=>?_) (λh6=>?_)<;>simp
 ·rw[C87 h1 h2 h3 h6] at hR;refine yE hR [] s_ λhrn=>⟨?_,?_,?_,?_,?_,?_⟩<;>(try simp[J1])
 ·rw[C88 h1 h2 h3 h6] at hR;refine yE hR [] s_ λhrn=>⟨?_,?_,?_,?_,?_,?_⟩<;>(try simp[J1])
def isT(n:List UInt8):Bool:=n==A1u||n==A0I||n==X0
def A5i(l:List Ag):List (List UInt8)->Int->Int
 | [],w=>w
 | n::r,w=>if A2x l n=false then 1 else A5i l r (if (V2 l n).isText=isT n then w else 7)
def A0o(l:List Ag)(ns:List (List UInt8)):Int:=if l.length≠ns.length then 1 else A5i l ns 0
def A1v(S:Nat->Prop)(l:List (List UInt8)):F4 S (l.map .str):=A4 _ (E9 (λ_=>rfl) l)
def C1k(l:List Ty)(s:C5)(ns:List (List UInt8))(J:Nat)(id:Nat)(hl8:s.args.length<9223372036854775807)(hn8:ns.length<=1000):A2 prog 226 [.ptr J 0 0,.sl (ns.map .str)] [(J,⟨[eMk l s],eMk l s,false,false⟩)] id (.int .i64 (A0o s.args ns)) []:=by
 have hF:=λn id=>A5h l s J n id hl8;unfold eMk at hF;simp only[U3 (V2 _ _)] at hF;unfold eMk;refine w226.e.1 λE hP hR hl hid=>?_;simp[w226];have hJ:=hl (J,_) (za ..);simp only at hJ;have J1:=lf hJ;refine D0 (λh1=>?_) (λh1=>?_)<;>simp
 ·have e:A0o s.args ns=1:=by unfold A0o; rw[zj (by simp at h1; omega)]
  rw[e] at hR;refine yE hR [] s_ λhrn=>⟨?_,?_,?_,?_,?_,?_⟩<;>(try simp[J1])
 have e:A0o s.args ns=A5i s.args ns 0:=by unfold A0o; rw[zf (by simp at h1; omega)]
 rw[e] at hR;refine B9 (X:=Nat×Int) (λx=>⟨[(0,true,.ptr J 0 0),(5,true,.int .i64 x.2),(19,true,.sl (ns.map .str)),(20,true,.int .i64 ns.length),(21,true,.int .i64 x.1)],[(J,some ⟨[.agg [.sl (l.map I9),.str s.alias,.str s.name,.sl (s.args.map s6),.sl (s.kids.map C6)]],.agg [.sl (l.map I9),.str s.alias,.str s.name,.sl (s.args.map s6),.sl (s.kids.map C6)],false,false⟩)],0⟩) (λx=>x.1<=ns.length/\A5i s.args (ns.drop x.1) x.2=A5i s.args ns 0) (λx=>ns.length - x.1) (0,0) ?_ ⟨s_,rfl⟩ ?_
 ·refine yV [] s_ λhrn=>⟨?_,?_,?_,?_,?_⟩<;>(try simp[A1v,J1])
 ·rintro⟨i,w⟩ ⟨hi,hf⟩ p hp;simp only at hi hf hp;refine A3 4000 ?_;simp;refine D0 (λh=>?_) (λh=>?_)
  ·have h:=zq h;obtain⟨x,hx,hd⟩:=A5 h;rw[hd] at hf;simp only[A5i] at hf;have hi1:IntKind.i64.wrap ((i:Int)+1)=((i+1:Nat):Int):=wrap64 o_;simp[hx];refine⟨h,?_⟩;(refine yC rfl (hF x _) ?_; simp);refine D0 (λh2=>?_) (λh2=>?_)<;>simp
   ·rw[zj (v_ h2)] at hf;rw[←hf] at hR;refine yE hR [] s_ λhrn=>⟨?_,?_,?_,?_,?_,?_⟩<;>(try simp[J1])
   ·rw[zf (v_ h2)] at hf;refine D0 (λh3=>?_) (λh3=>?_)<;>simp
    ·refine hp _ (i+1,7) ⟨h,?_⟩ (by simp only[]; omega) ?_
     ·rw[←hf,zf];simpa [isT,A1u,A0I,X0] using h3
     ·refine yV [] s_ λhrn=>⟨?_,?_,?_,?_,?_⟩<;>(try simp[hi1,A1v,J1])
    ·refine hp _ (i+1,w) ⟨h,?_⟩ (by simp only[]; omega) ?_
     ·rw[←hf,zj];simpa [isT,A1u,A0I,X0] using h3
     ·refine yV [] s_ λhrn=>⟨?_,?_,?_,?_,?_⟩<;>(try simp[hi1,A1v,J1])
  ·have h:=zo h;simp;rw[zp o_] at hf;rw[←hf] at hR;refine yE hR [] s_ λhrn=>⟨?_,?_,?_,?_,?_,?_⟩<;>(try simp[J1,A5i])
def B0l{l:List Ag}(h:Z8 l=0):l.length<=5/\∀a∈l,A8l a=0:=by
 unfold Z8 at h;split at h
 ·omega
 ·refine⟨o_,λa ha=>?_⟩;obtain⟨i,hi⟩:=yi.1 ha;have h0:=R5 _ _ _ h i a hi;unfold A3F at h0;split at h0
  ·rename_i g; exact (g h0).elim
  ·split at h0
   ·omega
   ·exact h0
def B92{a:Ag}(h:A8l a=0): -999999999<=a.n/\a.n<=999999999/\a.text.length<=40:=by
 unfold A8l at h;split at h
 ·omega
 ·split at h
  ·omega
  ·split at h
   ·omega
   ·rename_i g; omega
def C1l(l:List Ag)(n:List UInt8):V2 l n=ag0\/V2 l n∈l:=by
 rcases C1g l n with⟨_,_,h⟩|⟨k,_,_,h,_⟩
 ·exact .inl h
 ·exact .inr (zg h)
def B1u{l:List Ag}(h:Z8 l=0)(n:List UInt8): -999999999<=(V2 l n).n/\(V2 l n).n<=999999999/\(V2 l n).text.length<=40:=by
 rcases C1l l n with e|e
 ·rw[e]; exact⟨d_,d_,d_⟩
 ·exact B92 ((B0l h).2 _ e)
def B93{l:List Ag}{n:List UInt8}(h:A2x l n=false):V2 l n=ag0:=by
 rcases C1g l n with⟨_,_,e⟩|⟨k,_,_,_,e⟩
 ·exact e
 ·rw[h] at e; cases e
def A52{l:List Ag}:∀{ns:List (List UInt8)} {w:Int},A5i l ns w=0->w=0/\∀n∈ns,A2x l n=true/\(V2 l n).isText=isT n
 | [],w,h=>⟨h,λn hn=>by cases hn⟩
 | n::r,w,h=>by
  simp only[A5i] at h;split at h
  ·omega
  ·rename_i g;obtain⟨e,hr⟩:=A52 h;split at e
   ·rename_i g2;refine⟨e,λm hm=>?_⟩;rcases zi.1 hm with rfl|hm
    ·exact⟨v_ g,g2⟩
    ·exact hr m hm
   ·omega
def C1m{n:List UInt8}:∀{ns l:List (List UInt8)},ns.Nodup->(∀m∈ns,m∈l)->n∈l->n∉ns->ns.length<l.length
 | [],l,_,_,hn,_=>qc hn
 | a::r,l,hd,hs,hn,hnn=>by
  obtain⟨h1,h2⟩:=xd.1 hd;have ha:=hs a s_;have ih:=C1m (n:=n) (ns:=r) (l:=l.erase a) h2 (λm hm=>(List.mem_erase_of_ne (by rintro rfl; exact h1 hm)).2 (hs m (t_ hm))) ((List.mem_erase_of_ne (by rintro rfl; exact hnn s_)).2 hn) (λe=>hnn (t_ e));have h3:=List.length_erase_of_mem ha;have h4:=qc ha;simp only[zt];omega
def B47{l:List Ag}{n:List UInt8}:A2x l n=true↔n∈l.map Ag.name:=by
 unfold A2x;rw[vo,zw];constructor
 ·rintro⟨a,h1,h2⟩; exact⟨a,h1,v_ h2⟩
 ·rintro⟨a,h1,h2⟩; exact⟨a,h1,v_ h2⟩
def B0m{l:List Ag}{ns:List (List UInt8)}{n:List UInt8}(hd:ns.Nodup)(hl:l.length=ns.length)(ha:∀m∈ns,A2x l m=true)(hn:n∉ns):A2x l n=false:=by
 refine zk λh=>?_;have h:A2x l n=true:=by simpa using h
 have:=C1m hd (λm hm=>B47.1 (ha m hm)) (B47.1 h) hn;simp at this;omega
def B5n(s:C5):0<=X3 s/\X3 s<=6:=by
 unfold X3;repeat' split
 all_goals omega
def B0n(s:C5):X3 s=0\/X3 s=1\/X3 s=2\/X3 s=3\/X3 s=4\/X3 s=5\/X3 s=6:=by have:=B5n s; omega
def B0o(k:Int):List (List UInt8):=if k=1\/k=2 then [] else [A0I,B1t k]
def A1w(k:Int):T5 k=A1u::nId::B0o k:=by unfold T5 B0o; split<;>rfl
def A5j{k:Int}(h:1<=k/\k<=6):(T5 k).Nodup:=by
 have:k=1\/k=2\/k=3\/k=4\/k=5\/k=6:=by omega
 rcases this with rfl|rfl|rfl|rfl|rfl|rfl<;>decide
def tyI(l:List Ty)(s:C5):Int:=B8 l (V2 s.args A1u).text
def fdI(l:List Ty)(s:C5):Int:=E0 (λf=>f.name==(V2 s.args A0I).text) (D5 l (tyI l s)) 0
def mkE(l:List Ty)(s:C5):Int :=
 if s.kids≠[] then 4 else if X3 s=0 then 5 else if A0o s.args (T5 (X3 s))≠0 then A0o s.args (T5 (X3 s))
 else if tyI l s<0 then 5 else if 2<X3 s/\fdI l s<0 then 5 else 0
def B94(s:C5):Ag:=if 2<X3 s then V2 s.args (B1t (X3 s)) else ag0
def mkX(l:List Ty)(s:C5):Ev:=⟨X3 s,tyI l s,(V2 s.args nId).n,if 2<X3 s then fdI l s else 0,(B94 s).n,(B94 s).text⟩
def evX(l:List Ty)(s:C5):Ev:=if mkE l s=0 then mkX l s else ⟨0,0,0,0,0,[]⟩
def nm3:Nat->List UInt8|0=>X1|1=>nTo|_=>X0
def sN(l:List Ag):Nat->Int|0=>0|i+1=>sN l i+(V2 l (nm3 i)).n
def sT(l:List Ag):Nat->List UInt8|0=>[]|i+1=>sT l i++(V2 l (nm3 i)).text
def C4V{l:List Ag}(h:Z8 l=0):∀i:Nat,-(999999999*(i:Int))<=sN l i/\sN l i<=999999999*(i:Int)/\(sT l i).length<=40*i
 | 0=>⟨by simp[sN],by simp[sN],by simp[sT]⟩
 | i+1=>by
  have h1:=C4V h i;have h2:=B1u h (nm3 i);simp only[sN,sT,zu];omega
def s3{s:C5}(hk:X3 s≠0)(h:A0o s.args (T5 (X3 s))=0):sN s.args 3=(B94 s).n/\sT s.args 3=(B94 s).text:=by
 unfold A0o at h;split at h
 ·omega
 rename_i hl;have hl:s.args.length=(T5 (X3 s)).length:=by omega
 have ha:=λm hm=>((A52 h).2 m hm).1;have hd:=A5j (k:=X3 s) (by have:=B5n s; omega);have no:=λ(n:List UInt8) (hn:n∉T5 (X3 s))=>B93 (B0m hd hl ha hn);simp only[sN,sT,nm3];unfold B94;have c:=B0n s;generalize X3 s=k at *;rcases c with rfl|rfl|rfl|rfl|rfl|rfl|rfl
 ·exact (hk rfl).elim
 ·rw[no X1 d_,no nTo d_,no X0 d_,zf d_]; exact⟨rfl,rfl⟩
 ·rw[no X1 d_,no nTo d_,no X0 d_,zf d_]; exact⟨rfl,rfl⟩
 ·rw[no nTo d_,no X0 d_,zj d_,show B1t 3=X1 from rfl]; simp[ag0]
 ·rw[no nTo d_,no X1 d_,zj d_,show B1t 4=X0 from rfl]; simp[ag0]
 ·rw[no X0 d_,no X1 d_,zj d_,show B1t 5=nTo from rfl]; simp[ag0]
 ·rw[no X0 d_,no X1 d_,zj d_,show B1t 6=nTo from rfl]; simp[ag0]
def B95{s:C5}(hk:X3 s≠0)(h:A0o s.args (T5 (X3 s))=0):A2x s.args A0I=decide (2<X3 s):=by
 unfold A0o at h;split at h
 ·omega
 rename_i hl;have hl:s.args.length=(T5 (X3 s)).length:=by omega
 have ha:=λm hm=>((A52 h).2 m hm).1;have hd:=A5j (k:=X3 s) (by have:=B5n s; omega);have no:=λ(n:List UInt8) (hn:n∉T5 (X3 s))=>B0m hd hl ha hn;have c:=B0n s;generalize X3 s=k at *;rcases c with rfl|rfl|rfl|rfl|rfl|rfl|rfl
 ·exact (hk rfl).elim
 ·rw[no A0I d_]; rfl
 ·rw[no A0I d_]; rfl
 all_goals rw[ha A0I d_]; rfl
end Go.Am
