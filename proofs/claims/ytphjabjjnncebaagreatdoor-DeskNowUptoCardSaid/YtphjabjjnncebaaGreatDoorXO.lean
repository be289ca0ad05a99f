/- Parts of the proof: an abstract machine for Go functions, and what functions of the program give back (Pu4, Dw2, Rd2, Bf2, Un1, CcH, Hi1, Hi2, Hi3, Ch1, Ch2, Ch3, Ch4). No condition. -/
import Derived.Test.YtphjabjjnncebaaGreatDoorXN
import Derived.Test.YtphjabjjnncebaaGreatDoorXI
import Derived.Test.YtphjabjjnncebaaGreatDoorXK
import Derived.Test.YtphjabjjnncebaaGreatDoorXG
import Derived.Test.YtphjabjjnncebaaGreatDoorXF
import Derived.Test.YtphjabjjnncebaaGreatDoorXJ
import Derived.Test.YtphjabjjnncebaaGreatDoorXH
set_option maxRecDepth 100000
set_option linter.all false
set_option maxHeartbeats 4000000
namespace Go.Am
open Go Go.Proofs Go.RowKit Go.Proofs.Tryz
/-! An event of one thing leaves all others. -/
def Q4(l:List Bt):List Ev:=l.flatMap (·.events)
def bxQ(x y:AV)(bs:List Bt):Bx:=⟨[.agg [x,y,.sl (bs.map eBt)]],.agg [.nils,.nils,.sl (bs.map eBt)],false,false⟩
def bxO(s:H7)(bs:List Bt):Bx:=bxQ (.sl (s.types.map I7)) (.sl (s.things.map W3)) bs
def A8j{l:List Bt}(h:∀b∈l,b.events.length<=8):(Q4 l).length<=8*l.length:=by
 induction l with
 | nil=>simp[Q4]
 | cons b r ih =>
  have h1:=h b (za ..);have h2:=ih λx hx=>h x (zb _ hx);simp only[Q4,xx,zx,zt] at h2 ⊢; omega
def B0L(j:Nat)(x y:AV)(hx:x.pureB=true)(hy:y.pureB=true)(bs:List Bt)(n:Nat)(hn:n<=bs.length)(id:Nat)(h8:bs.length<=10000)(he:∀b∈bs,b.events.length<=8):A2 prog 59 [.ptr j 0 0,.int .i64 n] [(j,bxQ x y bs)] id (.sl ((Q4 (bs.take n)).map S7)) []:=by
 unfold bxQ;refine w59.e.1 λE hP hR hl hid=>?_;simp[w59];have hj:=hl (j,_) (za ..);simp only at hj;have j1:=lf hj;simp[j1,hn];have htl:(bs.take n).length=n:=by rw[zz]; omega
 have hte:∀b∈bs.take n,b.events.length<=8:=λb hb=>he b (xq hb);have hall:=A8j hte;refine⟨λa _=>rfl,?_⟩;rw[←yy];generalize bs.take n=ts at *;refine C1 (X:=Nat×List Ev) (λq=>⟨[(13,true,.sl (ts.map eBt)),(14,true,.int .i64 n),(15,true,.int .i64 q.1),(5,true,.bsl E.n0 0 q.2.length)],[(j,some ⟨[.agg [x,y,.sl (bs.map eBt)]],.agg [.nils,.nils,.sl (bs.map eBt)],false,false⟩),(E.n0,some (bxE q.2 false))],1⟩)
  (λq=>q.1<=n/\q.2++Q4 (ts.drop q.1)=Q4 ts) (λq=>n - q.1) (0,[]) ?_ ⟨s_,rfl⟩ ?_
 ·refine D5.trans (D5.voidSlot 5 (x:=.nils) s_ .nils (.agg [.int .i64 0,.int .i64 0,.int .i64 0,.int .i64 0,.int .i64 0,.str []])) ?_;refine yV [(E.n0,E.n0+10240)] (by simp[bxE,j1]) λhrn=>⟨?_,?_,?_,?_,?_⟩<;>(try simp[bxE,j1]);all_goals exact⟨L2 rfl hx,L2 rfl hy⟩
 rintro⟨i,acc⟩ ⟨hi,ha⟩ p hp;simp only at hi ha;have hal:acc.length<=80000:=by
  have:=congrArg List.length ha;rw[zx] at this; omega
 rcases yi i n with h|h
 rotate_left
 ·rw[zo o_] at ha;have ha:acc=Q4 ts:=by simpa [Q4] using ha
  rw[←ha] at hR;refine A3 4000 ?_;simp[ux.2 h];have hrn:F3 []:=by simp[bxE,j1,A4 hid]
  rw[hR];refine I6 f_ (by simp[bxE,j1,A4 hid]<;>exact⟨rfl,rfl⟩) [] hrn ⟨?_,?_,?_,?_,?_,?_⟩<;>(try simp[bxE,j1,A4 hid]);all_goals exact⟨L2 rfl hx,L2 rfl hy⟩
 obtain⟨b,hb,hd⟩:=A8 (show i<ts.length by omega);have hi1:IntKind.i64.wrap ((i:Int)+1)=((i+1:Nat):Int):=wrap64 o_;have hbl:b.events.length<=8:=hte b (zg hb);rw[hd] at ha;have ha:(acc++b.events)++Q4 (ts.drop (i+1))=Q4 ts:=by rw[←ha]; simp[Q4]
 refine A3 4000 ?_;simp[h,hb,eBt,bxE,j1];refine⟨o_,⟨λa _=>⟨rfl,λz hz=>?_⟩,o_,o_⟩,hp _ (i+1,acc++b.events) ⟨h,ha⟩ m_ ?_⟩
 ·have hz:z∈(S7 a).cells:=hz;simp only[S7,AV.cells,zh,yv,or_false] at hz;rcases hz with rfl|rfl|rfl|rfl|rfl|rfl<;>rfl
 ·refine yV [(E.n0,E.n0+8193)] (by simp[bxE,hi1,j1]) λhrn=>⟨?_,?_,?_,?_,?_⟩<;>(try simp[bxE,hi1,j1]);all_goals exact⟨⟨L2 rfl hx,L2 rfl hy⟩,B4 rfl (B3 (A3M _) (A3M _))⟩
def A2N{q:Nat×Option Bx}:∀{wr l:List (Nat×Option Bx)},q∈o5 l wr->q∈l\/q∈wr
 | [],_,h=>.inl h
 | p::wr,l,h=>by
  rw[o5] at h;rcases A2N h with h|h
  ·rcases zh.1 h with rfl|h
   ·exact .inr (za ..)
   ·exact .inl h
  ·exact .inr (zb _ h)
def C0j{T:Nat}{S:List H0}:∀q∈trB T S,q.2.ro=false:=λq hq=>by
 rcases zh.1 hq with rfl|hq
 ·rfl
 ·obtain⟨o,_,hq⟩:=we.1 hq;rcases zh.1 hq with rfl|hq
  ·rfl
  ·have:∀(cs:List Cl) (is:List (Option Nat)),∀q∈A0a cs is,q.2.ro=false:=λcs=>by
    induction cs with
    | nil=>intro is q h; cases h
    | cons c cs ih =>
     intro is q h;cases is with
     | nil=>cases h
     | cons i is =>
      rcases zp.1 h with h|h
      ·cases i with
       | none=>cases h
       | some i=>simp only[idB,wn] at h; subst h; rfl
      ·exact ih is q h
   exact this _ _ q hq
def A4n{y:Nat}{b:Option Bx}{L:List (Nat×Option Bx)}:bk ((y,b)::L) y=b:=by simp[bk]
end Go.Am
namespace Go.Am
end Go.Am
namespace Go.Am
open Go Go.Proofs Go.RowKit Go.Proofs.Tryz
def C0k{n:Nat}{v:Bool×AV}:∀{l:List (Nat×Bool×AV)},lk l n=some v->(n,v)∈l
 | [],h=>by cases h
 | (m,c,u)::l,h=>by
  simp only[lk] at h;split at h
  ·rename_i e; subst e; injection h with h; subst h; exact za ..
  ·exact zb _ (C0k h)
def C0l{y:Nat}{b:Bx}:∀{l:List (Nat×Option Bx)},bk l y=some b->(y,some b)∈l
 | [],h=>by cases h
 | (m,c)::l,h=>by
  simp only[bk] at h;split at h
  ·rename_i e; subst e; rw[h]; exact za ..
  ·exact zb _ (C0l h)
def D5.stayL{E:O8}{σ σ':St}(hk:σ.k<=σ'.k)(hf:∀q∈σ'.fr,lk σ.fr q.1=some q.2)(hb:∀q∈σ'.bx,∀b,q.2=some b->bk σ.bx q.1=some b)(hc:∀q∈σ.bx,E.n0<=q.1\/J3 q.1 σ'.bx):D5 E σ σ' :=
 D5.stay hk (λn c v h=>hf _ (C0k h)) (λy b h=>hb _ (C0l h) b rfl) hc
def T2{q:Nat×Option Bx}:∀{l:List (Nat×Bx)},q∈C5 l->∃p∈l,q=(p.1,some p.2)
 | [],h=>by cases h
 | (i,b)::l,h=>by
  rcases zh.1 h with rfl|h
  ·exact⟨_,za ..,rfl⟩
  ·obtain⟨p,h1,h2⟩:=T2 h;exact⟨p,zb _ h1,h2⟩
def r9{q:Nat×Option Bx}{l:List (Nat×Bx)}(h:q∈S6 l):∃p∈l,q=(p.1,none):=by
 obtain⟨p,h1,h2⟩:=zw.1 h;exact⟨p,h1,h2.symm⟩
def Y9{M:List (Nat×Option Bx)}{q:Nat×Bx}:∀{l:List (Nat×Bx)},(l.map Prod.fst).Nodup->q∈l->bk (C5 l++M) q.1=some q.2
 | [],_,h=>by cases h
 | (i,b)::l,hn,h=>by
  rw[yj,xh] at hn;show (if q.1=i then some b else bk (C5 l++M) q.1)=some q.2;rcases zh.1 h with rfl|h
  ·simp
  ·rw[zf λe=>hn.1 (zw.2 ⟨q,h,e⟩)];exact Y9 hn.2 h
def A8k{T:Nat}{S:List H0}{q:Nat×Bx}(h:q∈trB T S):q.1∈d0 T S:=zw.2 ⟨q,h,rfl⟩
def C6x{T:Nat}{S:List H0}{z:Nat}(h:z∈d0 T S):∃q∈trB T S,q.1=z:=zw.1 h
def x6(s:H7):List Ev->H7
 | []=>s
 | e::l=>x6 (A35 s e) l
def Z0(s:H7):List Ev->Int
 | []=>0
 | e::l=>if A2L s e≠0 then A2L s e else Z0 (A35 s e) l
def A3c(s:H7)(l:List Ev):AV:=if Z0 s l=0 then H4 (x6 s l) else eS0
def A7d{l:List Ty}{S:List H0}(h:Rt (A6 l S)):StR (A6 l S):=h.r
def C5c(l:List Ty)(S0:List H0)(T0:Nat)(ev:List Ev)(id:Nat)(hnd:(d0 T0 S0).Nodup)(hok:∀o∈S0,o.Ok)(hR0:Rt (A6 l S0))(hI:∀e∈ev,I64 e.n)(hlen:ev.length<=1000000000000000):
  A2 prog 116 [.agg [.sl (l.map I7),.bsl T0 0 S0.length],.sl (ev.map S7)] (trB T0 S0) id (.tup [A3c (A6 l S0) ev,.int .i64 (Z0 (A6 l S0) ev)]) (S6 (trB T0 S0)):=by
 refine w116.b.1 λE hP hR hl hid hB hu=>?_;simp[w116];have hlt:∀z∈d0 T0 S0,z<E.n0:=λz hz=>by
  obtain⟨q,hq,rfl⟩:=zw.1 (show z∈(trB T0 S0).map Prod.fst from hz);exact (hl q hq).1
 have hgone:∀z∈d0 T0 S0,∀(A B:Nat×Option Bx) X,J3 z (A::B::(X++S6 (trB T0 S0))):=λz hz A B X=>by
  obtain⟨q,hq,rfl⟩:=zw.1 (show z∈(trB T0 S0).map Prod.fst from hz);exact .inr (.inr (A1M.2 ⟨(q.1,none),yg _ (zw.2 ⟨q,hq,rfl⟩),rfl⟩))
 refine C1 (X:=Nat×Nat×List H0×Nat) (λq=>⟨[(2,true,.ptr E.n0 0 0),(4,true,.ptr (E.n0+1024) 0 0),(10,true,.sl (ev.map S7)),(11,true,.int .i64 ev.length),(12,true,.int .i64 q.1)],
  (E.n0,some ⟨[.agg [.sl (l.map I7),.bsl q.2.1 0 q.2.2.1.length]],.agg [.sl (l.map I7),.bsl T0 0 S0.length],false,false⟩)::(E.n0+1024,some ⟨[.agg [.nils,.nils]],.agg [.nils,.nils],false,false⟩)::(C5 (trB q.2.1 q.2.2.1)++S6 (trB T0 S0)),q.2.2.2⟩)
  (λq=>q.1<=ev.length/\6144<=q.2.2.2/\(d0 q.2.1 q.2.2.1).Nodup/\(∀z∈d0 q.2.1 q.2.2.1,z∈d0 T0 S0\/(E.n0+6144<=z/\z<E.n0+q.2.2.2))/\(∀o∈q.2.2.1,o.Ok)/\Rt (A6 l q.2.2.1)/\x6 (A6 l q.2.2.1) (ev.drop q.1)=x6 (A6 l S0) ev/\Z0 (A6 l q.2.2.1) (ev.drop q.1)=Z0 (A6 l S0) ev)
  (λq=>ev.length - q.1) (0,T0,S0,6144) ?_ ⟨o_,s_,hnd,λz hz=>.inl hz,hok,hR0,rfl,rfl⟩ ?_
 ·refine D5.stayL s_ s_ (λq hq b hb=>?_) λq hq=>?_
  ·rcases zh.1 hq with rfl|hq
   ·injection hb with hb; subst hb; simp
   rcases zh.1 hq with rfl|hq
   ·injection hb with hb; subst hb; simp
   rcases zp.1 hq with hq|hq
   ·obtain⟨p,hp,rfl⟩:=T2 hq;injection hb with hb; subst hb
    have h1:=(hl p hp).1;have:=Y9 (M:=[]) (l:=trB T0 S0) hnd hp;rw[wg] at this;simp only[bk];rw[zf o_,zf o_];exact this
   ·obtain⟨p,hp,rfl⟩:=r9 hq;cases hb
  ·rcases zh.1 hq with rfl|hq
   ·left; simp
   rcases zh.1 hq with rfl|hq
   ·left; simp
   obtain⟨p,hp,rfl⟩:=T2 hq;right
   exact .inr (.inr (A1M.2 ⟨_,yw _ hq,rfl⟩))
 ·rintro⟨i,T,S,K⟩ ⟨hi,hK,hnd1,hnm,hok1,hR1,hfs,hfe⟩ p hp;simp only at hi hK hnd1 hnm hok1 hR1 hfs hfe;refine A3 8 ?_;simp;refine B4U (b:=decide (i<ev.length)) s_ s_ (λh=>?_) (λh=>?_)
  ·have h:=zr h;obtain⟨e,he,hd⟩:=A8 h;rw[hd] at hfs hfe;simp only[x6,Z0] at hfs hfe;have hei:=hI e (zg he);have hi1:IntKind.i64.wrap ((i:Int)+1)=((i+1:Nat):Int):=wrap64 o_;have hin:∀q∈trB T S,bk (C5 (trB T S)++S6 (trB T0 S0)) q.1=some q.2:=λq hq=>Y9 (l:=trB T S) hnd1 hq;have hnz:∀z∈d0 T S,z≠E.n0/\z≠E.n0+1024/\(z<E.n0+K):=λz hz=>by
    rcases hnm z hz with h|h
    ·have:=hlt z h; omega
    ·omega
   by_cases hE:A2L (A6 l S) e=0
   ·rw[zf (v_ hE)] at hfe;obtain⟨T',S',wr,hf,ht,hst⟩:=B3O (id:=E.n0+(K+1024+4096+1024*2)) hnd1 (λz hz=>by have:=hnz z hz; omega) hok1 (A7d hR1) hE;unfold S7 at hf;have hwk:∀q∈wr,q.1∈d0 T S\/(E.n0+(K+1024+4096+1024*2)<=q.1/\q.1<E.n0+(K+1024+4096+1024*2)+1024):=ht.kw;have hsk:∀L z,(z=E.n0\/z=E.n0+1024)->bk (o5 L wr) z=bk L z:=λL z hz=>by
     rw[A1f];exact A0D λq hq=>by
      rcases hwk q hq with h|h
      ·have:=hnz _ h; omega
      ·omega
    have hsk0:=λL=>hsk L E.n0 (.inl rfl);have hsk1:=λL=>hsk L (E.n0+1024) (.inr rfl);refine A3 4000 ?_;simp[he,S7];refine⟨h,?_⟩;refine D9 hP rfl hf s_ (s9.of λq hq=>?_) ?_
    ·have:=hnz q.1 (zw.2 ⟨q,hq,rfl⟩);simp only[bk];rw[zf o_,zf o_,zf o_,zf o_];exact hin q hq
    refine A3 4000 ?_;simp[hsk0,hsk1];have hL0:J8 (bk ((E.n0+(K+1024+2048),some ⟨[.agg [.int .i64 e.kind,.int .i64 e.type,.int .i64 e.id,.int .i64 e.field,.int .i64 e.n,.str e.text]],.agg [.int .i64 0,.int .i64 0,.int .i64 0,.int .i64 0,.int .i64 0,.str []],false,false⟩)::(E.n0+(K+1024+2048),some ⟨[.agg [.int .i64 0,.int .i64 0,.int .i64 0,.int .i64 0,.int .i64 0,.str []]],.agg [.int .i64 0,.int .i64 0,.int .i64 0,.int .i64 0,.int .i64 0,.str []],false,false⟩)::(E.n0,some ⟨[.agg [.sl (l.map I7),.bsl T 0 S.length]],.agg [.sl (l.map I7),.bsl T0 0 S0.length],false,false⟩)::(E.n0+1024,some ⟨[.agg [.nils,.nils]],.agg [.nils,.nils],false,false⟩)::(C5 (trB T S)++S6 (trB T0 S0)))) (trB T S):=λq hq=>by
     have:=hnz q.1 (zw.2 ⟨q,hq,rfl⟩);simp only[bk];rw[zf o_,zf o_,zf o_,zf o_];exact hin q hq
    refine hp _ (i+1,T',S',K+1024+21504) ⟨n_,n_,ht.nd,λz hz=>?_,ht.ok,?_,?_,?_⟩ n_ ?_
    ·simp only;rcases ht.nm z hz with h|h
     ·exact (hnm z h).imp _root_.id λh=>by omega
     ·right; omega
    ·simp only;rw[hst]; exact (B50 hR1 hei hE).1
    ·simp only;rw[hst]; exact hfs
    ·simp only;rw[hst]; exact hfe
    ·refine D5.stayL n_ (t_ hi1) (λq hq b hb=>?_) λq hq=>?_
     ·rcases zh.1 hq with rfl|hq
      ·injection hb with hb; subst hb; simp
      rcases zh.1 hq with rfl|hq
      ·injection hb with hb; subst hb; simp[hsk1]
      rcases zp.1 hq with hq|hq
      ·obtain⟨p,hp,rfl⟩:=T2 hq;injection hb with hb; subst hb
       have hz:p.1<E.n0+(K+1024+4096+1024*2)+1024/\p.1≠E.n0:=by
        rcases ht.nm p.1 (zw.2 ⟨p,hp,rfl⟩) with h|h
        ·have:=hnz _ h; omega
        ·omega
       simp only[bk];rw[zf o_,zf o_,zf o_,A1f];exact ht.has _ hL0 p hp
      ·obtain⟨p,hp,rfl⟩:=r9 hq;cases hb
     ·have hT:∀z,z∈d0 T S->E.n0<=z\/z∈d0 T0 S0:=λz hz=>by
       rcases hnm z hz with h|h
       ·exact .inr h
       ·left; omega
      have hfin:E.n0<=q.1\/q.1∈d0 T0 S0:=by
       rcases zh.1 hq with rfl|hq
       ·left; simp
       rcases zh.1 hq with rfl|hq
       ·left; simp
       rcases zh.1 hq with rfl|hq
       ·left; simp
       rcases A2N hq with hq|hq
       ·rcases zh.1 hq with rfl|hq
        ·left; simp
        rcases zh.1 hq with rfl|hq
        ·left; simp
        rcases zh.1 hq with rfl|hq
        ·left; simp
        rcases zh.1 hq with rfl|hq
        ·left; simp
        rcases zp.1 hq with hq|hq
        ·obtain⟨p,hp,rfl⟩:=T2 hq;exact hT _ (A8k hp)
        ·obtain⟨p,hp,rfl⟩:=r9 hq;exact .inr (A8k hp)
       ·rcases hwk q hq with h|h
        ·exact hT _ h
        ·left; omega
      exact hfin.imp _root_.id λh=>hgone _ h _ _ _
   ·have hf:=B0J (id:=E.n0+(K+1024+4096+1024*2)) hnd1 (λz hz=>by have:=hnz z hz; omega) hok1 (A7d hR1) hE;unfold S7 at hf;refine A3 4000 ?_;simp[he,S7];refine⟨h,?_⟩;unfold eS0 at hf;refine D9 hP rfl hf s_ (s9.of λq hq=>?_) ?_
    ·have:=hnz q.1 (zw.2 ⟨q,hq,rfl⟩);simp only[bk];rw[zf o_,zf o_,zf o_,zf o_];exact hin q hq
    refine A3 4000 ?_;simp;refine A7 (v_ hE) ?_;simp;rw[zj hE] at hfe;have hA:A3c (A6 l S0) ev = .agg [.nils,.nils]:=(by unfold A3c eS0; rw[zf (by rw[←hfe]; exact hE)]);rw[hA,←hfe] at hR;rw[hR];refine E6 f_ [] trivial (A41 s_ s_ λq hq=>?_);simp only[zh] at hq;rcases hq with rfl|rfl|rfl|rfl|rfl|rfl|rfl|hq
    all_goals first|(left; simp; done)|skip
    rcases zp.1 hq with hq|hq
    ·obtain⟨p,hp,rfl⟩:=T2 hq;rcases hnm p.1 (zw.2 ⟨p,hp,rfl⟩) with h|h
     ·exact .inr h
     ·left; simp only; omega
    ·obtain⟨p,hp,rfl⟩:=r9 hq;exact .inr (A8k hp)
  ·have h:=zq h;rw[zo o_] at hfs hfe;simp only[x6,Z0] at hfs hfe;refine A3 21 ?_;simp;have hA:A3c (A6 l S0) ev = .agg [.sl (l.map I7),.sl ((S.map H0.t).map W3)]:=(by unfold A3c; rw[zj hfe.symm,←hfs]; rfl);rw[hA,←hfe] at hR;have hin:∀q∈trB T S,bk (C5 (trB T S)++S6 (trB T0 S0)) q.1=some q.2:=λq hq=>Y9 (l:=trB T S) hnd1 hq;have hnz:∀z∈d0 T S,z≠E.n0/\z≠E.n0+1024:=λz hz=>by
    rcases hnm z hz with h|h
    ·have:=hlt z h; omega
    ·omega
   refine A4Y (D5.deepL 4 ((E.n0+1024,⟨[.agg [.sl (l.map I7),.bsl T 0 S.length]],.agg [.nils,.nils],false,false⟩)::trB T S) (S6 (trB T0 S0)) (x:=.ptr (E.n0+1024) 0 0) (y:=.cptr [.sl (l.map I7),.sl ((S.map H0.t).map W3)]) rfl (λq hq=>?_) ?_ ⟨λy b hy=>?_,λq hq=>?_⟩) ?_
   ·rcases zh.1 hq with rfl|hq
    ·exact⟨A4n,rfl⟩
    ·have:=hnz q.1 (zw.2 ⟨q,hq,rfl⟩);refine⟨?_,C0j q hq⟩;simp only[bk];rw[zf o_,zf o_,zf o_];exact hin q hq
   ·refine .ptr _ _ (.agg [.sl (l.map I7),.bsl T 0 S.length]) _ (za ..) rfl rfl λj c d h1 h2=>?_;match j,h1,h2 with
    | 0,h1,h2 =>
     injection h1 with h1; injection h2 with h2
     subst h1 h2; exact .same _
    | 1,h1,h2 =>
     injection h1 with h1; injection h2 with h2
     subst h1 h2;exact A6R hok1 (zb _ (za ..)) λq hq=>zb _ (zb _ hq)
    | j+2,h1,h2=>simp[AV.cells] at h1
   ·rw[B2q] at hy; cases hy
   ·have hfin:E.n0<=q.1\/q.1∈d0 T0 S0:=by
     simp only[zh] at hq;rcases hq with rfl|rfl|rfl|hq
     all_goals first|(left; simp; done)|skip
     rcases zp.1 hq with hq|hq
     ·obtain⟨p,hp,rfl⟩:=T2 hq;rcases hnm p.1 (zw.2 ⟨p,hp,rfl⟩) with h|h
      ·exact .inr h
      ·left; simp only; omega
     ·obtain⟨p,hp,rfl⟩:=r9 hq;exact .inr (A8k hp)
    refine hfin.imp _root_.id λh=>?_;obtain⟨p,hp,e⟩:=C6x h;rw[←e];exact B17 hp
   ·refine A3 5 ?_;simp;have hp:F1 (List.map (W3∘H0.t) S)=true:=E4 (f:=W3∘H0.t) (λo=>A5J o.t) S;rw[hR];refine E6 f_ [] trivial (A41 s_ (t_ hp) λq hq=>?_);obtain⟨p,hp,rfl⟩:=r9 hq;exact .inr (A8k hp)
def C5d(l:List Ty)(ev:List Ev)(id:Nat)(hR0:Rt (A6 l []))(hI:∀e∈ev,I64 e.n)(hlen:ev.length<=1000000000000000):
  A2 prog 116 [.agg [.sl (l.map I7),.nils],.sl (ev.map S7)] (([]:List (Nat×Bx))) id (.tup [A3c (A6 l []) ev,.int .i64 (Z0 (A6 l []) ev)]) (S6 (([]:List (Nat×Bx)))):=by
 refine w116.e.1 λE hP hR hl hid=>?_;simp[w116];refine C1 (X:=Nat×Nat×List H0×Nat) (λq=>⟨[(2,true,.ptr E.n0 0 0),(4,true,.ptr (E.n0+1024) 0 0),(10,true,.sl (ev.map S7)),(11,true,.int .i64 ev.length),(12,true,.int .i64 q.1)],
  (E.n0,some ⟨[.agg [.sl (l.map I7),.bsl q.2.1 0 q.2.2.1.length]],.agg [.sl (l.map I7),.nils],false,false⟩)::(E.n0+1024,some ⟨[.agg [.nils,.nils]],.agg [.nils,.nils],false,false⟩)::(C5 (trB q.2.1 q.2.2.1)++S6 (([]:List (Nat×Bx)))),q.2.2.2⟩)
  (λq=>q.1<=ev.length/\6144<=q.2.2.2/\(d0 q.2.1 q.2.2.1).Nodup/\(∀z∈d0 q.2.1 q.2.2.1,z∈([]:List Nat)\/(E.n0+6144<=z/\z<E.n0+q.2.2.2))/\(∀o∈q.2.2.1,o.Ok)/\Rt (A6 l q.2.2.1)/\x6 (A6 l q.2.2.1) (ev.drop q.1)=x6 (A6 l []) ev/\Z0 (A6 l q.2.2.1) (ev.drop q.1)=Z0 (A6 l []) ev)
  (λq=>ev.length - q.1) (0,E.n0+6144,[],6145) ?_ ⟨o_,s_,by simp[d0,nmR,I4],λz hz=>.inr (by simp[d0,nmR,I4] at hz; simp only; omega),λo ho=>(by cases ho),hR0,rfl,rfl⟩ ?_
 ·refine D5.trans (D5.voidBox E.n0 (by simp; rfl) rfl (.agg [.sl (l.map I7),.nils] [.sl (l.map I7),.bsl (E.n0+6144) 0 0] rfl (λm x y h1 h2=>?_)) zT) ?_
  ·match m,h1,h2 with
   | 0,h1,h2=>injection h1 with h1; injection h2 with h2; subst h1 h2; exact .inl rfl
   | 1,h1,h2=>injection h1 with h1; injection h2 with h2; subst h1 h2; exact .inr ⟨rfl,rfl⟩
   | m+2,h1,h2=>simp at h1
  ·refine D5.stayL s_ s_ (λq hq b hb=>?_) λq hq=>?_
   ·simp only[trB,I4,List.flatMap_nil,C5,S6,uf,wg,zh,yv,or_false] at hq;rcases hq with rfl|rfl|rfl
    ·injection hb with hb; subst hb; simp
    ·injection hb with hb; subst hb; simp
    ·injection hb with hb; subst hb; simp[P5]
   ·left
    simp only[zh,yv,or_false] at hq;rcases hq with rfl|rfl|rfl|rfl<;>simp
 ·rintro⟨i,T,S,K⟩ ⟨hi,hK,hnd1,hnm,hok1,hR1,hfs,hfe⟩ p hp;simp only at hi hK hnd1 hnm hok1 hR1 hfs hfe;refine A3 8 ?_;simp;refine B4U (b:=decide (i<ev.length)) s_ s_ (λh=>?_) (λh=>?_)
  ·have h:=zr h;obtain⟨e,he,hd⟩:=A8 h;rw[hd] at hfs hfe;simp only[x6,Z0] at hfs hfe;have hei:=hI e (zg he);have hi1:IntKind.i64.wrap ((i:Int)+1)=((i+1:Nat):Int):=wrap64 o_;have hin:∀q∈trB T S,bk (C5 (trB T S)++S6 (([]:List (Nat×Bx)))) q.1=some q.2:=λq hq=>Y9 (l:=trB T S) hnd1 hq;have hnz:∀z∈d0 T S,z≠E.n0/\z≠E.n0+1024/\(z<E.n0+K):=λz hz=>by
    rcases hnm z hz with h|h
    ·cases h
    ·omega
   by_cases hE:A2L (A6 l S) e=0
   ·rw[zf (v_ hE)] at hfe;obtain⟨T',S',wr,hf,ht,hst⟩:=B3O (id:=E.n0+(K+1024+4096+1024*2)) hnd1 (λz hz=>by have:=hnz z hz; omega) hok1 (A7d hR1) hE;unfold S7 at hf;have hwk:∀q∈wr,q.1∈d0 T S\/(E.n0+(K+1024+4096+1024*2)<=q.1/\q.1<E.n0+(K+1024+4096+1024*2)+1024):=ht.kw;have hsk:∀L z,(z=E.n0\/z=E.n0+1024)->bk (o5 L wr) z=bk L z:=λL z hz=>by
     rw[A1f];exact A0D λq hq=>by
      rcases hwk q hq with h|h
      ·have:=hnz _ h; omega
      ·omega
    have hsk0:=λL=>hsk L E.n0 (.inl rfl);have hsk1:=λL=>hsk L (E.n0+1024) (.inr rfl);refine A3 4000 ?_;simp[he,S7];refine⟨h,?_⟩;refine D9 hP rfl hf s_ (s9.of λq hq=>?_) ?_
    ·have:=hnz q.1 (zw.2 ⟨q,hq,rfl⟩);simp only[bk];rw[zf o_,zf o_,zf o_,zf o_];exact hin q hq
    refine A3 4000 ?_;simp[hsk0,hsk1];have hL0:J8 (bk ((E.n0+(K+1024+2048),some ⟨[.agg [.int .i64 e.kind,.int .i64 e.type,.int .i64 e.id,.int .i64 e.field,.int .i64 e.n,.str e.text]],.agg [.int .i64 0,.int .i64 0,.int .i64 0,.int .i64 0,.int .i64 0,.str []],false,false⟩)::(E.n0+(K+1024+2048),some ⟨[.agg [.int .i64 0,.int .i64 0,.int .i64 0,.int .i64 0,.int .i64 0,.str []]],.agg [.int .i64 0,.int .i64 0,.int .i64 0,.int .i64 0,.int .i64 0,.str []],false,false⟩)::(E.n0,some ⟨[.agg [.sl (l.map I7),.bsl T 0 S.length]],.agg [.sl (l.map I7),.nils],false,false⟩)::(E.n0+1024,some ⟨[.agg [.nils,.nils]],.agg [.nils,.nils],false,false⟩)::(C5 (trB T S)++S6 (([]:List (Nat×Bx)))))) (trB T S):=λq hq=>by
     have:=hnz q.1 (zw.2 ⟨q,hq,rfl⟩);simp only[bk];rw[zf o_,zf o_,zf o_,zf o_];exact hin q hq
    refine hp _ (i+1,T',S',K+1024+21504) ⟨n_,n_,ht.nd,λz hz=>?_,ht.ok,?_,?_,?_⟩ n_ ?_
    ·simp only;rcases ht.nm z hz with h|h
     ·exact (hnm z h).imp _root_.id λh=>by omega
     ·right; omega
    ·simp only;rw[hst]; exact (B50 hR1 hei hE).1
    ·simp only;rw[hst]; exact hfs
    ·simp only;rw[hst]; exact hfe
    ·refine D5.stayL n_ (t_ hi1) (λq hq b hb=>?_) λq hq=>?_
     ·rcases zh.1 hq with rfl|hq
      ·injection hb with hb; subst hb; simp
      rcases zh.1 hq with rfl|hq
      ·injection hb with hb; subst hb; simp[hsk1]
      rcases zp.1 hq with hq|hq
      ·obtain⟨p,hp,rfl⟩:=T2 hq;injection hb with hb; subst hb
       have hz:p.1<E.n0+(K+1024+4096+1024*2)+1024/\p.1≠E.n0:=by
        rcases ht.nm p.1 (zw.2 ⟨p,hp,rfl⟩) with h|h
        ·have:=hnz _ h; omega
        ·omega
       simp only[bk];rw[zf o_,zf o_,zf o_,A1f];exact ht.has _ hL0 p hp
      ·cases hq
     ·have hT:∀z,z∈d0 T S->E.n0<=z\/z∈([]:List Nat):=λz hz=>by
       rcases hnm z hz with h|h
       ·exact .inr h
       ·left; omega
      have hfin:E.n0<=q.1\/q.1∈([]:List Nat):=by
       rcases zh.1 hq with rfl|hq
       ·left; simp
       rcases zh.1 hq with rfl|hq
       ·left; simp
       rcases zh.1 hq with rfl|hq
       ·left; simp
       rcases A2N hq with hq|hq
       ·rcases zh.1 hq with rfl|hq
        ·left; simp
        rcases zh.1 hq with rfl|hq
        ·left; simp
        rcases zh.1 hq with rfl|hq
        ·left; simp
        rcases zh.1 hq with rfl|hq
        ·left; simp
        rcases zp.1 hq with hq|hq
        ·obtain⟨p,hp,rfl⟩:=T2 hq;exact hT _ (A8k hp)
        ·cases hq
       ·rcases hwk q hq with h|h
        ·exact hT _ h
        ·left; omega
      exact hfin.imp _root_.id λh=>by cases h
   ·have hf:=B0J (id:=E.n0+(K+1024+4096+1024*2)) hnd1 (λz hz=>by have:=hnz z hz; omega) hok1 (A7d hR1) hE;unfold S7 at hf;refine A3 4000 ?_;simp[he,S7];refine⟨h,?_⟩;unfold eS0 at hf;refine D9 hP rfl hf s_ (s9.of λq hq=>?_) ?_
    ·have:=hnz q.1 (zw.2 ⟨q,hq,rfl⟩);simp only[bk];rw[zf o_,zf o_,zf o_,zf o_];exact hin q hq
    refine A3 4000 ?_;simp;refine A7 (v_ hE) ?_;simp;rw[zj hE] at hfe;have hA:A3c (A6 l []) ev = .agg [.nils,.nils]:=(by unfold A3c eS0; rw[zf (by rw[←hfe]; exact hE)]);rw[hA,←hfe] at hR;rw[hR];refine E6 f_ [] trivial (A41 s_ s_ λq hq=>?_);simp only[zh] at hq;rcases hq with rfl|rfl|rfl|rfl|rfl|rfl|rfl|hq
    all_goals first|(left; simp; done)|skip
    rcases zp.1 hq with hq|hq
    ·obtain⟨p,hp,rfl⟩:=T2 hq;rcases hnm p.1 (zw.2 ⟨p,hp,rfl⟩) with h|h
     ·exact .inr h
     ·left; simp only; omega
    ·cases hq
  ·have h:=zq h;rw[zo o_] at hfs hfe;simp only[x6,Z0] at hfs hfe;refine A3 21 ?_;simp;have hA:A3c (A6 l []) ev = .agg [.sl (l.map I7),.sl ((S.map H0.t).map W3)]:=(by unfold A3c; rw[zj hfe.symm,←hfs]; rfl);rw[hA,←hfe] at hR;have hin:∀q∈trB T S,bk (C5 (trB T S)++S6 (([]:List (Nat×Bx)))) q.1=some q.2:=λq hq=>Y9 (l:=trB T S) hnd1 hq;have hnz:∀z∈d0 T S,z≠E.n0/\z≠E.n0+1024:=λz hz=>by
    rcases hnm z hz with h|h
    ·cases h
    ·omega
   refine A4Y (D5.deepL 4 ((E.n0+1024,⟨[.agg [.sl (l.map I7),.bsl T 0 S.length]],.agg [.nils,.nils],false,false⟩)::trB T S) (S6 (([]:List (Nat×Bx)))) (x:=.ptr (E.n0+1024) 0 0) (y:=.cptr [.sl (l.map I7),.sl ((S.map H0.t).map W3)]) rfl (λq hq=>?_) ?_ ⟨λy b hy=>?_,λq hq=>?_⟩) ?_
   ·rcases zh.1 hq with rfl|hq
    ·exact⟨A4n,rfl⟩
    ·have:=hnz q.1 (zw.2 ⟨q,hq,rfl⟩);refine⟨?_,C0j q hq⟩;simp only[bk];rw[zf o_,zf o_,zf o_];exact hin q hq
   ·refine .ptr _ _ (.agg [.sl (l.map I7),.bsl T 0 S.length]) _ (za ..) rfl rfl λj c d h1 h2=>?_;match j,h1,h2 with
    | 0,h1,h2 =>
     injection h1 with h1; injection h2 with h2
     subst h1 h2; exact .same _
    | 1,h1,h2 =>
     injection h1 with h1; injection h2 with h2
     subst h1 h2;exact A6R hok1 (zb _ (za ..)) λq hq=>zb _ (zb _ hq)
    | j+2,h1,h2=>simp[AV.cells] at h1
   ·rw[B2q] at hy; cases hy
   ·have hfin:E.n0<=q.1\/q.1∈([]:List Nat):=by
     simp only[zh] at hq;rcases hq with rfl|rfl|rfl|hq
     all_goals first|(left; simp; done)|skip
     rcases zp.1 hq with hq|hq
     ·obtain⟨p,hp,rfl⟩:=T2 hq;rcases hnm p.1 (zw.2 ⟨p,hp,rfl⟩) with h|h
      ·exact .inr h
      ·left; simp only; omega
     ·cases hq
    refine hfin.imp _root_.id λh=>?_;cases h
   ·refine A3 5 ?_;simp;have hp:F1 (List.map (W3∘H0.t) S)=true:=E4 (f:=W3∘H0.t) (λo=>A5J o.t) S;rw[hR];refine E6 f_ [] trivial (A41 s_ (t_ hp) λq hq=>?_);cases hq
def B51(w:Int)(s:H7):AV:=if w=0 then .sl (s.types.map I7) else .nils
def B52(w:Int)(s:H7):AV:=if w=0 then .sl (s.things.map W3) else .nils
def A1a(w:Int)(s:H7):AV:=.agg [B51 w s,B52 w s]
def A0O(w:Int)(s:H7):A1a w s=if w=0 then H4 s else eS0:=by
 unfold A1a B51 B52;by_cases h:w=0
 ·rw[zj h,zj h,zj h]; rfl
 ·rw[zf h,zf h,zf h]; rfl
@[simp] theorem C6Z (w:Int) (s:H7):(B51 w s).pureB=true:=by unfold B51; split<;>simp
@[simp] theorem C6a (w:Int) (s:H7):(B52 w s).pureB=true:=by unfold B52; split<;>simp
@[simp] theorem A5V (w:Int) (s:H7):AV.one (B51 w s)=true:=by unfold B51; split<;>rfl
@[simp] theorem A5W (w:Int) (s:H7):AV.one (B52 w s)=true:=by unfold B52; split<;>rfl
def C0m{l:List Ty}(h:H3 l=0):Rt ⟨l,[]⟩ :=
 ⟨h,⟨A5L h,s_,λt ht=>(by cases ht)⟩,⟨λt ht=>(by cases ht),λt ht=>(by cases ht),λi j a b _ ha _=>(by simp at ha)⟩,λt ht=>(by cases ht)⟩
def atE(l:List Ty)(ev:List Ev)(n:Int):Int:=if H3 l≠0 then H3 l else if n<0\/(ev.length:Int)<n then 3 else Z0 ⟨l,[]⟩ (ev.take n.toNat)
def atS(l:List Ty)(ev:List Ev)(n:Int):H7:=x6 ⟨l,[]⟩ (ev.take n.toNat)
def C6y(l:List Ty)(ev:List Ev)(n:Int)(id:Nat)(hI:∀e∈ev,I64 e.n)(hlen:ev.length<=1000000000000000):A2 prog 119 [.sl (l.map I7),.sl (ev.map S7),.int .i64 n] [] id (.tup [A1a (atE l ev n) (atS l ev n),.int .i64 (atE l ev n)]) []:=by
 have hC:=λid=>A45 l id;by_cases h0:H3 l=0
 rotate_left
 ·have hE:atE l ev n=H3 l:=by unfold atE; rw[zj h0]
  have hV:A1a (H3 l) (atS l ev n) = .agg [.nils,.nils]:=by rw[A0O,zf h0]; rfl
  rw[hE,hV];refine w119.e.1 λE hP hR hl hid=>?_;simp[w119];(refine yH rfl (hC _) ?_; simp);refine⟨λa=>(h0 a).elim,?_⟩;refine A0 (t_ h0) ?_;simp;refine A7 (t_ h0) ?_;simp;exact yP hR
 by_cases h1:n<0\/(ev.length:Int)<n
 ·have hE:atE l ev n=3:=by unfold atE; rw[zf (v_ h0),zj h1]
  have hV:A1a 3 (atS l ev n) = .agg [.nils,.nils]:=by rw[A0O,zf d_]; rfl
  rw[hE,hV];rw[h0] at hC;refine w119.e.1 λE hP hR hl hid=>?_;simp[w119];(refine yH rfl (hC _) ?_; simp);refine A7 m_ ?_;simp;exact yP hR
 ·have hE:atE l ev n=Z0 ⟨l,[]⟩ (ev.take n.toNat):=by unfold atE; rw[zf (v_ h0),zf h1]
  rw[h0] at hC;have hS:=A5L h0;have hO:=λid=>B08 l id (by have:=hS.len; omega) (λt ht=>by have:=hS.fields t ht; omega);have hF:=λid=>C5d l (ev.take n.toNat) id (C0m h0) (λe he=>hI e (xq he)) m_;have hV:A3c (A6 l []) (ev.take n.toNat)=A1a (atE l ev n) (atS l ev n):=by rw[A0O,hE]; rfl
  rw[hV,show Z0 (A6 l []) (ev.take n.toNat)=atE l ev n by rw[hE]; rfl,yy] at hF;simp only[S6,uf] at hF;unfold A1a at *;refine w119.e.1 λE hP hR hl hid=>?_;simp[w119];(refine yH rfl (hC _) ?_; simp);refine A0 m_ ?_;simp;(refine yH rfl (hO _) ?_; simp);refine⟨⟨λa _=>rfl,o_,o_⟩,?_⟩;(refine yH rfl (hF _) ?_; simp);refine⟨⟨A5V _ _,A5W _ _⟩,?_⟩;exact yP hR
def C0n(l:List Ty)(ev:List Ev)(id:Nat)(hI:∀e∈ev,I64 e.n)(hlen:ev.length<=1000000000000000):A2 prog 58 [.sl (l.map I7),.sl (ev.map S7)] [] id (.tup [A1a (atE l ev ev.length) (atS l ev ev.length),.int .i64 (atE l ev ev.length)]) []:=by
 have hA:=λid=>C6y l ev ev.length id hI hlen;unfold A1a at *;refine w58.e.1 λE hP hR hl hid=>?_;simp[w58];(refine yH rfl (hA _) ?_; simp);refine⟨⟨A5V _ _,A5W _ _⟩,?_⟩;exact yP hR
def A6W(s:H7)(ev:List Ev):Int:=if fSt s≠0 then fSt s else if 8<ev.length then 2 else 0
def C0o(s:H7)(ev:List Ev)(id:Nat):A2 prog 115 [H4 s,.sl (ev.map S7)] [] id (.int .i64 (A6W s ev)) []:=by
 have hC:=λid=>A4i s id;unfold H4 at *;refine w115.e.1 λE hP hR hl hid=>?_;simp[w115];(refine yH rfl (hC _) ?_; simp);refine D4 (λh=>?_) (λh=>?_)<;>simp
 ·have hE:A6W s ev=2:=by unfold A6W; simp at h; rw[zf o_,zj o_]
  rw[hE] at hR;exact yP hR
 ·have hE:A6W s ev=fSt s:=by
   unfold A6W;simp at h;by_cases g:fSt s=0
   ·rw[zf (v_ g),zf (by have:=h g; omega),g]
   ·rw[zj g]
  rw[hE] at hR;exact yP hR
def A9R(s:H7)(ev:List Ev):Int:=if A6W s ev≠0 then A6W s ev else Z0 s ev
def B1P{L:List (Nat×Option Bx)}{rd:List (Nat×Bx)}{z:Nat}(h:z∉rd.map Prod.fst):bk (o5 L (S6 rd)) z=bk L z:=by
 rw[A1f];exact A0D λq hq e=>by
  obtain⟨p,hp,rfl⟩:=r9 hq;exact h (e▸zw.2 ⟨p,hp,rfl⟩)
def C0p(s:H7)(ev:List Ev)(id:Nat)(hI:C0h s)(hn:∀e∈ev,I64 e.n):A2 prog 55 [H4 s,.sl (ev.map S7)] [] id (.tup [A1a (A9R s ev) (x6 s ev),.int .i64 (A9R s ev)]) []:=by
 have hC:=λid=>C0o s ev id;by_cases h0:A6W s ev=0
 rotate_left
 ·have hE:A9R s ev=A6W s ev:=by unfold A9R; rw[zj h0]
  have hV:A1a (A6W s ev) (x6 s ev) = .agg [.nils,.nils]:=by rw[A0O,zf h0]; rfl
  rw[hE,hV];unfold H4 at *;refine w55.e.1 λE hP hR hl hid=>?_;simp[w55];(refine yH rfl (hC _) ?_; simp);refine A7 (v_ h0) ?_;simp;exact yP hR
 have hE:A9R s ev=Z0 s ev:=by unfold A9R; rw[zf (v_ h0)]
 rw[h0] at hC;have h8:fSt s=0/\ev.length<=8:=by
  unfold A6W at h0;split at h0
  ·rename_i g; exact (g h0).elim
  ·rename_i g;split at h0
   ·omega
   ·exact⟨zl g,o_⟩
 have hR:=C6w h8.1 hI;obtain⟨hr,hs,hl⟩:=C0f h8.1;have h6:∀x∈s.things,x.cells.length<=16/\∀c∈x.cells,c.ids.length<=1000:=λx hx=>by
  have h1:=(hr.tg x hx).cells6 hr.sch;refine⟨o_,λc hc=>?_⟩;obtain⟨k,hk⟩:=yp.1 hc;obtain⟨f,_,hco⟩:=(hr.tg x hx).cellOk hk;have:=hco.i1; omega
 have h5:=hr.sch.len;have h12:=hr.len;have hW:∀id,A2 prog 117 [H4 s] [] id (.agg [.sl (s.types.map I7),.bsl id 0 s.things.length]) ((id,some ⟨T8 id s.things s.things.length,zT,false,false⟩)::Q0 id s.things s.things.length):=λid=>C0G s id o_ (λt ht=>by have:=hr.sch.fields t ht; omega) h12 h6;have h16:∀x∈s.things,x.cells.length<=16:=λx hx=>(h6 x hx).1;have hkey:∀t,∀q∈Q0 t s.things s.things.length,t+1<=q.1/\q.1<t+1000:=λt q hq=>by
  obtain⟨y,b⟩:=q;rcases A2J h16 hq with⟨j,h1,h2⟩|⟨j,m,h1,h2,h3⟩<;>simp only<;>omega
 have hF:∀t id,A2 prog 116 [.agg [.sl (s.types.map I7),.bsl t 0 s.things.length],.sl (ev.map S7)] (trB t (A10 t 0 s.things)) id (.tup [A1a (A9R s ev) (x6 s ev),.int .i64 (A9R s ev)]) (S6 (trB t (A10 t 0 s.things))):=λt id=>by
  have:=C5c s.types (A10 t 0 s.things) t ev id (C5Y h16 h12) (B6M t s.things 0) (by rw[C0e]; exact hR) hn o_;rw[C0e,A5S] at this;rw[A0O,hE]; exact this
 unfold A1a H4 at *;refine w55.e.1 λE hP hR hl hid=>?_;simp[w55];(refine yH rfl (hC _) ?_; simp);have hsk:∀L z,z<E.n0+10240->bk (o5 L (Q0 (E.n0+10240) s.things s.things.length)) z=bk L z:=λL z hz=>by
  rw[A1f];exact A0D λq hq=>by have:=hkey _ q hq; omega
 have hin:∀L,∀q∈trB (E.n0+10240) (A10 (E.n0+10240) 0 s.things),bk (o5 ((E.n0+10240,some ⟨T8 (E.n0+10240) s.things s.things.length,zT,false,false⟩)::L) (Q0 (E.n0+10240) s.things s.things.length)) q.1=some q.2:=λL q hq=>by
  have hm:=C5X hq;rw[A1f];rcases zh.1 hm with hm|hm
  ·injection hm with h1 h2
   rw[A0D λq' hq'=>by have:=hkey _ q' hq'; omega,h1,h2];exact A4n
  ·exact B3F (X5 (S:=λ_=>True) h16 s.things.length h12 (λ_ _=>trivial) λ_ _ _ _=>trivial).nd hm
 have hsk2:∀L z,z<E.n0+10240->bk (o5 L (S6 (trB (E.n0+10240) (A10 (E.n0+10240) 0 s.things)))) z=bk L z:=λL z hz=>B1P λhm=>by
  have:=C0d h16 h12 z hm; omega
 refine D9 hP rfl (hW _) s_ s_ ?_;refine A3 4 ?_;simp[hsk];refine D9 hP rfl (hF (E.n0+10240) _) s_ (s9.of (hin _)) ?_;refine A3 4000 ?_;simp[hsk,hsk2];refine⟨⟨A5V _ _,A5W _ _⟩,?_⟩;rw[hR];refine E6 f_ [] trivial (S4 s_ s_ (A07 λq hq=>?_));rcases zh.1 hq with rfl|hq
 ·simp
 rcases A2N hq with hq|hq
 ·rcases A2N hq with hq|hq
  ·simp only[zh,yv,or_false] at hq;rcases hq with rfl|rfl|rfl<;>simp
  ·have:=hkey _ q hq; omega
 ·obtain⟨p,hp,rfl⟩:=r9 hq;have:=C0d h16 h12 _ (A8k hp);simp only; omega
def ag0:Ag:=⟨[],false,[],0⟩
def U9(l:List Ag)(n:List UInt8):Ag:=(l.find? (λx=>x.name==n)).getD ag0
def C0q(l:List Ag)(n:List UInt8):(B9 (λx=>x.name==n) l 0 = -1/\A2h l n=false/\U9 l n=ag0)\/∃k:Nat,B9 (λx=>x.name==n) l 0=(k:Int)/\k<l.length/\l[k]?=some (U9 l n)/\A2h l n=true:=by
 have ha:decide (0<=B9 (λx:Ag=>x.name==n) l 0)=A2h l n:=V2 _ l 0;rcases R9 (λx:Ag=>x.name==n) l 0 with⟨h1,h2⟩|⟨k,x,h1,h2,h3⟩
 ·refine .inl ⟨h2,?_,?_⟩
  ·rw[←ha,h2]; rfl
  ·unfold U9; rw[h1]; rfl
 ·have hk:k<l.length:=by
   have:=ze.1 h1;exact this.1
  refine .inr ⟨k,by rw[h2]; simp,hk,?_,?_⟩
  ·unfold U9; rw[h3,h1]; rfl
  ·rw[←ha,h2]; simp
def eMk(l:List Ty)(s:C4):AV:=.agg [.sl (l.map I7),.str s.alias,.str s.name,.sl (s.args.map q9),.sl (s.kids.map C6)]
def C0r(x:Ag)(j:Nat)(name:List UInt8)(id:Nat):A2 prog 272 [q9 x,.ptr j 0 0] [(j,⟨[.str name],.str name,false,false⟩)] id (.bool (x.name==name)) []:=by
 unfold q9;refine w272.e.1 λE hP hR hl hid=>?_;simp[w272];have hj:=hl (j,_) (za ..);simp only at hj;have j1:=lf hj;simp[j1];exact yF hR [] (a_ j1 (A4 hid))
def B53(l:List Ag)(j:Nat)(name:List UInt8)(id:Nat)(hl8:l.length<9223372036854775807):A2 prog 271 [.sl (l.map q9),.fn 272 [.ptr j 0 0]] [(j,⟨[.str name],.str name,false,false⟩)] id (.int .i64 (B9 (λx=>x.name==name) l 0)) []:=by
 refine w271.e.1 λE hP hR hl hid=>?_;simp[w271];have hj:=hl (j,_) (za ..);simp only at hj;have j1:=lf hj;refine C1 (X:=Nat) (λi=>⟨[(0,true,.sl (l.map q9)),(1,true,.fn 272 [.ptr j 0 0]),(7,true,.int .i64 l.length),(8,true,.int .i64 i)],[(j,some (⟨[.str name],.str name,false,false⟩))],0⟩) (λi=>i<=l.length/\B9 (λx=>x.name==name) (l.drop i) i=B9 (λx=>x.name==name) l 0) (λi=>l.length - i) 0 ?_ ⟨o_,rfl⟩ ?_
 ·exact yW [] j1
 ·rintro i ⟨hi,hf⟩ p hp;refine A3 4000 ?_;simp;refine D4 (λh=>?_) (λh=>?_)
  ·have h:=zr h;obtain⟨x,hx,hd⟩:=A8 h;have hcl:=C0r x j name;simp only[U3 x] at hcl;rw[hd] at hf;simp only[B9] at hf;have hi1:IntKind.i64.wrap ((i:Int)+1)=((i+1:Nat):Int):=wrap64 o_;simp[hx,U3 x];refine⟨h,?_⟩;refine F9 hP rfl rfl (hcl _) s_ (by simp[j1]<;>rfl) ?_;refine A3 4000 ?_;simp[j1];refine D4 (λh1=>?_) (λh1=>?_)
   ·simp[j1];rw[zj h1] at hf;rw[←hf] at hR;refine yE hR [] (by simp[j1,B9,A4 hid]) λhrn=>⟨?_,?_,?_,?_,?_,?_⟩<;>(try simp[j1,B9,A4 hid])
   ·simp[j1];rw[zf (v_ h1)] at hf;refine hp _ (i+1) ⟨h,hf⟩ o_ ?_;exact yW [] (a_ hi1 j1)
  ·have h:=zq h;simp;rw[zo o_] at hf;rw[←hf] at hR;refine yE hR [] (by simp[j1,B9,A4 hid]) λhrn=>⟨?_,?_,?_,?_,?_,?_⟩<;>(try simp[j1,B9,A4 hid])
def A5X(l:List Ty)(s:C4)(J:Nat)(name:List UInt8)(id:Nat)(hl8:s.args.length<9223372036854775807):A2 prog 228 [.ptr J 0 0,.str name] [(J,⟨[eMk l s],eMk l s,false,false⟩)] id (.tup [q9 (U9 s.args name),.bool (A2h s.args name)]) []:=by
 have hI:=λid=>B53 s.args id name;unfold eMk;simp only[U3 (U9 s.args name)];refine w228.e.1 λE hP hR hl hid=>?_;simp[w228];have hJ:=hl (J,_) (za ..);simp only at hJ;have J1:=lf hJ;simp[J1];(refine yC rfl (hI E.n0 _ hl8) ?_; simp[J1]);rcases C0q s.args name with⟨h1,h2,h3⟩|⟨k,h1,hk,h2,h3⟩
 ·rw[h2,h3] at hR;refine A7 (by rw[h1]; decide) ?_;simp[J1];refine yE hR [] (by simp[J1,ag0,A4 hid]) λhrn=>⟨?_,?_,?_,?_,?_,?_⟩<;>(try simp[J1,ag0,A4 hid])
 ·rw[h3] at hR;refine A0 (by rw[h1]; simp) ?_;rw[h1];simp[J1,h2,U3 (U9 s.args name)];refine⟨hk,?_⟩;exact yF hR [] (a_ J1 (A4 hid))
def A1m:List UInt8:=[116,121,112,101]
def nId:List UInt8:=[105,100]
def A0G:List UInt8:=[102,105,101,108,100]
def W6:List UInt8:=[116,101,120,116]
def W7:List UInt8:=[110,117,109,98,101,114]
def nTo:List UInt8:=[116,111]
def A75:List UInt8:=[109,97,107,101]
def A8l:List UInt8:=[100,114,111,112]
def B1Q:List UInt8:=[115,101,116]
def B0M:List UInt8:=[108,105,110,107]
def C0s:List UInt8:=[99,117,116]
def W8(s:C4):Int:=if s.name=A75 then 1 else if s.name=A8l then 2 else if s.name=B1Q then (if A2h s.args W6=true then 4 else 3) else if s.name=B0M then 5 else if s.name=C0s then 6 else 0
def B1R(k:Int):List UInt8:=if k=3 then W7 else if k=4 then W6 else nTo
def T3(k:Int):List (List UInt8):=if k=1\/k=2 then [A1m,nId] else [A1m,nId,A0G,B1R k]
def A8m(k:Int):AV:=if k=0 then .nils else .sl ((T3 k).map .str)
def C4W{k:Int}(h:k=1\/k=2):A8m k = .sl [.str [116,121,112,101],.str [105,100]]:=by
 unfold A8m T3; rw[zf o_,zj h]; rfl
theorem C6z:A8m 3 = .sl [.str [116,121,112,101],.str [105,100],.str [102,105,101,108,100],.str [110,117,109,98,101,114]]:=rfl
theorem C70:A8m 4 = .sl [.str [116,121,112,101],.str [105,100],.str [102,105,101,108,100],.str [116,101,120,116]]:=rfl
def C4X{k:Int}(h:k=5\/k=6):A8m k = .sl [.str [116,121,112,101],.str [105,100],.str [102,105,101,108,100],.str [116,111]]:=by
 unfold A8m T3 B1R; rw[zf o_,zf o_,zf o_,zf o_]; rfl
def C71{s:C4}(h:(s.name==A75)=true):W8 s=1:=by unfold W8; rw[zj (v_ h)]
def C72{s:C4}(a:(s.name==A75)=false)(h:(s.name==A8l)=true):W8 s=2:=by unfold W8; rw[zf (v_ a),zj (v_ h)]
def C73{s:C4}(a:(s.name==A75)=false)(b:(s.name==A8l)=false)(h:(s.name==B1Q)=true)(t:A2h s.args W6=true):W8 s=4:=by
 unfold W8; rw[zf (v_ a),zf (v_ b),zj (v_ h),zj t]
def C74{s:C4}(a:(s.name==A75)=false)(b:(s.name==A8l)=false)(h:(s.name==B1Q)=true)(t:A2h s.args W6=false):W8 s=3:=by
 unfold W8; rw[zf (v_ a),zf (v_ b),zj (v_ h),zf (v_ t)]
def C75{s:C4}(a:(s.name==A75)=false)(b:(s.name==A8l)=false)(c:(s.name==B1Q)=false)(h:(s.name==B0M)=true):W8 s=5:=by
 unfold W8; rw[zf (v_ a),zf (v_ b),zf (v_ c),zj (v_ h)]
def C76{s:C4}(a:(s.name==A75)=false)(b:(s.name==A8l)=false)(c:(s.name==B1Q)=false)(d:(s.name==B0M)=false)(h:(s.name==C0s)=true):W8 s=6:=by
 unfold W8; rw[zf (v_ a),zf (v_ b),zf (v_ c),zf (v_ d),zj (v_ h)]
def C77{s:C4}(a:(s.name==A75)=false)(b:(s.name==A8l)=false)(c:(s.name==B1Q)=false)(d:(s.name==B0M)=false)(h:(s.name==C0s)=false):W8 s=0:=by
 unfold W8; rw[zf (v_ a),zf (v_ b),zf (v_ c),zf (v_ d),zf (v_ h)]
def C0t(l:List Ty)(s:C4)(J:Nat)(id:Nat)(hl8:s.args.length<9223372036854775807):A2 prog 225 [.ptr J 0 0] [(J,⟨[eMk l s],eMk l s,false,false⟩)] id (A8m (W8 s)) []:=by
 have hF:=λid=>A5X l s J W6 id hl8;unfold eMk W6 at hF;simp only[U3] at hF;unfold eMk;refine w225.e.1 λE hP hR hl hid=>?_;simp[w225];have hJ:=hl (J,_) (za ..);simp only at hJ;have J1:=lf hJ;refine D4 (λh1=>?_) (λh1=>?_)<;>simp
 ·refine A7 h1 ?_;simp;rw[C71 h1,C4W (.inl rfl)] at hR;have hrn:F3 []:=by simp[J1,A4 hid]
  rw[hR];refine I6 f_ (by simp[J1,A4 hid]<;>exact⟨rfl,rfl⟩) [] hrn ⟨?_,?_,?_,?_,?_,?_⟩<;>(try simp[J1,A4 hid]);exact A5 _ rfl
 refine D4 (λh2=>?_) (λh2=>?_)<;>simp
 ·rw[C72 h1 h2,C4W (.inr rfl)] at hR;have hrn:F3 []:=by simp[J1,A4 hid]
  rw[hR];refine I6 f_ (by simp[J1,A4 hid]<;>exact⟨rfl,rfl⟩) [] hrn ⟨?_,?_,?_,?_,?_,?_⟩<;>(try simp[J1,A4 hid]);exact A5 _ rfl
 refine D4 (λh3=>?_) (λh3=>?_)<;>simp
 ·(refine yC rfl (hF _) ?_; simp[J1]);refine D4 (λh4=>?_) (λh4=>?_)<;>simp
  ·rw[C73 h1 h2 h3 h4,C70] at hR;have hrn:F3 []:=(by simp[J1,A4 hid]);rw[hR];refine I6 f_ (by simp[J1,A4 hid]<;>exact⟨rfl,rfl⟩) [] hrn ⟨?_,?_,?_,?_,?_,?_⟩<;>(try simp[J1,A4 hid]);exact A5 _ rfl
  ·rw[C74 h1 h2 h3 h4,C6z] at hR;have hrn:F3 []:=(by simp[J1,A4 hid]);rw[hR];refine I6 f_ (by simp[J1,A4 hid]<;>exact⟨rfl,rfl⟩) [] hrn ⟨?_,?_,?_,?_,?_,?_⟩<;>(try simp[J1,A4 hid]);exact A5 _ rfl
 refine D4 (λh4=>?_) (λh4=>?_)<;>simp
 ·refine A7 h4 ?_;simp;rw[C75 h1 h2 h3 h4,C4X (.inl rfl)] at hR;have hrn:F3 []:=by simp[J1,A4 hid]
  rw[hR];refine I6 f_ (by simp[J1,A4 hid]<;>exact⟨rfl,rfl⟩) [] hrn ⟨?_,?_,?_,?_,?_,?_⟩<;>(try simp[J1,A4 hid]);exact A5 _ rfl
 refine D4 (λh5=>?_) (λh5=>?_)<;>simp
 ·rw[C76 h1 h2 h3 h4 h5,C4X (.inr rfl)] at hR;have hrn:F3 []:=by simp[J1,A4 hid]
  rw[hR];refine I6 f_ (by simp[J1,A4 hid]<;>exact⟨rfl,rfl⟩) [] hrn ⟨?_,?_,?_,?_,?_,?_⟩<;>(try simp[J1,A4 hid]);exact A5 _ rfl
 ·rw[C77 h1 h2 h3 h4 h5,show A8m 0 = .nils from rfl] at hR;exact yF hR [] (a_ J1 (A4 hid))
def C3X(l:List Ty)(s:C4)(J:Nat)(id:Nat)(hl8:s.args.length<9223372036854775807)(hk:W8 s≠0):A2 prog 227 [.ptr J 0 0] [(J,⟨[eMk l s],eMk l s,false,false⟩)] id (.int .i64 (W8 s)) []:=by
 have hF:=λid=>A5X l s J W6 id hl8;unfold eMk W6 at hF;simp only[U3] at hF;unfold eMk;refine w227.e.1 λE hP hR hl hid=>?_;simp[w227];have hJ:=hl (J,_) (za ..);simp only at hJ;have J1:=lf hJ;refine D4 (λh1=>?_) (λh1=>?_)<;>simp
 ·rw[C71 h1] at hR;exact yF hR [] (a_ J1 (A4 hid))
 refine D4 (λh2=>?_) (λh2=>?_)<;>simp
 ·rw[C72 h1 h2] at hR;exact yF hR [] (a_ J1 (A4 hid))
 refine D4 (λh4=>?_) (λh4=>?_)<;>simp
 ·have h3:(s.name==B1Q)=false:=by
   have:s.name=B0M:=by simpa [B0M] using h4
   rw[this]; rfl
  rw[C75 h1 h2 h3 h4] at hR;exact yF hR [] (a_ J1 (A4 hid))
 refine D4 (λh5=>?_) (λh5=>?_)<;>simp
 ·have h3:(s.name==B1Q)=false:=by
   have:s.name=C0s:=by simpa [C0s] using h5
   rw[this]; rfl
  rw[C76 h1 h2 h3 h4 h5] at hR;exact yF hR [] (a_ J1 (A4 hid))
 have h3:(s.name==B1Q)=true:=zl λh3=>hk (C77 h1 h2 (v_ h3) h4 h5);(refine yC rfl (hF _) ?_; simp[J1]);refine D4 (λh6=>?_) (λh6=>?_)<;>simp
 ·rw[C73 h1 h2 h3 h6] at hR;exact yF hR [] (a_ J1 (A4 hid))
 ·rw[C74 h1 h2 h3 h6] at hR;exact yF hR [] (a_ J1 (A4 hid))
def isT(n:List UInt8):Bool:=n==A1m||n==A0G||n==W6
def A4M(l:List Ag):List (List UInt8)->Int->Int
 | [],w=>w
 | n::r,w=>if A2h l n=false then 1 else A4M l r (if (U9 l n).isText=isT n then w else 7)
def A0m(l:List Ag)(ns:List (List UInt8)):Int:=if l.length≠ns.length then 1 else A4M l ns 0
def L8(S:Nat->Prop)(l:List (List UInt8)):E8 S (l.map .str):=A5 _ (E4 (λ_=>rfl) l)
def C0u(l:List Ty)(s:C4)(ns:List (List UInt8))(J:Nat)(id:Nat)(hl8:s.args.length<9223372036854775807)(hn8:ns.length<=1000):A2 prog 226 [.ptr J 0 0,.sl (ns.map .str)] [(J,⟨[eMk l s],eMk l s,false,false⟩)] id (.int .i64 (A0m s.args ns)) []:=by
 have hF:=λn id=>A5X l s J n id hl8;unfold eMk at hF;simp only[U3 (U9 _ _)] at hF;unfold eMk;refine w226.e.1 λE hP hR hl hid=>?_;simp[w226];have hJ:=hl (J,_) (za ..);simp only at hJ;have J1:=lf hJ;refine D4 (λh1=>?_) (λh1=>?_)<;>simp
 ·have e:A0m s.args ns=1:=by unfold A0m; rw[zj (by simp at h1; omega)]
  rw[e] at hR;exact yF hR [] (a_ J1 (A4 hid))
 have e:A0m s.args ns=A4M s.args ns 0:=by unfold A0m; rw[zf (by simp at h1; omega)]
 rw[e] at hR;refine C1 (X:=Nat×Int) (λx=>⟨[(0,true,.ptr J 0 0),(5,true,.int .i64 x.2),(19,true,.sl (ns.map .str)),(20,true,.int .i64 ns.length),(21,true,.int .i64 x.1)],[(J,some ⟨[.agg [.sl (l.map I7),.str s.alias,.str s.name,.sl (s.args.map q9),.sl (s.kids.map C6)]],.agg [.sl (l.map I7),.str s.alias,.str s.name,.sl (s.args.map q9),.sl (s.kids.map C6)],false,false⟩)],0⟩) (λx=>x.1<=ns.length/\A4M s.args (ns.drop x.1) x.2=A4M s.args ns 0) (λx=>ns.length - x.1) (0,0) ?_ ⟨s_,rfl⟩ ?_
 ·refine yV [] (by simp[L8,J1]) λhrn=>⟨?_,?_,?_,?_,?_⟩<;>(try simp[L8,J1])
 ·rintro⟨i,w⟩ ⟨hi,hf⟩ p hp;simp only at hi hf hp;refine A3 4000 ?_;simp;refine D4 (λh=>?_) (λh=>?_)
  ·have h:=zr h;obtain⟨x,hx,hd⟩:=A8 h;rw[hd] at hf;simp only[A4M] at hf;have hi1:IntKind.i64.wrap ((i:Int)+1)=((i+1:Nat):Int):=wrap64 o_;simp[hx];refine⟨h,?_⟩;(refine yC rfl (hF x _) ?_; simp[J1]);refine D4 (λh2=>?_) (λh2=>?_)<;>simp[J1]
   ·rw[zj (v_ h2)] at hf;rw[←hf] at hR;exact yF hR [] (a_ J1 (A4 hid))
   ·rw[zf (v_ h2)] at hf;refine D4 (λh3=>?_) (λh3=>?_)<;>simp[J1]
    ·refine hp _ (i+1,7) ⟨h,?_⟩ (by simp only[]; omega) ?_
     ·rw[←hf,zf];simpa [isT,A1m,A0G,W6] using h3
     ·refine yV [] (by simp[hi1,L8,J1]) λhrn=>⟨?_,?_,?_,?_,?_⟩<;>(try simp[hi1,L8,J1])
    ·refine hp _ (i+1,w) ⟨h,?_⟩ (by simp only[]; omega) ?_
     ·rw[←hf,zj];simpa [isT,A1m,A0G,W6] using h3
     ·refine yV [] (by simp[hi1,L8,J1]) λhrn=>⟨?_,?_,?_,?_,?_⟩<;>(try simp[hi1,L8,J1])
  ·have h:=zq h;simp;rw[zo o_] at hf;rw[←hf] at hR;refine yE hR [] (by simp[J1,A4M,A4 hid]) λhrn=>⟨?_,?_,?_,?_,?_,?_⟩<;>(try simp[J1,A4M,A4 hid])
def B0N{l:List Ag}(h:Z4 l=0):l.length<=5/\∀a∈l,A8R a=0:=by
 unfold Z4 at h;split at h
 ·omega
 ·refine⟨o_,λa ha=>?_⟩;obtain⟨i,hi⟩:=yp.1 ha;have h0:=R3 _ _ _ h i a hi;unfold A2z at h0;split at h0
  ·rename_i g; exact (g h0).elim
  ·split at h0
   ·omega
   ·exact h0
def B8H{a:Ag}(h:A8R a=0): -999999999<=a.n/\a.n<=999999999/\a.text.length<=40:=by
 unfold A8R at h;split at h
 ·omega
 ·split at h
  ·omega
  ·split at h
   ·omega
   ·rename_i g; omega
def C0v(l:List Ag)(n:List UInt8):U9 l n=ag0\/U9 l n∈l:=by
 rcases C0q l n with⟨_,_,h⟩|⟨k,_,_,h,_⟩
 ·exact .inl h
 ·exact .inr (zg h)
def B1S{l:List Ag}(h:Z4 l=0)(n:List UInt8): -999999999<=(U9 l n).n/\(U9 l n).n<=999999999/\(U9 l n).text.length<=40:=by
 rcases C0v l n with e|e
 ·rw[e]; exact⟨d_,d_,d_⟩
 ·exact B8H ((B0N h).2 _ e)
def B8I{l:List Ag}{n:List UInt8}(h:A2h l n=false):U9 l n=ag0:=by
 rcases C0q l n with⟨_,_,e⟩|⟨k,_,_,_,e⟩
 ·exact e
 ·rw[h] at e; cases e
def A4o{l:List Ag}:∀{ns:List (List UInt8)} {w:Int},A4M l ns w=0->w=0/\∀n∈ns,A2h l n=true/\(U9 l n).isText=isT n
 | [],w,h=>⟨h,λn hn=>by cases hn⟩
 | n::r,w,h=>by
  simp only[A4M] at h;split at h
  ·omega
  ·rename_i g;obtain⟨e,hr⟩:=A4o h;split at e
   ·rename_i g2;refine⟨e,λm hm=>?_⟩;rcases zh.1 hm with rfl|hm
    ·exact⟨v_ g,g2⟩
    ·exact hr m hm
   ·omega
def C0w{n:List UInt8}:∀{ns l:List (List UInt8)},ns.Nodup->(∀m∈ns,m∈l)->n∈l->n∉ns->ns.length<l.length
 | [],l,_,_,hn,_=>qc hn
 | a::r,l,hd,hs,hn,hnn=>by
  obtain⟨h1,h2⟩:=xh.1 hd;have ha:=hs a s_;have ih:=C0w (n:=n) (ns:=r) (l:=l.erase a) h2 (λm hm=>(List.mem_erase_of_ne (by rintro rfl; exact h1 hm)).2 (hs m (t_ hm))) ((List.mem_erase_of_ne (by rintro rfl; exact hnn s_)).2 hn) (λe=>hnn (t_ e));have h3:=List.length_erase_of_mem ha;have h4:=qc ha;simp only[zt];omega
def B3R{l:List Ag}{n:List UInt8}:A2h l n=true↔n∈l.map Ag.name:=by
 unfold A2h;rw[td,zw];constructor
 ·rintro⟨a,h1,h2⟩; exact⟨a,h1,v_ h2⟩
 ·rintro⟨a,h1,h2⟩; exact⟨a,h1,v_ h2⟩
def B0O{l:List Ag}{ns:List (List UInt8)}{n:List UInt8}(hd:ns.Nodup)(hl:l.length=ns.length)(ha:∀m∈ns,A2h l m=true)(hn:n∉ns):A2h l n=false:=by
 refine zl λh=>?_;have h:A2h l n=true:=by simpa using h
 have:=C0w hd (λm hm=>B3R.1 (ha m hm)) (B3R.1 h) hn;simp at this;omega
def B54(s:C4):0<=W8 s/\W8 s<=6:=by
 unfold W8;repeat' split
 all_goals omega
def B0P(s:C4):W8 s=0\/W8 s=1\/W8 s=2\/W8 s=3\/W8 s=4\/W8 s=5\/W8 s=6:=by have:=B54 s; omega
def B0Q(k:Int):List (List UInt8):=if k=1\/k=2 then [] else [A0G,B1R k]
def A1n(k:Int):T3 k=A1m::nId::B0Q k:=by unfold T3 B0Q; split<;>rfl
def A5Y{k:Int}(h:1<=k/\k<=6):(T3 k).Nodup:=by
 have:k=1\/k=2\/k=3\/k=4\/k=5\/k=6:=by omega
 rcases this with rfl|rfl|rfl|rfl|rfl|rfl<;>decide
def tyI(l:List Ty)(s:C4):Int:=B7 l (U9 s.args A1m).text
def fdI(l:List Ty)(s:C4):Int:=B9 (λf=>f.name==(U9 s.args A0G).text) (D7 l (tyI l s)) 0
def mkE(l:List Ty)(s:C4):Int :=
 if s.kids≠[] then 4 else if W8 s=0 then 5 else if A0m s.args (T3 (W8 s))≠0 then A0m s.args (T3 (W8 s))
 else if tyI l s<0 then 5 else if 2<W8 s/\fdI l s<0 then 5 else 0
def B8J(s:C4):Ag:=if 2<W8 s then U9 s.args (B1R (W8 s)) else ag0
def mkX(l:List Ty)(s:C4):Ev:=⟨W8 s,tyI l s,(U9 s.args nId).n,if 2<W8 s then fdI l s else 0,(B8J s).n,(B8J s).text⟩
def evX(l:List Ty)(s:C4):Ev:=if mkE l s=0 then mkX l s else ⟨0,0,0,0,0,[]⟩
def nm3:Nat->List UInt8|0=>W7|1=>nTo|_=>W6
def sN(l:List Ag):Nat->Int|0=>0|i+1=>sN l i+(U9 l (nm3 i)).n
def sT(l:List Ag):Nat->List UInt8|0=>[]|i+1=>sT l i++(U9 l (nm3 i)).text
def C3Y{l:List Ag}(h:Z4 l=0):∀i:Nat,-(999999999*(i:Int))<=sN l i/\sN l i<=999999999*(i:Int)/\(sT l i).length<=40*i
 | 0=>⟨by simp[sN],by simp[sN],by simp[sT]⟩
 | i+1=>by
  have h1:=C3Y h i;have h2:=B1S h (nm3 i);simp only[sN,sT,zx];omega
def s3{s:C4}(hk:W8 s≠0)(h:A0m s.args (T3 (W8 s))=0):sN s.args 3=(B8J s).n/\sT s.args 3=(B8J s).text:=by
 unfold A0m at h;split at h
 ·omega
 rename_i hl;have hl:s.args.length=(T3 (W8 s)).length:=by omega
 have ha:=λm hm=>((A4o h).2 m hm).1;have hd:=A5Y (k:=W8 s) (by have:=B54 s; omega);have no:=λ(n:List UInt8) (hn:n∉T3 (W8 s))=>B8I (B0O hd hl ha hn);simp only[sN,sT,nm3];unfold B8J;have c:=B0P s;generalize W8 s=k at *;rcases c with rfl|rfl|rfl|rfl|rfl|rfl|rfl
 ·exact (hk rfl).elim
 ·rw[no W7 d_,no nTo d_,no W6 d_,zf d_]; exact⟨rfl,rfl⟩
 ·rw[no W7 d_,no nTo d_,no W6 d_,zf d_]; exact⟨rfl,rfl⟩
 ·rw[no nTo d_,no W6 d_,zj d_,show B1R 3=W7 from rfl]; simp[ag0]
 ·rw[no nTo d_,no W7 d_,zj d_,show B1R 4=W6 from rfl]; simp[ag0]
 ·rw[no W6 d_,no W7 d_,zj d_,show B1R 5=nTo from rfl]; simp[ag0]
 ·rw[no W6 d_,no W7 d_,zj d_,show B1R 6=nTo from rfl]; simp[ag0]
def B8K{s:C4}(hk:W8 s≠0)(h:A0m s.args (T3 (W8 s))=0):A2h s.args A0G=decide (2<W8 s):=by
 unfold A0m at h;split at h
 ·omega
 rename_i hl;have hl:s.args.length=(T3 (W8 s)).length:=by omega
 have ha:=λm hm=>((A4o h).2 m hm).1;have hd:=A5Y (k:=W8 s) (by have:=B54 s; omega);have no:=λ(n:List UInt8) (hn:n∉T3 (W8 s))=>B0O hd hl ha hn;have c:=B0P s;generalize W8 s=k at *;rcases c with rfl|rfl|rfl|rfl|rfl|rfl|rfl
 ·exact (hk rfl).elim
 ·rw[no A0G d_]; rfl
 ·rw[no A0G d_]; rfl
 all_goals rw[ha A0G d_]; rfl
end Go.Am
