/- Parts of the proof: an abstract machine for Go functions, and what functions of the program give back (Pu4, Dw2, Rd2, Bf2, Un1, CcH, Hi1, Hi2, Hi3, Ch1, Ch2, Ch3, Ch4). No condition. -/
import Derived.Test.YtphjabjjnncebaaGreatDoorXN
import Derived.Test.YtphjabjjnncebaaGreatDoorXI
import Derived.Test.YtphjabjjnncebaaGreatDoorXK
import Derived.Test.YtphjabjjnncebaaGreatDoorXG
import Derived.Test.YtphjabjjnncebaaGreatDoorXF
import Derived.Test.YtphjabjjnncebaaGreatDoorXJ
import Derived.Test.YtphjabjjnncebaaGreatDoorXH
set_option maxRecDepth 100000
set_option linter.all false
set_option maxHeartbeats 4000000
namespace Go.Am
open Go Go.Proofs Go.RowKit
/-! An event of one thing leaves all others. -/
def P1(l:List Bt):List Ev:=l.flatMap (·.events)
def bxQ(x y:AV)(bs:List Bt):Bx:=⟨[.agg [x,y,.sl (bs.map p7)]],.agg [.nils,.nils,.sl (bs.map p7)],false,false⟩
def bxO(s:I4)(bs:List Bt):Bx:=bxQ (.sl (s.types.map J3)) (.sl (s.things.map X2)) bs
theorem A86{l:List Bt}(h:∀b∈l,b.events.length<=8):(P1 l).length<=8*l.length:=by
 induction l with
 | nil=>simp[P1]
 | cons b r ih =>
  have h1:=h b (List.mem_cons_self ..);have h2:=ih fun x hx=>h x (List.mem_cons_of_mem _ hx);simp only[P1,List.flatMap_cons,List.length_append,List.length_cons] at h2 ⊢; omega
theorem A9s(j:Nat)(x y:AV)(hx:x.pureB=true)(hy:y.pureB=true)(bs:List Bt)(n:Nat)(hn:n<=bs.length)(id:Nat)(h8:bs.length<=10000)(he:∀b∈bs,b.events.length<=8):A2 Tryz.prog 59 [.ptr j 0 0,.int .i64 n] [(j,bxQ x y bs)] id (.sl ((P1 (bs.take n)).map R4)) []:=by
 unfold bxQ;refine w59.e.1 fun E hP hR hl hid=>?_;simp[w59];have hj:=hl (j,_) (List.mem_cons_self ..);simp only at hj;have j1:=lf hj;simp[j1,hn];have htl:(bs.take n).length=n:=by rw[List.length_take]; omega
 have hte:∀b∈bs.take n,b.events.length<=8:=fun b hb=>he b (List.mem_of_mem_take hb);have hall:=A86 hte;refine⟨fun a _=>rfl,?_⟩;rw[←List.map_take];generalize bs.take n=ts at *;refine D3 (X:=Nat×List Ev) (fun q=>⟨[(13,true,.sl (ts.map p7)),(14,true,.int .i64 n),(15,true,.int .i64 q.1),(5,true,.bsl E.n0 0 q.2.length)],[(j,some ⟨[.agg [x,y,.sl (bs.map p7)]],.agg [.nils,.nils,.sl (bs.map p7)],false,false⟩),(E.n0,some (bxE q.2 false))],1⟩)
  (fun q=>q.1<=n/\q.2++P1 (ts.drop q.1)=P1 ts) (fun q=>n - q.1) (0,[]) ?_ ⟨by simp,rfl⟩ ?_
 ·refine E5.trans (E5.voidSlot 5 (x:=.nils) (by simp) .nils (.agg [.int .i64 0,.int .i64 0,.int .i64 0,.int .i64 0,.int .i64 0,.str []])) ?_;refine yV [(E.n0,E.n0+10240)] (by simp[bxE,j1]) fun hrn=>⟨?_,?_,?_,?_,?_⟩<;>(try simp[bxE,j1]);all_goals exact⟨K7 rfl hx,K7 rfl hy⟩
 rintro⟨i,acc⟩ ⟨hi,ha⟩ p hp;simp only at hi ha;have hal:acc.length<=80000:=by
  have:=congrArg List.length ha;rw[List.length_append] at this; omega
 rcases Nat.lt_or_ge i n with h|h
 rotate_left
 ·rw[List.drop_of_length_le (by omega)] at ha;have ha:acc=P1 ts:=by simpa [P1] using ha
  rw[←ha] at hR;refine A3 4000 ?_;simp[Nat.not_lt.2 h];have hrn:H2 []:=by simp[bxE,j1,A4 hid]
  rw[hR];refine K5 (by simp<;>rfl) (by simp[bxE,j1,A4 hid]<;>exact⟨rfl,rfl⟩) [] hrn ⟨?_,?_,?_,?_,?_,?_⟩<;>(try simp[bxE,j1,A4 hid]);all_goals exact⟨K7 rfl hx,K7 rfl hy⟩
 obtain⟨b,hb,hd⟩:=B6 (show i<ts.length by omega);have hi1:IntKind.i64.wrap ((i:Int)+1)=((i+1:Nat):Int):=A5 (by omega);have hbl:b.events.length<=8:=hte b (List.mem_of_getElem? hb);rw[hd] at ha;have ha:(acc++b.events)++P1 (ts.drop (i+1))=P1 ts:=by rw[←ha]; simp[P1]
 refine A3 4000 ?_;simp[h,hb,p7,bxE,j1];refine⟨by omega,⟨fun a _=>⟨rfl,fun z hz=>?_⟩,by omega,by omega⟩,hp _ (i+1,acc++b.events) ⟨h,ha⟩ (by simp; omega) ?_⟩
 ·have hz:z∈(R4 a).cells:=hz;simp only[R4,AV.cells,List.mem_cons,List.not_mem_nil,or_false] at hz;rcases hz with rfl|rfl|rfl|rfl|rfl|rfl<;>rfl
 ·refine yV [(E.n0,E.n0+8193)] (by simp[bxE,hi1,j1]) fun hrn=>⟨?_,?_,?_,?_,?_⟩<;>(try simp[bxE,hi1,j1]);all_goals exact⟨⟨K7 rfl hx,K7 rfl hy⟩,C1 rfl (C3 (A33 _) (A33 _))⟩
theorem A20{q:Nat×Option Bx}:∀{wr l:List (Nat×Option Bx)},q∈g8 l wr->q∈l\/q∈wr
 | [],_,h=>.inl h
 | p::wr,l,h=>by
  rw[g8] at h;rcases A20 h with h|h
  ·rcases List.mem_cons.1 h with rfl|h
   ·exact .inr (List.mem_cons_self ..)
   ·exact .inl h
  ·exact .inr (List.mem_cons_of_mem _ h)
theorem B9R{T:Nat}{S:List H1}:∀q∈v7 T S,q.2.ro=false:=fun q hq=>by
 rcases List.mem_cons.1 hq with rfl|hq
 ·rfl
 ·obtain⟨o,_,hq⟩:=List.mem_flatMap.1 hq;rcases List.mem_cons.1 hq with rfl|hq
  ·rfl
  ·have:∀(cs:List Cl) (is:List (Option Nat)),∀q∈A0D cs is,q.2.ro=false:=fun cs=>by
    induction cs with
    | nil=>intro is q h; cases h
    | cons c cs ih =>
     intro is q h;cases is with
     | nil=>cases h
     | cons i is =>
      rcases List.mem_append.1 h with h|h
      ·cases i with
       | none=>cases h
       | some i=>simp only[idB,List.mem_singleton] at h; subst h; rfl
      ·exact ih is q h
   exact this _ _ q hq
theorem A4G{y:Nat}{b:Option Bx}{L:List (Nat×Option Bx)}:bk ((y,b)::L) y=b:=by simp[bk]
end Go.Am
namespace Go.Am
end Go.Am
namespace Go.Am
open Go Go.Proofs Go.RowKit
theorem B9S{n:Nat}{v:Bool×AV}:∀{l:List (Nat×Bool×AV)},lk l n=some v->(n,v)∈l
 | [],h=>by cases h
 | (m,c,u)::l,h=>by
  simp only[lk] at h;split at h
  ·rename_i e; subst e; injection h with h; subst h; exact List.mem_cons_self ..
  ·exact List.mem_cons_of_mem _ (B9S h)
theorem B9T{y:Nat}{b:Bx}:∀{l:List (Nat×Option Bx)},bk l y=some b->(y,some b)∈l
 | [],h=>by cases h
 | (m,c)::l,h=>by
  simp only[bk] at h;split at h
  ·rename_i e; subst e; rw[h]; exact List.mem_cons_self ..
  ·exact List.mem_cons_of_mem _ (B9T h)
theorem E5.stayL{E:Q7}{σ σ':St}(hk:σ.k<=σ'.k)(hf:∀q∈σ'.fr,lk σ.fr q.1=some q.2)(hb:∀q∈σ'.bx,∀b,q.2=some b->bk σ.bx q.1=some b)(hc:∀q∈σ.bx,E.n0<=q.1\/J7 q.1 σ'.bx):E5 E σ σ' :=
 E5.stay hk (fun n c v h=>hf _ (B9S h)) (fun y b h=>hb _ (B9T h) b rfl) hc
theorem S5{q:Nat×Option Bx}:∀{l:List (Nat×Bx)},q∈C9 l->∃p∈l,q=(p.1,some p.2)
 | [],h=>by cases h
 | (i,b)::l,h=>by
  rcases List.mem_cons.1 h with rfl|h
  ·exact⟨_,List.mem_cons_self ..,rfl⟩
  ·obtain⟨p,h1,h2⟩:=S5 h;exact⟨p,List.mem_cons_of_mem _ h1,h2⟩
theorem m9{q:Nat×Option Bx}{l:List (Nat×Bx)}(h:q∈S1 l):∃p∈l,q=(p.1,none):=by
 obtain⟨p,h1,h2⟩:=List.mem_map.1 h;exact⟨p,h1,h2.symm⟩
theorem Y5{M:List (Nat×Option Bx)}{q:Nat×Bx}:∀{l:List (Nat×Bx)},(l.map Prod.fst).Nodup->q∈l->bk (C9 l++M) q.1=some q.2
 | [],_,h=>by cases h
 | (i,b)::l,hn,h=>by
  rw[List.map_cons,List.nodup_cons] at hn;show (if q.1=i then some b else bk (C9 l++M) q.1)=some q.2;rcases List.mem_cons.1 h with rfl|h
  ·simp
  ·rw[if_neg fun e=>hn.1 (List.mem_map.2 ⟨q,h,e⟩)];exact Y5 hn.2 h
theorem A87{T:Nat}{S:List H1}{q:Nat×Bx}(h:q∈v7 T S):q.1∈Z6 T S:=List.mem_map.2 ⟨q,h,rfl⟩
theorem C4i{T:Nat}{S:List H1}{z:Nat}(h:z∈Z6 T S):∃q∈v7 T S,q.1=z:=List.mem_map.1 h
def o6(s:I4):List Ev->I4
 | []=>s
 | e::l=>o6 (A2m s e) l
def T9(s:I4):List Ev->Int
 | []=>0
 | e::l=>if A1c s e≠0 then A1c s e else T9 (A2m s e) l
def A3J(s:I4)(l:List Ev):AV:=if T9 s l=0 then I2 (o6 s l) else eS0
theorem A6t{l:List Ty}{S:List H1}(h:Rt (A6 l S)):StR (A6 l S):=h.r
theorem C3Z(l:List Ty)(S0:List H1)(T0:Nat)(ev:List Ev)(id:Nat)(hnd:(Z6 T0 S0).Nodup)(hok:∀o∈S0,o.Ok)(hR0:Rt (A6 l S0))(hI:∀e∈ev,I64 e.n)(hlen:ev.length<=1000000000000000):
  A2 Tryz.prog 116 [.agg [.sl (l.map J3),.bsl T0 0 S0.length],.sl (ev.map R4)] (v7 T0 S0) id (.tup [A3J (A6 l S0) ev,.int .i64 (T9 (A6 l S0) ev)]) (S1 (v7 T0 S0)):=by
 refine w116.b.1 fun E hP hR hl hid hB hu=>?_;simp[w116];have hlt:∀z∈Z6 T0 S0,z<E.n0:=fun z hz=>by
  obtain⟨q,hq,rfl⟩:=List.mem_map.1 (show z∈(v7 T0 S0).map Prod.fst from hz);exact (hl q hq).1
 have hgone:∀z∈Z6 T0 S0,∀(A B:Nat×Option Bx) X,J7 z (A::B::(X++S1 (v7 T0 S0))):=fun z hz A B X=>by
  obtain⟨q,hq,rfl⟩:=List.mem_map.1 (show z∈(v7 T0 S0).map Prod.fst from hz);exact .inr (.inr (A11.2 ⟨(q.1,none),List.mem_append_right _ (List.mem_map.2 ⟨q,hq,rfl⟩),rfl⟩))
 refine D3 (X:=Nat×Nat×List H1×Nat) (fun q=>⟨[(2,true,.ptr E.n0 0 0),(4,true,.ptr (E.n0+1024) 0 0),(10,true,.sl (ev.map R4)),(11,true,.int .i64 ev.length),(12,true,.int .i64 q.1)],
  (E.n0,some ⟨[.agg [.sl (l.map J3),.bsl q.2.1 0 q.2.2.1.length]],.agg [.sl (l.map J3),.bsl T0 0 S0.length],false,false⟩)::(E.n0+1024,some ⟨[.agg [.nils,.nils]],.agg [.nils,.nils],false,false⟩)::(C9 (v7 q.2.1 q.2.2.1)++S1 (v7 T0 S0)),q.2.2.2⟩)
  (fun q=>q.1<=ev.length/\6144<=q.2.2.2/\(Z6 q.2.1 q.2.2.1).Nodup/\(∀z∈Z6 q.2.1 q.2.2.1,z∈Z6 T0 S0\/(E.n0+6144<=z/\z<E.n0+q.2.2.2))/\(∀o∈q.2.2.1,o.Ok)/\Rt (A6 l q.2.2.1)/\o6 (A6 l q.2.2.1) (ev.drop q.1)=o6 (A6 l S0) ev/\T9 (A6 l q.2.2.1) (ev.drop q.1)=T9 (A6 l S0) ev)
  (fun q=>ev.length - q.1) (0,T0,S0,6144) ?_ ⟨by omega,by simp,hnd,fun z hz=>.inl hz,hok,hR0,rfl,rfl⟩ ?_
 ·refine E5.stayL (by simp) (by simp) (fun q hq b hb=>?_) fun q hq=>?_
  ·rcases List.mem_cons.1 hq with rfl|hq
   ·injection hb with hb; subst hb; simp
   rcases List.mem_cons.1 hq with rfl|hq
   ·injection hb with hb; subst hb; simp
   rcases List.mem_append.1 hq with hq|hq
   ·obtain⟨p,hp,rfl⟩:=S5 hq;injection hb with hb; subst hb
    have h1:=(hl p hp).1;have:=Y5 (M:=[]) (l:=v7 T0 S0) hnd hp;rw[List.append_nil] at this;simp only[bk];rw[if_neg (by omega),if_neg (by omega)];exact this
   ·obtain⟨p,hp,rfl⟩:=m9 hq;cases hb
  ·rcases List.mem_cons.1 hq with rfl|hq
   ·left; simp
   rcases List.mem_cons.1 hq with rfl|hq
   ·left; simp
   obtain⟨p,hp,rfl⟩:=S5 hq;right
   exact .inr (.inr (A11.2 ⟨_,List.mem_append_left _ hq,rfl⟩))
 ·rintro⟨i,T,S,K⟩ ⟨hi,hK,hnd1,hnm,hok1,hR1,hfs,hfe⟩ p hp;simp only at hi hK hnd1 hnm hok1 hR1 hfs hfe;refine A3 8 ?_;simp;refine B3k (b:=decide (i<ev.length)) (by simp) (by simp) (fun h=>?_) (fun h=>?_)
  ·have h:=of_decide_eq_true h;obtain⟨e,he,hd⟩:=B6 h;rw[hd] at hfs hfe;simp only[o6,T9] at hfs hfe;have hei:=hI e (List.mem_of_getElem? he);have hi1:IntKind.i64.wrap ((i:Int)+1)=((i+1:Nat):Int):=A5 (by omega);have hin:∀q∈v7 T S,bk (C9 (v7 T S)++S1 (v7 T0 S0)) q.1=some q.2:=fun q hq=>Y5 (l:=v7 T S) hnd1 hq;have hnz:∀z∈Z6 T S,z≠E.n0/\z≠E.n0+1024/\(z<E.n0+K):=fun z hz=>by
    rcases hnm z hz with h|h
    ·have:=hlt z h; omega
    ·omega
   by_cases hE:A1c (A6 l S) e=0
   ·rw[if_neg (by simpa using hE)] at hfe;obtain⟨T',S',wr,hf,ht,hst⟩:=B2r (id:=E.n0+(K+1024+4096+1024*2)) hnd1 (fun z hz=>by have:=hnz z hz; omega) hok1 (A6t hR1) hE;unfold R4 at hf;have hwk:∀q∈wr,q.1∈Z6 T S\/(E.n0+(K+1024+4096+1024*2)<=q.1/\q.1<E.n0+(K+1024+4096+1024*2)+1024):=ht.kw;have hsk:∀L z,(z=E.n0\/z=E.n0+1024)->bk (g8 L wr) z=bk L z:=fun L z hz=>by
     rw[A1F];exact x8 fun q hq=>by
      rcases hwk q hq with h|h
      ·have:=hnz _ h; omega
      ·omega
    have hsk0:=fun L=>hsk L E.n0 (.inl rfl);have hsk1:=fun L=>hsk L (E.n0+1024) (.inr rfl);refine A3 4000 ?_;simp[he,R4];refine⟨h,?_⟩;refine E0 hP rfl hf (by simp) (p5.of fun q hq=>?_) ?_
    ·have:=hnz q.1 (List.mem_map.2 ⟨q,hq,rfl⟩);simp only[bk];rw[if_neg (by omega),if_neg (by omega),if_neg (by omega),if_neg (by omega)];exact hin q hq
    refine A3 4000 ?_;simp[hsk0,hsk1];have hL0:J9 (bk ((E.n0+(K+1024+2048),some ⟨[.agg [.int .i64 e.kind,.int .i64 e.type,.int .i64 e.id,.int .i64 e.field,.int .i64 e.n,.str e.text]],.agg [.int .i64 0,.int .i64 0,.int .i64 0,.int .i64 0,.int .i64 0,.str []],false,false⟩)::(E.n0+(K+1024+2048),some ⟨[.agg [.int .i64 0,.int .i64 0,.int .i64 0,.int .i64 0,.int .i64 0,.str []]],.agg [.int .i64 0,.int .i64 0,.int .i64 0,.int .i64 0,.int .i64 0,.str []],false,false⟩)::(E.n0,some ⟨[.agg [.sl (l.map J3),.bsl T 0 S.length]],.agg [.sl (l.map J3),.bsl T0 0 S0.length],false,false⟩)::(E.n0+1024,some ⟨[.agg [.nils,.nils]],.agg [.nils,.nils],false,false⟩)::(C9 (v7 T S)++S1 (v7 T0 S0)))) (v7 T S):=fun q hq=>by
     have:=hnz q.1 (List.mem_map.2 ⟨q,hq,rfl⟩);simp only[bk];rw[if_neg (by omega),if_neg (by omega),if_neg (by omega),if_neg (by omega)];exact hin q hq
    refine hp _ (i+1,T',S',K+1024+21504) ⟨by simp only; omega,by simp only; omega,ht.nd,fun z hz=>?_,ht.ok,?_,?_,?_⟩ (by simp only; omega) ?_
    ·simp only;rcases ht.nm z hz with h|h
     ·exact (hnm z h).imp _root_.id fun h=>by omega
     ·right; omega
    ·simp only;rw[hst]; exact (B4L hR1 hei hE).1
    ·simp only;rw[hst]; exact hfs
    ·simp only;rw[hst]; exact hfe
    ·refine E5.stayL (by simp only; omega) (by simp[hi1]) (fun q hq b hb=>?_) fun q hq=>?_
     ·rcases List.mem_cons.1 hq with rfl|hq
      ·injection hb with hb; subst hb; simp
      rcases List.mem_cons.1 hq with rfl|hq
      ·injection hb with hb; subst hb; simp[hsk1]
      rcases List.mem_append.1 hq with hq|hq
      ·obtain⟨p,hp,rfl⟩:=S5 hq;injection hb with hb; subst hb
       have hz:p.1<E.n0+(K+1024+4096+1024*2)+1024/\p.1≠E.n0:=by
        rcases ht.nm p.1 (List.mem_map.2 ⟨p,hp,rfl⟩) with h|h
        ·have:=hnz _ h; omega
        ·omega
       simp only[bk];rw[if_neg (by omega),if_neg (by omega),if_neg (by omega),A1F];exact ht.has _ hL0 p hp
      ·obtain⟨p,hp,rfl⟩:=m9 hq;cases hb
     ·have hT:∀z,z∈Z6 T S->E.n0<=z\/z∈Z6 T0 S0:=fun z hz=>by
       rcases hnm z hz with h|h
       ·exact .inr h
       ·left; omega
      have hfin:E.n0<=q.1\/q.1∈Z6 T0 S0:=by
       rcases List.mem_cons.1 hq with rfl|hq
       ·left; simp
       rcases List.mem_cons.1 hq with rfl|hq
       ·left; simp
       rcases List.mem_cons.1 hq with rfl|hq
       ·left; simp
       rcases A20 hq with hq|hq
       ·rcases List.mem_cons.1 hq with rfl|hq
        ·left; simp
        rcases List.mem_cons.1 hq with rfl|hq
        ·left; simp
        rcases List.mem_cons.1 hq with rfl|hq
        ·left; simp
        rcases List.mem_cons.1 hq with rfl|hq
        ·left; simp
        rcases List.mem_append.1 hq with hq|hq
        ·obtain⟨p,hp,rfl⟩:=S5 hq;exact hT _ (A87 hp)
        ·obtain⟨p,hp,rfl⟩:=m9 hq;exact .inr (A87 hp)
       ·rcases hwk q hq with h|h
        ·exact hT _ h
        ·left; omega
      exact hfin.imp _root_.id fun h=>hgone _ h _ _ _
   ·have hf:=A9q (id:=E.n0+(K+1024+4096+1024*2)) hnd1 (fun z hz=>by have:=hnz z hz; omega) hok1 (A6t hR1) hE;unfold R4 at hf;refine A3 4000 ?_;simp[he,R4];refine⟨h,?_⟩;unfold eS0 at hf;refine E0 hP rfl hf (by simp) (p5.of fun q hq=>?_) ?_
    ·have:=hnz q.1 (List.mem_map.2 ⟨q,hq,rfl⟩);simp only[bk];rw[if_neg (by omega),if_neg (by omega),if_neg (by omega),if_neg (by omega)];exact hin q hq
    refine A3 4000 ?_;simp;refine B2 (by simpa using hE) ?_;simp;rw[if_pos hE] at hfe;have hA:A3J (A6 l S0) ev = .agg [.nils,.nils]:=(by unfold A3J eS0; rw[if_neg (by rw[←hfe]; exact hE)]);rw[hA,←hfe] at hR;rw[hR];refine E9 (by simp<;>rfl) [] trivial (A3c (by simp) (by simp) fun q hq=>?_);simp only[List.mem_cons] at hq;rcases hq with rfl|rfl|rfl|rfl|rfl|rfl|rfl|hq
    all_goals first|(left; simp; done)|skip
    rcases List.mem_append.1 hq with hq|hq
    ·obtain⟨p,hp,rfl⟩:=S5 hq;rcases hnm p.1 (List.mem_map.2 ⟨p,hp,rfl⟩) with h|h
     ·exact .inr h
     ·left; simp only; omega
    ·obtain⟨p,hp,rfl⟩:=m9 hq;exact .inr (A87 hp)
  ·have h:=of_decide_eq_false h;rw[List.drop_of_length_le (by omega)] at hfs hfe;simp only[o6,T9] at hfs hfe;refine A3 21 ?_;simp;have hA:A3J (A6 l S0) ev = .agg [.sl (l.map J3),.sl ((S.map H1.t).map X2)]:=(by unfold A3J; rw[if_pos hfe.symm,←hfs]; rfl);rw[hA,←hfe] at hR;have hin:∀q∈v7 T S,bk (C9 (v7 T S)++S1 (v7 T0 S0)) q.1=some q.2:=fun q hq=>Y5 (l:=v7 T S) hnd1 hq;have hnz:∀z∈Z6 T S,z≠E.n0/\z≠E.n0+1024:=fun z hz=>by
    rcases hnm z hz with h|h
    ·have:=hlt z h; omega
    ·omega
   refine A5O (E5.deepL 4 ((E.n0+1024,⟨[.agg [.sl (l.map J3),.bsl T 0 S.length]],.agg [.nils,.nils],false,false⟩)::v7 T S) (S1 (v7 T0 S0)) (x:=.ptr (E.n0+1024) 0 0) (y:=.cptr [.sl (l.map J3),.sl ((S.map H1.t).map X2)]) rfl (fun q hq=>?_) ?_ ⟨fun y b hy=>?_,fun q hq=>?_⟩) ?_
   ·rcases List.mem_cons.1 hq with rfl|hq
    ·exact⟨A4G,rfl⟩
    ·have:=hnz q.1 (List.mem_map.2 ⟨q,hq,rfl⟩);refine⟨?_,B9R q hq⟩;simp only[bk];rw[if_neg (by omega),if_neg (by omega),if_neg (by omega)];exact hin q hq
   ·refine .ptr _ _ (.agg [.sl (l.map J3),.bsl T 0 S.length]) _ (List.mem_cons_self ..) rfl rfl fun j c d h1 h2=>?_;match j,h1,h2 with
    | 0,h1,h2 =>
     injection h1 with h1; injection h2 with h2
     subst h1 h2; exact .same _
    | 1,h1,h2 =>
     injection h1 with h1; injection h2 with h2
     subst h1 h2;exact A5k hok1 (List.mem_cons_of_mem _ (List.mem_cons_self ..)) fun q hq=>List.mem_cons_of_mem _ (List.mem_cons_of_mem _ hq)
    | j+2,h1,h2=>simp[AV.cells] at h1
   ·rw[B2A] at hy; cases hy
   ·have hfin:E.n0<=q.1\/q.1∈Z6 T0 S0:=by
     simp only[List.mem_cons] at hq;rcases hq with rfl|rfl|rfl|hq
     all_goals first|(left; simp; done)|skip
     rcases List.mem_append.1 hq with hq|hq
     ·obtain⟨p,hp,rfl⟩:=S5 hq;rcases hnm p.1 (List.mem_map.2 ⟨p,hp,rfl⟩) with h|h
      ·exact .inr h
      ·left; simp only; omega
     ·obtain⟨p,hp,rfl⟩:=m9 hq;exact .inr (A87 hp)
    refine hfin.imp _root_.id fun h=>?_;obtain⟨p,hp,e⟩:=C4i h;rw[←e];exact B0d hp
   ·refine A3 5 ?_;simp;have hp:F8 (List.map (X2∘H1.t) S)=true:=E8 (f:=X2∘H1.t) (fun o=>A4m o.t) S;rw[hR];refine E9 (by simp<;>rfl) [] trivial (A3c (by simp) (by simp[hp]) fun q hq=>?_);obtain⟨p,hp,rfl⟩:=m9 hq;exact .inr (A87 hp)
theorem C3a(l:List Ty)(ev:List Ev)(id:Nat)(hR0:Rt (A6 l []))(hI:∀e∈ev,I64 e.n)(hlen:ev.length<=1000000000000000):
  A2 Tryz.prog 116 [.agg [.sl (l.map J3),.nils],.sl (ev.map R4)] (([]:List (Nat×Bx))) id (.tup [A3J (A6 l []) ev,.int .i64 (T9 (A6 l []) ev)]) (S1 (([]:List (Nat×Bx)))):=by
 refine w116.e.1 fun E hP hR hl hid=>?_;simp[w116];refine D3 (X:=Nat×Nat×List H1×Nat) (fun q=>⟨[(2,true,.ptr E.n0 0 0),(4,true,.ptr (E.n0+1024) 0 0),(10,true,.sl (ev.map R4)),(11,true,.int .i64 ev.length),(12,true,.int .i64 q.1)],
  (E.n0,some ⟨[.agg [.sl (l.map J3),.bsl q.2.1 0 q.2.2.1.length]],.agg [.sl (l.map J3),.nils],false,false⟩)::(E.n0+1024,some ⟨[.agg [.nils,.nils]],.agg [.nils,.nils],false,false⟩)::(C9 (v7 q.2.1 q.2.2.1)++S1 (([]:List (Nat×Bx)))),q.2.2.2⟩)
  (fun q=>q.1<=ev.length/\6144<=q.2.2.2/\(Z6 q.2.1 q.2.2.1).Nodup/\(∀z∈Z6 q.2.1 q.2.2.1,z∈([]:List Nat)\/(E.n0+6144<=z/\z<E.n0+q.2.2.2))/\(∀o∈q.2.2.1,o.Ok)/\Rt (A6 l q.2.2.1)/\o6 (A6 l q.2.2.1) (ev.drop q.1)=o6 (A6 l []) ev/\T9 (A6 l q.2.2.1) (ev.drop q.1)=T9 (A6 l []) ev)
  (fun q=>ev.length - q.1) (0,E.n0+6144,[],6145) ?_ ⟨by omega,by simp,by simp[Z6,nmR,I5],fun z hz=>.inr (by simp[Z6,nmR,I5] at hz; simp only; omega),fun o ho=>(by cases ho),hR0,rfl,rfl⟩ ?_
 ·refine E5.trans (E5.voidBox E.n0 (by simp; rfl) rfl (.agg [.sl (l.map J3),.nils] [.sl (l.map J3),.bsl (E.n0+6144) 0 0] rfl (fun m x y h1 h2=>?_)) zT) ?_
  ·match m,h1,h2 with
   | 0,h1,h2=>injection h1 with h1; injection h2 with h2; subst h1 h2; exact .inl rfl
   | 1,h1,h2=>injection h1 with h1; injection h2 with h2; subst h1 h2; exact .inr ⟨rfl,rfl⟩
   | m+2,h1,h2=>simp at h1
  ·refine E5.stayL (by simp) (by simp) (fun q hq b hb=>?_) fun q hq=>?_
   ·simp only[v7,I5,List.flatMap_nil,C9,S1,List.map_nil,List.append_nil,List.mem_cons,List.not_mem_nil,or_false] at hq;rcases hq with rfl|rfl|rfl
    ·injection hb with hb; subst hb; simp
    ·injection hb with hb; subst hb; simp
    ·injection hb with hb; subst hb; simp[P0]
   ·left
    simp only[List.mem_cons,List.not_mem_nil,or_false] at hq;rcases hq with rfl|rfl|rfl|rfl<;>simp
 ·rintro⟨i,T,S,K⟩ ⟨hi,hK,hnd1,hnm,hok1,hR1,hfs,hfe⟩ p hp;simp only at hi hK hnd1 hnm hok1 hR1 hfs hfe;refine A3 8 ?_;simp;refine B3k (b:=decide (i<ev.length)) (by simp) (by simp) (fun h=>?_) (fun h=>?_)
  ·have h:=of_decide_eq_true h;obtain⟨e,he,hd⟩:=B6 h;rw[hd] at hfs hfe;simp only[o6,T9] at hfs hfe;have hei:=hI e (List.mem_of_getElem? he);have hi1:IntKind.i64.wrap ((i:Int)+1)=((i+1:Nat):Int):=A5 (by omega);have hin:∀q∈v7 T S,bk (C9 (v7 T S)++S1 (([]:List (Nat×Bx)))) q.1=some q.2:=fun q hq=>Y5 (l:=v7 T S) hnd1 hq;have hnz:∀z∈Z6 T S,z≠E.n0/\z≠E.n0+1024/\(z<E.n0+K):=fun z hz=>by
    rcases hnm z hz with h|h
    ·cases h
    ·omega
   by_cases hE:A1c (A6 l S) e=0
   ·rw[if_neg (by simpa using hE)] at hfe;obtain⟨T',S',wr,hf,ht,hst⟩:=B2r (id:=E.n0+(K+1024+4096+1024*2)) hnd1 (fun z hz=>by have:=hnz z hz; omega) hok1 (A6t hR1) hE;unfold R4 at hf;have hwk:∀q∈wr,q.1∈Z6 T S\/(E.n0+(K+1024+4096+1024*2)<=q.1/\q.1<E.n0+(K+1024+4096+1024*2)+1024):=ht.kw;have hsk:∀L z,(z=E.n0\/z=E.n0+1024)->bk (g8 L wr) z=bk L z:=fun L z hz=>by
     rw[A1F];exact x8 fun q hq=>by
      rcases hwk q hq with h|h
      ·have:=hnz _ h; omega
      ·omega
    have hsk0:=fun L=>hsk L E.n0 (.inl rfl);have hsk1:=fun L=>hsk L (E.n0+1024) (.inr rfl);refine A3 4000 ?_;simp[he,R4];refine⟨h,?_⟩;refine E0 hP rfl hf (by simp) (p5.of fun q hq=>?_) ?_
    ·have:=hnz q.1 (List.mem_map.2 ⟨q,hq,rfl⟩);simp only[bk];rw[if_neg (by omega),if_neg (by omega),if_neg (by omega),if_neg (by omega)];exact hin q hq
    refine A3 4000 ?_;simp[hsk0,hsk1];have hL0:J9 (bk ((E.n0+(K+1024+2048),some ⟨[.agg [.int .i64 e.kind,.int .i64 e.type,.int .i64 e.id,.int .i64 e.field,.int .i64 e.n,.str e.text]],.agg [.int .i64 0,.int .i64 0,.int .i64 0,.int .i64 0,.int .i64 0,.str []],false,false⟩)::(E.n0+(K+1024+2048),some ⟨[.agg [.int .i64 0,.int .i64 0,.int .i64 0,.int .i64 0,.int .i64 0,.str []]],.agg [.int .i64 0,.int .i64 0,.int .i64 0,.int .i64 0,.int .i64 0,.str []],false,false⟩)::(E.n0,some ⟨[.agg [.sl (l.map J3),.bsl T 0 S.length]],.agg [.sl (l.map J3),.nils],false,false⟩)::(E.n0+1024,some ⟨[.agg [.nils,.nils]],.agg [.nils,.nils],false,false⟩)::(C9 (v7 T S)++S1 (([]:List (Nat×Bx)))))) (v7 T S):=fun q hq=>by
     have:=hnz q.1 (List.mem_map.2 ⟨q,hq,rfl⟩);simp only[bk];rw[if_neg (by omega),if_neg (by omega),if_neg (by omega),if_neg (by omega)];exact hin q hq
    refine hp _ (i+1,T',S',K+1024+21504) ⟨by simp only; omega,by simp only; omega,ht.nd,fun z hz=>?_,ht.ok,?_,?_,?_⟩ (by simp only; omega) ?_
    ·simp only;rcases ht.nm z hz with h|h
     ·exact (hnm z h).imp _root_.id fun h=>by omega
     ·right; omega
    ·simp only;rw[hst]; exact (B4L hR1 hei hE).1
    ·simp only;rw[hst]; exact hfs
    ·simp only;rw[hst]; exact hfe
    ·refine E5.stayL (by simp only; omega) (by simp[hi1]) (fun q hq b hb=>?_) fun q hq=>?_
     ·rcases List.mem_cons.1 hq with rfl|hq
      ·injection hb with hb; subst hb; simp
      rcases List.mem_cons.1 hq with rfl|hq
      ·injection hb with hb; subst hb; simp[hsk1]
      rcases List.mem_append.1 hq with hq|hq
      ·obtain⟨p,hp,rfl⟩:=S5 hq;injection hb with hb; subst hb
       have hz:p.1<E.n0+(K+1024+4096+1024*2)+1024/\p.1≠E.n0:=by
        rcases ht.nm p.1 (List.mem_map.2 ⟨p,hp,rfl⟩) with h|h
        ·have:=hnz _ h; omega
        ·omega
       simp only[bk];rw[if_neg (by omega),if_neg (by omega),if_neg (by omega),A1F];exact ht.has _ hL0 p hp
      ·cases hq
     ·have hT:∀z,z∈Z6 T S->E.n0<=z\/z∈([]:List Nat):=fun z hz=>by
       rcases hnm z hz with h|h
       ·exact .inr h
       ·left; omega
      have hfin:E.n0<=q.1\/q.1∈([]:List Nat):=by
       rcases List.mem_cons.1 hq with rfl|hq
       ·left; simp
       rcases List.mem_cons.1 hq with rfl|hq
       ·left; simp
       rcases List.mem_cons.1 hq with rfl|hq
       ·left; simp
       rcases A20 hq with hq|hq
       ·rcases List.mem_cons.1 hq with rfl|hq
        ·left; simp
        rcases List.mem_cons.1 hq with rfl|hq
        ·left; simp
        rcases List.mem_cons.1 hq with rfl|hq
        ·left; simp
        rcases List.mem_cons.1 hq with rfl|hq
        ·left; simp
        rcases List.mem_append.1 hq with hq|hq
        ·obtain⟨p,hp,rfl⟩:=S5 hq;exact hT _ (A87 hp)
        ·cases hq
       ·rcases hwk q hq with h|h
        ·exact hT _ h
        ·left; omega
      exact hfin.imp _root_.id fun h=>by cases h
   ·have hf:=A9q (id:=E.n0+(K+1024+4096+1024*2)) hnd1 (fun z hz=>by have:=hnz z hz; omega) hok1 (A6t hR1) hE;unfold R4 at hf;refine A3 4000 ?_;simp[he,R4];refine⟨h,?_⟩;unfold eS0 at hf;refine E0 hP rfl hf (by simp) (p5.of fun q hq=>?_) ?_
    ·have:=hnz q.1 (List.mem_map.2 ⟨q,hq,rfl⟩);simp only[bk];rw[if_neg (by omega),if_neg (by omega),if_neg (by omega),if_neg (by omega)];exact hin q hq
    refine A3 4000 ?_;simp;refine B2 (by simpa using hE) ?_;simp;rw[if_pos hE] at hfe;have hA:A3J (A6 l []) ev = .agg [.nils,.nils]:=(by unfold A3J eS0; rw[if_neg (by rw[←hfe]; exact hE)]);rw[hA,←hfe] at hR;rw[hR];refine E9 (by simp<;>rfl) [] trivial (A3c (by simp) (by simp) fun q hq=>?_);simp only[List.mem_cons] at hq;rcases hq with rfl|rfl|rfl|rfl|rfl|rfl|rfl|hq
    all_goals first|(left; simp; done)|skip
    rcases List.mem_append.1 hq with hq|hq
    ·obtain⟨p,hp,rfl⟩:=S5 hq;rcases hnm p.1 (List.mem_map.2 ⟨p,hp,rfl⟩) with h|h
     ·exact .inr h
     ·left; simp only; omega
    ·cases hq
  ·have h:=of_decide_eq_false h;rw[List.drop_of_length_le (by omega)] at hfs hfe;simp only[o6,T9] at hfs hfe;refine A3 21 ?_;simp;have hA:A3J (A6 l []) ev = .agg [.sl (l.map J3),.sl ((S.map H1.t).map X2)]:=(by unfold A3J; rw[if_pos hfe.symm,←hfs]; rfl);rw[hA,←hfe] at hR;have hin:∀q∈v7 T S,bk (C9 (v7 T S)++S1 (([]:List (Nat×Bx)))) q.1=some q.2:=fun q hq=>Y5 (l:=v7 T S) hnd1 hq;have hnz:∀z∈Z6 T S,z≠E.n0/\z≠E.n0+1024:=fun z hz=>by
    rcases hnm z hz with h|h
    ·cases h
    ·omega
   refine A5O (E5.deepL 4 ((E.n0+1024,⟨[.agg [.sl (l.map J3),.bsl T 0 S.length]],.agg [.nils,.nils],false,false⟩)::v7 T S) (S1 (([]:List (Nat×Bx)))) (x:=.ptr (E.n0+1024) 0 0) (y:=.cptr [.sl (l.map J3),.sl ((S.map H1.t).map X2)]) rfl (fun q hq=>?_) ?_ ⟨fun y b hy=>?_,fun q hq=>?_⟩) ?_
   ·rcases List.mem_cons.1 hq with rfl|hq
    ·exact⟨A4G,rfl⟩
    ·have:=hnz q.1 (List.mem_map.2 ⟨q,hq,rfl⟩);refine⟨?_,B9R q hq⟩;simp only[bk];rw[if_neg (by omega),if_neg (by omega),if_neg (by omega)];exact hin q hq
   ·refine .ptr _ _ (.agg [.sl (l.map J3),.bsl T 0 S.length]) _ (List.mem_cons_self ..) rfl rfl fun j c d h1 h2=>?_;match j,h1,h2 with
    | 0,h1,h2 =>
     injection h1 with h1; injection h2 with h2
     subst h1 h2; exact .same _
    | 1,h1,h2 =>
     injection h1 with h1; injection h2 with h2
     subst h1 h2;exact A5k hok1 (List.mem_cons_of_mem _ (List.mem_cons_self ..)) fun q hq=>List.mem_cons_of_mem _ (List.mem_cons_of_mem _ hq)
    | j+2,h1,h2=>simp[AV.cells] at h1
   ·rw[B2A] at hy; cases hy
   ·have hfin:E.n0<=q.1\/q.1∈([]:List Nat):=by
     simp only[List.mem_cons] at hq;rcases hq with rfl|rfl|rfl|hq
     all_goals first|(left; simp; done)|skip
     rcases List.mem_append.1 hq with hq|hq
     ·obtain⟨p,hp,rfl⟩:=S5 hq;rcases hnm p.1 (List.mem_map.2 ⟨p,hp,rfl⟩) with h|h
      ·exact .inr h
      ·left; simp only; omega
     ·cases hq
    refine hfin.imp _root_.id fun h=>?_;cases h
   ·refine A3 5 ?_;simp;have hp:F8 (List.map (X2∘H1.t) S)=true:=E8 (f:=X2∘H1.t) (fun o=>A4m o.t) S;rw[hR];refine E9 (by simp<;>rfl) [] trivial (A3c (by simp) (by simp[hp]) fun q hq=>?_);cases hq
def B4M(w:Int)(s:I4):AV:=if w=0 then .sl (s.types.map J3) else .nils
def B4N(w:Int)(s:I4):AV:=if w=0 then .sl (s.things.map X2) else .nils
def A1d(w:Int)(s:I4):AV:=.agg [B4M w s,B4N w s]
theorem A02(w:Int)(s:I4):A1d w s=if w=0 then I2 s else eS0:=by
 unfold A1d B4M B4N;by_cases h:w=0
 ·rw[if_pos h,if_pos h,if_pos h]; rfl
 ·rw[if_neg h,if_neg h,if_neg h]; rfl
@[simp] theorem C4L (w:Int) (s:I4):(B4M w s).pureB=true:=by unfold B4M; split<;>simp
@[simp] theorem C4M (w:Int) (s:I4):(B4N w s).pureB=true:=by unfold B4N; split<;>simp
@[simp] theorem A4y (w:Int) (s:I4):AV.one (B4M w s)=true:=by unfold B4M; split<;>rfl
@[simp] theorem A4z (w:Int) (s:I4):AV.one (B4N w s)=true:=by unfold B4N; split<;>rfl
theorem B9U{l:List Ty}(h:J0 l=0):Rt ⟨l,[]⟩ :=
 ⟨h,⟨A6J h,by simp,fun t ht=>(by cases ht)⟩,⟨fun t ht=>(by cases ht),fun t ht=>(by cases ht),fun i j a b _ ha _=>(by simp at ha)⟩,fun t ht=>(by cases ht)⟩
def atE(l:List Ty)(ev:List Ev)(n:Int):Int:=if J0 l≠0 then J0 l else if n<0\/(ev.length:Int)<n then 3 else T9 ⟨l,[]⟩ (ev.take n.toNat)
def atS(l:List Ty)(ev:List Ev)(n:Int):I4:=o6 ⟨l,[]⟩ (ev.take n.toNat)
theorem C4j(l:List Ty)(ev:List Ev)(n:Int)(id:Nat)(hI:∀e∈ev,I64 e.n)(hlen:ev.length<=1000000000000000):A2 Tryz.prog 119 [.sl (l.map J3),.sl (ev.map R4),.int .i64 n] [] id (.tup [A1d (atE l ev n) (atS l ev n),.int .i64 (atE l ev n)]) []:=by
 have hC:=fun id=>A5a l id;by_cases h0:J0 l=0
 rotate_left
 ·have hE:atE l ev n=J0 l:=by unfold atE; rw[if_pos h0]
  have hV:A1d (J0 l) (atS l ev n) = .agg [.nils,.nils]:=by rw[A02,if_neg h0]; rfl
  rw[hE,hV];refine w119.e.1 fun E hP hR hl hid=>?_;simp[w119];(refine yH rfl (hC _) ?_; simp);refine⟨fun a=>(h0 a).elim,?_⟩;refine A0 (by simp[h0]) ?_;simp;refine B2 (by simp[h0]) ?_;simp;exact yP hR
 by_cases h1:n<0\/(ev.length:Int)<n
 ·have hE:atE l ev n=3:=by unfold atE; rw[if_neg (by simpa using h0),if_pos h1]
  have hV:A1d 3 (atS l ev n) = .agg [.nils,.nils]:=by rw[A02,if_neg (by decide)]; rfl
  rw[hE,hV];rw[h0] at hC;refine w119.e.1 fun E hP hR hl hid=>?_;simp[w119];(refine yH rfl (hC _) ?_; simp);refine B2 (by simp; omega) ?_;simp;exact yP hR
 ·have hE:atE l ev n=T9 ⟨l,[]⟩ (ev.take n.toNat):=by unfold atE; rw[if_neg (by simpa using h0),if_neg h1]
  rw[h0] at hC;have hS:=A6J h0;have hO:=fun id=>A9f l id (by have:=hS.len; omega) (fun t ht=>by have:=hS.fields t ht; omega);have hF:=fun id=>C3a l (ev.take n.toNat) id (B9U h0) (fun e he=>hI e (List.mem_of_mem_take he)) (by simp; omega);have hV:A3J (A6 l []) (ev.take n.toNat)=A1d (atE l ev n) (atS l ev n):=by rw[A02,hE]; rfl
  rw[hV,show T9 (A6 l []) (ev.take n.toNat)=atE l ev n by rw[hE]; rfl,List.map_take] at hF;simp only[S1,List.map_nil] at hF;unfold A1d at *;refine w119.e.1 fun E hP hR hl hid=>?_;simp[w119];(refine yH rfl (hC _) ?_; simp);refine A0 (by simp; omega) ?_;simp;(refine yH rfl (hO _) ?_; simp);refine⟨⟨fun a _=>rfl,by omega,by omega⟩,?_⟩;(refine yH rfl (hF _) ?_; simp);refine⟨⟨A4y _ _,A4z _ _⟩,?_⟩;exact yP hR
theorem B9V(l:List Ty)(ev:List Ev)(id:Nat)(hI:∀e∈ev,I64 e.n)(hlen:ev.length<=1000000000000000):A2 Tryz.prog 58 [.sl (l.map J3),.sl (ev.map R4)] [] id (.tup [A1d (atE l ev ev.length) (atS l ev ev.length),.int .i64 (atE l ev ev.length)]) []:=by
 have hA:=fun id=>C4j l ev ev.length id hI hlen;unfold A1d at *;refine w58.e.1 fun E hP hR hl hid=>?_;simp[w58];(refine yH rfl (hA _) ?_; simp);refine⟨⟨A4y _ _,A4z _ _⟩,?_⟩;exact yP hR
def A5p(s:I4)(ev:List Ev):Int:=if fSt s≠0 then fSt s else if 8<ev.length then 2 else 0
theorem B9W(s:I4)(ev:List Ev)(id:Nat):A2 Tryz.prog 115 [I2 s,.sl (ev.map R4)] [] id (.int .i64 (A5p s ev)) []:=by
 have hC:=fun id=>A7u s id;unfold I2 at *;refine w115.e.1 fun E hP hR hl hid=>?_;simp[w115];(refine yH rfl (hC _) ?_; simp);refine E6 (fun h=>?_) (fun h=>?_)<;>simp
 ·have hE:A5p s ev=2:=by unfold A5p; simp at h; rw[if_neg (by omega),if_pos (by omega)]
  rw[hE] at hR;exact yP hR
 ·have hE:A5p s ev=fSt s:=by
   unfold A5p;simp at h;by_cases g:fSt s=0
   ·rw[if_neg (by simpa using g),if_neg (by have:=h g; omega),g]
   ·rw[if_pos g]
  rw[hE] at hR;exact yP hR
def A8r(s:I4)(ev:List Ev):Int:=if A5p s ev≠0 then A5p s ev else T9 s ev
theorem B0x{L:List (Nat×Option Bx)}{rd:List (Nat×Bx)}{z:Nat}(h:z∉rd.map Prod.fst):bk (g8 L (S1 rd)) z=bk L z:=by
 rw[A1F];exact x8 fun q hq e=>by
  obtain⟨p,hp,rfl⟩:=m9 hq;exact h (e▸List.mem_map.2 ⟨p,hp,rfl⟩)
theorem B9X(s:I4)(ev:List Ev)(id:Nat)(hI:B9P s)(hn:∀e∈ev,I64 e.n):A2 Tryz.prog 55 [I2 s,.sl (ev.map R4)] [] id (.tup [A1d (A8r s ev) (o6 s ev),.int .i64 (A8r s ev)]) []:=by
 have hC:=fun id=>B9W s ev id;by_cases h0:A5p s ev=0
 rotate_left
 ·have hE:A8r s ev=A5p s ev:=by unfold A8r; rw[if_pos h0]
  have hV:A1d (A5p s ev) (o6 s ev) = .agg [.nils,.nils]:=by rw[A02,if_neg h0]; rfl
  rw[hE,hV];unfold I2 at *;refine w55.e.1 fun E hP hR hl hid=>?_;simp[w55];(refine yH rfl (hC _) ?_; simp);refine B2 (by simpa using h0) ?_;simp;exact yP hR
 have hE:A8r s ev=T9 s ev:=by unfold A8r; rw[if_neg (by simpa using h0)]
 rw[h0] at hC;have h8:fSt s=0/\ev.length<=8:=by
  unfold A5p at h0;split at h0
  ·rename_i g; exact (g h0).elim
  ·rename_i g;split at h0
   ·omega
   ·exact⟨Classical.byContradiction g,by omega⟩
 have hR:=C4h h8.1 hI;obtain⟨hr,hs,hl⟩:=B9N h8.1;have h6:∀x∈s.things,x.cells.length<=16/\∀c∈x.cells,c.ids.length<=1000:=fun x hx=>by
  have h1:=(hr.tg x hx).cells6 hr.sch;refine⟨by omega,fun c hc=>?_⟩;obtain⟨k,hk⟩:=List.mem_iff_getElem?.1 hc;obtain⟨f,_,hco⟩:=(hr.tg x hx).cellOk hk;have:=hco.i1; omega
 have h5:=hr.sch.len;have h12:=hr.len;have hW:∀id,A2 Tryz.prog 117 [I2 s] [] id (.agg [.sl (s.types.map J3),.bsl id 0 s.things.length]) ((id,some ⟨S9 id s.things s.things.length,zT,false,false⟩)::P7 id s.things s.things.length):=fun id=>B8y s id (by omega) (fun t ht=>by have:=hr.sch.fields t ht; omega) h12 h6;have h16:∀x∈s.things,x.cells.length<=16:=fun x hx=>(h6 x hx).1;have hkey:∀t,∀q∈P7 t s.things s.things.length,t+1<=q.1/\q.1<t+1000:=fun t q hq=>by
  obtain⟨y,b⟩:=q;rcases A1x h16 hq with⟨j,h1,h2⟩|⟨j,m,h1,h2,h3⟩<;>simp only<;>omega
 have hF:∀t id,A2 Tryz.prog 116 [.agg [.sl (s.types.map J3),.bsl t 0 s.things.length],.sl (ev.map R4)] (v7 t (A0k t 0 s.things)) id (.tup [A1d (A8r s ev) (o6 s ev),.int .i64 (A8r s ev)]) (S1 (v7 t (A0k t 0 s.things))):=fun t id=>by
  have:=C3Z s.types (A0k t 0 s.things) t ev id (C3V h16 h12) (B5T t s.things 0) (by rw[B9M]; exact hR) hn (by omega);rw[B9M,A4v] at this;rw[A02,hE]; exact this
 unfold A1d I2 at *;refine w55.e.1 fun E hP hR hl hid=>?_;simp[w55];(refine yH rfl (hC _) ?_; simp);have hsk:∀L z,z<E.n0+10240->bk (g8 L (P7 (E.n0+10240) s.things s.things.length)) z=bk L z:=fun L z hz=>by
  rw[A1F];exact x8 fun q hq=>by have:=hkey _ q hq; omega
 have hin:∀L,∀q∈v7 (E.n0+10240) (A0k (E.n0+10240) 0 s.things),bk (g8 ((E.n0+10240,some ⟨S9 (E.n0+10240) s.things s.things.length,zT,false,false⟩)::L) (P7 (E.n0+10240) s.things s.things.length)) q.1=some q.2:=fun L q hq=>by
  have hm:=C3U hq;rw[A1F];rcases List.mem_cons.1 hm with hm|hm
  ·injection hm with h1 h2
   rw[x8 fun q' hq'=>by have:=hkey _ q' hq'; omega,h1,h2];exact A4G
  ·exact B2i (X3 (S:=fun _=>True) h16 s.things.length h12 (fun _ _=>trivial) fun _ _ _ _=>trivial).nd hm
 have hsk2:∀L z,z<E.n0+10240->bk (g8 L (S1 (v7 (E.n0+10240) (A0k (E.n0+10240) 0 s.things)))) z=bk L z:=fun L z hz=>B0x fun hm=>by
  have:=B9L h16 h12 z hm; omega
 refine E0 hP rfl (hW _) (by simp) (by simp) ?_;refine A3 4 ?_;simp[hsk];refine E0 hP rfl (hF (E.n0+10240) _) (by simp) (p5.of (hin _)) ?_;refine A3 4000 ?_;simp[hsk,hsk2];refine⟨⟨A4y _ _,A4z _ _⟩,?_⟩;rw[hR];refine E9 (by simp<;>rfl) [] trivial (U3 (by simp) (by simp) (x4 fun q hq=>?_));rcases List.mem_cons.1 hq with rfl|hq
 ·simp
 rcases A20 hq with hq|hq
 ·rcases A20 hq with hq|hq
  ·simp only[List.mem_cons,List.not_mem_nil,or_false] at hq;rcases hq with rfl|rfl|rfl<;>simp
  ·have:=hkey _ q hq; omega
 ·obtain⟨p,hp,rfl⟩:=m9 hq;have:=B9L h16 h12 _ (A87 hp);simp only; omega
def ag0:Ag:=⟨[],false,[],0⟩
def U5(l:List Ag)(n:List UInt8):Ag:=(l.find? (fun x=>x.name==n)).getD ag0
theorem B9Y(l:List Ag)(n:List UInt8):(C2 (fun x=>x.name==n) l 0 = -1/\A2T l n=false/\U5 l n=ag0)\/∃k:Nat,C2 (fun x=>x.name==n) l 0=(k:Int)/\k<l.length/\l[k]?=some (U5 l n)/\A2T l n=true:=by
 have ha:decide (0<=C2 (fun x:Ag=>x.name==n) l 0)=A2T l n:=U8 _ l 0;rcases R0 (fun x:Ag=>x.name==n) l 0 with⟨h1,h2⟩|⟨k,x,h1,h2,h3⟩
 ·refine .inl ⟨h2,?_,?_⟩
  ·rw[←ha,h2]; rfl
  ·unfold U5; rw[h1]; rfl
 ·have hk:k<l.length:=by
   have:=List.getElem?_eq_some_iff.1 h1;exact this.1
  refine .inr ⟨k,by rw[h2]; simp,hk,?_,?_⟩
  ·unfold U5; rw[h3,h1]; rfl
  ·rw[←ha,h2]; simp
def eMk(l:List Ty)(s:F5):AV:=.agg [.sl (l.map J3),.str s.alias,.str s.name,.sl (s.args.map q8),.sl (s.kids.map D7)]
theorem B9Z(x:Ag)(j:Nat)(name:List UInt8)(id:Nat):A2 Tryz.prog 272 [q8 x,.ptr j 0 0] [(j,⟨[.str name],.str name,false,false⟩)] id (.bool (x.name==name)) []:=by
 unfold q8;refine w272.e.1 fun E hP hR hl hid=>?_;simp[w272];have hj:=hl (j,_) (List.mem_cons_self ..);simp only at hj;have j1:=lf hj;simp[j1];refine yE hR [] (by simp[j1,A4 hid]) fun hrn=>⟨?_,?_,?_,?_,?_,?_⟩<;>(try simp[j1,A4 hid])
theorem B4O(l:List Ag)(j:Nat)(name:List UInt8)(id:Nat)(hl8:l.length<9223372036854775807):A2 Tryz.prog 271 [.sl (l.map q8),.fn 272 [.ptr j 0 0]] [(j,⟨[.str name],.str name,false,false⟩)] id (.int .i64 (C2 (fun x=>x.name==name) l 0)) []:=by
 refine w271.e.1 fun E hP hR hl hid=>?_;simp[w271];have hj:=hl (j,_) (List.mem_cons_self ..);simp only at hj;have j1:=lf hj;refine D3 (X:=Nat) (fun i=>⟨[(0,true,.sl (l.map q8)),(1,true,.fn 272 [.ptr j 0 0]),(7,true,.int .i64 l.length),(8,true,.int .i64 i)],[(j,some (⟨[.str name],.str name,false,false⟩))],0⟩) (fun i=>i<=l.length/\C2 (fun x=>x.name==name) (l.drop i) i=C2 (fun x=>x.name==name) l 0) (fun i=>l.length - i) 0 ?_ ⟨by omega,rfl⟩ ?_
 ·refine yV [] (by simp[j1]) fun hrn=>⟨?_,?_,?_,?_,?_⟩<;>(try simp[j1])
 ·rintro i ⟨hi,hf⟩ p hp;refine A3 4000 ?_;simp;refine E6 (fun h=>?_) (fun h=>?_)
  ·have h:=of_decide_eq_true h;obtain⟨x,hx,hd⟩:=B6 h;have hcl:=B9Z x j name;simp only[T7 x] at hcl;rw[hd] at hf;simp only[C2] at hf;have hi1:IntKind.i64.wrap ((i:Int)+1)=((i+1:Nat):Int):=A5 (by omega);simp[hx,T7 x];refine⟨h,?_⟩;refine L7 hP rfl rfl (hcl _) (by simp) (by simp[j1]<;>rfl) ?_;refine A3 4000 ?_;simp[j1];refine E6 (fun h1=>?_) (fun h1=>?_)
   ·simp[j1];rw[if_pos h1] at hf;rw[←hf] at hR;refine yE hR [] (by simp[j1,C2,A4 hid]) fun hrn=>⟨?_,?_,?_,?_,?_,?_⟩<;>(try simp[j1,C2,A4 hid])
   ·simp[j1];rw[if_neg (by simpa using h1)] at hf;refine hp _ (i+1) ⟨h,hf⟩ (by omega) ?_;refine yV [] (by simp[hi1,j1]) fun hrn=>⟨?_,?_,?_,?_,?_⟩<;>(try simp[hi1,j1])
  ·have h:=of_decide_eq_false h;simp;rw[List.drop_of_length_le (by omega)] at hf;rw[←hf] at hR;refine yE hR [] (by simp[j1,C2,A4 hid]) fun hrn=>⟨?_,?_,?_,?_,?_,?_⟩<;>(try simp[j1,C2,A4 hid])
theorem A50(l:List Ty)(s:F5)(J:Nat)(name:List UInt8)(id:Nat)(hl8:s.args.length<9223372036854775807):A2 Tryz.prog 228 [.ptr J 0 0,.str name] [(J,⟨[eMk l s],eMk l s,false,false⟩)] id (.tup [q8 (U5 s.args name),.bool (A2T s.args name)]) []:=by
 have hI:=fun id=>B4O s.args id name;unfold eMk;simp only[T7 (U5 s.args name)];refine w228.e.1 fun E hP hR hl hid=>?_;simp[w228];have hJ:=hl (J,_) (List.mem_cons_self ..);simp only at hJ;have J1:=lf hJ;simp[J1];(refine yC rfl (hI E.n0 _ hl8) ?_; simp[J1]);rcases B9Y s.args name with⟨h1,h2,h3⟩|⟨k,h1,hk,h2,h3⟩
 ·rw[h2,h3] at hR;refine B2 (by rw[h1]; decide) ?_;simp[J1];refine yE hR [] (by simp[J1,ag0,A4 hid]) fun hrn=>⟨?_,?_,?_,?_,?_,?_⟩<;>(try simp[J1,ag0,A4 hid])
 ·rw[h3] at hR;refine A0 (by rw[h1]; simp) ?_;rw[h1];simp[J1,h2,T7 (U5 s.args name)];refine⟨hk,?_⟩;refine yE hR [] (by simp[J1,A4 hid]) fun hrn=>⟨?_,?_,?_,?_,?_,?_⟩<;>(try simp[J1,A4 hid])
def A1Q:List UInt8:=[116,121,112,101]
def nId:List UInt8:=[105,100]
def z6:List UInt8:=[102,105,101,108,100]
def V9:List UInt8:=[116,101,120,116]
def W3:List UInt8:=[110,117,109,98,101,114]
def nTo:List UInt8:=[116,111]
def A6N:List UInt8:=[109,97,107,101]
def A88:List UInt8:=[100,114,111,112]
def B0y:List UInt8:=[115,101,116]
def A9t:List UInt8:=[108,105,110,107]
def B9a:List UInt8:=[99,117,116]
def W4(s:F5):Int:=if s.name=A6N then 1 else if s.name=A88 then 2 else if s.name=B0y then (if A2T s.args V9=true then 4 else 3) else if s.name=A9t then 5 else if s.name=B9a then 6 else 0
def B0z(k:Int):List UInt8:=if k=3 then W3 else if k=4 then V9 else nTo
def S6(k:Int):List (List UInt8):=if k=1\/k=2 then [A1Q,nId] else [A1Q,nId,z6,B0z k]
def A89(k:Int):AV:=if k=0 then .nils else .sl ((S6 k).map .str)
theorem C2R{k:Int}(h:k=1\/k=2):A89 k = .sl [.str [116,121,112,101],.str [105,100]]:=by
 unfold A89 S6; rw[if_neg (by omega),if_pos h]; rfl
theorem C4k:A89 3 = .sl [.str [116,121,112,101],.str [105,100],.str [102,105,101,108,100],.str [110,117,109,98,101,114]]:=rfl
theorem C4l:A89 4 = .sl [.str [116,121,112,101],.str [105,100],.str [102,105,101,108,100],.str [116,101,120,116]]:=rfl
theorem C2S{k:Int}(h:k=5\/k=6):A89 k = .sl [.str [116,121,112,101],.str [105,100],.str [102,105,101,108,100],.str [116,111]]:=by
 unfold A89 S6 B0z; rw[if_neg (by omega),if_neg (by omega),if_neg (by omega),if_neg (by omega)]; rfl
theorem C4m{s:F5}(h:(s.name==A6N)=true):W4 s=1:=by unfold W4; rw[if_pos (by simpa using h)]
theorem C4n{s:F5}(a:(s.name==A6N)=false)(h:(s.name==A88)=true):W4 s=2:=by unfold W4; rw[if_neg (by simpa using a),if_pos (by simpa using h)]
theorem C4o{s:F5}(a:(s.name==A6N)=false)(b:(s.name==A88)=false)(h:(s.name==B0y)=true)(t:A2T s.args V9=true):W4 s=4:=by
 unfold W4; rw[if_neg (by simpa using a),if_neg (by simpa using b),if_pos (by simpa using h),if_pos t]
theorem C4p{s:F5}(a:(s.name==A6N)=false)(b:(s.name==A88)=false)(h:(s.name==B0y)=true)(t:A2T s.args V9=false):W4 s=3:=by
 unfold W4; rw[if_neg (by simpa using a),if_neg (by simpa using b),if_pos (by simpa using h),if_neg (by simpa using t)]
theorem C4q{s:F5}(a:(s.name==A6N)=false)(b:(s.name==A88)=false)(c:(s.name==B0y)=false)(h:(s.name==A9t)=true):W4 s=5:=by
 unfold W4; rw[if_neg (by simpa using a),if_neg (by simpa using b),if_neg (by simpa using c),if_pos (by simpa using h)]
theorem C4r{s:F5}(a:(s.name==A6N)=false)(b:(s.name==A88)=false)(c:(s.name==B0y)=false)(d:(s.name==A9t)=false)(h:(s.name==B9a)=true):W4 s=6:=by
 unfold W4; rw[if_neg (by simpa using a),if_neg (by simpa using b),if_neg (by simpa using c),if_neg (by simpa using d),if_pos (by simpa using h)]
theorem C4s{s:F5}(a:(s.name==A6N)=false)(b:(s.name==A88)=false)(c:(s.name==B0y)=false)(d:(s.name==A9t)=false)(h:(s.name==B9a)=false):W4 s=0:=by
 unfold W4; rw[if_neg (by simpa using a),if_neg (by simpa using b),if_neg (by simpa using c),if_neg (by simpa using d),if_neg (by simpa using h)]
theorem B9b(l:List Ty)(s:F5)(J:Nat)(id:Nat)(hl8:s.args.length<9223372036854775807):A2 Tryz.prog 225 [.ptr J 0 0] [(J,⟨[eMk l s],eMk l s,false,false⟩)] id (A89 (W4 s)) []:=by
 have hF:=fun id=>A50 l s J V9 id hl8;unfold eMk V9 at hF;simp only[T7] at hF;unfold eMk;refine w225.e.1 fun E hP hR hl hid=>?_;simp[w225];have hJ:=hl (J,_) (List.mem_cons_self ..);simp only at hJ;have J1:=lf hJ;refine E6 (fun h1=>?_) (fun h1=>?_)<;>simp
 ·refine B2 h1 ?_;simp;rw[C4m h1,C2R (.inl rfl)] at hR;have hrn:H2 []:=by simp[J1,A4 hid]
  rw[hR];refine K5 (by simp<;>rfl) (by simp[J1,A4 hid]<;>exact⟨rfl,rfl⟩) [] hrn ⟨?_,?_,?_,?_,?_,?_⟩<;>(try simp[J1,A4 hid]);exact B4 _ rfl
 refine E6 (fun h2=>?_) (fun h2=>?_)<;>simp
 ·rw[C4n h1 h2,C2R (.inr rfl)] at hR;have hrn:H2 []:=by simp[J1,A4 hid]
  rw[hR];refine K5 (by simp<;>rfl) (by simp[J1,A4 hid]<;>exact⟨rfl,rfl⟩) [] hrn ⟨?_,?_,?_,?_,?_,?_⟩<;>(try simp[J1,A4 hid]);exact B4 _ rfl
 refine E6 (fun h3=>?_) (fun h3=>?_)<;>simp
 ·(refine yC rfl (hF _) ?_; simp[J1]);refine E6 (fun h4=>?_) (fun h4=>?_)<;>simp
  ·rw[C4o h1 h2 h3 h4,C4l] at hR;have hrn:H2 []:=(by simp[J1,A4 hid]);rw[hR];refine K5 (by simp<;>rfl) (by simp[J1,A4 hid]<;>exact⟨rfl,rfl⟩) [] hrn ⟨?_,?_,?_,?_,?_,?_⟩<;>(try simp[J1,A4 hid]);exact B4 _ rfl
  ·rw[C4p h1 h2 h3 h4,C4k] at hR;have hrn:H2 []:=(by simp[J1,A4 hid]);rw[hR];refine K5 (by simp<;>rfl) (by simp[J1,A4 hid]<;>exact⟨rfl,rfl⟩) [] hrn ⟨?_,?_,?_,?_,?_,?_⟩<;>(try simp[J1,A4 hid]);exact B4 _ rfl
 refine E6 (fun h4=>?_) (fun h4=>?_)<;>simp
 ·refine B2 h4 ?_;simp;rw[C4q h1 h2 h3 h4,C2S (.inl rfl)] at hR;have hrn:H2 []:=by simp[J1,A4 hid]
  rw[hR];refine K5 (by simp<;>rfl) (by simp[J1,A4 hid]<;>exact⟨rfl,rfl⟩) [] hrn ⟨?_,?_,?_,?_,?_,?_⟩<;>(try simp[J1,A4 hid]);exact B4 _ rfl
 refine E6 (fun h5=>?_) (fun h5=>?_)<;>simp
 ·rw[C4r h1 h2 h3 h4 h5,C2S (.inr rfl)] at hR;have hrn:H2 []:=by simp[J1,A4 hid]
  rw[hR];refine K5 (by simp<;>rfl) (by simp[J1,A4 hid]<;>exact⟨rfl,rfl⟩) [] hrn ⟨?_,?_,?_,?_,?_,?_⟩<;>(try simp[J1,A4 hid]);exact B4 _ rfl
 ·rw[C4s h1 h2 h3 h4 h5,show A89 0 = .nils from rfl] at hR;refine yE hR [] (by simp[J1,A4 hid]) fun hrn=>⟨?_,?_,?_,?_,?_,?_⟩<;>(try simp[J1,A4 hid])
theorem C1u(l:List Ty)(s:F5)(J:Nat)(id:Nat)(hl8:s.args.length<9223372036854775807)(hk:W4 s≠0):A2 Tryz.prog 227 [.ptr J 0 0] [(J,⟨[eMk l s],eMk l s,false,false⟩)] id (.int .i64 (W4 s)) []:=by
 have hF:=fun id=>A50 l s J V9 id hl8;unfold eMk V9 at hF;simp only[T7] at hF;unfold eMk;refine w227.e.1 fun E hP hR hl hid=>?_;simp[w227];have hJ:=hl (J,_) (List.mem_cons_self ..);simp only at hJ;have J1:=lf hJ;refine E6 (fun h1=>?_) (fun h1=>?_)<;>simp
 ·rw[C4m h1] at hR;refine yE hR [] (by simp[J1,A4 hid]) fun hrn=>⟨?_,?_,?_,?_,?_,?_⟩<;>(try simp[J1,A4 hid])
 refine E6 (fun h2=>?_) (fun h2=>?_)<;>simp
 ·rw[C4n h1 h2] at hR;refine yE hR [] (by simp[J1,A4 hid]) fun hrn=>⟨?_,?_,?_,?_,?_,?_⟩<;>(try simp[J1,A4 hid])
 refine E6 (fun h4=>?_) (fun h4=>?_)<;>simp
 ·have h3:(s.name==B0y)=false:=by
   have:s.name=A9t:=by simpa [A9t] using h4
   rw[this]; rfl
  rw[C4q h1 h2 h3 h4] at hR;refine yE hR [] (by simp[J1,A4 hid]) fun hrn=>⟨?_,?_,?_,?_,?_,?_⟩<;>(try simp[J1,A4 hid])
 refine E6 (fun h5=>?_) (fun h5=>?_)<;>simp
 ·have h3:(s.name==B0y)=false:=by
   have:s.name=B9a:=by simpa [B9a] using h5
   rw[this]; rfl
  rw[C4r h1 h2 h3 h4 h5] at hR;refine yE hR [] (by simp[J1,A4 hid]) fun hrn=>⟨?_,?_,?_,?_,?_,?_⟩<;>(try simp[J1,A4 hid])
 have h3:(s.name==B0y)=true:=Classical.byContradiction fun h3=>hk (C4s h1 h2 (by simpa using h3) h4 h5);(refine yC rfl (hF _) ?_; simp[J1]);refine E6 (fun h6=>?_) (fun h6=>?_)<;>simp
 ·rw[C4o h1 h2 h3 h6] at hR;refine yE hR [] (by simp[J1,A4 hid]) fun hrn=>⟨?_,?_,?_,?_,?_,?_⟩<;>(try simp[J1,A4 hid])
 ·rw[C4p h1 h2 h3 h6] at hR;refine yE hR [] (by simp[J1,A4 hid]) fun hrn=>⟨?_,?_,?_,?_,?_,?_⟩<;>(try simp[J1,A4 hid])
def isT(n:List UInt8):Bool:=n==A1Q||n==z6||n==V9
def A3v(l:List Ag):List (List UInt8)->Int->Int
 | [],w=>w
 | n::r,w=>if A2T l n=false then 1 else A3v l r (if (U5 l n).isText=isT n then w else 7)
def A0T(l:List Ag)(ns:List (List UInt8)):Int:=if l.length≠ns.length then 1 else A3v l ns 0
theorem L5(S:Nat->Prop)(l:List (List UInt8)):F2 S (l.map .str):=B4 _ (E8 (fun _=>rfl) l)
theorem B9c(l:List Ty)(s:F5)(ns:List (List UInt8))(J:Nat)(id:Nat)(hl8:s.args.length<9223372036854775807)(hn8:ns.length<=1000):A2 Tryz.prog 226 [.ptr J 0 0,.sl (ns.map .str)] [(J,⟨[eMk l s],eMk l s,false,false⟩)] id (.int .i64 (A0T s.args ns)) []:=by
 have hF:=fun n id=>A50 l s J n id hl8;unfold eMk at hF;simp only[T7 (U5 _ _)] at hF;unfold eMk;refine w226.e.1 fun E hP hR hl hid=>?_;simp[w226];have hJ:=hl (J,_) (List.mem_cons_self ..);simp only at hJ;have J1:=lf hJ;refine E6 (fun h1=>?_) (fun h1=>?_)<;>simp
 ·have e:A0T s.args ns=1:=by unfold A0T; rw[if_pos (by simp at h1; omega)]
  rw[e] at hR;refine yE hR [] (by simp[J1,A4 hid]) fun hrn=>⟨?_,?_,?_,?_,?_,?_⟩<;>(try simp[J1,A4 hid])
 have e:A0T s.args ns=A3v s.args ns 0:=by unfold A0T; rw[if_neg (by simp at h1; omega)]
 rw[e] at hR;refine D3 (X:=Nat×Int) (fun x=>⟨[(0,true,.ptr J 0 0),(5,true,.int .i64 x.2),(19,true,.sl (ns.map .str)),(20,true,.int .i64 ns.length),(21,true,.int .i64 x.1)],[(J,some ⟨[.agg [.sl (l.map J3),.str s.alias,.str s.name,.sl (s.args.map q8),.sl (s.kids.map D7)]],.agg [.sl (l.map J3),.str s.alias,.str s.name,.sl (s.args.map q8),.sl (s.kids.map D7)],false,false⟩)],0⟩) (fun x=>x.1<=ns.length/\A3v s.args (ns.drop x.1) x.2=A3v s.args ns 0) (fun x=>ns.length - x.1) (0,0) ?_ ⟨by simp,rfl⟩ ?_
 ·refine yV [] (by simp[L5,J1]) fun hrn=>⟨?_,?_,?_,?_,?_⟩<;>(try simp[L5,J1])
 ·rintro⟨i,w⟩ ⟨hi,hf⟩ p hp;simp only at hi hf hp;refine A3 4000 ?_;simp;refine E6 (fun h=>?_) (fun h=>?_)
  ·have h:=of_decide_eq_true h;obtain⟨x,hx,hd⟩:=B6 h;rw[hd] at hf;simp only[A3v] at hf;have hi1:IntKind.i64.wrap ((i:Int)+1)=((i+1:Nat):Int):=A5 (by omega);simp[hx];refine⟨h,?_⟩;(refine yC rfl (hF x _) ?_; simp[J1]);refine E6 (fun h2=>?_) (fun h2=>?_)<;>simp[J1]
   ·rw[if_pos (by simpa using h2)] at hf;rw[←hf] at hR;refine yE hR [] (by simp[J1,A4 hid]) fun hrn=>⟨?_,?_,?_,?_,?_,?_⟩<;>(try simp[J1,A4 hid])
   ·rw[if_neg (by simpa using h2)] at hf;refine E6 (fun h3=>?_) (fun h3=>?_)<;>simp[J1]
    ·refine hp _ (i+1,7) ⟨h,?_⟩ (by simp only[]; omega) ?_
     ·rw[←hf,if_neg];simpa [isT,A1Q,z6,V9] using h3
     ·refine yV [] (by simp[hi1,L5,J1]) fun hrn=>⟨?_,?_,?_,?_,?_⟩<;>(try simp[hi1,L5,J1])
    ·refine hp _ (i+1,w) ⟨h,?_⟩ (by simp only[]; omega) ?_
     ·rw[←hf,if_pos];simpa [isT,A1Q,z6,V9] using h3
     ·refine yV [] (by simp[hi1,L5,J1]) fun hrn=>⟨?_,?_,?_,?_,?_⟩<;>(try simp[hi1,L5,J1])
  ·have h:=of_decide_eq_false h;simp;rw[List.drop_of_length_le (by omega)] at hf;rw[←hf] at hR;refine yE hR [] (by simp[J1,A3v,A4 hid]) fun hrn=>⟨?_,?_,?_,?_,?_,?_⟩<;>(try simp[J1,A3v,A4 hid])
theorem A9u{l:List Ag}(h:u9 l=0):l.length<=5/\∀a∈l,B49 a=0:=by
 unfold u9 at h;split at h
 ·omega
 ·refine⟨by omega,fun a ha=>?_⟩;obtain⟨i,hi⟩:=List.mem_iff_getElem?.1 ha;have h0:=Q4 _ _ _ h i a hi;unfold A3A at h0;split at h0
  ·rename_i g; exact (g h0).elim
  ·split at h0
   ·omega
   ·exact h0
theorem B79{a:Ag}(h:B49 a=0): -999999999<=a.n/\a.n<=999999999/\a.text.length<=40:=by
 unfold B49 at h;split at h
 ·omega
 ·split at h
  ·omega
  ·split at h
   ·omega
   ·rename_i g; omega
theorem B9d(l:List Ag)(n:List UInt8):U5 l n=ag0\/U5 l n∈l:=by
 rcases B9Y l n with⟨_,_,h⟩|⟨k,_,_,h,_⟩
 ·exact .inl h
 ·exact .inr (List.mem_of_getElem? h)
theorem B10{l:List Ag}(h:u9 l=0)(n:List UInt8): -999999999<=(U5 l n).n/\(U5 l n).n<=999999999/\(U5 l n).text.length<=40:=by
 rcases B9d l n with e|e
 ·rw[e]; exact⟨by decide,by decide,by decide⟩
 ·exact B79 ((A9u h).2 _ e)
theorem B7A{l:List Ag}{n:List UInt8}(h:A2T l n=false):U5 l n=ag0:=by
 rcases B9Y l n with⟨_,_,e⟩|⟨k,_,_,_,e⟩
 ·exact e
 ·rw[h] at e; cases e
theorem A4H{l:List Ag}:∀{ns:List (List UInt8)} {w:Int},A3v l ns w=0->w=0/\∀n∈ns,A2T l n=true/\(U5 l n).isText=isT n
 | [],w,h=>⟨h,fun n hn=>by cases hn⟩
 | n::r,w,h=>by
  simp only[A3v] at h;split at h
  ·omega
  ·rename_i g;obtain⟨e,hr⟩:=A4H h;split at e
   ·rename_i g2;refine⟨e,fun m hm=>?_⟩;rcases List.mem_cons.1 hm with rfl|hm
    ·exact⟨by simpa using g,g2⟩
    ·exact hr m hm
   ·omega
theorem B9e{n:List UInt8}:∀{ns l:List (List UInt8)},ns.Nodup->(∀m∈ns,m∈l)->n∈l->n∉ns->ns.length<l.length
 | [],l,_,_,hn,_=>List.length_pos_of_mem hn
 | a::r,l,hd,hs,hn,hnn=>by
  obtain⟨h1,h2⟩:=List.nodup_cons.1 hd;have ha:=hs a (by simp);have ih:=B9e (n:=n) (ns:=r) (l:=l.erase a) h2 (fun m hm=>(List.mem_erase_of_ne (by rintro rfl; exact h1 hm)).2 (hs m (by simp[hm]))) ((List.mem_erase_of_ne (by rintro rfl; exact hnn (by simp))).2 hn) (fun e=>hnn (by simp[e]));have h3:=List.length_erase_of_mem ha;have h4:=List.length_pos_of_mem ha;simp only[List.length_cons];omega
theorem B2u{l:List Ag}{n:List UInt8}:A2T l n=true↔n∈l.map Ag.name:=by
 unfold A2T;rw[List.any_eq_true,List.mem_map];constructor
 ·rintro⟨a,h1,h2⟩; exact⟨a,h1,by simpa using h2⟩
 ·rintro⟨a,h1,h2⟩; exact⟨a,h1,by simpa using h2⟩
theorem A9v{l:List Ag}{ns:List (List UInt8)}{n:List UInt8}(hd:ns.Nodup)(hl:l.length=ns.length)(ha:∀m∈ns,A2T l m=true)(hn:n∉ns):A2T l n=false:=by
 refine Classical.byContradiction fun h=>?_;have h:A2T l n=true:=by simpa using h
 have:=B9e hd (fun m hm=>B2u.1 (ha m hm)) (B2u.1 h) hn;simp at this;omega
theorem B4P(s:F5):0<=W4 s/\W4 s<=6:=by
 unfold W4;repeat' split
 all_goals omega
theorem A9w(s:F5):W4 s=0\/W4 s=1\/W4 s=2\/W4 s=3\/W4 s=4\/W4 s=5\/W4 s=6:=by have:=B4P s; omega
def A9x(k:Int):List (List UInt8):=if k=1\/k=2 then [] else [z6,B0z k]
theorem A1R(k:Int):S6 k=A1Q::nId::A9x k:=by unfold S6 A9x; split<;>rfl
theorem A51{k:Int}(h:1<=k/\k<=6):(S6 k).Nodup:=by
 have:k=1\/k=2\/k=3\/k=4\/k=5\/k=6:=by omega
 rcases this with rfl|rfl|rfl|rfl|rfl|rfl<;>decide
def tyI(l:List Ty)(s:F5):Int:=C4 l (U5 s.args A1Q).text
def fdI(l:List Ty)(s:F5):Int:=C2 (fun f=>f.name==(U5 s.args z6).text) (D8 l (tyI l s)) 0
def mkE(l:List Ty)(s:F5):Int :=
 if s.kids≠[] then 4 else if W4 s=0 then 5 else if A0T s.args (S6 (W4 s))≠0 then A0T s.args (S6 (W4 s))
 else if tyI l s<0 then 5 else if 2<W4 s/\fdI l s<0 then 5 else 0
def B7B(s:F5):Ag:=if 2<W4 s then U5 s.args (B0z (W4 s)) else ag0
def mkX(l:List Ty)(s:F5):Ev:=⟨W4 s,tyI l s,(U5 s.args nId).n,if 2<W4 s then fdI l s else 0,(B7B s).n,(B7B s).text⟩
def evX(l:List Ty)(s:F5):Ev:=if mkE l s=0 then mkX l s else ⟨0,0,0,0,0,[]⟩
def nm3:Nat->List UInt8|0=>W3|1=>nTo|_=>V9
def sN(l:List Ag):Nat->Int|0=>0|i+1=>sN l i+(U5 l (nm3 i)).n
def sT(l:List Ag):Nat->List UInt8|0=>[]|i+1=>sT l i++(U5 l (nm3 i)).text
theorem C1v{l:List Ag}(h:u9 l=0):∀i:Nat,-(999999999*(i:Int))<=sN l i/\sN l i<=999999999*(i:Int)/\(sT l i).length<=40*i
 | 0=>⟨by simp[sN],by simp[sN],by simp[sT]⟩
 | i+1=>by
  have h1:=C1v h i;have h2:=B10 h (nm3 i);simp only[sN,sT,List.length_append];omega
theorem s3{s:F5}(hk:W4 s≠0)(h:A0T s.args (S6 (W4 s))=0):sN s.args 3=(B7B s).n/\sT s.args 3=(B7B s).text:=by
 unfold A0T at h;split at h
 ·omega
 rename_i hl;have hl:s.args.length=(S6 (W4 s)).length:=by omega
 have ha:=fun m hm=>((A4H h).2 m hm).1;have hd:=A51 (k:=W4 s) (by have:=B4P s; omega);have no:=fun (n:List UInt8) (hn:n∉S6 (W4 s))=>B7A (A9v hd hl ha hn);simp only[sN,sT,nm3];unfold B7B;have c:=A9w s;generalize W4 s=k at *;rcases c with rfl|rfl|rfl|rfl|rfl|rfl|rfl
 ·exact (hk rfl).elim
 ·rw[no W3 (by decide),no nTo (by decide),no V9 (by decide),if_neg (by decide)]; exact⟨rfl,rfl⟩
 ·rw[no W3 (by decide),no nTo (by decide),no V9 (by decide),if_neg (by decide)]; exact⟨rfl,rfl⟩
 ·rw[no nTo (by decide),no V9 (by decide),if_pos (by decide),show B0z 3=W3 from rfl]; simp[ag0]
 ·rw[no nTo (by decide),no W3 (by decide),if_pos (by decide),show B0z 4=V9 from rfl]; simp[ag0]
 ·rw[no V9 (by decide),no W3 (by decide),if_pos (by decide),show B0z 5=nTo from rfl]; simp[ag0]
 ·rw[no V9 (by decide),no W3 (by decide),if_pos (by decide),show B0z 6=nTo from rfl]; simp[ag0]
theorem B7C{s:F5}(hk:W4 s≠0)(h:A0T s.args (S6 (W4 s))=0):A2T s.args z6=decide (2<W4 s):=by
 unfold A0T at h;split at h
 ·omega
 rename_i hl;have hl:s.args.length=(S6 (W4 s)).length:=by omega
 have ha:=fun m hm=>((A4H h).2 m hm).1;have hd:=A51 (k:=W4 s) (by have:=B4P s; omega);have no:=fun (n:List UInt8) (hn:n∉S6 (W4 s))=>A9v hd hl ha hn;have c:=A9w s;generalize W4 s=k at *;rcases c with rfl|rfl|rfl|rfl|rfl|rfl|rfl
 ·exact (hk rfl).elim
 ·rw[no z6 (by decide)]; rfl
 ·rw[no z6 (by decide)]; rfl
 all_goals rw[ha z6 (by decide)]; rfl
end Go.Am
