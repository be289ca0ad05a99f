/- Parts of the proof: an abstract machine for Go functions, and what functions of the program give back (Ow3, Do1, Do2, In1, In2, In3, In4). No condition. -/
import Derived.Test.YtphjabjjnncebaaGreatDoorXJ
import Derived.Test.YtphjabjjnncebaaGreatDoorXG
import Derived.Test.YtphjabjjnncebaaGreatDoorXF
import Derived.Shelf.Spec.SlicesInsert
import Derived.Laws.CopyRow
import Derived.Shelf.Spec.SlicesInsertGrow
import Derived.Lib.SliceRun
import Derived.Deep.RegionLaw
set_option maxRecDepth 100000
set_option linter.all false
set_option maxHeartbeats 4000000
namespace Go.Am
open Go Go.Proofs Go.RowKit Go.Proofs.Tryz
def C15(s:H6)(id:Nat)(h5:s.types.length<=1000)(h6:∀t∈s.types,t.fields.length<=1000)(h12:s.things.length<=12)(hc6:∀x∈s.things,x.cells.length<=16/\∀c∈x.cells,c.ids.length<=1000):
  A2 prog 117 [H4 s] [] id (.agg [.sl (s.types.map I9),.bsl id 0 s.things.length]) ((id,some ⟨U9 id s.things s.things.length,zT,false,false⟩)::R6 id s.things s.things.length):=by
 unfold H4;refine w117.e.1 λE hP hR hl hid=>?_;simp[w117];(refine yH rfl (B0W s.types _ h5 h6) ?_; simp);refine B9 (X:=Nat) (λi=>⟨[(2,true,.ptr (E.n0+1) 0 0),(3,true,.ptr (E.n0+2) 0 0),(14,true,.sl (s.things.map Q9)),(15,true,.int .i64 s.things.length),(16,true,.int .i64 i)],
  (E.n0+1,some ⟨[.agg [.nils,.nils]],.agg [.nils,.nils],false,false⟩)::(E.n0+2,some ⟨[.agg [.sl (s.types.map I9),.bsl (E.n0+3) 0 i]],.agg [.nils,.nils],false,false⟩)::(E.n0+3,some ⟨U9 (E.n0+16) s.things i,zT,false,false⟩)::R6 (E.n0+16) s.things i,1024⟩) (λi=>i<=s.things.length) (λi=>s.things.length - i) 0 ?_ o_ ?_
 ·refine D9.trans (D9.voidBox (E.n0+6144) (by simp; rfl) rfl (.agg [.sl (s.types.map I9),.nils] [.sl (s.types.map I9),.bsl (E.n0+12288) 0 0] rfl (λm x y h1 h2=>?_)) zT) ?_
  ·match m,h1,h2 with
   | 0,h1,h2=>simp at h1 h2; exact .inl (h1.symm.trans h2)
   | 1,h1,h2=>simp at h1 h2; exact .inr ⟨h1.symm,h2.symm⟩
   | m+2,h1,h2=>simp at h1
  have hrn:F7 [(E.n0+1,E.n0+1024),(E.n0+2,E.n0+6144),(E.n0+3,E.n0+12288)]:=by simp
  refine D9.subK [(E.n0+1,E.n0+1024),(E.n0+2,E.n0+6144),(E.n0+3,E.n0+12288)] hrn ?_ ?_ ?_ ?_ ?_<;>(try simp[R6,U9])
 ·rintro i hi p hp;refine A3 4000 ?_;simp;refine D0 (λh=>?_) (λh=>?_)
  ·have h:=zq h;obtain⟨x,hx,hd⟩:=A5 h;have hi1:IntKind.i64.wrap ((i:Int)+1)=((i+1:Nat):Int):=wrap64 o_;simp[hx,A3f x];refine⟨h,?_⟩;obtain⟨hx16,hxi⟩:=hc6 x (zg hx);have hcl:∀y∈s.things,y.cells.length<=16:=λy hy=>(hc6 y hy).1;refine B9 (X:=Nat) (λk=>⟨[(2,true,.ptr (E.n0+1) 0 0),(3,true,.ptr (E.n0+2) 0 0),(6,true,.ptr (E.n0+4) 0 0),(14,true,.sl (s.things.map Q9)),(15,true,.int .i64 s.things.length),(16,true,.int .i64 i),(26,true,.sl (x.cells.map eCl)),(27,true,.int .i64 x.cells.length),(28,true,.int .i64 k)],
    (E.n0+1,some ⟨[.agg [.nils,.nils]],.agg [.nils,.nils],false,false⟩)::(E.n0+2,some ⟨[.agg [.sl (s.types.map I9),.bsl (E.n0+3) 0 i]],.agg [.nils,.nils],false,false⟩)::(E.n0+3,some ⟨U9 (E.n0+16) s.things i,zT,false,false⟩) ::
    (E.n0+4,some ⟨[.agg [.int .i64 x.type,.int .i64 x.id,.bsl (E.n0+5) 0 k]],.agg [.int .i64 0,.int .i64 0,.nils],false,false⟩)::(E.n0+5,some ⟨n8 (E.n0+16) i x.cells k,zC,false,false⟩)::(A1Y (E.n0+16) i x.cells k++R6 (E.n0+16) s.things i),1024⟩) (λk=>k<=x.cells.length) (λk=>x.cells.length - k) 0 ?_ o_ ?_
   ·refine D9.trans (D9.voidBox (E.n0+11264) (by simp; rfl) rfl (.agg [.int .i64 x.type,.int .i64 x.id,.nils] [.int .i64 x.type,.int .i64 x.id,.bsl (E.n0+17408) 0 0] rfl (λm x y h1 h2=>?_)) zC) ?_
    ·match m,h1,h2 with
     | 0,h1,h2=>simp at h1 h2; exact .inl (h1.symm.trans h2)
     | 1,h1,h2=>simp at h1 h2; exact .inl (h1.symm.trans h2)
     | 2,h1,h2=>simp at h1 h2; exact .inr ⟨h1.symm,h2.symm⟩
     | m+3,h1,h2=>simp at h1
    have hrn:F7 [(E.n0+4,E.n0+11264),(E.n0+5,E.n0+17408)]:=s_;refine D9.subK [(E.n0+4,E.n0+11264),(E.n0+5,E.n0+17408)] hrn ?_ ?_ ?_ ?_ ?_<;>(try simp[A1Y,n8])
    ·have hR:∀z,(E.n0+16<=z/\z<E.n0+1016)->(P2 (E.n0+1024) [(E.n0+4,E.n0+11264),(E.n0+5,E.n0+17408)] hrn).ρ z=some z:=λz ⟨h1,h2⟩=>by
      have z1:z≠E.n0+4:=o_;have z2:z≠E.n0+5:=o_;have z3:z≠E.n0+11264:=o_;have z4:z≠E.n0+17408:=o_;exact B1U (by simp[lkN,z1,z2]) (by simp[T7,z3,z4]) o_
     have hrest:=Y2 (t:=E.n0+16) (S:=λz=>E.n0+16<=z/\z<E.n0+1016) hcl i o_ (λj hj=>⟨o_,o_⟩) λj m hj hm=>⟨o_,o_⟩;refine⟨A1H hR (A0b λm hm=>⟨o_,o_⟩),hrest.sub hR λy b hm=>?_⟩;have hk:=hrest.keys _ hm;simp only at hk;repeat rw[A5Q n_]
     exact A2O hrest.nd hm
    ·have hrest:=Y2 (t:=E.n0+16) (S:=λz=>E.n0+16<=z/\z<E.n0+1016) hcl i o_ (λj hj=>⟨o_,o_⟩) λj m hj hm=>⟨o_,o_⟩;exact A0C λq hq=>by have:=hrest.keys q hq; omega
   ·rintro k hk q hq;refine A3 10 ?_;simp;refine⟨λh=>?_,λh=>?_⟩
    ·obtain⟨c,hcx,hcd⟩:=A5 h;have hi2:IntKind.i64.wrap ((k:Int)+1)=((k+1:Nat):Int):=wrap64 o_;have hids:=hxi c (zg hcx);refine A3 4000 ?_;simp[hcx,B1h c];refine⟨h,?_⟩;refine E5 hP rfl (B3u c.ids _ o_) s_ f_ ?_;refine A3 4 ?_;simp;have hlenC:=B0X (E.n0+16) i x.cells k o_;have hcosS:n8 (E.n0+16) i x.cells (k+1)=n8 (E.n0+16) i x.cells k++[eCo (E.n0+16) i k c]:=(by rw[n8,hcx]);have hidsS:A1Y (E.n0+16) i x.cells (k+1)=(E.n0+16+16+16*i+k,some (iBx c))::A1Y (E.n0+16) i x.cells k:=(by rw[A1Y,hcx]);refine B5F f_ s_ s_ f_ ?_;refine A3 4000 ?_;simp[hlenC,zC];obtain⟨dN,hdN⟩:∃d,d=E.n0+16+16+16*i+k:=⟨_,rfl⟩;rw[←hdN] at hidsS;have heCo:eCo (E.n0+16) i k c = .agg [.int .i64 c.n,.str c.text,.bsl dN 0 c.ids.length]:=(by rw[hdN]; rfl);have dn1:∀a,a<16->(E.n0+a=dN)=False:=λa ha=>by simp; omega
     have dn2:∀a,a<16->(dN=E.n0+a)=False:=λa ha=>by simp; omega
     have dn3:∀a,1024<=a->(E.n0+a=dN)=False:=λa ha=>by simp; omega
     have dn4:∀a,1024<=a->(dN=E.n0+a)=False:=λa ha=>by simp; omega
     have dn5:E.n0<=dN/\dN<E.n0+1024:=o_;have hA:A07 (λz=>(E.n0+16<=z/\z<E.n0+1016)/\z≠dN) (A1Y (E.n0+16) i x.cells k++R6 (E.n0+16) s.things i):=(A4y _ λm hm=>⟨⟨o_,o_⟩,o_⟩).append (Y2 hcl i o_ (λj hj=>⟨⟨o_,o_⟩,o_⟩) λj m hj hm=>⟨⟨o_,o_⟩,o_⟩) λu hu u' hu' e=>by
       obtain⟨y,b⟩:=u;obtain⟨y',b'⟩:=u';simp only at e;subst e;obtain⟨m,c,h1,_,h2,_⟩:=x6 hu;rcases A2U hcl hu' with⟨j,h3,h4⟩|⟨j,m',h3,h4,h5⟩<;>omega
     refine⟨⟨o_,o_⟩,hq _ (k+1) o_ o_ ?_⟩;have hrn:F7 [(E.n0+5,E.n0+17408),(dN,E.n0+14336)]:=s_;refine D9.subK [(E.n0+5,E.n0+17408),(dN,E.n0+14336)] hrn ?_ ?_ ?_ ?_ ?_<;>(try simp[hi2,hcosS,heCo,hidsS,iBx,dn1,dn2,dn3,dn5])
     ·have hR:∀z,((E.n0+16<=z/\z<E.n0+1016)/\z≠dN)->(P2 (E.n0+1024) [(E.n0+5,E.n0+17408),(dN,E.n0+14336)] hrn).ρ z=some z:=λz ⟨⟨h1,h2⟩,hz⟩=>by
       have z2:z≠E.n0+5:=o_;have z3:z≠E.n0+14336:=o_;have z4:z≠E.n0+17408:=o_;exact B1U (by simp[lkN,hz,z2]) (by simp[T7,z3,z4]) o_
      refine⟨A1H hR (A0b λm hm=>⟨⟨o_,o_⟩,o_⟩),⟨v6 (A1H hR (A0a λm hm=>⟨⟨o_,o_⟩,o_⟩)) (by simp[dn2,dn3]),by simp[zC]⟩,hA.sub hR λy b hm=>?_⟩;have hk:=hA.keys _ hm;simp only at hk;repeat rw[A5Q n_]
      exact A2O hA.nd hm
     ·exact A0C λq hq=>by have:=hA.keys q hq; omega
    ·obtain rfl:k=x.cells.length:=by omega
     refine A3 18 ?_;simp;have hlenT:=B0Y (E.n0+16) s.things i o_;refine B5F f_ s_ s_ f_ ?_;refine A3 4000 ?_;simp[hlenT,zT];obtain⟨cN,hcN⟩:∃d,d=E.n0+16+1+i:=⟨_,rfl⟩;have htosS:U9 (E.n0+16) s.things (i+1)=U9 (E.n0+16) s.things i++[.agg [.int .i64 x.type,.int .i64 x.id,.bsl cN 0 x.cells.length]]:=(by rw[U9,hx,hcN]; rfl);have hrestS:R6 (E.n0+16) s.things (i+1)=(cN,some ⟨n8 (E.n0+16) i x.cells x.cells.length,zC,false,false⟩)::(A1Y (E.n0+16) i x.cells x.cells.length++R6 (E.n0+16) s.things i):=(by rw[R6,hx,hcN]; rfl);have dn1:∀a,a<16->(E.n0+a=cN)=False:=λa ha=>by simp; omega
     have dn2:∀a,a<16->(cN=E.n0+a)=False:=λa ha=>by simp; omega
     have dn3:∀a,1024<=a->(E.n0+a=cN)=False:=λa ha=>by simp; omega
     have dn4:∀a,1024<=a->(cN=E.n0+a)=False:=λa ha=>by simp; omega
     have dn5:E.n0<=cN/\cN<E.n0+1024:=o_;have hA:A07 (λz=>(E.n0+16<=z/\z<E.n0+1016)/\z≠cN) (A1Y (E.n0+16) i x.cells x.cells.length++R6 (E.n0+16) s.things i):=(A4y _ λm hm=>⟨⟨o_,o_⟩,o_⟩).append (Y2 hcl i o_ (λj hj=>⟨⟨o_,o_⟩,o_⟩) λj m hj hm=>⟨⟨o_,o_⟩,o_⟩) λu hu u' hu' e=>by
      obtain⟨y,b⟩:=u;obtain⟨y',b'⟩:=u';simp only at e;subst e;obtain⟨m,c,h1,_,h2,_⟩:=x6 hu;rcases A2U hcl hu' with⟨j,h3,h4⟩|⟨j,m',h3,h4,h5⟩<;>omega
     refine⟨⟨o_,o_⟩,hp _ (i+1) o_ o_ ?_⟩;have hrn:F7 [(E.n0+3,E.n0+6144),(cN,E.n0+5)]:=s_;refine D9.subK [(E.n0+3,E.n0+6144),(cN,E.n0+5)] hrn ?_ ?_ ?_ ?_ ?_<;>(try simp[hi1,htosS,hrestS,dn1,dn2,dn3,dn5])
     ·have hR:∀z,((E.n0+16<=z/\z<E.n0+1016)/\z≠cN)->(P2 (E.n0+1024) [(E.n0+3,E.n0+6144),(cN,E.n0+5)] hrn).ρ z=some z:=λz ⟨⟨h1,h2⟩,hz⟩=>by
       have z2:z≠E.n0+3:=o_;have z3:z≠E.n0+5:=o_;have z4:z≠E.n0+6144:=o_;exact B1U (by simp[lkN,hz,z2]) (by simp[T7,z3,z4]) o_
      refine⟨⟨v6 (A1H hR (A0b λm hm=>⟨⟨o_,o_⟩,o_⟩)) (by simp[dn1,dn2]),by simp[zT]⟩,A1H hR (A0a λm hm=>⟨⟨o_,o_⟩,o_⟩),hA.sub hR λy b hm=>?_⟩;have hk:=hA.keys _ hm;simp only at hk;repeat rw[A5Q n_]
      exact A2O hA.nd hm
     ·exact A0C λq hq=>by have:=hA.keys q hq; omega
  ·have h:=zo h;simp;obtain rfl:i=s.things.length:=by omega
   have hcl:∀y∈s.things,y.cells.length<=16:=λy hy=>(hc6 y hy).1;have hrn:F7 ((id,E.n0+3)::A0F id (E.n0+16) 999):=⟨A3k λo h1 h2=>o_,B0b 999⟩;have hr0:(P2 E.n0 ((id,E.n0+3)::A0F id (E.n0+16) 999) hrn).ρ id=some (E.n0+3):=by
    show rnF E.n0 ((id,E.n0+3)::A0F id (E.n0+16) 999) id=_;simp[rnF,lkN]
   have hsh:B6x (P2 E.n0 ((id,E.n0+3)::A0F id (E.n0+16) 999) hrn) (E.n0+16) id:=λo h1 h2=>by
    show rnF E.n0 ((id,E.n0+3)::A0F id (E.n0+16) 999) (id+o)=_;unfold rnF;rw[lkN,zf o_,B0c h1 o_]
   have hA:=Y2 (t:=E.n0+16) (S:=λz=>E.n0+16<=z/\z<E.n0+1016) hcl s.things.length o_ (λj hj=>⟨o_,o_⟩) λj m hj hm=>⟨o_,o_⟩;have hA':=Y2 (t:=id) (S:=λz=>id+1<=z/\z<id+1000) hcl s.things.length o_ (λj hj=>⟨o_,o_⟩) λj m hj hm=>⟨o_,o_⟩;rw[hR];refine F5 f_ _ hrn ⟨?_,?_,?_,?_,?_,?_⟩
   ·refine .agg _ _ (.cons _ _ _ _ (K0 rfl s_) (.cons _ _ _ _ (.bsl _ _ _ _ hr0) .nil))
   ·refine A2L.of λy _ b' hb'=>?_;rcases B0Z hb' with hm|hm
    ·rcases zi.1 hm with e|hm
     ·injection e with e1 e2
      injection e2 with e2
      subst e1 e2;exact⟨_,⟨U9 (E.n0+16) s.things s.things.length,zT,false,false⟩,hr0,s_,⟨A6Z hsh _ o_,rfl,rfl,rfl⟩⟩
     ·obtain⟨o,b0,q1,q2,rfl,q4,q5⟩:=A6a hcl hsh o_ hm;refine⟨_,b0,hsh o q1 q2,?_,q5⟩;repeat rw[A5Q n_]
      exact A2O hA.nd q4
    ·simp[D4,Am.bk] at hm
   ·refine⟨.inl o_,.inl o_,.inl o_,.inl o_,A0C λq hq=>by have:=hA.keys q hq; omega⟩
   ·exact B0a λq hq=>.inr (by
     rcases zi.1 hq with rfl|hq
     ·exact⟨zx _,n_⟩
     ·have:=hA'.keys q hq; omega)
   ·exact B3x λq hq=>by
     rcases zi.1 hq with rfl|hq
     ·exact⟨zx _,n_⟩
     ·obtain⟨o,q1,q2,rfl⟩:=A4z hq;exact⟨n_,n_⟩
   ·exact B0d λq hq=>by
     rcases zi.1 hq with rfl|hq
     ·simp only; omega
     ·obtain⟨o,q1,q2,rfl⟩:=A4z hq;simp only; omega
def B3y(n:Int)(id:Nat):A2 prog 335 [.int .i64 n] [] id (.bool false) []:=by
 refine w335.e.1 λE hP hR hl hid=>?_;simp[w335];exact yP hR
def A6b(n:Int)(id:Nat):A2 prog 317 [.int .i64 n] [] id (.bool false) []:=by
 refine w317.e.1 λE hP hR hl hid=>?_;simp[w317];exact yP hR
def C4C(a b:Int)(id:Nat):A2 prog 316 [.int .i64 a,.int .i64 b] [] id (.bool (decide (a<b))) []:=by
 refine w316.e.1 λE hP hR hl hid=>?_;simp[w316];(refine yH rfl (B3y a _) ?_; simp);(refine yG rfl (B3y b _) ?_; simp);exact yP hR
def fLt(l:List Int)(x:Int)(k:Nat):Int:=match l[k]? with
 | some y=>y - x
 | none=>0
def L2(l:List Int)(x:Int):Nat:=bs (fLt l x) 0 l.length
def V9(l:List Int)(x:Int):Bool:=decide (L2 l x<l.length)&&decide (fLt l x (L2 l x)=0)
def B8g(l:List Int)(x:Int)(id:Nat)(hl:l.length<1000000):A2 prog 299 [.sl (l.map eI),.int .i64 x] [] id (.tup [.int .i64 (L2 l x),.bool (V9 l x)]) []:=by
 refine w299.e.1 λE hP hR hl hid=>?_;simp[w299];refine B9 (X:=Nat×Nat) (λq=>⟨[(0,true,.sl (l.map eI)),(1,true,.int .i64 x),(6,true,.int .i64 l.length),(7,true,.int .i64 q.1),(8,true,.int .i64 q.2)],[],0⟩) (λq=>q.1<=q.2/\q.2<=l.length/\bs (fLt l x) q.1 q.2=L2 l x) (λq=>q.2 - q.1) (0,l.length) ?_ ⟨s_,s_,rfl⟩ ?_
 ·exact yW [] trivial
 ·rintro⟨i,j⟩ ⟨hij,hj,hf⟩ p hp;simp only at hij hj hf;refine A3 4000 ?_;simp;refine D0 (λh=>?_) (λh=>?_)
  ·have h:=zq h;have h':i<j:=o_;have hk:(i+j) / 2<l.length:=o_;obtain⟨t,ht⟩:∃t,l[(i+j) / 2]?=some t:=⟨_,zc hk⟩;have hh:=C0w (i:=i) (j:=j) o_ o_;have h64:(1:Int)<=↑IntKind.u64.bits:=d_;generalize hm:(i+j) / 2=m at hh hk ht;simp[hh,ht,C5W];refine⟨h64,hk,?_⟩;(refine yH rfl (C4C _ _ _) ?_; simp);have hfo:fLt l x m=t - x:=(by simp only[fLt,ht]);rw[bs,dif_pos h',hm,hfo] at hf;refine D0 (λh1=>?_) (λh1=>?_)
   ·have hm1:IntKind.i64.wrap ((m:Int)+1)=((m+1:Nat):Int):=wrap64 o_;simp at h1;rw[zj o_] at hf;simp;refine hp _ (m+1,j) ⟨n_,hj,hf⟩ n_ ?_;refine yV [] s_ λhrn=>⟨?_,?_,?_,?_,?_⟩<;>(try simp[hm1])
   ·simp at h1;rw[zf o_] at hf;simp;refine hp _ (i,m) ⟨n_,n_,hf⟩ n_ ?_;exact yW [] trivial
  ·have h:=zo h;have he:i=L2 l x:=(by rw[←hf,bs,dif_neg o_]);simp;by_cases hi:i<l.length
   ·obtain⟨t,ht⟩:∃t,l[i]?=some t:=⟨_,zc hi⟩;have hfo:fLt l x i=t - x:=(by simp only[fLt,ht]);have hg:l[i]=t:=(by rw[zc hi] at ht; injection ht);simp[hi,hg,C5W];(refine yG rfl (A6b _ _) ?_; simp);(refine yG rfl (A6b _ _) ?_; simp);exact yP hR (h1:=by simp; rw[←he]; refine⟨rfl,?_⟩; unfold V9; rw[←he,hfo,wg]; simp[hi]; omega)
   ·have ht:l[i]?=none:=wu o_;simp[hi];refine A11 (.int .i64 0) s_ (λhg=>by simp at hg) (λ_=>?_);refine A3 4000 ?_;simp;(refine yG rfl (A6b _ _) ?_; simp);exact yP hR (h1:=by simp; rw[←he]; exact⟨rfl,by unfold V9; rw[←he]; simp[hi]⟩)
def C16(l:List Int)(y:Int)(id:Nat)(hl8:l.length<9223372036854775807):A2 prog 224 [.sl (l.map eI),.int .i64 y] [] id (.int .i64 (E0 (λx=>y==x) l 0)) []:=by
 refine w224.e.1 λE hP hR hl hid=>?_;simp[w224];refine B9 (X:=Nat) (λi=>⟨[(0,true,.sl (l.map eI)),(1,true,.int .i64 y),(7,true,.int .i64 l.length),(8,true,.int .i64 i)],[],0⟩) (λi=>i<=l.length/\E0 (λx=>y==x) (l.drop i) i=E0 (λx=>y==x) l 0) (λi=>l.length - i) 0 ?_ ⟨o_,rfl⟩ ?_
 ·exact yW [] trivial
 ·rintro i ⟨hi,hf⟩ p hp;refine A3 4000 ?_;simp;refine D0 (λh=>?_) (λh=>?_)
  ·have h:=zq h;obtain⟨x,hx,hd⟩:=A5 h;rw[hd] at hf;simp only[E0] at hf;have hi1:IntKind.i64.wrap ((i:Int)+1)=((i+1:Nat):Int):=wrap64 o_;simp[hx,eI];refine⟨h,?_⟩;refine D0 (λh1=>?_) (λh1=>?_)<;>simp
   ·rw[zj (v_ h1)] at hf;exact yP hR (h1:=by simp; exact hf)
   ·rw[zf (v_ h1)] at hf;refine hp _ (i+1) ⟨h,hf⟩ o_ ?_;refine yV [] s_ λhrn=>⟨?_,?_,?_,?_,?_⟩<;>(try simp[hi1])
  ·have h:=zo h;simp;rw[zp o_] at hf;exact yP hR (h1:=by simp; exact hf)
def C4D(l:List Int)(y:Int):Bool:=l.any λx=>y==x
def B8h(l:List Int)(y:Int)(id:Nat)(hl8:l.length<9223372036854775807):A2 prog 159 [.sl (l.map eI),.int .i64 y] [] id (.bool (C4D l y)) []:=by
 refine w159.e.1 λE hP hR hl hid=>?_;simp[w159];(refine yH rfl (C16 l y _ hl8) ?_; simp);exact yP hR (h1:=by simp; exact V4 _ _ _)
def eD(l:List Ty)(th:AV)(e:Ev)(i:Int):AV:=.agg [.sl (l.map I9),th,.int .i64 e.kind,.int .i64 e.type,.int .i64 e.id,.int .i64 e.field,.int .i64 e.n,.str e.text,.int .i64 i]
def W3(l:List Ty)(e:Ev)(f:Fd)(c:Cl):Bool:=(!j0 f.kind||!(B8 l f.of==e.type))||!C4D c.ids e.id
def B8i(l:List Ty)(ts:List AV)(e:Ev)(i:Int)(f:Fd)(c:Cl)(j:Nat)(id:Nat)(h5:l.length<=1000)(hc:c.ids.length<=1000)(hp:F8 ts=true):
  A2 prog 296 [U8 f,.cptr [.int .i64 c.n,.str c.text,.sl (c.ids.map eI)],.ptr j 0 0] [(j,⟨[.cptr (eD l (.sl ts) e i).cells],.cptr (eD l (.sl ts) e i).cells,false,false⟩)] id (.bool (W3 l e f c)) []:=by
 have hrt:∀R S,N8 R S ts ts:=λR S=>B4 rfl hp;have hnt:∀S,F4 S ts:=λS=>A4 _ hp;unfold U8 eD;refine w296.e.1 λE hP hR hl hid=>?_;simp[w296];have hj:=hl (j,_) (za ..);simp only at hj;have j1:=lf hj;try simp[j1]
 (refine E5 hP rfl (A8h _ _) s_ f_ ?_; refine A3 4000 ?_; simp[j1]);(refine H5 hP s_ rfl (λhc=>⟨o8 l f.of _ o_,by revert hc; simp; try grind,s_⟩) ?_; refine A3 4000 ?_; simp[j1,A4K]);(refine H5 hP s_ rfl (λhc=>⟨B8h c.ids e.id _ o_,by revert hc; simp; try grind,s_⟩) ?_; refine A3 4000 ?_; simp);refine yE hR [] s_ λhrn=>⟨?_,?_,?_,?_,?_,?_⟩<;>(try simp[j1,W3])
 ·rfl
 ·exact A4 _ (t_ hp)
def C17(s:H6)(e:Ev)(i:Int)(id:Nat)(h5:s.types.length<=1000)(h12:s.things.length<=1000000)
  (hok:∀t∈s.things,0<=t.type/\t.type.toNat<s.types.length/\t.cells.length=(D5 s.types t.type).length/\t.cells.length<=1000000/\∀c∈t.cells,c.ids.length<=6) :
  A2 prog 261 [.cptr (eD s.types (.sl (s.things.map Q9)) e i).cells] [] id (.bool (!T8 (W3 s.types e) s.types s.things)) []:=by
 have hE:=λj id=>B6s s 296 j (.cptr (eD s.types (.sl (s.things.map Q9)) e i).cells) (W3 s.types e) (by simp[eD,AV.cells]) (λf c id h6=>B8i s.types (s.things.map Q9) e i f c j id h5 o_ s_) hok h12 id;unfold eD H4 at *;refine w261.e.1 λE hP hR hl hid=>?_;simp[w261];(refine yH rfl (hE E.n0 _) ?_; simp);exact yP hR
structure I0 where
 t:Tg
 c:Nat
 is:List (Option Nat)
def j7:Option Nat->Nat->AV
 | none,_=>.nils
 | some i,n=>.bsl i 0 n
def P6(c:Cl)(i:Option Nat):AV:=.agg [.int .i64 c.n,.str c.text,j7 i c.ids.length]
def W9(o:I0):AV:=.agg [.int .i64 o.t.type,.int .i64 o.t.id,.bsl o.c 0 o.t.cells.length]
def idB:Cl->Option Nat->List (Nat×Bx)
 | c,some i=>[(i,iBx c)]
 | _,none=>[]
def cBn(o:I0):Bx:=⟨o.t.cells.zipWith P6 o.is,zC,false,false⟩
def A0c:List Cl->List (Option Nat)->List (Nat×Bx)
 | c::cs,i::is=>idB c i++A0c cs is
 | _,_=>[]
def I0.bxs(o:I0):List (Nat×Bx):=(o.c,cBn o)::A0c o.t.cells o.is
def J2(S:List I0):List (Nat×Bx):=S.flatMap I0.bxs
def P9(S:List I0):Bx:=⟨S.map W9,zT,false,false⟩
def A6(l:List Ty)(S:List I0):H6:=⟨l,S.map I0.t⟩
def A9j(S:List I0)(T:Nat)(kind tid:Int)(id:Nat)(hl8:S.length<1000000):A2 prog 132 [.bsl T 0 S.length,.agg [.int .i64 kind,.int .i64 tid,.nils],.fn 67 []] [(T,P9 S)] id (.tup [.int .i64 (C3 (S.map I0.t) kind tid),.bool (F2 (S.map I0.t) kind tid)]) []:=by
 unfold P9;refine w132.b.1 λE hP hR hl hid hB hu=>?_;simp[w132];have hT:=hl (T,_) (za ..);simp only at hT;have T1:=lf hT;have hTn:∀x∈S.map W9,B2 E.G0.used x:=C1 hB (za ..);try simp[T1]
 refine B9 (X:=Nat×Nat) (λq=>⟨[(0,true,.bsl T 0 S.length),(2,true,.fn 67 []),(4,true,.ptr E.n0 0 0),(8,true,.int .i64 S.length),(9,true,.int .i64 q.1),(10,true,.int .i64 q.2)],[(T,some ⟨S.map W9,zT,false,false⟩),(E.n0,some ⟨[.agg [.int .i64 kind,.int .i64 tid,.nils]],.agg [.int .i64 0,.int .i64 0,.nils],false,false⟩)],1⟩) (λq=>q.1<=q.2/\q.2<=S.length/\bs (J7 (S.map I0.t) kind tid) q.1 q.2=C3 (S.map I0.t) kind tid) (λq=>q.2 - q.1) (0,S.length) ?_ ⟨s_,s_,by unfold C3; rw[xf]⟩ ?_
 ·refine yV [(E.n0,E.n0)] s_ λhrn=>⟨?_,?_,?_,?_,?_⟩<;>(try simp[T1]);all_goals exact yO hu hTn
 ·rintro⟨i,j⟩ ⟨hij,hj,hf⟩ p hp;simp only at hij hj hf;refine A3 4000 ?_;simp;refine D0 (λh=>?_) (λh=>?_)
  ·have h:=zq h;have h':i<j:=o_;have hk:(i+j) / 2<S.length:=o_;obtain⟨o,ho⟩:∃o,S[(i+j) / 2]?=some o:=⟨_,zc hk⟩;have hh:=C0w (i:=i) (j:=j) o_ o_;have h64:(1:Int)<=↑IntKind.u64.bits:=d_;generalize hm:(i+j) / 2=m at hh hk ho;simp[hh,ho,W9,T1];refine⟨h64,⟨hk,rfl⟩,hk,?_⟩;refine E8 hP rfl rfl (A3g o.t.type o.t.id kind tid (.bsl o.c 0 o.t.cells.length) .nils _) s_ f_ ?_;refine A3 4000 ?_;have hfo:J7 (S.map I0.t) kind tid m=A0Z o.t.type o.t.id kind tid:=(by simp[J7,ho]);rw[bs,dif_pos h',hm,hfo] at hf;simp;refine D0 (λh1=>?_) (λh1=>?_)
   ·have hm1:IntKind.i64.wrap ((m:Int)+1)=((m+1:Nat):Int):=wrap64 o_;simp at h1;rw[zj h1] at hf;simp;refine hp _ (m+1,j) ⟨n_,hj,hf⟩ n_ ?_;refine yV [(E.n0,E.n0)] s_ λhrn=>⟨?_,?_,?_,?_,?_⟩<;>(try simp[hm1,T1]);all_goals exact yO hu hTn
   ·simp at h1;rw[zf o_] at hf;simp;refine hp _ (i,m) ⟨n_,n_,hf⟩ n_ ?_;refine yV [(E.n0,E.n0)] s_ λhrn=>⟨?_,?_,?_,?_,?_⟩<;>(try simp[T1]);all_goals exact yO hu hTn
  ·have h:=zo h;have he:i=C3 (S.map I0.t) kind tid:=(by rw[←hf,bs,dif_neg o_]);simp;by_cases hi:i<S.length
   ·obtain⟨o,ho⟩:∃o,S[i]?=some o:=⟨_,zc hi⟩;have hfo:J7 (S.map I0.t) kind tid i=A0Z o.t.type o.t.id kind tid:=(by simp[J7,ho]);have hg:S[i]=o:=(by rw[zc hi] at ho; injection ho);simp[hi,hg,W9,T1];refine⟨rfl,?_⟩;refine A11 (.int .i64 0) s_ (λ_=>?_) (λhg=>by simp at hg);refine E8 hP rfl rfl (A3g o.t.type o.t.id kind tid (.bsl o.c 0 o.t.cells.length) .nils _) s_ f_ ?_;refine A3 4000 ?_;simp;have hg2:C3 (S.map I0.t) kind tid=i:=he.symm;have hg3:F2 (S.map I0.t) kind tid=decide (A0Z o.t.type o.t.id kind tid=0):=(by unfold F2; rw[←he,hfo,wg]; simp[hi]);rw[hg2,hg3] at hR;refine yE hR [] s_ λhrn=>⟨?_,?_,?_,?_,?_,?_⟩<;>(try simp[T1])
    ·rw[wg]; simp
    ·exact yO hu hTn
   ·have ht:S[i]?=none:=wu o_;simp[hi,T1];refine A11 (.int .i64 0) s_ (λhg=>by simp at hg) (λ_=>?_);refine A3 4000 ?_;simp;have hg2:C3 (S.map I0.t) kind tid=i:=he.symm;have hg3:F2 (S.map I0.t) kind tid=false:=(by unfold F2; rw[←he]; simp[hi]);rw[hg2,hg3] at hR;refine yE hR [] s_ λhrn=>⟨?_,?_,?_,?_,?_,?_⟩<;>(try simp[T1]);all_goals exact yO hu hTn
def T3(l:List Ty)(S:List I0)(T:Nat)(kind tid:Int)(id:Nat)(hl8:S.length<1000000):A2 prog 71 [.agg [.sl (l.map I9),.bsl T 0 S.length],.int .i64 kind,.int .i64 tid] [(T,P9 S)] id (.tup [.int .i64 (C3 (S.map I0.t) kind tid),.bool (F2 (S.map I0.t) kind tid)]) []:=by
 have hX:=λid=>A9j S T kind tid id hl8;unfold P9 at *;refine w71.b.1 λE hP hR hl hid hB hu=>?_;simp[w71];have hT:=hl (T,_) (za ..);simp only at hT;have T1:=lf hT;have hTn:∀x∈S.map W9,B2 E.G0.used x:=C1 hB (za ..);(refine yC rfl (hX _) ?_; simp[T1]);refine yE hR [] s_ λhrn=>⟨?_,?_,?_,?_,?_,?_⟩<;>(try simp[T1]);all_goals exact yO hu hTn
def J3(l:List Value)(o:Nat)(cs:List Value):List Value:=l.take o++cs++l.drop (o+cs.length)
def M6{l:List Value}{o:Nat}{cs:List Value}(h:o+cs.length<=l.length):(J3 l o cs).length=l.length:=by
 unfold J3;simp only[zu,zy,ya];omega
def R7{P:Program}(w:World)(dT sT ty elem:TypeId)(b o n dLen dCap sLen sCap size:Nat)(a:Addr)(cs:List Value)(cur:Array Value)(el:TypeId)(hu:P.underlying dT=some (.slice elem))(hu2:P.underlying sT=some (.slice elem))(hs:(P.info? elem).map (·.size)=some size)
  (hn:Nat.min sLen dLen=n) (hcs:cs.length=n*size) (hsrc:∀j v,cs[j]?=some v->w.cell? (a.add j)=some v) (hg:w.heap[b]?=some (.cells cur el (0,0))) (hfit:o+cs.length<=cur.size) (h1:∀v∈cs,v.oneCell'=true) :
  (Builtin.copy_ #[dT,sT] ty #[.slice (some ⟨b,o,none⟩) dLen dCap,.slice (some a) sLen sCap]).run P w = .ok (goInt n) (w.setRow b (J3 cur.toList o cs).toArray):=by
 have hl:=run_firstCells_some (P:=P) w size n a sLen sCap cs hcs hsrc;have hst:=run_storeCells_at P b o el cs 0 cur w hg (v_ hfit) h1;obtain⟨i,hi1,hi2⟩:=zn.1 hs;simp only[vp] at hst;simp[Builtin.copy_,run_underlying hu,Builtin.lenOf,sizeOf,typeInfo,hi1,hi2,hn,hl,hst,J3]
def B1k(b n c i vb vc:Nat)(cur:Array Value)(el:TypeId)(vs:List Value)(w:World)(hi:i<n)(hroom:n+1<=c)(hc63:c<=9223372036854775807)(hvb:vb≠b)(hvl:vs.length=1)
  (hg:w.heap[b]?=some (.cells cur el (0,0))) (hcz:cur.size=c) (h1c:∀v∈cur.toList.take (n),v.oneCell'=true) (hvs:∀j v,vs[j]?=some v->w.cell? ⟨vb,j,none⟩=some v) (h1v:∀v∈vs,v.oneCell'=true)
  (tA tB:TypeId) (kA kB:Nat) (hsa:w.shape? vb=some (tA,kA)) (hsb:w.shape? b=some (tB,kB)) (hkB:kB≠0) (hfa:w.frozen? ⟨vb,0,none⟩=false) (hfe:w.frozen? ⟨vb,kA,none⟩=false) :
  Calls prog 315 #[.slice (some ⟨b,0,none⟩) n c,.int .i64 i,.slice (some ⟨vb,0,none⟩) 1 vc] w λe w' =>
   e = .returned (.slice (some ⟨b,0,none⟩) (n+1) c)/\∃q,w'=((w.drewN q).setRow b (J3 cur.toList (i+1) ((cur.toList.take (n)).drop (i))).toArray).setRow b (J3 (J3 cur.toList (i+1) ((cur.toList.take (n)).drop (i))) (i) vs).toArray:=by
 have hz2:¬((i:Int)=(n:Int)):=by omega
 have hsz:(prog.info? 3).map (·.size)=some 1:=by kernel_rfl
 have hw1:IntKind.i64.wrap ((i:Int)+1)=(i:Int)+1:=by rw[IntKind.wrap_i64]; omega
 have hb1:(0:Int)<=(i:Int)+1:=by omega
 have htn:((i:Int)+1).toNat=i+1:=by omega
 have hb2:¬(c=i+1):=by omega
 have hb3:(i:Int)<=(n:Int)+1:=by omega
 have hb4:¬(c=i):=by omega
 have hin:i<=n:=by omega
 have mixed:prog.follows .mixedOrders=true:=by kernel_rfl
 have hmn1:Nat.min (n+1 - i) (n - i)=n - i:=by simp only[su]; split<;>omega
 have hmn2:Nat.min 1 (n+1 - i)=1:=by simp only[su]; split<;>omega
 have hov:∀lb cb,(callFunc 333 #[.slice (some ⟨vb,0,none⟩) 1 vc,.slice (some ⟨b,i+1,none⟩) lb cb]).run prog w = .ok (.value (.bool false)) w:=λlb cb=>by
  rw[run_callFunc_extern func333 k_ k_ k_ (e:=Extern.SlicesOverlaps.overlaps #[106,106] #[4]) k_,
   Lib.run_overlaps_apart w 106 4 3 underlying106 1 (λw=>k_) ⟨vb,0,none⟩ ⟨b,i+1,none⟩ 1 vc lb cb hvb tA tB kA kB hsa hsb hkB hfa hfe]
  rfl
 obtain⟨cs1,hcs1⟩:∃cs1,cs1=(cur.toList.take (n)).drop (i):=⟨_,rfl⟩;have hl1:cs1.length=(n - i)*1:=by rw[hcs1,ya,zy,yz]; omega
 have hget1:∀j v,cs1[j]?=some v->cur[i+j]?=some v:=λj v hj=>by
  rw[hcs1,yf,zz] at hj;split at hj
  ·simpa using hj
  ·cases hj
 have hcp1:∀ty dc sc,(Builtin.copy_ #[106,106] ty #[.slice (some ⟨b,i+1,none⟩) (n - i) dc,.slice (some ⟨b,i,none⟩) (n+1 - i) sc]).run prog w.drew = .ok (goInt ((n - i:Nat):Int)) (w.drew.setRow b (J3 cur.toList (i+1) cs1).toArray):=λty dc sc =>
  R7 w.drew _ _ ty 3 b (i+1) (n - i) (n - i) dc (n+1 - i) sc 1 ⟨b,i,none⟩ cs1 cur el underlying106 underlying106 hsz hmn1 hl1
   (λj v hj=>by rw[Addr.add_lit]; exact (E4 (w:=w.drew) hg).trans (hget1 j v hj)) hg o_ (λv hv=>h1c v (by rw[hcs1] at hv; exact xh hv))
 obtain⟨L1,hL1⟩:∃L1,L1=J3 cur.toList (i+1) cs1:=⟨_,rfl⟩;rw[←hL1] at hcp1;obtain⟨W1,hW1⟩:∃W1,W1=w.drew.setRow b L1.toArray:=⟨_,rfl⟩;have hg1:W1.heap[b]?=some (.cells L1.toArray el (0,0)):=by rw[hW1]; exact setRow_heap w.drew b cur _ el (0,0) hg
 have hsz1:L1.length=c:=by rw[hL1,M6 m_]; simpa using hcz
 have hcp2:∀ty dc,(Builtin.copy_ #[106,106] ty #[.slice (some ⟨b,i,none⟩) (n+1 - i) dc,.slice (some ⟨vb,0,none⟩) 1 vc]).run prog W1 = .ok (goInt 1) (W1.setRow b (J3 L1 (i) vs).toArray):=λty dc =>
  R7 W1 _ _ ty 3 b (i) 1 (n+1 - i) dc 1 vc 1 ⟨vb,0,none⟩ vs _ el underlying106 underlying106 hsz hmn2 o_
   (λj v hj=>by
    have:=hvs j v hj;rw[Addr.add_lit,yy];rw[←this,hW1];exact World.cell?_of_block (w:=w) (setRow_other w.drew b vb _ hvb)) hg1 (by simp only[yo]; omega) h1v
 rw[←hW1] at hcp1;rw[←hcs1,←hL1];have hW:Hid (W1=w.drew.setRow b L1.toArray):=hW1;clear hW1 hL1 hcs1
 go_enter func315,ntmps315
 go_wp2_with (simp only[hov])
 go_region_law_o (refine step_copy_runI rfl _ _ 106 106 rfl _ _ (by simp[Act.eval,Act.put]) (by simp[Act.eval,Act.put]) (hcp1 _ _ _) ?_)
 go_wp2_with (at_builtin; refine wpList_copy_runI _ rfl _ _ 106 106 rfl _ _ rfl rfl (hcp2 _ _) ?_)
 go_ret
 exact⟨rfl,1,by rw[hW.out]; rfl⟩
def A8r(b n c i vb vc:Nat)(cur:Array Value)(el:TypeId)(vs:List Value)(w:World)(hi:i<n)(hroom:n+1<=c)(hc63:c<=9223372036854775807)(hvb:vb≠b)(hvl:vs.length=3)
  (hg:w.heap[b]?=some (.cells cur el (0,0))) (hcz:cur.size=c*3) (h1c:∀v∈cur.toList.take (n*3),v.oneCell'=true) (hvs:∀j v,vs[j]?=some v->w.cell? ⟨vb,j,none⟩=some v) (h1v:∀v∈vs,v.oneCell'=true)
  (tA tB:TypeId) (kA kB:Nat) (hsa:w.shape? vb=some (tA,kA)) (hsb:w.shape? b=some (tB,kB)) (hkB:kB≠0) (hfa:w.frozen? ⟨vb,0,none⟩=false) (hfe:w.frozen? ⟨vb,kA,none⟩=false) :
  Calls prog 260 #[.slice (some ⟨b,0,none⟩) n c,.int .i64 i,.slice (some ⟨vb,0,none⟩) 1 vc] w λe w' =>
   e = .returned (.slice (some ⟨b,0,none⟩) (n+1) c)/\∃q,w'=((w.drewN q).setRow b (J3 cur.toList ((i+1)*3) ((cur.toList.take (n*3)).drop (i*3))).toArray).setRow b (J3 (J3 cur.toList ((i+1)*3) ((cur.toList.take (n*3)).drop (i*3))) (i*3) vs).toArray:=by
 have hz2:¬((i:Int)=(n:Int)):=by omega
 have hsz:(prog.info? 66).map (·.size)=some 3:=by kernel_rfl
 have hw1:IntKind.i64.wrap ((i:Int)+1)=(i:Int)+1:=by rw[IntKind.wrap_i64]; omega
 have hb1:(0:Int)<=(i:Int)+1:=by omega
 have htn:((i:Int)+1).toNat=i+1:=by omega
 have hb2:¬(c=i+1):=by omega
 have hb3:(i:Int)<=(n:Int)+1:=by omega
 have hb4:¬(c=i):=by omega
 have hin:i<=n:=by omega
 have mixed:prog.follows .mixedOrders=true:=by kernel_rfl
 have hmn1:Nat.min (n+1 - i) (n - i)=n - i:=by simp only[su]; split<;>omega
 have hmn2:Nat.min 1 (n+1 - i)=1:=by simp only[su]; split<;>omega
 have hov:∀lb cb,(callFunc 294 #[.slice (some ⟨vb,0,none⟩) 1 vc,.slice (some ⟨b,(i+1)*3,none⟩) lb cb]).run prog w = .ok (.value (.bool false)) w:=λlb cb=>by
  rw[run_callFunc_extern func294 k_ k_ k_ (e:=Extern.SlicesOverlaps.overlaps #[27,27] #[4]) k_,
   Lib.run_overlaps_apart w 27 4 66 underlying27 3 (λw=>k_) ⟨vb,0,none⟩ ⟨b,(i+1)*3,none⟩ 1 vc lb cb hvb tA tB kA kB hsa hsb hkB hfa hfe]
  rfl
 obtain⟨cs1,hcs1⟩:∃cs1,cs1=(cur.toList.take (n*3)).drop (i*3):=⟨_,rfl⟩;have hl1:cs1.length=(n - i)*3:=by rw[hcs1,ya,zy,yz]; omega
 have hget1:∀j v,cs1[j]?=some v->cur[i*3+j]?=some v:=λj v hj=>by
  rw[hcs1,yf,zz] at hj;split at hj
  ·simpa using hj
  ·cases hj
 have hcp1:∀ty dc sc,(Builtin.copy_ #[27,27] ty #[.slice (some ⟨b,(i+1)*3,none⟩) (n - i) dc,.slice (some ⟨b,i*3,none⟩) (n+1 - i) sc]).run prog w.drew = .ok (goInt ((n - i:Nat):Int)) (w.drew.setRow b (J3 cur.toList ((i+1)*3) cs1).toArray):=λty dc sc =>
  R7 w.drew _ _ ty 66 b ((i+1)*3) (n - i) (n - i) dc (n+1 - i) sc 3 ⟨b,i*3,none⟩ cs1 cur el underlying27 underlying27 hsz hmn1 hl1
   (λj v hj=>by rw[Addr.add_lit]; exact (E4 (w:=w.drew) hg).trans (hget1 j v hj)) hg o_ (λv hv=>h1c v (by rw[hcs1] at hv; exact xh hv))
 obtain⟨L1,hL1⟩:∃L1,L1=J3 cur.toList ((i+1)*3) cs1:=⟨_,rfl⟩;rw[←hL1] at hcp1;obtain⟨W1,hW1⟩:∃W1,W1=w.drew.setRow b L1.toArray:=⟨_,rfl⟩;have hg1:W1.heap[b]?=some (.cells L1.toArray el (0,0)):=by rw[hW1]; exact setRow_heap w.drew b cur _ el (0,0) hg
 have hsz1:L1.length=c*3:=by rw[hL1,M6 m_]; simpa using hcz
 have hcp2:∀ty dc,(Builtin.copy_ #[27,27] ty #[.slice (some ⟨b,i*3,none⟩) (n+1 - i) dc,.slice (some ⟨vb,0,none⟩) 1 vc]).run prog W1 = .ok (goInt 1) (W1.setRow b (J3 L1 (i*3) vs).toArray):=λty dc =>
  R7 W1 _ _ ty 66 b (i*3) 1 (n+1 - i) dc 1 vc 3 ⟨vb,0,none⟩ vs _ el underlying27 underlying27 hsz hmn2 o_
   (λj v hj=>by
    have:=hvs j v hj;rw[Addr.add_lit,yy];rw[←this,hW1];exact World.cell?_of_block (w:=w) (setRow_other w.drew b vb _ hvb)) hg1 (by simp only[yo]; omega) h1v
 rw[←hW1] at hcp1;rw[←hcs1,←hL1];have hW:Hid (W1=w.drew.setRow b L1.toArray):=hW1;clear hW1 hL1 hcs1
 go_enter func260,ntmps260
 go_wp2_with (simp only[hov])
 go_region_law_o (refine step_copy_runI rfl _ _ 27 27 rfl _ _ (by simp[Act.eval,Act.put]) (by simp[Act.eval,Act.put]) (hcp1 _ _ _) ?_)
 go_wp2_with (at_builtin; refine wpList_copy_runI _ rfl _ _ 27 27 rfl _ _ rfl rfl (hcp2 _ _) ?_)
 go_ret
 exact⟨rfl,1,by rw[hW.out]; rfl⟩
def B3z(b n c i vb vc:Nat)(cur:Array Value)(el:TypeId)(vs:List Value)(w:World)(hi:i<n)(hnc:n<=c)(hroom:c<n+1)(hbig:(n+1)*8<=140737488355328)(hvl:vs.length=1)
  (hg:w.heap[b]?=some (.cells cur el (0,0))) (hcz:n<=cur.size) (h1c:∀v∈cur.toList.take (n),v.oneCell'=true) (hvs:∀j v,vs[j]?=some v->w.cell? ⟨vb,j,none⟩=some v) (h1v:∀v∈vs,v.oneCell'=true) :
  Calls prog 315 #[.slice (some ⟨b,0,none⟩) n c,.int .i64 i,.slice (some ⟨vb,0,none⟩) 1 vc] w λe w' =>
   e = .returned (.slice (some ⟨w.heap.size,0,none⟩) (n+1) (grownCap w (n+1) c 3))/\∃q ROW,ROW.length=grownCap w (n+1) c 3*1/\ROW.take (i)=cur.toList.take (i) /\
    w'=(((w.drewN q).alloc (.cells ROW.toArray 3)).setRow w.heap.size (J3 ROW (i) vs).toArray).setRow w.heap.size (J3 (J3 ROW (i) vs) (i+1) ((cur.toList.take (n)).drop (i))).toArray:=by
 have u3:=run_underlying (P:=prog) underlying3;have uT:=run_underlying (P:=prog) underlying106;have mixed:prog.follows .mixedOrders=true:=by kernel_rfl
 obtain⟨i0,hi0,hz0,hzs,hzb⟩:=info_parts (P:=prog) (e:=3) (z:=.int .i64 0) (size:=1) (bytes:=8) k_;have hz2:¬((i:Int)=(n:Int)):=by omega
 have hz3:(c:Int)<(n:Int)+1:=by omega
 have hsz:(prog.info? 3).map (·.size)=some 1:=by rw[hi0]; simp[hzs]
 have hbw:b<w.heap.size:=(xj.1 hg).1;have hvw:vb<w.heap.size:=block_lt_of_cell (hvs 0 _ (zc o_));have hkk:(n:Int)+1 - (i:Int)=((n+1 - i:Nat):Int):=by omega
 have hik:i+(n+1 - i)=n+1:=by omega
 obtain⟨cs,hcs⟩:∃cs,cs=cur.toList.take (n):=⟨_,rfl⟩;have hcl:cs.length=n:=by rw[hcs,zy,yz]; omega
 have hget:∀j v,cs[j]?=some v->w.cell? ⟨b,j,none⟩=some v:=λj v hj=>by
  rw[hcs,zz] at hj;split at hj
  ·exact (E4 (w:=w) hg).trans (v_ hj)
  ·cases hj
 have hold:(Builtin.firstCells i0.size i (.slice (some ⟨b,0,none⟩) i c)).run prog w.drew = .ok (cs.take (i)).toArray w.drew:=by
  rw[hzs];exact run_firstCells_some w.drew 1 i ⟨b,0,none⟩ i c (cs.take (i)) (by rw[zy]; omega) (λj v hj=>by
   rw[Addr.add_lit,yy];rw[zz] at hj;split at hj
   ·exact hget j v hj
   ·cases hj)
 obtain⟨G,hG⟩:∃G,G=grownCap w (n+1) c 3:=⟨_,rfl⟩;obtain⟨ROW,hROW⟩:∃ROW:List Value,ROW=((cs.take (i)).toArray++Builtin.zeroCells (Value.cells (.int .i64 0)) (n+1 - i)++Builtin.zeroCells (Value.cells (.int .i64 0)) (G - (n+1))).toList:=⟨_,rfl⟩;have hrz:∀ty,(Builtin.append_ #[106,3] ty #[.slice (some ⟨b,0,none⟩) i c,.int .i64 ((n:Int)+1 - (i:Int))]).run prog w =
   .ok (.slice (some ⟨w.heap.size,0,none⟩) (n+1) G) (w.drew.alloc (.cells ROW.toArray 3)):=λty=>by
  have h:=Lib.run_append_grow_zeros w 106 3 ty 3 i0 _ .i64 .i64 underlying106 underlying3 hi0 hz0 (some ⟨b,0,none⟩) i c (cs.take (i)) hold (n+1 - i) o_ o_ o_ o_ (by rw[hzb]; omega) (by rw[hzb,hik]; exact growslice_fits hroom hbig);rw[hik,←hG] at h;rw[hkk,hROW,Array.toArray_toList];exact h
 have hGn:n+1<=G:=by rw[hG]; exact grownCap_ge w _ _ _
 have hG63:G<=9223372036854775807:=by
  have:=grownCap_le_maxLen w (n+1) c 3 (by unfold maxLen; omega);rw[←hG] at this;unfold maxLen at this;omega
 have hRl:ROW.length=G*1:=by
  rw[hROW,yz,vw,vw,size_zeroCells,size_zeroCells,yo,zy,hcl];simp only[Value.cells,Array.size,List.length];omega
 have hRt:ROW.take (i)=cur.toList.take (i):=by
  rw[hROW,ti,ti,ym,we (by simp[hcl]; omega),zm m_,hcs,sb,uk o_]
 obtain⟨W1,hW1⟩:∃W1,W1=w.drew.alloc (.cells ROW.toArray 3):=⟨_,rfl⟩;rw[←hW1] at hrz;have hgN:W1.heap[w.heap.size]?=some (.cells ROW.toArray 3 (0,0)):=by rw[hW1]; exact heap_alloc_new w.drew _
 have hgb:W1.heap[b]?=w.heap[b]?:=by rw[hW1]; exact Below.heap_alloc w.drew _ b hbw
 have hgv:W1.heap[vb]?=w.heap[vb]?:=by rw[hW1]; exact Below.heap_alloc w.drew _ vb hvw
 have hcpA:∀(W:World),W.heap=W1.heap->∀ty dc,(Builtin.copy_ #[106,106] ty #[.slice (some ⟨w.heap.size,i,none⟩) (n+1 - i) dc,.slice (some ⟨vb,0,none⟩) 1 vc]).run prog W = .ok (goInt 1) (W.setRow w.heap.size (J3 ROW (i) vs).toArray):=λW hWh ty dc =>
  R7 W _ _ ty 3 w.heap.size (i) 1 (n+1 - i) dc 1 vc 1 ⟨vb,0,none⟩ vs ROW.toArray 3 underlying106 underlying106 hsz (by simp only[su]; split<;>omega) o_
   (λj v hj=>by
    rw[Addr.add_lit,yy,←hvs j v hj];exact World.cell?_of_block (w:=w) (by rw[hWh]; exact hgv)) (by rw[hWh]; exact hgN) (by simp only[yo]; omega) h1v
 obtain⟨R1,hR1⟩:∃R1,R1=J3 ROW (i) vs:=⟨_,rfl⟩;rw[←hR1] at hcpA;have hR1l:R1.length=G*1:=by rw[hR1,M6 o_]; exact hRl
 obtain⟨W2,hW2⟩:∃W2,W2=W1.setRow w.heap.size R1.toArray:=⟨_,rfl⟩;have hgN2:W2.heap[w.heap.size]?=some (.cells R1.toArray 3 (0,0)):=by rw[hW2]; exact setRow_heap W1 _ _ _ _ (0,0) hgN
 have hgb2:W2.heap[b]?=w.heap[b]?:=by rw[hW2]; exact (setRow_other W1 _ b _ o_).trans hgb
 obtain⟨cs2,hcs2⟩:∃cs2,cs2=cs.drop (i):=⟨_,rfl⟩;have hl2:cs2.length=(n - i)*1:=by rw[hcs2,ya,hcl]; omega
 have hcpB:∀(W:World),W.heap=W2.heap->∀ty dc sc,(Builtin.copy_ #[106,106] ty #[.slice (some ⟨w.heap.size,i+1,none⟩) (n - i) dc,.slice (some ⟨b,i,none⟩) (n - i) sc]).run prog W = .ok (goInt ((n - i:Nat):Int)) (W.setRow w.heap.size (J3 R1 (i+1) cs2).toArray):=λW hWh ty dc sc =>
  R7 W _ _ ty 3 w.heap.size (i+1) (n - i) (n - i) dc (n - i) sc 1 ⟨b,i,none⟩ cs2 R1.toArray 3 underlying106 underlying106 hsz (qu _) hl2
   (λj v hj=>by
    rw[Addr.add_lit,←hget (i+j) v (by rw[hcs2,yf] at hj; exact hj)];exact World.cell?_of_block (w:=w) (by rw[hWh]; exact hgb2)) (by rw[hWh]; exact hgN2) (by simp only[yo]; omega)
   (λv hv=>h1c v (by rw[←hcs]; rw[hcs2] at hv; exact xh hv))
 have hGi:¬(G=i):=by omega
 have hGim:¬(G=i+1):=by omega
 have hci:¬(c=i):=by omega
 have hw1:IntKind.i64.wrap ((i:Int)+1)=(i:Int)+1:=by rw[IntKind.wrap_i64]; omega
 have hb1:(0:Int)<=(i:Int)+1:=by omega
 have hin:i<=n:=by omega
 have htn:((i:Int)+1).toNat=i+1:=by omega
 have hb3:(i:Int)<=(n:Int):=by omega
 rw[←hG,←hcs,←hcs2];have hE1:((w.alloc (.cells ROW.toArray 3)).drew).heap=W1.heap:=by rw[hW1]; rfl
 have hF1:((((w.alloc (.cells ROW.toArray 3)).drew).setRow w.heap.size R1.toArray).drew).heap=W2.heap:=by rw[hW2,hW1]; rfl
 have hfinal:∃q ROW',ROW'.length=G*1/\ROW'.take (i)=cur.toList.take (i)/\((((w.alloc (.cells ROW.toArray 3)).drew.setRow w.heap.size R1.toArray).drew).setRow w.heap.size (J3 R1 (i+1) cs2).toArray)=(((w.drewN q).alloc (.cells ROW'.toArray 3)).setRow w.heap.size (J3 ROW' (i) vs).toArray).setRow w.heap.size (J3 (J3 ROW' (i) vs) (i+1) cs2).toArray:=⟨2,ROW,hRl,hRt,by rw[←hR1]; rfl⟩;subst hW1;clear hkk hik hold hROW hG hRl hRt hR1 hW2 hcs hcs2 hgN hgb hgv hgN2 hgb2
 go_enter func315,ntmps315
 go_wp2_with (first
  | (at_builtin; refine Lib.wpList_append_run _ rfl _ _ _ _ rfl _ _ rfl rfl _ _ (hrz _) ?_)
  | (at_builtin; refine wpList_copy_runI _ rfl _ _ 106 106 rfl _ _ rfl rfl (hcpA _ hE1 _ _) ?_))
 go_region_law_o (refine step_copy_runI rfl _ _ 106 106 rfl _ _ (by simp[Act.eval,Act.put]) (by simp[Act.eval,Act.put]) (hcpB _ hF1 _ _ _) ?_)
 go_wp2
 go_ret
 exact⟨rfl,hfinal⟩
def A9k(b n c i vb vc:Nat)(cur:Array Value)(el:TypeId)(vs:List Value)(w:World)(hi:i<n)(hnc:n<=c)(hroom:c<n+1)(hbig:(n+1)*40<=140737488355328)(hvl:vs.length=3)
  (hg:w.heap[b]?=some (.cells cur el (0,0))) (hcz:n*3<=cur.size) (h1c:∀v∈cur.toList.take (n*3),v.oneCell'=true) (hvs:∀j v,vs[j]?=some v->w.cell? ⟨vb,j,none⟩=some v) (h1v:∀v∈vs,v.oneCell'=true) :
  Calls prog 260 #[.slice (some ⟨b,0,none⟩) n c,.int .i64 i,.slice (some ⟨vb,0,none⟩) 1 vc] w λe w' =>
   e = .returned (.slice (some ⟨w.heap.size,0,none⟩) (n+1) (grownCap w (n+1) c 66))/\∃q ROW,ROW.length=grownCap w (n+1) c 66*3/\ROW.take (i*3)=cur.toList.take (i*3) /\
    w'=(((w.drewN q).alloc (.cells ROW.toArray 66)).setRow w.heap.size (J3 ROW (i*3) vs).toArray).setRow w.heap.size (J3 (J3 ROW (i*3) vs) ((i+1)*3) ((cur.toList.take (n*3)).drop (i*3))).toArray:=by
 have u3:=run_underlying (P:=prog) underlying3;have uT:=run_underlying (P:=prog) underlying27;have mixed:prog.follows .mixedOrders=true:=by kernel_rfl
 obtain⟨i0,hi0,hz0,hzs,hzb⟩:=info_parts (P:=prog) (e:=66) (z:=.agg #[.int .i64 0,.int .i64 0,.slice none 0 0]) (size:=3) (bytes:=40) k_;have hz2:¬((i:Int)=(n:Int)):=by omega
 have hz3:(c:Int)<(n:Int)+1:=by omega
 have hsz:(prog.info? 66).map (·.size)=some 3:=by rw[hi0]; simp[hzs]
 have hbw:b<w.heap.size:=(xj.1 hg).1;have hvw:vb<w.heap.size:=block_lt_of_cell (hvs 0 _ (zc o_));have hkk:(n:Int)+1 - (i:Int)=((n+1 - i:Nat):Int):=by omega
 have hik:i+(n+1 - i)=n+1:=by omega
 obtain⟨cs,hcs⟩:∃cs,cs=cur.toList.take (n*3):=⟨_,rfl⟩;have hcl:cs.length=n*3:=by rw[hcs,zy,yz]; omega
 have hget:∀j v,cs[j]?=some v->w.cell? ⟨b,j,none⟩=some v:=λj v hj=>by
  rw[hcs,zz] at hj;split at hj
  ·exact (E4 (w:=w) hg).trans (v_ hj)
  ·cases hj
 have hold:(Builtin.firstCells i0.size i (.slice (some ⟨b,0,none⟩) i c)).run prog w.drew = .ok (cs.take (i*3)).toArray w.drew:=by
  rw[hzs];exact run_firstCells_some w.drew 3 i ⟨b,0,none⟩ i c (cs.take (i*3)) (by rw[zy]; omega) (λj v hj=>by
   rw[Addr.add_lit,yy];rw[zz] at hj;split at hj
   ·exact hget j v hj
   ·cases hj)
 obtain⟨G,hG⟩:∃G,G=grownCap w (n+1) c 66:=⟨_,rfl⟩;obtain⟨ROW,hROW⟩:∃ROW:List Value,ROW=((cs.take (i*3)).toArray++Builtin.zeroCells (Value.cells (.agg #[.int .i64 0,.int .i64 0,.slice none 0 0])) (n+1 - i)++Builtin.zeroCells (Value.cells (.agg #[.int .i64 0,.int .i64 0,.slice none 0 0])) (G - (n+1))).toList:=⟨_,rfl⟩;have hrz:∀ty,(Builtin.append_ #[27,3] ty #[.slice (some ⟨b,0,none⟩) i c,.int .i64 ((n:Int)+1 - (i:Int))]).run prog w =
   .ok (.slice (some ⟨w.heap.size,0,none⟩) (n+1) G) (w.drew.alloc (.cells ROW.toArray 66)):=λty=>by
  have h:=Lib.run_append_grow_zeros w 27 3 ty 66 i0 _ .i64 .i64 underlying27 underlying3 hi0 hz0 (some ⟨b,0,none⟩) i c (cs.take (i*3)) hold (n+1 - i) o_ o_ o_ o_ (by rw[hzb]; omega) (by rw[hzb,hik]; exact growslice_fits hroom hbig);rw[hik,←hG] at h;rw[hkk,hROW,Array.toArray_toList];exact h
 have hGn:n+1<=G:=by rw[hG]; exact grownCap_ge w _ _ _
 have hG63:G<=9223372036854775807:=by
  have:=grownCap_le_maxLen w (n+1) c 66 (by unfold maxLen; omega);rw[←hG] at this;unfold maxLen at this;omega
 have hRl:ROW.length=G*3:=by
  rw[hROW,yz,vw,vw,size_zeroCells,size_zeroCells,yo,zy,hcl];simp only[Value.cells,Array.size,List.length];omega
 have hRt:ROW.take (i*3)=cur.toList.take (i*3):=by
  rw[hROW,ti,ti,ym,we (by simp[hcl]; omega),zm m_,hcs,sb,uk o_]
 obtain⟨W1,hW1⟩:∃W1,W1=w.drew.alloc (.cells ROW.toArray 66):=⟨_,rfl⟩;rw[←hW1] at hrz;have hgN:W1.heap[w.heap.size]?=some (.cells ROW.toArray 66 (0,0)):=by rw[hW1]; exact heap_alloc_new w.drew _
 have hgb:W1.heap[b]?=w.heap[b]?:=by rw[hW1]; exact Below.heap_alloc w.drew _ b hbw
 have hgv:W1.heap[vb]?=w.heap[vb]?:=by rw[hW1]; exact Below.heap_alloc w.drew _ vb hvw
 have hcpA:∀(W:World),W.heap=W1.heap->∀ty dc,(Builtin.copy_ #[27,27] ty #[.slice (some ⟨w.heap.size,i*3,none⟩) (n+1 - i) dc,.slice (some ⟨vb,0,none⟩) 1 vc]).run prog W = .ok (goInt 1) (W.setRow w.heap.size (J3 ROW (i*3) vs).toArray):=λW hWh ty dc =>
  R7 W _ _ ty 66 w.heap.size (i*3) 1 (n+1 - i) dc 1 vc 3 ⟨vb,0,none⟩ vs ROW.toArray 66 underlying27 underlying27 hsz (by simp only[su]; split<;>omega) o_
   (λj v hj=>by
    rw[Addr.add_lit,yy,←hvs j v hj];exact World.cell?_of_block (w:=w) (by rw[hWh]; exact hgv)) (by rw[hWh]; exact hgN) (by simp only[yo]; omega) h1v
 obtain⟨R1,hR1⟩:∃R1,R1=J3 ROW (i*3) vs:=⟨_,rfl⟩;rw[←hR1] at hcpA;have hR1l:R1.length=G*3:=by rw[hR1,M6 o_]; exact hRl
 obtain⟨W2,hW2⟩:∃W2,W2=W1.setRow w.heap.size R1.toArray:=⟨_,rfl⟩;have hgN2:W2.heap[w.heap.size]?=some (.cells R1.toArray 66 (0,0)):=by rw[hW2]; exact setRow_heap W1 _ _ _ _ (0,0) hgN
 have hgb2:W2.heap[b]?=w.heap[b]?:=by rw[hW2]; exact (setRow_other W1 _ b _ o_).trans hgb
 obtain⟨cs2,hcs2⟩:∃cs2,cs2=cs.drop (i*3):=⟨_,rfl⟩;have hl2:cs2.length=(n - i)*3:=by rw[hcs2,ya,hcl]; omega
 have hcpB:∀(W:World),W.heap=W2.heap->∀ty dc sc,(Builtin.copy_ #[27,27] ty #[.slice (some ⟨w.heap.size,(i+1)*3,none⟩) (n - i) dc,.slice (some ⟨b,i*3,none⟩) (n - i) sc]).run prog W = .ok (goInt ((n - i:Nat):Int)) (W.setRow w.heap.size (J3 R1 ((i+1)*3) cs2).toArray):=λW hWh ty dc sc =>
  R7 W _ _ ty 66 w.heap.size ((i+1)*3) (n - i) (n - i) dc (n - i) sc 3 ⟨b,i*3,none⟩ cs2 R1.toArray 66 underlying27 underlying27 hsz (qu _) hl2
   (λj v hj=>by
    rw[Addr.add_lit,←hget (i*3+j) v (by rw[hcs2,yf] at hj; exact hj)];exact World.cell?_of_block (w:=w) (by rw[hWh]; exact hgb2)) (by rw[hWh]; exact hgN2) (by simp only[yo]; omega)
   (λv hv=>h1c v (by rw[←hcs]; rw[hcs2] at hv; exact xh hv))
 have hGi:¬(G=i):=by omega
 have hGim:¬(G=i+1):=by omega
 have hci:¬(c=i):=by omega
 have hw1:IntKind.i64.wrap ((i:Int)+1)=(i:Int)+1:=by rw[IntKind.wrap_i64]; omega
 have hb1:(0:Int)<=(i:Int)+1:=by omega
 have hin:i<=n:=by omega
 have htn:((i:Int)+1).toNat=i+1:=by omega
 have hb3:(i:Int)<=(n:Int):=by omega
 rw[←hG,←hcs,←hcs2];have hE1:((w.alloc (.cells ROW.toArray 66)).drew).heap=W1.heap:=by rw[hW1]; rfl
 have hF1:((((w.alloc (.cells ROW.toArray 66)).drew).setRow w.heap.size R1.toArray).drew).heap=W2.heap:=by rw[hW2,hW1]; rfl
 have hfinal:∃q ROW',ROW'.length=G*3/\ROW'.take (i*3)=cur.toList.take (i*3)/\((((w.alloc (.cells ROW.toArray 66)).drew.setRow w.heap.size R1.toArray).drew).setRow w.heap.size (J3 R1 ((i+1)*3) cs2).toArray)=(((w.drewN q).alloc (.cells ROW'.toArray 66)).setRow w.heap.size (J3 ROW' (i*3) vs).toArray).setRow w.heap.size (J3 (J3 ROW' (i*3) vs) ((i+1)*3) cs2).toArray:=⟨2,ROW,hRl,hRt,by rw[←hR1]; rfl⟩;subst hW1;clear hkk hik hold hROW hG hRl hRt hR1 hW2 hcs hcs2 hgN hgb hgv hgN2 hgb2
 go_enter func260,ntmps260
 go_wp2_with (first
  | (at_builtin; refine Lib.wpList_append_run _ rfl _ _ _ _ rfl _ _ rfl rfl _ _ (hrz _) ?_)
  | (at_builtin; refine wpList_copy_runI _ rfl _ _ 27 27 rfl _ _ rfl rfl (hcpA _ hE1 _ _) ?_))
 go_region_law_o (refine step_copy_runI rfl _ _ 27 27 rfl _ _ (by simp[Act.eval,Act.put]) (by simp[Act.eval,Act.put]) (hcpB _ hF1 _ _ _) ?_)
 go_wp2
 go_ret
 exact⟨rfl,hfinal⟩
def A2V{P:Program}{ops:Array Oper}{o:Oper}{a:Act}{w:World}{K:Act->World->Prop}{Q:Exit->Act->World->Prop}{E:Prop}
  (hg:o.guard=none) (d x:Operand) (dT sT:TypeId) (hop:o.op=Op.call { callee:=Callee.builtin Builtin.append,args:=#[d,x],argTypes:=#[dT,sT] })
  (v u:Value) (hd:a.eval d=v) (hx:a.eval x=u) {v':Value} {w':World} (hr:(Builtin.append_ #[dT,sT] o.type #[v,u]).run P w = .ok v' w') (hK:K (a.put o.dst v') w') :
  if Region.wanted o (yielded ops a.tmps)=true then Oper.wp P o a w K Q else E:=by
 have hw:Region.wanted o (yielded ops a.tmps)=true:=by simp[Region.wanted,hg]
 rw[zj hw];unfold Oper.wp;simp[execOp,hop,resolve,invoke,builtin,hd,hx,hr,Result.andThen];exact hK
def B5e(A:Option Addr)(n c vb vc:Nat)(w w1:World)(v:Value)(hnc:n<=c)(hc63:c<=9223372036854775807)(hA:A=none->c=0)
  (hrun:∀ty,(Builtin.append_ #[106,106] ty #[.slice A n c,.slice (some ⟨vb,0,none⟩) 1 vc]).run prog w = .ok v w1) :
  Calls prog 315 #[.slice A n c,.int .i64 n,.slice (some ⟨vb,0,none⟩) 1 vc] w λe w'=>e = .returned v/\w'=w1:=by
 have uT:=run_underlying (P:=prog) underlying106;have mixed:prog.follows .mixedOrders=true:=by kernel_rfl
 have hnn:(0:Int)<=(n:Int):=by omega
 cases A with
 | none =>
  obtain rfl:c=0:=hA rfl;obtain rfl:n=0:=by omega
  go_enter func315,ntmps315
  go_wp2_with (at_builtin; refine Lib.wpList_append_run _ rfl _ _ _ _ rfl _ _ rfl rfl _ _ (hrun _) ?_)
  go_ret
  exact⟨rfl,rfl⟩
 | some a =>
  clear hA
  go_enter func315,ntmps315
  go_wp2_with (at_builtin; refine Lib.wpList_append_run _ rfl _ _ _ _ rfl _ _ rfl rfl _ _ (hrun _) ?_)
  all_goals (go_ret; exact⟨rfl,rfl⟩)
def B1l(A:Option Addr)(n c vb vc:Nat)(w w1:World)(v:Value)(hnc:n<=c)(hc63:c<=9223372036854775807)(hA:A=none->c=0)
  (hrun:∀ty,(Builtin.append_ #[27,27] ty #[.slice A n c,.slice (some ⟨vb,0,none⟩) 1 vc]).run prog w = .ok v w1) :
  Calls prog 260 #[.slice A n c,.int .i64 n,.slice (some ⟨vb,0,none⟩) 1 vc] w λe w'=>e = .returned v/\w'=w1:=by
 have uT:=run_underlying (P:=prog) underlying27;have mixed:prog.follows .mixedOrders=true:=by kernel_rfl
 have hnn:(0:Int)<=(n:Int):=by omega
 cases A with
 | none =>
  obtain rfl:c=0:=hA rfl;obtain rfl:n=0:=by omega
  go_enter func260,ntmps260
  go_wp2_with (at_builtin; refine Lib.wpList_append_run _ rfl _ _ _ _ rfl _ _ rfl rfl _ _ (hrun _) ?_)
  go_ret
  exact⟨rfl,rfl⟩
 | some a =>
  clear hA
  go_enter func260,ntmps260
  go_wp2_with (at_builtin; refine Lib.wpList_append_run _ rfl _ _ _ _ rfl _ _ rfl rfl _ _ (hrun _) ?_)
  all_goals (go_ret; exact⟨rfl,rfl⟩)
def C4E(b n c i:Nat)(cur:Array Value)(el:TypeId)(w:World)(hi:i<n)(hnc:n<=c)(hc63:c<=9223372036854775807)
  (hg:w.heap[b]?=some (.cells cur el (0,0))) (hcz:cur.size=c) (h1c:∀v∈cur.toList.take (n),v.oneCell'=true) :
  Calls prog 300 #[.slice (some ⟨b,0,none⟩) n c,.int .i64 i,.int .i64 ((i:Int)+1)] w λe w' =>
   e = .returned (.slice (some ⟨b,0,none⟩) (i+(n - (i+1))) c)/\∃q,w'=((w.drewN q).setRow b (J3 cur.toList (i) ((cur.toList.take (n)).drop (i+1))).toArray).setRow b (J3 (J3 cur.toList (i) ((cur.toList.take (n)).drop (i+1))) (i+(n - (i+1))) (Builtin.zeroCells (Value.cells (.int .i64 0)) 1).toList).toArray:=by
 have uT:=run_underlying (P:=prog) underlying106;have u3:=run_underlying (P:=prog) underlying3;have mixed:prog.follows .mixedOrders=true:=by kernel_rfl
 obtain⟨i0,hi0,hz0,hzs,hzb⟩:=info_parts (P:=prog) (e:=3) (z:=.int .i64 0) (size:=1) (bytes:=8) k_;have hne:¬((i:Int)=(i:Int)+1):=by omega
 have hcj:i+1<=c:=by omega
 have htn:((i:Int)+1).toNat=i+1:=by omega
 have hb1:(0:Int)<=(i:Int)+1:=by omega
 have hin:i<=n:=by omega
 have hin1:(i:Int)+1<=(n:Int):=by omega
 have hic:i<=c:=by omega
 obtain⟨cs,hcs⟩:∃cs,cs=(cur.toList.take (n)).drop (i+1):=⟨_,rfl⟩;have hl:cs.length=(n - (i+1))*1:=by rw[hcs,ya,zy,yz]; omega
 have hget:∀j v,cs[j]?=some v->cur[i+1+j]?=some v:=λj v hj=>by
  rw[hcs,yf,zz] at hj;split at hj
  ·simpa using hj
  ·cases hj
 have h1s:∀v∈cs,v.oneCell'=true:=λv hv=>h1c v (by rw[hcs] at hv; exact xh hv);obtain⟨A,hA,hsrcA⟩:∃A:Addr,(if c=i+1 then some (⟨b,0,none⟩:Addr) else some ⟨b,i+1,none⟩)=some A/\∀j v,cs[j]?=some v->w.drew.cell? (A.add j)=some v:=by
  by_cases h:c=i+1
  ·refine⟨⟨b,0,none⟩,t_ h,λj v hj=>?_⟩;have h0:cs.length=0:=(by rw[hl,show n - (i+1)=0 by omega]<;>simp);rw[ug.1 h0] at hj;simp at hj
  ·refine⟨⟨b,i+1,none⟩,t_ h,λj v hj=>?_⟩;rw[Addr.add_lit];exact (E4 (w:=w.drew) hg).trans (hget j v hj)
 have hsrc:∀cc,Src prog 1 106 (.slice (some A) (n - (i+1)) cc) (n - (i+1)) cs w.drew:=λcc=>Src.ofSlice w.drew underlying106 A (n - (i+1)) cc cs hl hsrcA h1s;have hap:∀ty cc,(Builtin.append_ #[106,106] ty #[.slice (some ⟨b,0,none⟩) i c,.slice (some A) (n - (i+1)) cc]).run prog w.drew = .ok (.slice (some ⟨b,0,none⟩) (i+(n - (i+1))) c) (w.drew.setRow b (J3 cur.toList (i) cs).toArray):=λty cc=>by
  have h:=c6 (P:=prog) (w:=w.drew) 106 106 ty 3 i0 underlying106 hi0 b i c cur el hg (.slice (some A) (n - (i+1)) cc) (n - (i+1)) cs (by rw[hzs]; exact hsrc cc) o_ (by rw[hzs]; omega);rw[hzs] at h;simpa [J3] using h
 obtain⟨L1,hL1⟩:∃L1,L1=J3 cur.toList (i) cs:=⟨_,rfl⟩;rw[←hL1] at hap;obtain⟨W1,hW1⟩:∃W1,W1=w.drew.setRow b L1.toArray:=⟨_,rfl⟩;have hg1:W1.heap[b]?=some (.cells L1.toArray el (0,0)):=by rw[hW1]; exact setRow_heap w.drew b cur _ el (0,0) hg
 have hsz1:L1.length=c:=by rw[hL1,M6 m_]; simpa using hcz
 have hzl:(Builtin.zeroCells (Value.cells (.int .i64 0)) 1).toList.length=1:=by rw[yz,size_zeroCells]<;>rfl
 have hcl:∀ty cc,(Builtin.clear_ #[106] ty #[.slice (some ⟨b,i+(n - (i+1)),none⟩) (n - (i+(n - (i+1)))) cc]).run prog W1 = .ok (.tuple #[]) (W1.setRow b (J3 L1 (i+(n - (i+1))) (Builtin.zeroCells (Value.cells (.int .i64 0)) 1).toList).toArray):=λty cc=>by
  have hst:=run_storeCells_at prog b (i+(n - (i+1))) el (Builtin.zeroCells (Value.cells (.int .i64 0)) 1).toList 0 L1.toArray W1 hg1 (by rw[hzl,yo]; omega) (λv hv=>by simp[Builtin.zeroCells,Value.cells] at hv; rcases hv with⟨a,ha,rfl⟩; first|rfl|(match a,ha with|0,_=>rfl|1,_=>rfl|2,_=>rfl));simp only[vp] at hst;rw[show n - (i+(n - (i+1)))=1 by omega];simp[Builtin.clear_,uT,A5F (show (prog.info? 3).map (·.zero)=some (some (.int .i64 0)) by kernel_rfl),hst,J3]
 rw[←hW1] at hap;rw[←hcs,←hL1];have hW:Hid (W1=w.drew.setRow b L1.toArray):=hW1;clear hW1 hL1 hcs hsrc hsrcA hi0 hz0 hzs hzb hget hl h1s h1c hg hg1
 go_enter func300,ntmps300
 go_wp2_with fail
 go_region_law_o (refine A2V rfl (.tmp 22) (.tmp 25) 106 106 rfl (.slice (some ⟨b,0,none⟩) i c) (.slice (some A) (n - (i+1)) (c - (i+1))) (by first|rfl|(simp[Act.eval,Act.put]; done)|(simp[Act.eval,Act.put,hA]; done)) (by first|rfl|(simp[Act.eval,Act.put]; done)|(simp[Act.eval,Act.put,hA]; done)) (hap _ _) ?_)
 go_wp2
 go_ret
 exact⟨rfl,1,by rw[hW.out]; rfl⟩
def B8j(b n c i:Nat)(cur:Array Value)(el:TypeId)(w:World)(hi:i<n)(hnc:n<=c)(hc63:c<=9223372036854775807)
  (hg:w.heap[b]?=some (.cells cur el (0,0))) (hcz:cur.size=c*3) (h1c:∀v∈cur.toList.take (n*3),v.oneCell'=true) :
  Calls prog 262 #[.slice (some ⟨b,0,none⟩) n c,.int .i64 i,.int .i64 ((i:Int)+1)] w λe w' =>
   e = .returned (.slice (some ⟨b,0,none⟩) (i+(n - (i+1))) c)/\∃q,w'=((w.drewN q).setRow b (J3 cur.toList (i*3) ((cur.toList.take (n*3)).drop ((i+1)*3))).toArray).setRow b (J3 (J3 cur.toList (i*3) ((cur.toList.take (n*3)).drop ((i+1)*3))) ((i+(n - (i+1)))*3) (Builtin.zeroCells (Value.cells (.agg #[.int .i64 0,.int .i64 0,.slice none 0 0])) 1).toList).toArray:=by
 have uT:=run_underlying (P:=prog) underlying27;have u3:=run_underlying (P:=prog) underlying3;have mixed:prog.follows .mixedOrders=true:=by kernel_rfl
 obtain⟨i0,hi0,hz0,hzs,hzb⟩:=info_parts (P:=prog) (e:=66) (z:=.agg #[.int .i64 0,.int .i64 0,.slice none 0 0]) (size:=3) (bytes:=40) k_;have hne:¬((i:Int)=(i:Int)+1):=by omega
 have hcj:i+1<=c:=by omega
 have htn:((i:Int)+1).toNat=i+1:=by omega
 have hb1:(0:Int)<=(i:Int)+1:=by omega
 have hin:i<=n:=by omega
 have hin1:(i:Int)+1<=(n:Int):=by omega
 have hic:i<=c:=by omega
 obtain⟨cs,hcs⟩:∃cs,cs=(cur.toList.take (n*3)).drop ((i+1)*3):=⟨_,rfl⟩;have hl:cs.length=(n - (i+1))*3:=by rw[hcs,ya,zy,yz]; omega
 have hget:∀j v,cs[j]?=some v->cur[(i+1)*3+j]?=some v:=λj v hj=>by
  rw[hcs,yf,zz] at hj;split at hj
  ·simpa using hj
  ·cases hj
 have h1s:∀v∈cs,v.oneCell'=true:=λv hv=>h1c v (by rw[hcs] at hv; exact xh hv);obtain⟨A,hA,hsrcA⟩:∃A:Addr,(if c=i+1 then some (⟨b,0,none⟩:Addr) else some ⟨b,(i+1)*3,none⟩)=some A/\∀j v,cs[j]?=some v->w.drew.cell? (A.add j)=some v:=by
  by_cases h:c=i+1
  ·refine⟨⟨b,0,none⟩,t_ h,λj v hj=>?_⟩;have h0:cs.length=0:=(by rw[hl,show n - (i+1)=0 by omega]<;>simp);rw[ug.1 h0] at hj;simp at hj
  ·refine⟨⟨b,(i+1)*3,none⟩,t_ h,λj v hj=>?_⟩;rw[Addr.add_lit];exact (E4 (w:=w.drew) hg).trans (hget j v hj)
 have hsrc:∀cc,Src prog 3 27 (.slice (some A) (n - (i+1)) cc) (n - (i+1)) cs w.drew:=λcc=>Src.ofSlice w.drew underlying27 A (n - (i+1)) cc cs hl hsrcA h1s;have hap:∀ty cc,(Builtin.append_ #[27,27] ty #[.slice (some ⟨b,0,none⟩) i c,.slice (some A) (n - (i+1)) cc]).run prog w.drew = .ok (.slice (some ⟨b,0,none⟩) (i+(n - (i+1))) c) (w.drew.setRow b (J3 cur.toList (i*3) cs).toArray):=λty cc=>by
  have h:=c6 (P:=prog) (w:=w.drew) 27 27 ty 66 i0 underlying27 hi0 b i c cur el hg (.slice (some A) (n - (i+1)) cc) (n - (i+1)) cs (by rw[hzs]; exact hsrc cc) o_ (by rw[hzs]; omega);rw[hzs] at h;simpa [J3] using h
 obtain⟨L1,hL1⟩:∃L1,L1=J3 cur.toList (i*3) cs:=⟨_,rfl⟩;rw[←hL1] at hap;obtain⟨W1,hW1⟩:∃W1,W1=w.drew.setRow b L1.toArray:=⟨_,rfl⟩;have hg1:W1.heap[b]?=some (.cells L1.toArray el (0,0)):=by rw[hW1]; exact setRow_heap w.drew b cur _ el (0,0) hg
 have hsz1:L1.length=c*3:=by rw[hL1,M6 m_]; simpa using hcz
 have hzl:(Builtin.zeroCells (Value.cells (.agg #[.int .i64 0,.int .i64 0,.slice none 0 0])) 1).toList.length=3:=by rw[yz,size_zeroCells]<;>rfl
 have hcl:∀ty cc,(Builtin.clear_ #[27] ty #[.slice (some ⟨b,(i+(n - (i+1)))*3,none⟩) (n - (i+(n - (i+1)))) cc]).run prog W1 = .ok (.tuple #[]) (W1.setRow b (J3 L1 ((i+(n - (i+1)))*3) (Builtin.zeroCells (Value.cells (.agg #[.int .i64 0,.int .i64 0,.slice none 0 0])) 1).toList).toArray):=λty cc=>by
  have hst:=run_storeCells_at prog b ((i+(n - (i+1)))*3) el (Builtin.zeroCells (Value.cells (.agg #[.int .i64 0,.int .i64 0,.slice none 0 0])) 1).toList 0 L1.toArray W1 hg1 (by rw[hzl,yo]; omega) (λv hv=>by simp[Builtin.zeroCells,Value.cells] at hv; rcases hv with⟨a,ha,rfl⟩; first|rfl|(match a,ha with|0,_=>rfl|1,_=>rfl|2,_=>rfl));simp only[vp] at hst;rw[show n - (i+(n - (i+1)))=1 by omega];simp[Builtin.clear_,uT,A5F (show (prog.info? 66).map (·.zero)=some (some (.agg #[.int .i64 0,.int .i64 0,.slice none 0 0])) by kernel_rfl),hst,J3]
 rw[←hW1] at hap;rw[←hcs,←hL1];have hW:Hid (W1=w.drew.setRow b L1.toArray):=hW1;clear hW1 hL1 hcs hsrc hsrcA hi0 hz0 hzs hzb hget hl h1s h1c hg hg1
 go_enter func262,ntmps262
 go_wp2_with fail
 go_region_law_o (refine A2V rfl (.tmp 22) (.tmp 25) 27 27 rfl (.slice (some ⟨b,0,none⟩) i c) (.slice (some A) (n - (i+1)) (c - (i+1))) (by first|rfl|(simp[Act.eval,Act.put]; done)|(simp[Act.eval,Act.put,hA]; done)) (by first|rfl|(simp[Act.eval,Act.put]; done)|(simp[Act.eval,Act.put,hA]; done)) (hap _ _) ?_)
 go_wp2
 go_ret
 exact⟨rfl,1,by rw[hW.out]; rfl⟩
def I3{l cs:List Value}{o:Nat}(h:o+cs.length<=l.length)(k:Nat):(J3 l o cs)[k]?=if k<o then l[k]? else if k<o+cs.length then cs[k - o]? else l[k]?:=by
 unfold J3;have h1:(l.take o).length=o:=by rw[zy]; omega
 split
 ·rw[ym,yh o_,zz,zj (by assumption)]
 ·split
  ·rw[ym,yl o_,h1,yh o_]
  ·rw[yl (by simp[h1]; omega),yf];congr 1
   simp[h1];omega
section
variable {G:Gh} {w:World}
theorem A7G{s i:Nat}{xs:List AV}{y:AV}{cur:Array Value}{vs R:List Value}(hc:A03 G w s xs cur)(hi:i<=xs.length)(hy:y.cells.length=s)(hv:∀(j:Nat) z,y.cells[j]?=some z->∃u,vs[j]?=some u/\RV G w z u)
  (h1:∀k,k<i*s->R[k]?=cur[k]?) (h2:∀j,j<s->R[i*s+j]?=vs[j]?) (h3:∀k,i*s<=k->k<xs.length*s->R[k+s]?=cur[k]?):A03 G w s (xs.take i++y::xs.drop i) R.toArray:=by
 intro k x hx;have ht:(xs.take i).length=i:=by rw[zy]; omega
 rcases ut k i with hk|hk|hk
 ·rw[yh o_,zz,zj hk] at hx;obtain⟨q1,q2⟩:=hc k x hx;refine⟨q1,λj z hz=>?_⟩;obtain⟨u,hu,hr⟩:=q2 j z hz;have hj:j<s:=by rw[←q1]; exact (ze.1 hz).1
  refine⟨u,?_,hr⟩;rw[wb,h1 _ (by have:(k+1)*s<=i*s:=yr _ hk; rw[xp] at this; omega)];exact hu
 ·subst hk;rw[yl o_,ht,qr] at hx;simp at hx;subst hx;refine⟨hy,λj z hz=>?_⟩;obtain⟨u,hu,hr⟩:=hv j z hz;have hj:j<s:=by rw[←hy]; exact (ze.1 hz).1
  exact⟨u,by rw[wb,h2 j hj]; exact hu,hr⟩
 ·rw[yl o_,ht] at hx;obtain⟨m,rfl⟩:∃m,k=i+1+m:=⟨k - i - 1,o_⟩;rw[show i+1+m - i=m+1 by omega,xt,yf] at hx;obtain⟨q1,q2⟩:=hc (i+m) x hx;refine⟨q1,λj z hz=>?_⟩;obtain⟨u,hu,hr⟩:=q2 j z hz;have hj:j<s:=by rw[←q1]; exact (ze.1 hz).1
  have hlt:=(ze.1 hx).1;have e1:i*s<=(i+m)*s:=yr _ o_;have e2:(i+m+1)*s<=xs.length*s:=yr _ hlt;have e3:(i+m+1)*s=(i+m)*s+s:=by rw[xp,Nat.one_mul]
  have e4:(i+1+m)*s=(i+m)*s+s:=by rw[show i+1+m=i+m+1 by omega]; exact e3
  refine⟨u,?_,hr⟩;rw[wb,show (i+1+m)*s+j=((i+m)*s+j)+s by omega,h3 _ o_ o_];exact hu
theorem A8s{s i:Nat}{xs:List AV}{cur:Array Value}{R:List Value}(hc:A03 G w s xs cur)(hi:i<xs.length)(h1:∀k,k<i*s->R[k]?=cur[k]?)(h3:∀k,i*s<=k->k+s<xs.length*s->R[k]?=cur[k+s]?):A03 G w s (xs.take i++xs.drop (i+1)) R.toArray:=by
 intro k x hx;have ht:(xs.take i).length=i:=by rw[zy]; omega
 by_cases hk:k<i
 ·rw[yh o_,zz,zj hk] at hx;obtain⟨q1,q2⟩:=hc k x hx;refine⟨q1,λj z hz=>?_⟩;obtain⟨u,hu,hr⟩:=q2 j z hz;have hj:j<s:=by rw[←q1]; exact (ze.1 hz).1
  refine⟨u,?_,hr⟩;rw[wb,h1 _ (by have:(k+1)*s<=i*s:=yr _ hk; rw[xp] at this; omega)];exact hu
 ·rw[yl o_,ht,yf] at hx;obtain⟨m,rfl⟩:∃m,k=i+m:=⟨k - i,o_⟩;rw[show i+1+(i+m - i)=i+m+1 by omega] at hx;obtain⟨q1,q2⟩:=hc (i+m+1) x hx;refine⟨q1,λj z hz=>?_⟩;obtain⟨u,hu,hr⟩:=q2 j z hz;have hj:j<s:=by rw[←q1]; exact (ze.1 hz).1
  have hlt:=(ze.1 hx).1;have e1:i*s<=(i+m)*s:=yr _ o_;have e2:(i+m+1+1)*s<=xs.length*s:=yr _ hlt;have e3:(i+m+1)*s=(i+m)*s+s:=by rw[xp,Nat.one_mul]
  have e4:(i+m+1+1)*s=(i+m)*s+s+s:=by rw[xp,Nat.one_mul,e3]
  refine⟨u,?_,hr⟩;rw[wb,h3 _ o_ o_,←hu];congr 1
  omega
theorem s7{s:Nat}{xs:List AV}{cur:Array Value}(hc:A03 G w s xs cur)(h1:∀x∈xs,x.cells.all AV.one=true):∀v∈cur.toList.take (xs.length*s),v.oneCell'=true:=λv hv=>by
 obtain⟨k,hk⟩:=yi.1 hv;rw[zz] at hk;split at hk
 ·rename_i hlt;have hs:0<s:=by
   rcases uj s with h|h
   ·subst h; omega
   ·exact h
  have hi:k / s<xs.length:=Nat.div_lt_of_lt_mul (by rw[qp]; exact hlt);have hj:k % s<s:=Nat.mod_lt _ hs;obtain⟨x,hx⟩:∃x,xs[k / s]?=some x:=⟨_,zc hi⟩;obtain⟨q1,q2⟩:=hc _ x hx;obtain⟨z,hz⟩:∃z,x.cells[k % s]?=some z:=⟨_,zc o_⟩;obtain⟨u,hu,hr⟩:=q2 _ z hz;have e:k / s*s+k % s=k:=Nat.div_add_mod' k s;rw[e] at hu;have:v=u:=by
   rw[yx,hu] at hk;injection hk with hk
   exact hk.symm
  subst this;exact hr.oneCell (xe.1 (h1 x (zg hx)) z (zg hz))
 ·cases hk
end
end Go.Am
