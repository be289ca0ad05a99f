/- Parts of the proof: an abstract machine for Go functions, and what functions of the program give back (Dp4, Dk18, Dw8, Ss1, Ss2, Sb1, Dw9, Dn1, Ex16, Ex17, Wb1, Qr14, Qr15, Qr16, Qr17, Lx14, Lx15, Qr18, Qr19, Qr20, Qw2). No condition. -/
import Derived.Test.YtphjabjjnncebaaGreatDoorXU
import Derived.Test.YtphjabjjnncebaaGreatDoorXN
import Derived.Test.YtphjabjjnncebaaGreatDoorXG
import Derived.Test.YtphjabjjnncebaaGreatDoorXO
import Derived.Test.YtphjabjjnncebaaGreatDoorXI
import Derived.Test.YtphjabjjnncebaaGreatDoorXE
import Derived.Test.YtphjabjjnncebaaGreatDoorXR
import Derived.Test.YtphjabjjnncebaaGreatDoorXM
import Derived.Test.YtphjabjjnncebaaGreatDoorXS
import Derived.Test.YtphjabjjnncebaaGreatDoorXT
import Derived.Test.YtphjabjjnncebaaGreatDoorXP
import Derived.Test.YtphjabjjnncebaaGreatDoorXQ
import Derived.KernelRfl
set_option maxRecDepth 100000
set_option linter.all false
set_option maxHeartbeats 16000000
namespace Go.Am
open Go Go.Proofs Go.RowKit Go.Proofs.Tryz
structure C9U(l:List Ty)(d x:Dk)(n:Int):Prop where
 was:DOk l d
 now:DOk l x
 syn:x.syn=(B7 x.seg).length
 lst:(C4 (B7 x.seg) 0).last=(B7 x.seg).length
 rng:1<=n/\n<=65535
 bts:((F1 d.seg).any (fun b=>b.number==n)=true/\F1 x.seg=F1 d.seg)\/((F1 d.seg).any (fun b=>b.number==n)=false/\∃ev,F1 x.seg=F1 d.seg++[⟨n,ev⟩])
def B12{d:Dk}(h:(A1q d).e=0):(A1q d).d=⟨d.seg,(B7 d.seg).length⟩:=by
 unfold A1q at h ⊢;split at h
 ·exact absurd h (by assumption)
 rename_i h1;rw[zf h1];split at h
 ·cases h
 rename_i h2;rw[zf h2]
def C7H{l:List Ty}{d:Dk}{n:Int}{text:List UInt8}(h:(u6 l d n text).e=0):C9U l d (u6 l d n text).d n:=by
 have hc:u6 l d n text=if opE l d≠0 then ⟨⟨[],0⟩,opE l d⟩ else if ¬(1<=n/\n<=65535) then ⟨⟨[],0⟩,3⟩ else if (F1 d.seg).any (λb=>b.number==n)=true then ⟨⟨(whole d.seg).seg,(whole d.seg).syn⟩,0⟩ else A9W (opS l d) (F1 d.seg) d n text:=rfl
 rw[hc] at h ⊢;by_cases h0:opE l d=0
 rotate_left
 ·rw[zj h0] at h; exact absurd h h0
 rw[zf (v_ h0)] at h ⊢;by_cases h1:1<=n/\n<=65535
 rotate_left
 ·rw[zj h1] at h; cases h
 rw[zf (v_ h1)] at h ⊢;have ho:=z7.1 h0;have g:=B1e ho.disk;obtain⟨w1,w2,w3,w4,w5,w6⟩:=A8e g;by_cases h2:(F1 d.seg).any (λb=>b.number==n)=true
 ·rw[zj h2] at h ⊢;exact⟨ho,⟨ho.types,w2,by rw[w3]; exact ho.once,by rw[w3]; exact ho.all⟩,by show ((whole d.seg).syn:Int)=_; rw[w6],w5,h1,.inl ⟨h2,w3⟩⟩
 rw[zf h2] at h ⊢;have h2:(F1 d.seg).any (λb=>b.number==n)=false:=by simpa using h2
 unfold A9W at h ⊢;cases hq:A1a text with
 | error e=>rw[hq] at h; exact absurd h (A62 hq)
 | ok q =>
  rw[hq] at h;simp only at h ⊢;by_cases h3:cdE (opS l d) q=0
  rotate_left
  ·rw[zj h3] at h; exact absurd h h3
  rw[zf (v_ h3)] at h ⊢;by_cases h4:(F1 d.seg).length=20
  ·rw[zj h4] at h; cases h
  rw[zf h4] at h ⊢;by_cases h5:(H3 ⟨(whole d.seg).seg,(whole d.seg).syn⟩ ⟨n,I2 (opS l d).types q⟩).e=0
  rotate_left
  ·rw[zj h5] at h; exact absurd h h5
  rw[zf (v_ h5)] at h ⊢;obtain⟨a1,a2,a3,a4,_⟩:=A7O w1 w2 h5;rw[B12 h];have hall:F1 (H3 ⟨(whole d.seg).seg,(whole d.seg).syn⟩ ⟨n,I2 (opS l d).types q⟩).d.seg=F1 d.seg++[⟨n,I2 (opS l d).types q⟩]:=by rw[a3,w3]
  refine⟨ho,⟨ho.types,a1.check _ ?_,?_,?_⟩,rfl,a4,h1,.inr ⟨h2,_,hall⟩⟩
  ·rw[←a4]; exact B3f _
  ·show A6m [] (F1 (H3 _ _).d.seg)=false;rw[hall,C29,ho.once]; simpa using h2
  ·show V0 ⟨l,[]⟩ (P3 (F1 (H3 _ _).d.seg))=0;rw[hall,A9B,B4L,C26 ho.all];exact (C1p h3).2
def C7I{G:Gh}{w:World}{v:Value}(h:RV G w .nils v):RV G w (.sl []) v:=by
 cases h
 exact .sl [] none 0 0 (λ_ _=>undef) (zx _) (by simp[maxLen]) (λ_=>⟨rfl,rfl⟩) (λi x hi=>by simp at hi) (λa i x j y _ hi=>by simp at hi) (λa i x j y _ hi=>by simp at hi) (λi x j y hi=>by simp at hi)
def B9a{G:Gh}{w:World}{v:Value}{cs ds:List AV}(h:RV G w (.agg cs) v)(hl:cs.length=ds.length)(hh:∀(i:Nat) x y,cs[i]?=some x->ds[i]?=some y->x=y\/(x = .nils/\y = .sl [])):RV G w (.agg ds) v:=by
 cases h with|agg _ vs hs hx =>
 refine .agg ds vs (hl.symm.trans hs) λi y hy=>?_;obtain⟨x,hx'⟩:∃x,cs[i]?=some x:=⟨_,zc (by rw[hl]; exact (ze.1 hy).1)⟩;rcases hh i x y hx' hy with rfl|⟨rfl,rfl⟩
 ·exact hx i x hx'
 ·exact C7I (hx i _ hx')
def A2.nilD{P:Program}{f:Nat}{args args':List AV}{rd:List (Nat×Bx)}{id:Nat}{res:AV}{wr:List (Nat×Option Bx)}(h:A2 P f args rd id res wr)(hl:args'.length=args.length)
  (ha:∀(i:Nat) x y,args'[i]?=some x->args[i]?=some y->∀(G:Gh) w v,RV G w x v->RV G w y v):A2 P f args' rd id res wr:=by
 refine⟨h.1,λC G bx w vs nb hs hv hh hnb hid=>h.2 C G bx w vs nb hs ⟨hl.symm.trans hv.1,λi y hy=>?_⟩ hh hnb hid⟩;obtain⟨x,hx'⟩:∃x,args'[i]?=some x:=⟨_,zc (by rw[hl]; exact (ze.1 hy).1)⟩;exact ha i x y hx' hy G w _ (hv.2 i x hx')
def C7J(n:Int)(G:Gh)(w:World)(v:Value)(h:RV G w (.agg [.nils,.int .i64 n]) v):RV G w (.agg [.sl [],.int .i64 n]) v:=by
 refine B9a h rfl λi x y hx hy=>?_;match i,hx,hy with
 | 0,hx,hy=>simp at hx hy; exact .inr ⟨hx.symm,hy.symm⟩
 | 1,hx,hy=>simp at hx hy; exact .inl (hx.symm.trans hy)
 | i+2,hx,hy=>simp at hx
def C7K{l:List Ty}{d:Dk}{n:Int}{text:List UInt8}(h:(u6 l d n text).e≠0):(u6 l d n text).d.seg=[]:=by
 unfold u6 at h ⊢;split
 ·rfl
 split
 ·rfl
 split
 ·rename_i h1 h2 h3;rw[zf h1,zf h2,zj h3] at h;exact absurd rfl h
 rename_i h1 h2 h3;rw[zf h1,zf h2,zf h3] at h;unfold A9W at h ⊢;cases hq:A1a text with
 | error e=>rfl
 | ok q =>
  rw[hq] at h;simp only at h ⊢;split
  ·rfl
  split
  ·rfl
  split
  ·rfl
  rename_i g1 g2 g3;rw[zf g1,zf g2,zf g3] at h;unfold A1q at h ⊢;split
  ·rfl
  split
  ·rfl
  rename_i k1 k2;rw[zf k1,zf k2] at h;exact absurd rfl h
deriving instance DecidableEq for Fd
deriving instance DecidableEq for Ty
deriving instance DecidableEq for Cl
deriving instance DecidableEq for Tg
deriving instance DecidableEq for H6
def A02{α:Type}{l m:List α}{i:Nat}{x:α}(h:l.take i=m.take i)(h1:l[i]?=some x)(h2:m[i]?=some x):l.take (i+1)=m.take (i+1):=by rw[wi,wi,h,h1,h2]
def A0g{α:Type}{l m:List α}{i:Nat}(hl:l.length=m.length)(h:l.take i=m.take i)(hi:l.length<=i):l=m:=by
 rw[zm hi,zm o_] at h;exact h
def B4j{α:Type}{l m:List α}{i:Nat}{x y:α}(h1:l[i]?=some x)(h2:m[i]?=some y)(hn:x≠y):l≠m:=λe=>by
 subst e;rw[h1] at h2;injection h2 with h2
 exact hn h2
def B2Z(a b:List Ty)(id:Nat)(ha:a.length<=1000000)(hb:∀t∈a,t.fields.length<=1000000):A2 prog 56 [.sl (a.map I9),.sl (b.map I9)] [] id (.bool (decide (a=b))) []:=by
 refine w56.e.1 λE hP hR hl hid=>?_;simp[w56];refine D0 (λh=>?_) (λh=>?_)<;>simp
 ·have hn:a≠b:=λe=>by subst e; simp at h
  exact yP hR (h1:=by simp; simp[hn])
 have hl:a.length=b.length:=by simp at h; omega
 refine B9 (X:=Nat) (λi=>⟨[(0,true,.sl (a.map I9)),(1,true,.sl (b.map I9)),(5,true,.int .i64 i)],[],0⟩) (λi=>i<=a.length/\a.take i=b.take i) (λi=>a.length - i) 0 ?_ ⟨o_,s_⟩ ?_
 ·exact yW [] trivial
 ·rintro i ⟨hi,hf⟩ p hp;refine A3 4000 ?_;simp;refine D0 (λh=>?_) (λh=>?_)
  ·have h:=zq h;have hi2:i<b.length:=o_;obtain⟨x,hx⟩:∃x,a[i]?=some x:=⟨_,zc h⟩;obtain⟨y,hy⟩:∃y,b[i]?=some y:=⟨_,zc hi2⟩;have hxb:=hb x (zg hx);have hi1:IntKind.i64.wrap ((i:Int)+1)=((i+1:Nat):Int):=wrap64 o_;simp[hx,hy,I9];(repeat (refine And.intro (by first|assumption|omega|(simp; omega)|(simp_all; done)) ?_));refine D0 (λg=>?_) (λg=>?_)<;>simp
   ·have hn:a≠b:=B4j hx hy λe=>by subst e; simp at g
    exact yP hR (h1:=by simp; simp[hn])
   have hn1:x.name=y.name:=(by simp at g; exact g.1);have hl1:x.fields.length=y.fields.length:=(by simp at g; omega);refine B9 (X:=Nat) (λk=>⟨[(0,true,.sl (a.map I9)),(1,true,.sl (b.map I9)),(5,true,.int .i64 i),(6,true,.int .i64 k)],[],0⟩) (λk=>k<=x.fields.length/\x.fields.take k=y.fields.take k) (λk=>x.fields.length - k) 0 ?_ ⟨o_,s_⟩ ?_
   ·exact yW [] trivial
   ·rintro k ⟨hk,hg⟩ p2 hp2;refine A3 4000 ?_;simp[hx,I9];(repeat (refine And.intro (by first|assumption|omega|(simp; omega)|(simp_all; done)) ?_));refine D0 (λg1=>?_) (λg1=>?_)
    ·have g1:=zq g1;have hk2:k<y.fields.length:=o_;obtain⟨f,hfx⟩:∃f,x.fields[k]?=some f:=⟨_,zc g1⟩;obtain⟨g',hgy⟩:∃g',y.fields[k]?=some g':=⟨_,zc hk2⟩;have hk1:IntKind.i64.wrap ((k:Int)+1)=((k+1:Nat):Int):=wrap64 o_;simp[hx,hy,hfx,hgy,I9,U8,A0Q,A1l];(repeat (refine And.intro (by first|assumption|omega|(simp; omega)|(simp_all; done)) ?_));refine D0 (λg2=>?_) (λg2=>?_)<;>simp
     ·have hn:a≠b:=B4j hx hy λe=>by
       subst e;rw[hfx] at hgy;injection hgy with hgy
       subst hgy;simp at g2
      exact yP hR (h1:=by simp; simp[hn])
     ·have hfg:f=g':=by
       obtain⟨f1,f2,f3⟩:=f;obtain⟨g3,g4,g5⟩:=g';simp at g2;simp[g2]
      subst hfg;refine hp2 _ (k+1) ⟨o_,A02 hg hfx hgy⟩ o_ ?_;exact yW [] hk1
    ·have g1:=zo g1;simp;have hfe:x.fields=y.fields:=A0g hl1 hg o_;have hxy:x=y:=by
      obtain⟨x1,x2⟩:=x;obtain⟨y1,y2⟩:=y;simp at hn1 hfe;simp[hn1,hfe]
     subst hxy;refine hp _ (i+1) ⟨o_,A02 hf hx hy⟩ o_ ?_;exact yW [] hi1
  ·have h:=zo h;simp;have hab:a=b:=A0g hl hf o_;exact yP hR (h1:=by simp; simp[hab])
def B6D(ta tb:AV)(r:Bool)(hta:ta.pureB=true)(htb:tb.pureB=true)(hT:∀id,A2 prog 56 [ta,tb] [] id (.bool r) [])(a b:List Tg)(id:Nat)(h12:a.length<=1000000)
  (hc:∀t∈a,t.cells.length<=1000000/\∀c∈t.cells,c.ids.length<=1000000) :
  A2 prog 18 [.agg [ta,.sl (a.map Q9)],.agg [tb,.sl (b.map Q9)]] [] id (.bool (r&&decide (a=b))) []:=by
 have hra:∀R S,O3 R S ta ta:=λR S=>K0 rfl hta;have hna:∀S,B2 S ta:=λS=>H7 _ hta;have hrb:∀R S,O3 R S tb tb:=λR S=>K0 rfl htb;have hnb:∀S,B2 S tb:=λS=>H7 _ htb;refine w18.e.1 λE hP hR hl hid=>?_;simp[w18];(refine yH rfl (hT _) ?_; simp);refine D0 (λh=>?_) (λh=>?_)<;>simp
 ·have hn:(r&&decide (a=b))=false:=by
   simp at h;cases r with
   | false=>rfl
   | true =>
    simp;intro e;subst e;simp at h
  rw[hn] at hR;exact yP hR
 obtain⟨rfl,hl⟩:r=true/\a.length=b.length:=by simp at h; exact⟨h.1,o_⟩
 simp only[ue] at hR;refine B9 (X:=Nat) (λi=>⟨[(2,true,.ptr E.n0 0 0),(3,true,.ptr (E.n0+1) 0 0),(5,true,.int .i64 i)],[(E.n0,some ⟨[.agg [ta,.sl (a.map Q9)]],.agg [ta,.sl (a.map Q9)],false,false⟩),(E.n0+1,some ⟨[.agg [tb,.sl (b.map Q9)]],.agg [tb,.sl (b.map Q9)],false,false⟩)],2⟩) (λi=>i<=a.length/\a.take i=b.take i) (λi=>a.length - i) 0 ?_ ⟨o_,s_⟩ ?_
 ·exact yW [(E.n0,E.n0),(E.n0+1,E.n0+1024)] (a_ hra (a_ hna (a_ hrb hnb)))
 ·rintro i ⟨hi,hf⟩ p hp;refine A3 4000 ?_;simp;refine D0 (λh=>?_) (λh=>?_)
  ·have h:=zq h;have hi2:i<b.length:=o_;obtain⟨x,hx⟩:∃x,a[i]?=some x:=⟨_,zc h⟩;obtain⟨y,hy⟩:∃y,b[i]?=some y:=⟨_,zc hi2⟩;obtain⟨hxc,hxi⟩:=hc x (zg hx);have hi1:IntKind.i64.wrap ((i:Int)+1)=((i+1:Nat):Int):=wrap64 o_;simp[hx,hy,Q9];(repeat (refine And.intro (by first|assumption|omega|(simp; omega)|(simp_all; done)) ?_));refine D0 (λg=>?_) (λg=>?_)<;>simp
   ·have hn:a≠b:=B4j hx hy λe=>by subst e; simp at g
    exact yP hR (h1:=by simp; simp[hn])
   have hn1:x.type=y.type/\x.id=y.id:=(by simp at g; exact g.1);have hl1:x.cells.length=y.cells.length:=(by simp at g; omega);refine B9 (X:=Nat) (λk=>⟨[(2,true,.ptr E.n0 0 0),(3,true,.ptr (E.n0+1) 0 0),(5,true,.int .i64 i),(6,true,.ptr (E.n0+2) 0 0),(7,true,.ptr (E.n0+3) 0 0),(8,true,.int .i64 k)],[(E.n0,some ⟨[.agg [ta,.sl (a.map Q9)]],.agg [ta,.sl (a.map Q9)],false,false⟩),(E.n0+1,some ⟨[.agg [tb,.sl (b.map Q9)]],.agg [tb,.sl (b.map Q9)],false,false⟩),(E.n0+2,some ⟨[.agg [.int .i64 x.type,.int .i64 x.id,.sl (x.cells.map eCl)]],.agg [.int .i64 0,.int .i64 0,.nils],false,false⟩),(E.n0+3,some ⟨[.agg [.int .i64 y.type,.int .i64 y.id,.sl (y.cells.map eCl)]],.agg [.int .i64 0,.int .i64 0,.nils],false,false⟩)],4⟩) (λk=>k<=x.cells.length/\x.cells.take k=y.cells.take k) (λk=>x.cells.length - k) 0 ?_ ⟨o_,s_⟩ ?_
   ·exact yW [(E.n0,E.n0),(E.n0+1,E.n0+1),(E.n0+2,E.n0+15362),(E.n0+3,E.n0+16386)] (a_ hra (a_ hna (a_ hrb hnb)))
   ·rintro k ⟨hk,hg⟩ p2 hp2;refine A3 4000 ?_;simp;refine D0 (λg1=>?_) (λg1=>?_)
    ·have g1:=zq g1;have hk2:k<y.cells.length:=o_;obtain⟨c,hcx⟩:∃c,x.cells[k]?=some c:=⟨_,zc g1⟩;obtain⟨d,hdy⟩:∃d,y.cells[k]?=some d:=⟨_,zc hk2⟩;have hci:=hxi c (zg hcx);have hk1:IntKind.i64.wrap ((k:Int)+1)=((k+1:Nat):Int):=wrap64 o_;simp[hcx,hdy,eCl];(repeat (refine And.intro (by first|assumption|omega|(simp; omega)|(simp_all; done)) ?_));refine D0 (λg2=>?_) (λg2=>?_)<;>simp
     ·have hn:a≠b:=B4j hx hy λe=>by
       subst e;rw[hcx] at hdy;injection hdy with hdy
       subst hdy;simp at g2
      exact yP hR (h1:=by simp; simp[hn])
     have hn2:c.n=d.n/\c.text=d.text:=(by simp at g2; exact g2.1);have hl2:c.ids.length=d.ids.length:=(by simp at g2; omega);refine B9 (X:=Nat) (λm=>⟨[(2,true,.ptr E.n0 0 0),(3,true,.ptr (E.n0+1) 0 0),(5,true,.int .i64 i),(6,true,.ptr (E.n0+2) 0 0),(7,true,.ptr (E.n0+3) 0 0),(8,true,.int .i64 k),(9,true,.int .i64 m)],[(E.n0,some ⟨[.agg [ta,.sl (a.map Q9)]],.agg [ta,.sl (a.map Q9)],false,false⟩),(E.n0+1,some ⟨[.agg [tb,.sl (b.map Q9)]],.agg [tb,.sl (b.map Q9)],false,false⟩),(E.n0+2,some ⟨[.agg [.int .i64 x.type,.int .i64 x.id,.sl (x.cells.map eCl)]],.agg [.int .i64 0,.int .i64 0,.nils],false,false⟩),(E.n0+3,some ⟨[.agg [.int .i64 y.type,.int .i64 y.id,.sl (y.cells.map eCl)]],.agg [.int .i64 0,.int .i64 0,.nils],false,false⟩)],4⟩) (λm=>m<=c.ids.length/\c.ids.take m=d.ids.take m) (λm=>c.ids.length - m) 0 ?_ ⟨o_,s_⟩ ?_
     ·exact yW [(E.n0,E.n0),(E.n0+1,E.n0+1),(E.n0+2,E.n0+2),(E.n0+3,E.n0+3)] (a_ hra (a_ hna (a_ hrb hnb)))
     ·rintro m ⟨hm,ha⟩ p3 hp3;refine A3 4000 ?_;simp[hcx,eCl];(repeat (refine And.intro (by first|assumption|omega|(simp; omega)|(simp_all; done)) ?_));refine D0 (λg3=>?_) (λg3=>?_)
      ·have g3:=zq g3;have hm2:m<d.ids.length:=o_;obtain⟨u,hux⟩:∃u,c.ids[m]?=some u:=⟨_,zc g3⟩;obtain⟨v,hvy⟩:∃v,d.ids[m]?=some v:=⟨_,zc hm2⟩;have hm1:IntKind.i64.wrap ((m:Int)+1)=((m+1:Nat):Int):=wrap64 o_;simp[hcx,hdy,hux,hvy,eCl,eI];(repeat (refine And.intro (by first|assumption|omega|(simp; omega)|(simp_all; done)) ?_));refine D0 (λg4=>?_) (λg4=>?_)<;>simp
       ·have hn:a≠b:=B4j hx hy λe=>by
         subst e;rw[hcx] at hdy;injection hdy with hdy
         subst hdy;rw[hux] at hvy;injection hvy with hvy
         subst hvy;simp at g4
        exact yP hR (h1:=by simp; simp[hn])
       ·have huv:u=v:=(v_ g4);subst huv;refine hp3 _ (m+1) ⟨o_,A02 ha hux hvy⟩ o_ ?_;exact yW [(E.n0,E.n0),(E.n0+1,E.n0+1),(E.n0+2,E.n0+2),(E.n0+3,E.n0+3)] (a_ hra (a_ hna (a_ hrb (a_ hnb hm1))))
      ·have g3:=zo g3;simp;have hcd:c=d:=by
        have hie:c.ids=d.ids:=A0g hl2 ha o_;obtain⟨c1,c2,c3⟩:=c;obtain⟨d1,d2,d3⟩:=d;simp at hn2 hie;simp[hn2,hie]
       subst hcd;refine hp2 _ (k+1) ⟨o_,A02 hg hcx hdy⟩ o_ ?_;exact yW [(E.n0,E.n0),(E.n0+1,E.n0+1),(E.n0+2,E.n0+2),(E.n0+3,E.n0+3)] (a_ hra (a_ hna (a_ hrb (a_ hnb hk1))))
    ·have g1:=zo g1;simp;have hxy:x=y:=by
      have hie:x.cells=y.cells:=A0g hl1 hg o_;obtain⟨c1,c2,c3⟩:=x;obtain⟨d1,d2,d3⟩:=y;simp at hn1 hie;simp[hn1,hie]
     subst hxy;refine hp _ (i+1) ⟨o_,A02 hf hx hy⟩ o_ ?_;exact yW [(E.n0,E.n0),(E.n0+1,E.n0+1)] (a_ hra (a_ hna (a_ hrb (a_ hnb hi1))))
  ·have h:=zo h;simp;have hab:a=b:=A0g hl hf o_;exact yP hR (h1:=by simp; simp[hab])
def B2a(a b:H6)(id:Nat)(h1:a.types.length<=1000000)(h2:∀t∈a.types,t.fields.length<=1000000)(h12:a.things.length<=1000000)
  (hc:∀t∈a.things,t.cells.length<=1000000/\∀c∈t.cells,c.ids.length<=1000000):A2 prog 18 [H4 a,H4 b] [] id (.bool (decide (a=b))) []:=by
 have:=B6D (.sl (a.types.map I9)) (.sl (b.types.map I9)) (decide (a.types=b.types)) s_ s_ (λid=>B2Z a.types b.types id h1 h2) a.things b.things id h12 hc;have he:(decide (a.types=b.types)&&decide (a.things=b.things))=decide (a=b):=by
  obtain⟨a1,a2⟩:=a;obtain⟨b1,b2⟩:=b;simp
 rw[he] at this;exact this
def tyW:List Ty:=[⟨[65],[⟨[110],1,[]⟩,⟨[116],2,[]⟩,⟨[98],3,[66]⟩,⟨[108],4,[65]⟩]⟩,⟨[66],[⟨[109],1,[]⟩]⟩]
def B4k(id:Nat):A2 prog 35 [] [] id (.sl (tyW.map I9)) []:=by
 unfold tyW;simp only[yg,uc,I9,U8];refine w35.e.1 λE hP hR hl hid=>?_;simp[w35];have hrn:F7 []:=by simp[I5 hid]
 rw[hR];refine J0 f_ (by simp[I5 hid]<;>exact⟨rfl,rfl⟩) [] hrn ⟨?_,?_,?_,?_,?_,?_⟩<;>(try simp[I5 hid]);exact A4 _ rfl
def stW:H6:=⟨tyW,[⟨0,3,[⟨5,[],[]⟩,⟨0,[120],[]⟩,⟨0,[],[1]⟩,⟨0,[],[3,4]⟩]⟩,⟨0,4,[cl0,cl0,cl0,cl0]⟩,⟨1,1,[⟨-1,[],[]⟩]⟩]⟩
def B9b(id:Nat):A2 prog 37 [] [] id (.agg [.sl (tyW.map I9),.sl [.agg [.int .i64 0,.int .i64 3,.sl [.agg [.int .i64 5,.str [],.nils],.agg [.int .i64 0,.str [120],.nils],.agg [.int .i64 0,.str [],.sl [.int .i64 1]],.agg [.int .i64 0,.str [],.sl [.int .i64 3,.int .i64 4]]]],
  .agg [.int .i64 0,.int .i64 4,.sl [.agg [.int .i64 0,.str [],.nils],.agg [.int .i64 0,.str [],.nils],.agg [.int .i64 0,.str [],.nils],.agg [.int .i64 0,.str [],.nils]]],.agg [.int .i64 1,.int .i64 1,.sl [.agg [.int .i64 (-1),.str [],.nils]]]]]) []:=by
 refine w37.e.1 λE hP hR hl hid=>?_;simp[w37];(refine yH rfl (B4k _) ?_; simp);have hrn:F7 []:=by simp[I5 hid]
 rw[hR];refine J0 f_ (by simp[I5 hid]<;>exact⟨rfl,rfl⟩) [] hrn ⟨?_,?_,?_,?_,?_,?_⟩<;>(try simp[I5 hid]);exact A4 _ rfl
def B4l(id:Nat):A2 prog 37 [] [] id (H4 stW) []:=(B9b id).nrm
def w0(x:Int)(h : -9223372036854775808<=x/\x<=9223372036854775807):IntKind.i64.wrap x=x:=wrap64 h
def C8l:H9 tyW=0:=by decide
def C8m:fSt stW=0:=by
 have:=C8l;unfold tyW at this;simp[fSt,stW,this,D2,A1X,j6,D5,tyW,A0E,A2Q,cl0,j0,A5V,A4v,J7,A0Z,w0,T8,A1W,M0,B8,E0,F2,C3,bs]
def txA:List UInt8:=[123,32,109,97,107,101,40,116,121,112,101,58,32,34,65,34,44,32,105,100,58,32,51,41,32,115,101,116,40,116,121,112,101,58,32,34,65,34,44,32,105,100,58,32,51,44,32,102,105,101,108,100,58,32,34,110,34,44,32,110,117,109,98,101,114,58,32,53,41,32,125]
def txB:List UInt8:=[123,32,115,101,116,40,116,121,112,101,58,32,34,65,34,44,32,105,100,58,32,51,44,32,102,105,101,108,100,58,32,34,110,34,44,32,110,117,109,98,101,114,58,32,54,41,32,125]
def txX:List UInt8:=[123,32,65,32,123,32,110,32,125,32,125]
def txY:List UInt8:=[123,32,65,40,105,100,58,32,51,41,32,123,32,110,32,125,32,125]
def anX:List UInt8:=[123,34,65,34,58,91,123,34,110,34,58,53,125,93,125]
def anY:List UInt8:=[123,34,65,34,58,123,34,110,34,58,54,125,125]
def dkA:Dk:=⟨[[0,16,0,1,2,1,0,0,3,3,0,0,3,0,59,154,202,4]],18⟩
def dkB:Dk:=⟨[[0,16,0,1,2,1,0,0,3,3,0,0,3,0,59,154,202,4,0,12,0,2,1,3,0,0,3,0,59,154,202,5]],32⟩
def kA:u6 tyW ⟨[],0⟩ 1 txA=⟨dkA,0⟩:=by kernel_rfl
def kB:u6 tyW dkA 2 txB=⟨dkB,0⟩:=by kernel_rfl
def kC:u6 tyW dkB 2 [63]=⟨dkB,0⟩:=by kernel_rfl
def kX:A5z tyW dkB txX 1=(anX,0):=by kernel_rfl
def kY:A5z tyW dkB txY 2=(anY,0):=by kernel_rfl
def kO:opE tyW dkB=0:=by kernel_rfl
def kS:(opS tyW dkB).things.length=1:=by kernel_rfl
def kL:(F1 dkB.seg).length=2:=by kernel_rfl
def B6E(l:List Ty)(n:Int)(text:List UInt8)(id:Nat):A2 prog 15 [.sl (l.map I9),.agg [.nils,.int .i64 0],.int .i64 n,.str text] [] id (.tup [eDk (u6 l ⟨[],0⟩ n text).d,.int .i64 (u6 l ⟨[],0⟩ n text).e]) []:=by
 refine (A3A l ⟨[],0⟩ n text id).nilD rfl λi x y hx hy G w v h=>?_;match i,hx,hy with
 | 0,hx,hy=>simp at hx hy; subst hx hy; exact h
 | 1,hx,hy=>simp at hx hy; subst hx hy; exact C7J 0 G w v h
 | 2,hx,hy=>simp at hx hy; subst hx hy; exact h
 | 3,hx,hy=>simp at hx hy; subst hx hy; exact h
 | i+4,hx,hy=>simp at hx
def B2b(id:Nat):A2 prog 9 [] [] id (.bool true) []:=by
 have hT:=λid=>B4k id;have h1:=λid=>B6E tyW 1 txA id;have h2:=λid=>A3A tyW dkA 2 txB id;have h3:=λid=>A3A tyW dkB 2 [63] id;have h4:=λid=>B2Y tyW dkB txX 1 id;have h5:=λid=>B2Y tyW dkB txY 2 id;have h6:=λid=>A9R tyW dkB id;have h7:=λid=>B3c dkB dkB id d_;rw[kA] at h1;rw[kB] at h2;rw[kC] at h3;rw[kX] at h4;rw[kY] at h5;rw[show A3e dkB dkB=true from (B5Q _ _).2 rfl] at h7;have hs:=kS;have hbl:=kL;rw[kO,show B2T 0 (F1 dkB.seg) = .sl ((F1 dkB.seg).map v7) from rfl,show A17 0 (opS tyW dkB) = .agg [.sl ((opS tyW dkB).types.map I9),.sl ((opS tyW dkB).things.map Q9)] from rfl] at h6;generalize opS tyW dkB=s at *;generalize F1 dkB.seg=bs at *;generalize tyW.map I9=ty at *;unfold eDk at *;generalize dkB=b at *;generalize dkA=a at *;unfold txA at h1;unfold txB at h2;unfold txX anX at h4;unfold txY anY at h5;refine w9.e.1 λE hP hR hl hid=>?_;simp[w9];(refine yH rfl (hT _) ?_; simp);(refine yH rfl (h1 _) ?_; simp);(refine yH rfl (hT _) ?_; simp);(refine yH rfl (h2 _) ?_; simp);(refine yH rfl (hT _) ?_; simp);(refine yH rfl (h3 _) ?_; simp);(refine yH rfl (hT _) ?_; simp);(refine yH rfl (h4 _) ?_; simp);(refine yH rfl (hT _) ?_; simp);(refine yH rfl (h5 _) ?_; simp);(refine yH rfl (hT _) ?_; simp);(refine yH rfl (h6 _) ?_; simp);(refine yG rfl (h7 _) ?_; simp);exact yF hR [] (a_ hs (a_ hbl (I5 hid)))
def B7p:∀(n:Nat) (o:D8),o.sz<n->P0 o=0->okO o
 | 0,o,h,_=>by omega
 | n+1,o,h,hc=>by
  obtain⟨h1,h2⟩:=A6v hc;have hz:=A3x o;rw[C2S];refine⟨λk hk=>by have:=A6u (h1.ks k hk); omega,?_⟩;have:∀l:List D8,(∀x∈l,okO x)->B66 l:=λl=>by
   induction l with
   | nil=>intro _; trivial
   | cons x r ih=>intro h; exact⟨h x (za ..),ih λy hy=>h y (zb _ hy)⟩
  exact this _ λx hx=>B7p n x (by have:=A1c hx; omega) (h2 x hx)
def B2c{q:List C5}(h:J6 q=0):q≠[]/\W8 5 q<=40/\deepL 5 q<=5/\S4 q []=0:=by
 unfold J6 at h;split at h
 ·cases h
 rename_i h1;split at h
 ·cases h
 rename_i h2;exact⟨h1,o_,o_,h⟩
def C39{s:H6}{q:List C5}(h:S6 s q=0):A5u (qO s q)=0/\okO (qO s q):=by
 unfold S6 at h;split at h
 ·rename_i g; exact (g h).elim
 rename_i h1;split at h
 ·rename_i g; exact (g h).elim
 rename_i h2;split at h
 ·rename_i h3;have hs:=B2E (zk h1);obtain⟨q1,q2,q3,q4⟩:=B2c (A3w (zk h2)).2.1;have hc:=C37 hs q4;refine⟨?_,B7p ((qO s q).sz+1) _ (xx _) hc⟩;unfold A5u;have a1:=C53 s q 11;have a2:=B7l 11 11 _ (C8k s 4 q (B4h 5 q q3));rw[zf o_];exact hc
 ·cases h
def C55{s:H6}{q:List C5}(h:S6 s q=0):qW s q<=2000:=by
 unfold S6 at h;split at h
 ·rename_i g; exact (g h).elim
 split at h
 ·rename_i g; exact (g h).elim
 split at h
 ·assumption
 ·cases h
def C56{s:H6}{q:List C5}(h:S6 s q=0)(id:Nat):A2 prog 22 [A3v s q] [] id (.tup [.str (jS (qO s q)),.int .i64 0]) []:=by
 obtain⟨h1,h2⟩:=C39 h;have:=A6w (qO s q) id (C5r (C55 h)) h2;unfold A2E at this;rw[zj h1,h1] at this;unfold A3v;rw[zj h];exact this
def B9c(s:H6)(q:List C5):∃(a b:Int) (c:List UInt8) (ks ls:List AV),A3v s q = .agg [.int .i64 a,.int .i64 b,.str c,.sl ks,.sl ls]:=by
 unfold A3v;split
 ·rw[Z9]; exact⟨_,_,_,_,_,rfl⟩
 ·exact⟨0,0,[],[],[],rfl⟩
def C3A{l:List Ty}{d:Dk}{text:List UInt8}{q:List C5}{m:Nat}(h:opE l d=0)(hm:m<=(F1 d.seg).length)(hq:A1a text = .ok q):A5z l d text m=(if S6 (o5 l d m) q=0 then jS (qO (o5 l d m) q) else [],S6 (o5 l d m) q):=by
 obtain⟨hrt,hty,_⟩:=B6C h m;unfold A5z;rw[zf (v_ h),zf o_,hq];simp only[wh];have e:S6 (o5 l d m) q=if A08 l q≠0 then A08 l q else if qW (o5 l d m) q<=2000 then 0 else 2:=by
  unfold S6 x5;rw[zf (by rw[hrt.st]; decide),hty,(z7.1 h).types,C25 hq];simp
 rw[e];by_cases hf:A08 l q=0
 ·by_cases hw:qW (o5 l d m) q<=2000
  ·simp[hf,hw]
  ·simp[hf,hw]
 ·simp[hf]
def C57{l:List Ty}{d:Dk}{text:List UInt8}{e:Int}{m:Nat}(h:opE l d=0)(hm:m<=(F1 d.seg).length)(hq:A1a text = .error e):A5z l d text m=([],e):=by
 unfold A5z;rw[zf (v_ h),zf o_,hq]
def C3B(l:List Ty)(d:Dk):o5 l d (F1 d.seg).length=opS l d:=by
 unfold o5 opS;rw[uh]
def C58{e:Int}(h:e≠0)(b:List Bt):B2T e b = .nils:=by unfold B2T; rw[zf h]
noncomputable instance:DecidableEq D8:=λ_ _=>Classical.propDecidable _
def C59{a b:D8}(h1:a.kind=b.kind)(h2:a.n=b.n)(h3:a.text=b.text)(h4:a.keys=b.keys)(h5:a.kids=b.kids):a=b:=by
 cases a; cases b; simp only[D8.kind,D8.n,D8.text,D8.keys,D8.kids] at *; subst h1 h2 h3 h4 h5; rfl
def B13{α:Type}{l r:List α}{i:Nat}{x y:α}(h:l.take i=r.take i)(hx:l[i]?=some x)(hy:r[i]?=some y)(he:x=y):l.take (i+1)=r.take (i+1):=by
 rw[wi,wi,h,hx,hy,he]
def B7q:∀(m:Nat) (a b:D8) (id:Nat),a.sz<m->a.sz<=1099511627776->A2 prog 25 [eO a,eO b] [] id (.bool (decide (a=b))) []
 | 0,a,b,id,hm,_=>by omega
 | m+1,a,b,id,hm,h8=>by
  have hsz:=A3x a;have hlen:=A2b a.kids;rw[Z9 a,Z9 b];refine w25.e.1 λE hP hR hl hid=>?_;simp[w25];refine D0 (λh=>?_) (λh=>?_)
  ·simp;have hne:decide (a=b)=false:=uo λhe=>by subst he; simp at h
   rw[hne] at hR;exact yP hR
  obtain⟨h1,h2,h3,h4,h5⟩:a.kind=b.kind/\a.n=b.n/\a.text=b.text/\a.keys.length=b.keys.length/\a.kids.length=b.kids.length:=by
   simp at h;exact⟨h.1.1.1.1,h.1.1.1.2,h.1.1.2,o_,o_⟩
  simp;refine B9 (X:=Nat) (λi=>⟨[(2,true,.ptr E.n0 0 0),(3,true,.ptr (E.n0+1) 0 0),(5,true,.int .i64 i)],
   [(E.n0,some ⟨[.agg [.int .i64 a.kind,.int .i64 a.n,.str a.text,.sl (a.keys.map .str),.sl (a.kids.map eO)]],.agg [.int .i64 a.kind,.int .i64 a.n,.str a.text,.sl (a.keys.map .str),.sl (a.kids.map eO)],false,false⟩),(E.n0+1,some ⟨[.agg [.int .i64 b.kind,.int .i64 b.n,.str b.text,.sl (b.keys.map .str),.sl (b.kids.map eO)]],.agg [.int .i64 b.kind,.int .i64 b.n,.str b.text,.sl (b.keys.map .str),.sl (b.kids.map eO)],false,false⟩)],2⟩) (λi=>i<=a.keys.length/\a.keys.take i=b.keys.take i) (λi=>a.keys.length - i) 0 ?_ ⟨o_,rfl⟩ ?_
  ·exact yW [(E.n0,E.n0),(E.n0+1,E.n0+1024)] trivial
  rintro i ⟨hi,ht⟩ p hp;refine A3 4000 ?_;simp;refine D0 (λh=>?_) (λh=>?_)
  ·have h:=zq h;obtain⟨x,hx⟩:∃x,a.keys[i]?=some x:=⟨_,zc h⟩;obtain⟨y,hy⟩:∃y,b.keys[i]?=some y:=⟨_,zc o_⟩;have hi1:IntKind.i64.wrap ((i:Int)+1)=((i+1:Nat):Int):=wrap64 o_;simp[hx,hy];refine⟨h,o_,?_⟩;refine D0 (λg=>?_) (λg=>?_)
   ·simp;have hne:decide (a=b)=false:=uo λhe=>by subst he; rw[hx] at hy; injection hy with hy; subst hy; simp at g
    rw[hne] at hR;exact yP hR
   ·simp;refine hp _ (i+1) ⟨h,B13 ht hx hy (v_ g)⟩ o_ ?_;exact yW [(E.n0,E.n0),(E.n0+1,E.n0+1)] hi1
  ·have h:=zo h;simp;have hke:a.keys=b.keys:=by
    rw[zm o_,zm o_] at ht; exact ht
   refine B9 (X:=Nat) (λi=>⟨[(2,true,.ptr E.n0 0 0),(3,true,.ptr (E.n0+1) 0 0),(6,true,.int .i64 i)],
    [(E.n0,some ⟨[.agg [.int .i64 a.kind,.int .i64 a.n,.str a.text,.sl (a.keys.map .str),.sl (a.kids.map eO)]],.agg [.int .i64 a.kind,.int .i64 a.n,.str a.text,.sl (a.keys.map .str),.sl (a.kids.map eO)],false,false⟩),(E.n0+1,some ⟨[.agg [.int .i64 b.kind,.int .i64 b.n,.str b.text,.sl (b.keys.map .str),.sl (b.kids.map eO)]],.agg [.int .i64 b.kind,.int .i64 b.n,.str b.text,.sl (b.keys.map .str),.sl (b.kids.map eO)],false,false⟩)],2⟩) (λi=>i<=a.kids.length/\a.kids.take i=b.kids.take i) (λi=>a.kids.length - i) 0 ?_ ⟨o_,rfl⟩ ?_
   ·exact yW [(E.n0,E.n0),(E.n0+1,E.n0+1)] trivial
   clear hp p;rintro i ⟨hi,ht⟩ p hp;refine A3 4000 ?_;simp;refine D0 (λh=>?_) (λh=>?_)
   ·have h:=zq h;obtain⟨x,hx⟩:∃x,a.kids[i]?=some x:=⟨_,zc h⟩;obtain⟨y,hy⟩:∃y,b.kids[i]?=some y:=⟨_,zc o_⟩;have hi1:IntKind.i64.wrap ((i:Int)+1)=((i+1:Nat):Int):=wrap64 o_;have hxm:=A1c (zg hx);have ih:=λid=>B7q m x y id o_ o_;rw[Z9 x,Z9 y] at ih;simp[hx,hy,Z9 x,Z9 y];refine⟨h,o_,?_⟩;(refine yH rfl (ih _) ?_; simp);refine D0 (λg=>?_) (λg=>?_)
    ·simp;have hne:decide (a=b)=false:=uo λhe=>by subst he; rw[hx] at hy; injection hy with hy; subst hy; simp at g
     rw[hne] at hR;exact yP hR
    ·simp;refine hp _ (i+1) ⟨h,B13 ht hx hy (v_ g)⟩ o_ ?_;exact yW [(E.n0,E.n0),(E.n0+1,E.n0+1)] hi1
   ·have h:=zo h;have hki:a.kids=b.kids:=by
     rw[zm o_,zm o_] at ht; exact ht
    simp;rw[se (C59 h1 h2 h3 hke hki)] at hR;exact yP hR
def lookW:List C5:=[.mk [] [65] [] [.mk [] [105,100] [] [],.mk [107] [108] [⟨[102,105,114,115,116],false,[],1⟩] [.mk [] [110] [] []],.mk [] [98] [] [.mk [] [109] [] []]]]
def C3C:x5 tyW lookW=0:=by decide
def C5A:p7 lookW=7:=by decide
def C3D(id:Nat):A2 prog 43 [] [] id (.sl [.agg [.str [],.str [65],.nils,.sl [.agg [.str [],.str [105,100],.nils,.nils],.agg [.str [107],.str [108],.sl [.agg [.str [102,105,114,115,116],.bool false,.str [],.int .i64 1]],.sl [.agg [.str [],.str [110],.nils,.nils]]],.agg [.str [],.str [98],.nils,.sl [.agg [.str [],.str [109],.nils,.nils]]]]]]) []:=by
 refine w43.e.1 λE hP hR hl hid=>?_;simp[w43];have hrn:F7 []:=by simp[I5 hid]
 rw[hR];refine J0 f_ (by simp[I5 hid]<;>exact⟨rfl,rfl⟩) [] hrn ⟨?_,?_,?_,?_,?_,?_⟩<;>(try simp[I5 hid]);exact A4 _ rfl
def C5B(id:Nat):A2 prog 43 [] [] id (.sl (lookW.map C6)) []:=(C3D id).nrm
def outW:D8:=W5 [[65]] [N7 [W5 [[105,100],[107],[98]] [j9 3,N7 [W5 [[110]] [j9 5]],W5 [[109]] [j9 (-1)]],W5 [[105,100],[107],[98]] [j9 4,N7 [],Y5]]]
def q_o:qO stW lookW=outW:=by
 simp[qO,lookW,outW,W5,N7,j9,Y5,rtO,t6,stW,tyW,B8,E0,thO,thA,F2,C3,bs,J7,A0Z,w0,oL,oS,C8,A5s,D5,tId,A1z,cl0,C5.alias,C5.name,C5.args,C5.kids]
def q_w:qW stW lookW=13:=by
 simp[qW,B5y,lookW,rtW,t6,stW,tyW,B8,E0,thW,thA,F2,C3,bs,J7,A0Z,w0,wL,wS,A5s,D5,tId,A1z,cl0,C5.alias,C5.name,C5.args,C5.kids]
def C3E:A5u outW=0:=by decide
def C5s:okO outW:=by simp[okO,B66,outW,W5,N7,j9,Y5]
def C8n:outW.sz<=1000:=by decide
def C5C:List UInt8:=[123,34,65,34,58,91,123,34,105,100,34,58,51,44,34,107,34,58,91,123,34,110,34,58,53,125,93,44,34,98,34,58,123,34,109,34,58,45,49,125,125,44,123,34,105,100,34,58,52,44,34,107,34,58,91,93,44,34,98,34,58,110,117,108,108,125,93,125]
def C9V:jS outW=C5C:=by
 simp[jS,jM,jL,outW,W5,N7,j9,Y5,A0M,qL,qBj,Lib.join,Lib.itoa,Lib.decDigits,C5C,List.intercalate,List.intersperse]
def C3F:eO outW = .agg [.int .i64 5,.int .i64 0,.str [],.sl (outW.keys.map .str),.sl (outW.kids.map eO)]:=Z9 outW
def B2d(id:Nat):A2 prog 12 [] [] id (.bool true) []:=by
 have hf:S6 stW lookW=0:=by
  unfold S6;rw[zf (by rw[C8m]; decide),zf (by rw[show stW.types=tyW from rfl,C3C]; decide),zj (by rw[q_w]; decide)]
 have hQ:=λid=>B4Q stW lookW id (by rw[C5A]; omega);rw[show A3v stW lookW=eO outW by unfold A3v; rw[zj hf,q_o],hf] at hQ;have hPr:=λid=>A6w outW id (by have:=C8n; omega) C5s;rw[show A2E outW=C5C by unfold A2E; rw[zj C3E,C9V],C3E] at hPr;have hC:=λid=>A6t outW id (by have:=C8n; omega) C5s;rw[C3E] at hC;rw[C3F] at hQ hPr hC;generalize outW.keys=ks at *;generalize outW.kids=ls at *;unfold C5C at hPr;refine w12.e.1 λE hP hR hl hid=>?_;simp[w12];(refine yH rfl (B4l _) ?_; simp);(refine yH rfl (C5B _) ?_; simp);(refine yH rfl (hQ _) ?_; simp);(refine yH rfl (hPr _) ?_; simp);(refine yG rfl (hC _) ?_; simp);exact yP hR
def B2e(s:List UInt8)(id:Nat):A2 prog 165 [.str s] [] id (.agg [.int .i64 1,.str s,.int .i64 0]) []:=by
 refine w165.e.1 λE hP hR hl hid=>?_;simp[w165];exact yF hR [] (I5 hid)
def A4T(s:List UInt8)(id:Nat):A2 prog 163 [.str s] [] id (.agg [.int .i64 4,.str s,.int .i64 0]) []:=by
 refine w163.e.1 λE hP hR hl hid=>?_;simp[w163];exact yF hR [] (I5 hid)
def C9W{a b c:Nat}(h:[a,b,c].Nodup):((a=b)=False/\(b=a)=False)/\((a=c)=False/\(c=a)=False)/\(b=c)=False/\(c=b)=False:=by
 simp at h;obtain⟨⟨h1,h2⟩,h3⟩:=h;exact⟨⟨eq_false h1,eq_false (yc h1)⟩,⟨eq_false h2,eq_false (yc h2)⟩,eq_false h3,eq_false (yc h3)⟩
def toB(l:List Tk):Bx:=⟨l.map S7,.agg [.int .i64 0,.str [],.int .i64 0],false,false⟩
theorem A0m(l:List Tk):toB l=⟨l.map S7,.agg [.int .i64 0,.str [],.int .i64 0],false,false⟩:=rfl
def B4m(xs:List Tk):∀a:Tk,a∈xs->(match S7 a with|AV.agg cs=>cs|v=>[v]).length=3/\∀x:AV,(x∈match S7 a with|AV.agg cs=>cs|v=>[v])->(match x with|AV.agg cs=>false|AV.tup cs=>false|x=>true)=true:=λa _=>by
 simp[S7]
def A3B(xs ys:List Tk)(T K M id:Nat)(hd:[T,K,M].Nodup)(hl8:ys.length+xs.length<=1099511627776):
  A2 prog 164 [.bsl T 0 xs.length,.ptr K 0 0] [(T,toB xs),(K,lK (.bsl M 0 ys.length)),(M,toB ys)] id (.tup []) [(K,some (lK (.bsl id 0 (ys.length+xs.length)))),(M,none),(id,some (toB (ys++xs)))]:=by
 have d:=C9W hd;have hex:(ys++xs).map S7=ys.map S7++xs.map S7:=by simp
 rw[A0m,A0m,A0m,M3,M3,hex];refine w164.e.1 λE hP hR hl hid=>?_;simp[w164];have hT:=hl (T,_) (za ..);simp only at hT;have T1:=lf hT;have hK:=hl (K,_) (zb _ (za ..));simp only at hK;have K1:=lf hK;have hM:=hl (M,_) (zb _ (zb _ (za ..)));simp only at hM;have M1:=lf hM;simp[T1,K1,M1,d];refine⟨⟨B4m xs,o_,o_⟩,?_⟩;refine yE hR [(id,E.n0+2048)] (by simp[T1,K1,M1,d,I5 hid]) λhrn=>⟨?_,?_,?_,?_,?_,?_⟩<;>(try simp[T1,K1,M1,d,I5 hid]);exact B4 rfl (B3 (P1 _) (P1 _))
def C3G(xs ys:List Tk)(K M id:Nat)(hd:K≠M)(hl8:ys.length+xs.length<=1099511627776):
  A2 prog 164 [.sl (xs.map S7),.ptr K 0 0] [(K,lK (.bsl M 0 ys.length)),(M,toB ys)] id (.tup []) [(K,some (lK (.bsl id 0 (ys.length+xs.length)))),(M,none),(id,some (toB (ys++xs)))]:=by
 have hex:(ys++xs).map S7=ys.map S7++xs.map S7:=by simp
 rw[A0m,A0m,M3,M3,hex];refine w164.e.1 λE hP hR hl hid=>?_;simp[w164];have hK:=hl (K,_) (za ..);simp only at hK;have K1:=lf hK;have hM:=hl (M,_) (zb _ (za ..));simp only at hM;have M1:=lf hM;simp[K1,M1,hd,yc hd];refine⟨⟨B4m xs,o_,o_⟩,?_⟩;refine yE hR [(id,E.n0+2048)] (by simp[K1,M1,hd,yc hd,I5 hid]) λhrn=>⟨?_,?_,?_,?_,?_,?_⟩<;>(try simp[K1,M1,hd,yc hd,I5 hid]);exact B4 rfl (B3 (P1 _) (P1 _))
theorem M4(s:List UInt8):S7 (tkW s) = .agg [.int .i64 1,.str s,.int .i64 0]:=rfl
theorem L3(c:UInt8):S7 (tkS c) = .agg [.int .i64 4,.str [c],.int .i64 0]:=rfl
def B7r{α:Type}{l:List α}{i:Nat}{x:α}(g:α->List Tk)(h:l[i]?=some x):(l.take (i+1)).flatMap g=(l.take i).flatMap g++g x:=by
 rw[L0 h,sv]; simp
def C3H{α:Type}(l:List α)(i:Nat)(g:α->List Tk):((l.take i).flatMap g).length<=(l.flatMap g).length:=by
 conv=>rhs; rw[←yu i l,sv,zu]
 omega
def Wri(t:Tk):Prop:=∀id,A2 prog 162 [S7 t] [] id (.str (A35 t)) []
def C5D(n:Int)(tx:List UInt8)(h : -999999999<=n/\n<=999999999):Wri ⟨2,tx,n⟩:=λid=>by
 have hI:=λid=>A1x n id (by unfold I64; omega);unfold S7;have e:A35 ⟨2,tx,n⟩=Lib.itoa n:=by simp[A35]
 rw[e];refine w162.e.1 λE hP hR hl hid=>?_;simp[w162];(refine yH rfl (hI _) ?_; simp);exact yP hR
def B7s(k n:Int)(tx:List UInt8)(h2:k≠2)(h3:k≠3):Wri ⟨k,tx,n⟩:=λid=>by
 unfold S7;have e:A35 ⟨k,tx,n⟩=tx:=by simp[A35,h2,h3]
 rw[e];have e2:(k==2)=false:=by simpa using h2
 have e3:(k==3)=false:=by simpa using h3
 refine w162.e.1 λE hP hR hl hid=>?_;simp[w162];refine A0 e2 ?_;simp;refine A0 e3 ?_;simp;exact yP hR
def B6F(l:List (List UInt8)):F8 (l.map AV.str)=true:=E9 (λ_=>rfl) l
def B9d{l:List AV}(h:F8 l=true)(n:Nat):F8 (l.take n)=true:=A57 λi x hx=>by
 rw[zz] at hx;split at hx
 ·exact A6A h hx
 ·cases hx
def B9e(l:List Tk)(id:Nat)(hW:∀t∈l,Wri t)(h8:B4H l<=1099511627776)(h9:l.length<=1099511627776):A2 prog 97 [.sl (l.map S7)] [] id (.str (tkB l)) []:=by
 have hjl:(Lib.join (l.map A35) [32]).length<=140737488355328:=by
  have:=C4c l;unfold tkB at this; omega
 have hres:(.str (tkB l):AV) = .str (Lib.join (l.map A35) [32]):=rfl;rw[hres];have hxi:∀(i:Nat) (t:Tk),l[i]?=some t->(l.map A35)[i]?=some (A35 t):=λi t h=>by rw[yj,h]; rfl
 have hxl:(l.map A35).length=l.length:=by simp
 generalize l.map A35=xs at *;refine w97.e.1 λE hP hR hl hid=>?_;simp[w97];refine B9 (X:=Nat) (λi=>⟨[(3,true,.bsl E.n0 0 i),(6,true,.sl (l.map S7)),(7,true,.int .i64 l.length),(8,true,.int .i64 i)],[(E.n0,some ⟨(xs.map AV.str).take i,.str [],false,false⟩)],1⟩)
  (λi=>i<=l.length) (λi=>l.length - i) 0 ?_ o_ ?_
 ·refine D9.trans (D9.voidSlot 3 (x:=.nils) (y:=.bsl (E.n0+5120) 0 0) s_ .nils (.str [])) ?_;exact yW [(E.n0,E.n0+5120)] trivial
 rintro i hi p hp;rcases yd i l.length with h|h
 ·obtain⟨t,ht,hd⟩:=A5 h;have hli:l[i]=t:=by
   rw[zc h] at ht;injection ht
  have hi1:IntKind.i64.wrap ((i:Int)+1)=((i+1:Nat):Int):=wrap64 o_;have hw:=hW t (zg ht);unfold Wri S7 at hw;have hst:(xs.map AV.str).take (i+1)=(xs.map AV.str).take i++[.str (A35 t)]:=L0 (by rw[yj,hxi i t ht]; rfl);refine A3 4000 ?_;simp[h,hli,S7];(refine yH rfl (hw _) ?_; simp);refine⟨⟨o_,o_,o_⟩,?_⟩;refine hp _ (i+1) h o_ ?_;refine yV [(E.n0,E.n0+9217)] (by simp[hi1,hst]) λhrn=>⟨?_,?_,?_,?_,?_⟩<;>(try simp[hi1,hst]);exact B4 rfl (B3 (B9d (B6F _) _) rfl)
 ·have hil:i=l.length:=by omega
  have hka:(xs.map AV.str).take i=xs.map AV.str:=zm m_;have hle:i<=xs.length:=by omega
  have hJo:=λid=>B1v xs [32] id o_ hjl;refine A3 4000 ?_;simp[to.2 h,hka];(refine A0z hP rfl (hJo _) (by simp[hka,hle]<;>rfl) (by simp[hka,hle]) (by simp[hka,hle]<;>rfl) (by simp[hka,hle]) ?_; refine A3 4000 ?_; simp[hka,hle]);exact yP hR
def C8o(s:List UInt8):Wri (tkW s):=B7s 1 0 s d_ d_
def C8p(c:UInt8):Wri (tkS c):=B7s 4 0 [c] d_ d_
def C7L(l:List C5):tkL l=l.flatMap A0p:=by
 induction l with
 | nil=>rfl
 | cons s r ih=>simp[tkL,ih]
def alT(a:List UInt8):List Tk:=if a≠[] then [tkW a,tkS 58] else []
def B7t(a n:List UInt8):C21 a n=alT a++[tkW n]:=by
 unfold C21 alT;split<;>rfl
def C3I(s:C5):A0p s=alT s.alias++[tkW s.name]++j8 s.args++A0J s.kids:=by
 obtain⟨a,n,x,k⟩:=s;simp[A0p,B7t,C5.alias,C5.name,C5.args,C5.kids]
def C5E(a:List UInt8):(alT a).length<=2:=by unfold alT; split<;>simp
def B4n(x:List Ag):(x.flatMap B4I).length=3*x.length:=by
 induction x with
 | nil=>rfl
 | cons a r ih=>rw[xo,zu,ih]; simp[B4I]; omega
def B6G(x:List Ag):(j8 x).length<=3*x.length+2:=by
 have:=B4n x;unfold j8;split
 ·simp only[zt,zu,xy,this]; omega
 ·simp
mutual
def A6z:∀s:C5,(A0p s).length<=7*s.sz
 | .mk a n x k=>by
  have h1:=C5E a;have h2:=B6G x;have h3:=B6H k;simp only[A0p,B7t,zu,zt,xy,C5.sz]; omega
def B6H:∀l:List C5,(A0J l).length<=7*p7 l+2
 | []=>by simp[A0J]
 | s::r=>by
  have h1:=A6z s;have h2:=B2f r;simp only[A0J,zt,zu,xy,p7]; omega
def B2f:∀l:List C5,(tkL l).length<=7*p7 l
 | []=>by simp[tkL]
 | s::r=>by
  have h1:=A6z s;have h2:=B2f r;simp only[tkL,zu,p7]; omega
end
def A9X(l:List C5):(U4 l).length<=7*p7 l+2:=by
 have:=B2f l;simp only[U4,zt,zu,xy]; omega
def qS(E:O8)(l:List C5)(i:Nat)(acc:List Tk):St :=
 ⟨[(3,true,.ptr E.n0 0 0),(4,true,.fn 164 [.ptr E.n0 0 0]),(12,true,.sl (l.map C6)),(13,true,.int .i64 l.length),(14,true,.int .i64 i)],
  [(E.n0,some (lK (.bsl (E.n0+1) 0 acc.length))),(E.n0+1,some (toB acc))],2⟩
def slB(s:C5):Bx:=⟨[C6 s],.agg [.str [],.str [],.nils,.nils],false,false⟩
def qM(E:O8)(l:List C5)(i:Nat)(s:C5)(acc:List Tk):St :=
 ⟨[(3,true,.ptr E.n0 0 0),(4,true,.fn 164 [.ptr E.n0 0 0]),(12,true,.sl (l.map C6)),(13,true,.int .i64 l.length),(14,true,.int .i64 i),(6,true,.ptr (E.n0+2) 0 0)],
  [(E.n0,some (lK (.bsl (E.n0+1) 0 acc.length))),(E.n0+1,some (toB acc)),(E.n0+2,some (slB s))],3⟩
def qA(E:O8)(l:List C5)(i:Nat)(s:C5)(j:Nat)(acc:List Tk):St :=
 ⟨[(3,true,.ptr E.n0 0 0),(4,true,.fn 164 [.ptr E.n0 0 0]),(12,true,.sl (l.map C6)),(13,true,.int .i64 l.length),(14,true,.int .i64 i),(6,true,.ptr (E.n0+2) 0 0),(43,true,.sl (s.args.map s6)),(44,true,.int .i64 s.args.length),(45,true,.int .i64 j)],
  [(E.n0,some (lK (.bsl (E.n0+1) 0 acc.length))),(E.n0+1,some (toB acc)),(E.n0+2,some (slB s))],3⟩
def C8q(a:Ag):S7 (tkV a)=if a.isText=true then .agg [.int .i64 3,.str a.text,.int .i64 0] else .agg [.int .i64 2,.str [],.int .i64 a.n]:=by
 unfold tkV; split<;>rfl
section
variable (E:O8) (hP:E.P=Tryz.prog) (l:List C5) (i:Nat) (s:C5) (acc:List Tk) (h8:acc.length<=549755813888)
include hP h8
theorem C8r{x:CC}(hx:x = .seq (.r [.f 18 0 6,.l 19 18,.j 20 .neq 19 (.str [])]) (.cond (.t 20) (.r [.m 21 4,.f 22 0 6,.l 23 22,.c 24 165 [23],⟨some 25,none,[],.call 163 [.c (.str [58])]⟩,⟨some 26,none,[24,25],.bslice (.agg [.int .i64 0,.str [],.int .i64 0]) 2 [(0,.t 24),(1,.t 25)]⟩,⟨some 27,none,[21,26],.callv (.t 21) [.t 26]⟩]) CC.skip))
  {k:List Itm} (p:St->Prop) (hp:∀σ,D9 E σ (qM E l i s (acc++alT s.alias))->p σ):Wk E (.code x::.post p::k) (qM E l i s acc):=by
 subst hx;have hoe:=H0 s;by_cases h:s.alias=[]
 ·have e:alT s.alias=[]:=by unfold alT; rw[zf (t_ h)]
  rw[e,xr] at hp;unfold qM slB;refine A3 4000 ?_;simp[lK,toB,hoe,h];refine hp _ ?_;unfold qM;refine yV [(E.n0,E.n0),(E.n0+1,E.n0+1),(E.n0+2,E.n0+2)] (by simp[lK,toB,slB,hoe,h]) λhrn=>⟨?_,?_,?_,?_,?_⟩<;>(try simp[lK,toB,slB,hoe,h])
 ·have e:alT s.alias=[tkW s.alias,tkS 58]:=by unfold alT; rw[zj h]
  have hb:(!s.alias.isEmpty)=true:=by simpa using h
  have hw:=λid=>B2e s.alias id;have hs:=λid=>A4T [58] id;have hput:=λid=>A3B [tkW s.alias,tkS 58] acc (E.n0+8195) E.n0 (E.n0+1) id s_ m_;simp only[A0m,M3] at hput;rw[e] at hp;unfold qM slB;refine A3 4000 ?_;simp[lK,toB,hoe];refine A7 hb ?_;simp;(refine yH rfl (hw _) ?_; simp);(refine yH rfl (hs _) ?_; simp);(refine E8 hP (by simp<;>exact⟨rfl,rfl⟩) rfl (hput _) (by simp[M4,L3]) (by simp[M4,L3]<;>rfl) ?_; refine A3 4000 ?_; simp[M4,L3]);refine hp _ ?_;unfold qM;refine yV [(E.n0,E.n0),(E.n0+1,E.n0+9219),(E.n0+2,E.n0+2)] (by simp[lK,toB,slB,hoe,M4,L3]) λhrn=>⟨?_,?_,?_,?_,?_⟩<;>(try simp[lK,toB,slB,hoe,M4,L3]);all_goals exact B4 rfl (B3 (P1 _) rfl)
theorem C8s{x:CC}(hx:x = .r [.m 28 4,.f 29 1 6,.l 30 29,.c 31 165 [30],⟨some 32,none,[31],.bslice (.agg [.int .i64 0,.str [],.int .i64 0]) 1 [(0,.t 31)]⟩,⟨some 33,none,[28,32],.callv (.t 28) [.t 32]⟩])
  {k:List Itm} (p:St->Prop) (hp:∀σ,D9 E σ (qM E l i s (acc++[tkW s.name]))->p σ):Wk E (.code x::.post p::k) (qM E l i s acc):=by
 subst hx;have hoe:=H0 s;have hw:=λid=>B2e s.name id;have hput:=λid=>A3B [tkW s.name] acc (E.n0+4099) E.n0 (E.n0+1) id s_ m_;simp only[A0m,M3] at hput;unfold qM slB;refine A3 4000 ?_;simp[lK,toB,hoe];(refine yH rfl (hw _) ?_; simp);(refine E8 hP (by simp<;>exact⟨rfl,rfl⟩) rfl (hput _) (by simp[M4,L3]) (by simp[M4,L3]<;>rfl) ?_; refine A3 4000 ?_; simp[M4,L3]);refine hp _ ?_;unfold qM;refine yV [(E.n0,E.n0),(E.n0+1,E.n0+5123),(E.n0+2,E.n0+2)] (by simp[lK,toB,slB,hoe,M4,L3]) λhrn=>⟨?_,?_,?_,?_,?_⟩<;>(try simp[lK,toB,slB,hoe,M4,L3]);all_goals exact B4 rfl (B3 (P1 _) rfl)
theorem C5F{x:CC}(hx:x = .seq (.r [.f 34 2 6,.l 35 34,.n 36 35,.k 37 .gtr 36 0]) (.cond (.t 37) (.seq (.r [.m 38 4,⟨some 39,none,[],.call 163 [.c (.str [40])]⟩,⟨some 40,none,[39],.bslice (.agg [.int .i64 0,.str [],.int .i64 0]) 1 [(0,.t 39)]⟩,⟨some 41,none,[38,40],.callv (.t 38) [.t 40]⟩]) (.seq (.seq (.r [.f 42 2 6,.l 43 42,.n 44 43,.i 45 0]) (.block 2 (.loop (.seq (.r [.b 46 .lss 45 44]) (.seq (.cond (.t 46) CC.skip (.exit 2)) (.seq (.block 3 (.seq (.r [.ia 47 4 .zA 43 45,.L 48 4 47,.al 8 .zA,.st 4 8 48]) (.seq (.r [.m 49 4,.f 50 0 8,.l 51 50,.c 52 165 [51],⟨some 53,none,[],.call 163 [.c (.str [58])]⟩,⟨some 54,none,[52,53],.bslice (.agg [.int .i64 0,.str [],.int .i64 0]) 2 [(0,.t 52),(1,.t 53)]⟩,⟨some 55,none,[49,54],.callv (.t 49) [.t 54]⟩]) (.seq (.r [.f 56 1 8,.l 57 56]) (.cond (.t 57) (.r [.m 58 4,.f 59 2 8,.l 60 59,⟨some 61,none,[60],.build [.int .i64 0,.str [],.int .i64 0] [(0,1,.c (.int .i64 3)),(1,1,.t 60)]⟩,⟨some 62,none,[61],.bslice (.agg [.int .i64 0,.str [],.int .i64 0]) 1 [(0,.t 61)]⟩,⟨some 63,none,[58,62],.callv (.t 58) [.t 62]⟩]) (.r [.m 64 4,.f 65 3 8,.l 66 65,⟨some 67,none,[66],.build [.int .i64 0,.str [],.int .i64 0] [(0,1,.c (.int .i64 2)),(2,1,.t 66)]⟩,⟨some 68,none,[67],.bslice (.agg [.int .i64 0,.str [],.int .i64 0]) 1 [(0,.t 67)]⟩,⟨some 69,none,[64,68],.callv (.t 64) [.t 68]⟩])))))) (.r [.k 70 .add 45 1,.m 45 70]))))))) (.r [.m 71 4,⟨some 72,none,[],.call 163 [.c (.str [41])]⟩,⟨some 73,none,[72],.bslice (.agg [.int .i64 0,.str [],.int .i64 0]) 1 [(0,.t 72)]⟩,⟨some 74,none,[71,73],.callv (.t 71) [.t 73]⟩]))) CC.skip))
  (h9:s.args.length<=137438953472) {k:List Itm} (p:St->Prop) (hp:∀σ,D9 E σ (qM E l i s (acc++j8 s.args))->p σ):Wk E (.code x::.post p::k) (qM E l i s acc):=by
 subst hx;have hoe:=H0 s;by_cases h:s.args=[]
 ·have e:j8 s.args=[]:=by unfold j8; rw[zf (t_ h)]
  rw[e,xr] at hp;unfold qM slB;refine A3 4000 ?_;simp[lK,toB,hoe,h];refine hp _ ?_;unfold qM;refine yV [(E.n0,E.n0),(E.n0+1,E.n0+1),(E.n0+2,E.n0+2)] (by simp[lK,toB,slB,hoe,h]) λhrn=>⟨?_,?_,?_,?_,?_⟩<;>(try simp[lK,toB,slB,hoe,h]);all_goals exact A4 _ rfl
 have e:j8 s.args=tkS 40::(s.args.flatMap B4I++[tkS 41]):=by unfold j8; rw[zj h]
 have hpos:0<s.args.length:=xi.2 h;have hs1:=λid=>A4T [40] id;have hs2:=λid=>A4T [41] id;have hs3:=λid=>A4T [58] id;have hput:=λid=>A3B [tkS 40] acc (E.n0+6147) E.n0 (E.n0+1) id s_ m_;simp only[A0m,M3] at hput;unfold qM slB;refine A3 4000 ?_;simp[lK,toB,hoe,hpos];(refine yH rfl (hs1 _) ?_; simp);(refine E8 hP (by simp<;>exact⟨rfl,rfl⟩) rfl (hput _) (by simp[M4,L3]) (by simp[M4,L3]<;>rfl) ?_; refine A3 4000 ?_; simp[M4,L3]);refine B9 (X:=Nat×List Tk) (λq=>qA E l i s q.1 q.2) (λq=>q.1<=s.args.length/\q.2=acc++[tkS 40]++(s.args.take q.1).flatMap B4I) (λq=>s.args.length - q.1) (0,acc++[tkS 40]) ?_ ⟨s_,s_⟩ ?_
 ·unfold qA;refine yV [(E.n0,E.n0),(E.n0+1,E.n0+7171),(E.n0+2,E.n0+2)] (by simp[lK,toB,slB,hoe,M4,L3]) λhrn=>⟨?_,?_,?_,?_,?_⟩<;>(try simp[lK,toB,slB,hoe,M4,L3]);all_goals exact B4 rfl (B3 (P1 _) rfl)
 rintro⟨j,ac⟩ ⟨hj,hac⟩ p2 hp2;simp only at hj hac;have hacl:ac.length<=1099511627000:=by
  rw[hac];simp only[zu,zt,xy,B4n,zy];omega
 rcases yd j s.args.length with h2|h2
 rotate_left
 ·have hjl:j=s.args.length:=by omega
  have hx:ac++[tkS 41]=acc++j8 s.args:=by rw[e,hac,zm h2]; simp
  have hput2:=λid=>A3B [tkS 41] ac (E.n0+3075) E.n0 (E.n0+1) id s_ m_;simp only[A0m,M3] at hput2;rw[←hx] at hp;unfold qA slB;refine A3 4000 ?_;simp[lK,toB,hoe,to.2 h2];(refine yH rfl (hs2 _) ?_; simp);(refine E8 hP (by simp<;>exact⟨rfl,rfl⟩) rfl (hput2 _) (by simp[M4,L3]) (by simp[M4,L3]<;>rfl) ?_; refine A3 4000 ?_; simp[M4,L3]);refine hp _ ?_;unfold qM;refine yV [(E.n0,E.n0),(E.n0+1,E.n0+4099),(E.n0+2,E.n0+2)] (by simp[lK,toB,slB,hoe,M4,L3]) λhrn=>⟨?_,?_,?_,?_,?_⟩<;>(try simp[lK,toB,slB,hoe,M4,L3]);all_goals exact B4 rfl (B3 (P1 _) rfl)
 obtain⟨a,hga,hda⟩:=A5 h2;have hla:s.args[j]=a:=by
  rw[zc h2] at hga;injection hga
 have hj1:IntKind.i64.wrap ((j:Int)+1)=((j+1:Nat):Int):=wrap64 o_;have hsn:=B7r B4I hga;have hag:s6 a = .agg [.str a.name,.bool a.isText,.str a.text,.int .i64 a.n]:=rfl;have hw:=λid=>B2e a.name id;have hp4:=λid=>A3B [tkW a.name,tkS 58] ac (E.n0+10243) E.n0 (E.n0+1) id s_ m_;have hp5:=λid=>A3B [tkV a] (ac++[tkW a.name,tkS 58]) (E.n0+18435) E.n0 (E.n0+11267) id s_ m_;have hx:ac++[tkW a.name,tkS 58]++[tkV a]=acc++[tkS 40]++(s.args.take (j+1)).flatMap B4I:=by
  rw[hsn,hac]; simp[B4I]
 have hev:=C8q a;simp only[A0m,M3] at hp4 hp5;cases ht:a.isText with
 | true =>
  rw[zj ht] at hev;unfold qA slB;refine A3 4000 ?_;simp[lK,toB,hoe,h2,hla,hag,ht];(refine yH rfl (hw _) ?_; simp);(refine yH rfl (hs3 _) ?_; simp);(refine E8 hP (by simp<;>exact⟨rfl,rfl⟩) rfl (hp4 _) (by simp[M4,L3]) (by simp[M4,L3]<;>rfl) ?_; refine A3 4000 ?_; simp[M4,L3]);(refine E8 hP (by simp<;>exact⟨rfl,rfl⟩) rfl (hp5 _) (by simp[M4,L3,hev]) (by simp[M4,L3,hev]<;>rfl) ?_; refine A3 4000 ?_; simp[M4,L3,hev]);refine hp2 _ (j+1,ac++[tkW a.name,tkS 58]++[tkV a]) ⟨h2,hx⟩ m_ ?_;unfold qA;refine yV [(E.n0,E.n0),(E.n0+1,E.n0+19459),(E.n0+2,E.n0+2)] (by simp[lK,toB,slB,hoe,M4,L3,hev,hj1]) λhrn=>⟨?_,?_,?_,?_,?_⟩<;>(try simp[lK,toB,slB,hoe,M4,L3,hev,hj1]);all_goals exact B4 rfl (B3 (P1 _) rfl)
 | false =>
  rw[zf (t_ ht)] at hev;unfold qA slB;refine A3 4000 ?_;simp[lK,toB,hoe,h2,hla,hag,ht];(refine yH rfl (hw _) ?_; simp);(refine yH rfl (hs3 _) ?_; simp);(refine E8 hP (by simp<;>exact⟨rfl,rfl⟩) rfl (hp4 _) (by simp[M4,L3]) (by simp[M4,L3]<;>rfl) ?_; refine A3 4000 ?_; simp[M4,L3]);(refine E8 hP (by simp<;>exact⟨rfl,rfl⟩) rfl (hp5 _) (by simp[M4,L3,hev]) (by simp[M4,L3,hev]<;>rfl) ?_; refine A3 4000 ?_; simp[M4,L3,hev]);refine hp2 _ (j+1,ac++[tkW a.name,tkS 58]++[tkV a]) ⟨h2,hx⟩ m_ ?_;unfold qA;refine yV [(E.n0,E.n0),(E.n0+1,E.n0+19459),(E.n0+2,E.n0+2)] (by simp[lK,toB,slB,hoe,M4,L3,hev,hj1]) λhrn=>⟨?_,?_,?_,?_,?_⟩<;>(try simp[lK,toB,slB,hoe,M4,L3,hev,hj1]);all_goals exact B4 rfl (B3 (P1 _) rfl)
end
def B4o{k:List C5}(h:k≠[]):A0J k=U4 k:=by rw[B99,zj h]
def B6I:∀(n:Nat) (l:List C5) (id:Nat),p7 l<n->p7 l<=68719476736->A2 prog 98 [.sl (l.map C6)] [] id (.sl ((U4 l).map S7)) []:=by
 intro n;induction n with
 | zero=>intro l id h; omega
 | succ n ih =>
  intro l id hn h8;have htl:=A9X l;have hll:=o9 l;have hs0:=λid=>A4T [123] id;have hs9:=λid=>A4T [125] id;refine w98.e.1 λE hP hR hl hid=>?_;simp[w98];(refine yH rfl (hs0 _) ?_; simp);refine B9 (X:=Nat×List Tk) (λq=>qS E l q.1 q.2) (λq=>q.1<=l.length/\q.2=tkS 123::(l.take q.1).flatMap A0p) (λq=>l.length - q.1) (0,[tkS 123]) ?_ ⟨s_,s_⟩ ?_
  ·unfold qS;refine yV [(E.n0,E.n0+3072),(E.n0+1,E.n0+2048)] (by simp[lK,toB,L3]) λhrn=>⟨?_,?_,?_,?_,?_⟩<;>(try simp[lK,toB,L3])
  rintro⟨i,acc⟩ ⟨hi,ha⟩ p hp;simp only at hi ha;have htk:U4 l=tkS 123::(l.flatMap A0p++[tkS 125]):=by simp[U4,C7L]
  have hfl:=C3H l i A0p;have hal:acc.length<=549755813888:=by
   rw[htk] at htl;simp only[zt,zu,xy] at htl;rw[ha,zt]; omega
  rcases yd i l.length with h|h
  rotate_left
  ·have hx:acc++[tkS 125]=U4 l:=(by rw[htk,ha,zm h]; simp);have hput:=λid=>A3B [tkS 125] acc (E.n0+3074) E.n0 (E.n0+1) id s_ m_;simp only[A0m,M3] at hput;have hm:(U4 l).map S7=acc.map S7++[S7 (tkS 125)]:=(by rw[←hx]; simp);rw[hm] at hR;unfold qS;refine A3 4000 ?_;simp[lK,toB,to.2 h];(refine yH rfl (hs9 _) ?_; simp);(refine E8 hP (by simp<;>exact⟨rfl,rfl⟩) rfl (hput _) (by simp[M4,L3]) (by simp[M4,L3]<;>rfl) ?_; refine A3 4000 ?_; simp[M4,L3]);have hrn:F7 []:=(by simp[L3,I5 hid]);rw[hR];refine J0 f_ (by simp[L3,I5 hid]<;>exact⟨rfl,rfl⟩) [] hrn ⟨?_,?_,?_,?_,?_,?_⟩<;>(try simp[L3,I5 hid]);have htk2:List.take (acc.length+1) (acc.map S7++[.agg [.int .i64 4,.str [125],.int .i64 0]])=acc.map S7++[.agg [.int .i64 4,.str [125],.int .i64 0]]:=zm s_;rw[htk2];exact⟨rfl,A4 _ (B3 (P1 _) rfl)⟩
  obtain⟨s,hs,hd⟩:=A5 h;have hli:l[i]=s:=by
   rw[zc h] at hs;injection hs
  have hi1:IntKind.i64.wrap ((i:Int)+1)=((i+1:Nat):Int):=wrap64 o_;have hoe:=H0 s;have hsm:=zg hs;have hsz:=x4 hsm;have hse:=A2R s;have hsl:=A6z s;have hse2:=C3I s;have hlen:=congrArg List.length hse2;simp only[zu,zt,xy] at hlen;have hsn:=B7r A0p hs;have hfl2:=C3H l (i+1) A0p;rw[hsn,zu] at hfl2;have hbound:acc.length+(A0p s).length<=549755813888:=by
   rw[htk] at htl;simp only[zt,zu,xy] at htl;rw[ha,zt]; omega
  refine C6O (X:=Unit) (λ_=>qS E l i acc) (λ_=>True) (λp2 hp2=>?_) λ_ _=>?_
  ·unfold qS;refine A3 4000 ?_;simp[lK,toB,h];refine hp2 _ () trivial ?_;unfold qS;refine yV [(E.n0,E.n0),(E.n0+1,E.n0+1)] (by simp[lK,toB]) λhrn=>⟨?_,?_,?_,?_,?_⟩<;>(try simp[lK,toB])
  refine A3D (B6Y ?_);refine A3D (B08 (X:=Unit) (λ_=>qM E l i s acc) (λ_=>True) (λp2 hp2=>?_) λ_ _=>?_)
  ·unfold qS;refine A3 4000 ?_;simp[lK,toB,h,hli,hoe];refine hp2 _ () trivial ?_;unfold qM;refine yV [(E.n0,E.n0),(E.n0+1,E.n0+1),(E.n0+2,E.n0+2050)] (by simp[lK,toB,slB,hoe]) λhrn=>⟨?_,?_,?_,?_,?_⟩<;>(try simp[lK,toB,slB,hoe])
  refine A3D (B08 (X:=Unit) (λ_=>qM E l i s (acc++alT s.alias)) (λ_=>True) (λp2 hp2=>C8r E hP l i s acc o_ rfl p2 λσ hc=>hp2 σ () trivial hc) λ_ _=>?_);refine A3D (B08 (X:=Unit) (λ_=>qM E l i s (acc++alT s.alias++[tkW s.name])) (λ_=>True) (λp2 hp2=>C8s E hP l i s _ (by simp only[zu]; omega) rfl p2 λσ hc=>hp2 σ () trivial hc) λ_ _=>?_);refine A3D (B08 (X:=Unit) (λ_=>qM E l i s (acc++alT s.alias++[tkW s.name]++j8 s.args)) (λ_=>True) (λp2 hp2=>C5F E hP l i s _ (by simp only[zu,zt,xy]; omega) rfl o_ p2 λσ hc=>hp2 σ () trivial hc) λ_ _=>?_);have hb3:(acc++alT s.alias++[tkW s.name]++j8 s.args).length+(A0J s.kids).length<=549755813888:=by
   simp only[zu,zt,xy]; omega
  have hx:acc++alT s.alias++[tkW s.name]++j8 s.args++A0J s.kids=tkS 123::(l.take (i+1)).flatMap A0p:=by
   rw[hsn,ha,hse2]; simp
  generalize acc++alT s.alias++[tkW s.name]++j8 s.args=ac at *;by_cases hk:s.kids=[]
  ·have hk2:A0J s.kids=[]:=(by rw[hk]; rfl);rw[hk2,xr] at hx;unfold qM slB;refine A3 4000 ?_;simp[lK,toB,hoe,hk];refine hp _ (i+1,ac) ⟨h,hx⟩ m_ ?_;unfold qS;refine yV [(E.n0,E.n0),(E.n0+1,E.n0+1)] (by simp[lK,toB,hi1]) λhrn=>⟨?_,?_,?_,?_,?_⟩<;>(try simp[lK,toB,hi1])
  ·have hpos:0<s.kids.length:=xi.2 hk;have hK:=λid=>ih s.kids id o_ o_;rw[B4o hk] at hx hb3;have hput:=λid=>C3G (U4 s.kids) ac E.n0 (E.n0+1) id s_ o_;simp only[A0m,M3] at hput;unfold qM slB;refine A3 4000 ?_;simp[lK,toB,hoe,hpos];(refine yH rfl (hK _) ?_; simp);(refine E8 hP (by simp<;>exact⟨rfl,rfl⟩) rfl (hput _) s_ f_ ?_; refine A3 4000 ?_; simp);refine hp _ (i+1,ac++U4 s.kids) ⟨h,hx⟩ m_ ?_;unfold qS;refine yV [(E.n0,E.n0),(E.n0+1,E.n0+8195)] (by simp[lK,toB,hi1]) λhrn=>⟨?_,?_,?_,?_,?_⟩<;>(try simp[lK,toB,hi1]);all_goals exact B4 rfl (B3 (P1 _) (P1 _))
def C5G(s:List UInt8):(lQs s).length<=2*s.length:=by
 induction s with
 | nil=>simp[lQs]
 | cons c r ih =>
  have h1:(lQ c).length<=2:=by
   unfold lQ;repeat' split
   all_goals simp
  have e:lQs (c::r)=lQ c++lQs r:=by simp[lQs]
  rw[e,zu,zt]; omega
def C3J{n:Int}(h : -999999999<=n/\n<=999999999):(Lib.itoa n).length<=10:=by
 unfold Lib.itoa;split
 ·have:=A4P (u:=n.natAbs) o_;simp only[zt]; omega
 ·have:=A4P (u:=n.toNat) o_;omega
def C7M{t:Tk}(h:fTk t=0):(A35 t).length<=82:=by
 unfold fTk at h;obtain⟨h1,h⟩:=A9m h d_;obtain⟨h2,h⟩:=A9m h d_;unfold A35;split at h
 ·rename_i hk;rw[zf o_,zf o_];have:=C20 h; omega
 ·split at h
  ·rename_i hk;rw[zj hk];split at h
   ·rename_i hn;have:=C3J hn; omega
   ·cases h
  ·rename_i hk2;rw[zf hk2];split at h
   ·rename_i hk3;rw[zj hk3];split at h
    ·cases h
    ·have:=C5G t.text;simp only[zt,zu,xy]; omega
   ·rename_i hk3;rw[zf hk3];split at h
    ·rename_i hs; omega
    ·cases h
def C5H{l:List Tk}(h:A3t l):B4H l<=83*l.length:=by
 induction l with
 | nil=>simp[B4H]
 | cons t r ih =>
  have h1:=C7M (h t (za ..));have h2:=ih λx hx=>h x (zb _ hx);simp only[B4H,yg,vq,zt] at h2 ⊢; omega
def qPr(l:List C5):List UInt8×Int:=if J6 l=0 then (tkB (U4 l),0) else ([],J6 l)
def C7N{l:List C5}(h:J6 l=0):qPr l=(tkB (U4 l),0):=by unfold qPr; rw[zj h]
def B9f(l:List C5)(id:Nat)(h8:p7 l<=1073741824)(hW:J6 l=0->∀t∈U4 l,Wri t):A2 prog 39 [.sl (l.map C6)] [] id (.tup [.str (qPr l).1,.int .i64 (qPr l).2]) []:=by
 have hC:=λid=>A2S l id o_;by_cases hc:J6 l=0
 ·have hT:=λid=>B6I (p7 l+1) l id o_ o_;have h1:=A9X l;have h2:=C5H (C4e hc);have hB:=λid=>B9e (U4 l) id (hW hc) o_ o_;rw[hc] at hC;rw[C7N hc];refine w39.e.1 λE hP hR hl hid=>?_;simp[w39];(refine yH rfl (hC _) ?_; simp);(refine yH rfl (hT _) ?_; simp);(refine yH rfl (hB _) ?_; simp);exact yP hR
 ·have e:qPr l=([],J6 l):=by unfold qPr; rw[zf hc]
  rw[e];refine w39.e.1 λE hP hR hl hid=>?_;simp[w39];(refine yH rfl (hC _) ?_; simp);refine A7 (v_ hc) ?_;simp;exact yP hR
def B9g:∀(n:Nat) (l:List C5) (id:Nat),p7 l<n->p7 l<=1099511627776->A2 prog 42 [.sl (l.map C6),.sl (l.map C6)] [] id (.bool true) []:=by
 intro n;induction n with
 | zero=>intro l id h; omega
 | succ n ih =>
  intro l id hn h8;have hll:=o9 l;refine w42.e.1 λE hP hR hl hid=>?_;simp[w42];refine B9 (X:=Nat) (λi=>⟨[(0,true,.sl (l.map C6)),(1,true,.sl (l.map C6)),(5,true,.int .i64 i)],[],0⟩) (λi=>i<=l.length) (λi=>l.length - i) 0 ?_ o_ ?_
  ·exact yW [] trivial
  rintro i hi p hp;rcases yd i l.length with h|h
  rotate_left
  ·refine A3 4000 ?_;simp[to.2 h];exact yP hR
  obtain⟨s,hs,hd⟩:=A5 h;have hli:l[i]=s:=by
   rw[zc h] at hs;injection hs
  have hi1:IntKind.i64.wrap ((i:Int)+1)=((i+1:Nat):Int):=wrap64 o_;have hoe:=H0 s;have hsm:=zg hs;have hsz:=x4 hsm;have hse:=A2R s;have hK:=λid=>ih s.kids id o_ o_;refine A3 4000 ?_;simp[h,hli,hoe];(refine H5 hP (by simp[h,hli,hoe]) rfl (λhc=>⟨hK _,by revert hc; simp[h,hli,hoe]; try grind,by simp[h,hli,hoe]⟩) ?_; refine A3 4000 ?_; simp[h,hli,hoe]);refine B9 (X:=Nat) (λk=>⟨[(0,true,.sl (l.map C6)),(1,true,.sl (l.map C6)),(5,true,.int .i64 i),(6,true,.int .i64 k)],[],0⟩) (λk=>k<=s.args.length) (λk=>s.args.length - k) 0 ?_ o_ ?_
  ·exact yW [] trivial
  rintro k hk p2 hp2;rcases yd k s.args.length with h2|h2
  rotate_left
  ·refine A3 4000 ?_;simp[h,hli,hoe,to.2 h2];refine hp _ (i+1) h o_ ?_;exact yW [] hi1
  obtain⟨a,ha,had⟩:=A5 h2;have hla:s.args[k]=a:=by
   rw[zc h2] at ha;injection ha
  have hag:s6 a = .agg [.str a.name,.bool a.isText,.str a.text,.int .i64 a.n]:=rfl;have hk1:IntKind.i64.wrap ((k:Int)+1)=((k+1:Nat):Int):=wrap64 o_;refine A3 4000 ?_;simp[h,hli,hoe,h2,hla,hag,A0Q,A1l];refine hp2 _ (k+1) h2 o_ ?_;exact yW [] hk1
def B6J(l:List C5)(id:Nat)(h:p7 l<=1099511627776):A2 prog 42 [.sl (l.map C6),.sl (l.map C6)] [] id (.bool true) []:=B9g (p7 l+1) l id o_ h
def askW:List C5:=[.mk [120] [65] [⟨[105,100],false,[],3⟩] [.mk [] [105,100] [] [],.mk [] [110] [] []]]
def aqW:List UInt8:=[123,32,120,58,32,65,40,105,100,58,32,51,41,32,123,32,105,100,32,110,32,125,32,125]
def apW:List UInt8:=[123,32,120,32,58,32,65,32,40,32,105,100,32,58,32,51,32,41,32,123,32,105,100,32,110,32,125,32,125]
def C5I(id:Nat):A2 prog 40 [] [] id (.sl [.agg [.str [120],.str [65],.sl [.agg [.str [105,100],.bool false,.str [],.int .i64 3]],.sl [.agg [.str [],.str [105,100],.nils,.nils],.agg [.str [],.str [110],.nils,.nils]]]]) []:=by
 refine w40.e.1 λE hP hR hl hid=>?_;simp[w40];have hrn:F7 []:=by simp[I5 hid]
 rw[hR];refine J0 f_ (by simp[I5 hid]<;>exact⟨rfl,rfl⟩) [] hrn ⟨?_,?_,?_,?_,?_,?_⟩<;>(try simp[I5 hid]);all_goals exact A4 _ rfl
def C7O(id:Nat):A2 prog 40 [] [] id (.sl (askW.map C6)) []:=(C5I id).nrm
def C7P:A1a aqW = .ok askW:=by kernel_rfl
def C5J:qPr askW=(apW,0):=by kernel_rfl
def C3K:J6 askW=0:=by kernel_rfl
def C7Q:A1a [123,32,125] = .error 1:=by kernel_rfl
def C5K:∀t∈U4 askW,Wri t:=by
 have e:U4 askW=[tkS 123,tkW [120],tkS 58,tkW [65],tkS 40,tkW [105,100],tkS 58,⟨2,[],3⟩,tkS 41,tkS 123,tkW [105,100],tkW [110],tkS 125,tkS 125]:=by rfl
 rw[e];intro t ht;simp only[zi,yp,or_false] at ht;rcases ht with rfl|rfl|rfl|rfl|rfl|rfl|rfl|rfl|rfl|rfl|rfl|rfl|rfl|rfl
 all_goals first|exact C8p _|exact C8o _|exact C5D 3 [] d_
def A9p(id:Nat):A2 prog 11 [] [] id (.bool true) []:=by
 have hR:=λid=>A2i aqW id;rw[C7P] at hR;have hRd:∀id,A2 prog 16 [.str aqW] [] id (.tup [.sl (askW.map C6),.int .i64 0]) []:=hR;have hR2:=λid=>A2i [123,32,125] id;rw[C7Q] at hR2;have hR2:∀id,A2 prog 16 [.str [123,32,125]] [] id (.tup [.nils,.int .i64 1]) []:=hR2;have hPr:=λid=>B9f askW id d_ λ_=>C5K;rw[C5J] at hPr;have hC:=λid=>A2S askW id d_;rw[C3K] at hC;have hS:=λid=>B6J askW id d_;have hTy:=λid=>C7O id;clear hR;generalize htw:askW=tw at *;unfold aqW at hRd;refine w11.e.1 λE hP hR hl hid=>?_;simp[w11];(refine yH rfl (hRd _) ?_; simp);(refine yH rfl (hTy _) ?_; simp);(refine yH rfl (hPr _) ?_; simp);(refine yH rfl (hR2 _) ?_; simp);(refine yG rfl (hTy _) ?_; simp);(refine yG rfl (hC _) ?_; simp);(refine yG rfl (hTy _) ?_; simp);(refine yG rfl (hS _) ?_; simp);simp[apW];exact yP hR
end Go.Am
