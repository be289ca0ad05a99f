/- Parts of the proof: an abstract machine for Go functions, and what functions of the program give back (Am47, Am48, Am49, Am50, Am51, Am52, Am53, Am54, Am55, Am56). No condition. -/
import Derived.Test.YtphjabjjnncebaaGreatDoorXE
import Derived.Below
set_option maxRecDepth 100000
set_option linter.all false
set_option maxHeartbeats 2000000
namespace Go.Am
open Go Go.RowKit
section
variable {E:O8} {σ:St}
theorem D9.subK(l:List (Nat×Nat))(hl:F7 l){σ':St}(hk:A4a E.n0 (E.n0+σ'.k) l)(h1:B1O (P2 (E.n0+σ'.k) l hl) E.G0.used σ.fr σ'.fr)(h2:A6K (P2 (E.n0+σ'.k) l hl) E.G0.used σ.bx σ'.bx)(h3:I8 E.n0 σ'.bx σ.bx)
  (h4:A25 E.n0 σ'.bx l):D9 E σ σ':=λG a w hD=>by
 have hlow:∀x,x<E.n0->lkN l x=none:=λx hx=>by
  cases h:lkN l x with
  | none=>rfl
  | some b=>have:=A1G hk _ (A0y h); simp only at this; omega
 have hold:∀x,lkN l x=none->(P2 (E.n0+σ'.k) l hl).ρ x=none\/(P2 (E.n0+σ'.k) l hl).ρ x=some x:=λx hx=>by
  show rnF (E.n0+σ'.k) l x=none\/rnF (E.n0+σ'.k) l x=some x;unfold rnF;rw[hx];simp only;split
  ·split
   ·exact .inl rfl
   ·exact .inr rfl
  ·exact .inl rfl
 have hfix:∀x,E.G0.used x->(P2 (E.n0+σ'.k) l hl).ρ x=some x\/(P2 (E.n0+σ'.k) l hl).ρ x=none:=λx hx=>(hold x (hlow x (E.old x hx))).symm;have hst:∀x,x<E.n0->T7 l x=false->(P2 (E.n0+σ'.k) l hl).ρ x=some x:=λx hx hg=>by
  show rnF (E.n0+σ'.k) l x=some x;unfold rnF;rw[hlow x hx];have hx':x<E.n0+σ'.k:=by omega
  simp[hx',hg]
 refine⟨G.ren (P2 (E.n0+σ'.k) l hl) E.G0.used,L4.ren hD.ev hfix,hD.rs.ren λy b' hy=>?_,λy hy=>?_,λy hy hu=>?_,λn c v hv=>?_,hD.size,hD.defers⟩
 ·by_cases hk:K6 y σ'.bx
  ·obtain⟨x,b0,q1,q2,q3⟩:=h2.get y b' hy hk;exact⟨x,b0,q1,P5 E.β q2,q3⟩
  ·rw[A3T hk] at hy;have hlt:y<E.n0:=by
    rcases yd y E.n0 with h|h
    ·exact h
    ·rw[E.own y h] at hy; cases hy
   refine⟨y,b',hst y hlt (A2l h4 y hlt hk),by rw[h3.get y hlt hk E.β]; exact hy,BxR.same λi x hx=>?_⟩;exact L7 (λz hz=>(hfix z hz).imp _root_.id λh=>⟨h,hz⟩) x ((E.rs0.boxNames hy).2 i x hx)
 ·rcases hy with⟨x,hx,hu⟩|hy
  ·have hx':rnF (E.n0+σ'.k) l y=some x:=hx;cases h:lkN l y with
   | some b=>exact (A1G hk _ (A0y h)).2
   | none =>
    unfold rnF at hx';rw[h] at hx';simp only at hx';split at hx'
    ·assumption
    ·cases hx'
  ·have:=E.old y hy; omega
 ·rcases hu with⟨x,hx,hu⟩|hu
  ·rcases hold y (hlow y hy) with h|h
   ·rw[h] at hx; cases hx
   ·rw[h] at hx;injection hx with hx
    subst hx;exact hD.old _ hy hu
  ·exact hu
 ·obtain⟨v0,q1,q2⟩:=h1.get n c v hv;obtain⟨r1,r2⟩:=hD.fr n c v0 q1;exact⟨λhc=>(r1 hc).ren (q2 hc),r2⟩
theorem B5F{dst:Option Nat}{us:List Nat}{z:AV}{n:Nat}{qs:List (Nat×L5)}{l:List CR}{j:Nat}{acc:List RR}{ps:List (Nat×Nat)}{k:List Itm}{vs:List (Nat×AV)}{xs:List AV}(hv:(qs.map λq=>(q.1,M2 (lk σ.fr) q.2))=vs)(hu:A28 (lk σ.fr) us)
  (ho:A4Y n z.cells.length vs) (hx:p5 (List.replicate n z) vs=xs)
  (h:Wk E (.ops l (j+1) (A1R ps ⟨true,.bsl (E.n0+(σ.k+1024*j)) 0 n,[],[(E.n0+(σ.k+1024*j),some ⟨xs,z,false,false⟩)]⟩ acc) ps::k) (σ.app dst ⟨true,.bsl (E.n0+(σ.k+1024*j)) 0 n,[],[(E.n0+(σ.k+1024*j),some ⟨xs,z,false,false⟩)]⟩)) :
  Wk E (.ops (⟨dst,none,us,.bslice z n qs⟩::l) j acc ps::k) σ:=by
 subst hv hx;refine A7U (r:=⟨true,.bsl (E.n0+(σ.k+1024*j)) 0 n,[],[(E.n0+(σ.k+1024*j),some ⟨p5 (List.replicate n z) (qs.map λq=>(q.1,M2 (lk σ.fr) q.2)),z,false,false⟩)]⟩) ⟨trivial,rfl,λ_=>?_,λh=>by cases h⟩ (A0j h);have:=ExR.keep (P:=E.P) (us:=us) (id:=E.n0+σ.k+1024*j) (F:=lk σ.fr) (B:=bk σ.bx) true z n qs hu ho;rw[yv] at this;rw[yv];exact this
structure A07(S:Nat->Prop)(tl:List (Nat×Option Bx)):Prop where
 keys:∀q∈tl,S q.1/\q.2.isSome=true
 nd:(tl.map Prod.fst).Nodup
 names:∀q∈tl,∀b,q.2=some b->∀x∈b.xs,B2 S x
theorem A07.nil(S:Nat->Prop):A07 S []:=⟨λq hq=>(by cases hq),ql,λq hq=>(by cases hq)⟩
theorem A2O:∀{tl:List (Nat×Option Bx)},(tl.map Prod.fst).Nodup->∀{y:Nat} {b:Bx},(y,some b)∈tl->Am.bk tl y=some b
 | [],_,y,b,h=>by cases h
 | (z,c)::l,hn,y,b,h=>by
  rw[yg,xd] at hn;simp only[Am.bk];rcases zi.1 h with e|h
  ·injection e with e1 e2
   subst e1 e2;simp
  ·have hne:y≠z:=λe=>hn.1 (e▸zw.2 ⟨_,h,rfl⟩);rw[zf hne];exact A2O hn.2 h
theorem A07.sub{A:Nat->Prop}{tl:List (Nat×Option Bx)}(h:A07 A tl){R:Rn}{S:Nat->Prop}{bx:List (Nat×Option Bx)}(hR:∀z,A z->R.ρ z=some z)(hb:∀y b,(y,some b)∈tl->Am.bk bx y=some b):A6K R S bx tl:=by
 have go:∀l:List (Nat×Option Bx),(∀q∈l,q∈tl)->A6K R S bx l:=by
  intro l;induction l with
  | nil=>intro _; trivial
  | cons q l ih =>
   intro hl;obtain⟨y,c⟩:=q;have hm:=hl _ (za ..);have hk:=h.keys _ hm;cases c with
   | none=>simp at hk
   | some b =>
    refine⟨⟨y,b,hR y hk.1,hb y b hm,BxR.same λi x hx=>?_⟩,ih λq hq=>hl q (zb _ hq)⟩;exact L7 (λz hz=>.inl (hR z hz)) x (h.names _ hm b rfl x (zg hx))
 exact go tl λq hq=>hq
theorem A07.cons{S:Nat->Prop}{tl:List (Nat×Option Bx)}(h:A07 S tl){y:Nat}{b:Bx}(h1:S y)(h2:∀q∈tl,q.1≠y)(h3:∀x∈b.xs,B2 S x):A07 S ((y,some b)::tl):=by
 refine⟨λq hq=>?_,?_,λq hq b' hb'=>?_⟩
 ·rcases zi.1 hq with rfl|hq
  ·exact⟨h1,rfl⟩
  ·exact h.keys q hq
 ·rw[yg,xd];exact⟨λhm=>by obtain⟨q,hq,e⟩:=zw.1 hm; exact h2 q hq e,h.nd⟩
 ·rcases zi.1 hq with rfl|hq
  ·injection hb' with hb'; subst hb'; exact h3
  ·exact h.names q hq b' hb'
theorem A07.append{S:Nat->Prop}{a b:List (Nat×Option Bx)}(ha:A07 S a)(hb:A07 S b)(hd:∀p∈a,∀p'∈b,p.1≠p'.1):A07 S (a++b):=by
 refine⟨λq hq=>(zr.1 hq).elim (ha.keys q) (hb.keys q),?_,λq hq=>(zr.1 hq).elim (ha.names q) (hb.names q)⟩;rw[vf,wa];refine⟨ha.nd,hb.nd,λx hx y hy=>?_⟩;obtain⟨p,hp,rfl⟩:=zw.1 hx;obtain⟨p',hp',rfl⟩:=zw.1 hy;exact hd p hp p' hp'
theorem B1U{n:Nat}{l:List (Nat×Nat)}{hl:F7 l}{z:Nat}(h1:lkN l z=none)(h2:T7 l z=false)(h3:z<n):(P2 n l hl).ρ z=some z:=by
 show rnF n l z=some z;unfold rnF;rw[h1];simp[h2,h3]
theorem A1H{R:Rn}{S A:Nat->Prop}(hR:∀z,A z->R.ρ z=some z):∀{l:List AV},(∀x∈l,B2 A x)->N8 R S l l
 | [],_=>.nil
 | x::l,h=>.cons x x l l (.same x (L7 (λz hz=>.inl (hR z hz)) x (h x (za ..)))) (A1H hR λy hy=>h y (zb _ hy))
theorem v6{R:Rn}{S:Nat->Prop}:∀{a b c d:List AV},N8 R S a b->N8 R S c d->N8 R S (a++c) (b++d)
 | [],[],_,_,_,h=>h
 | x::a,y::b,_,_,.cons _ _ _ _ h hl,h'=>.cons _ _ _ _ h (v6 hl h')
theorem A5Q{q:Nat×Option Bx}{l:List (Nat×Option Bx)}{y:Nat}(h:y≠q.1):Am.bk (q::l) y=Am.bk l y:=by
 obtain⟨m,b⟩:=q;simp only[Am.bk];rw[zf h]
theorem A0C{n0:Nat}{bx':List (Nat×Option Bx)}:∀{l:List (Nat×Option Bx)},(∀q∈l,n0<=q.1)->I8 n0 bx' l
 | [],_=>trivial
 | (x,b)::l,h=>⟨.inl (h _ (za ..)),A0C λq hq=>h q (zb _ hq)⟩
end
inductive Rd(L:List (Nat×Bx)):AV->AV->Prop
 | same (x:AV):Rd L x x
 | nils:Rd L .nils (.sl [])
 | bsl (id off len:Nat) (b:Bx) (ys:List AV) (hb:(id,b)∈L) (hle:off+len<=b.xs.length) (hl:ys.length=len)
   (hc:∀(i:Nat) x y,b.xs[off+i]?=some x->ys[i]?=some y->x.cells.length=y.cells.length)
   (h:∀(i:Nat) x y (j:Nat) c d,b.xs[off+i]?=some x->ys[i]?=some y->x.cells[j]?=some c->y.cells[j]?=some d->Rd L c d):Rd L (.bsl id off len) (.sl ys)
 | ptr (id:Nat) (b:Bx) (x:AV) (ds:List AV) (hb:(id,b)∈L) (hx:b.xs=[x]) (hl:ds.length=x.cells.length)
   (h:∀(j:Nat) c d,x.cells[j]?=some c->ds[j]?=some d->Rd L c d):Rd L (.ptr id 0 0) (.cptr ds)
 | agg (cs ds:List AV) (hl:cs.length=ds.length) (h:∀(i:Nat) c d,cs[i]?=some c->ds[i]?=some d->Rd L c d):Rd L (.agg cs) (.agg ds)
 | tup (cs ds:List AV) (hl:cs.length=ds.length) (h:∀(i:Nat) c d,cs[i]?=some c->ds[i]?=some d->Rd L c d):Rd L (.tup cs) (.tup ds)
 | fn (f:Nat) (cs ds:List AV) (hl:cs.length=ds.length) (h:∀(i:Nat) c d,cs[i]?=some c->ds[i]?=some d->Rd L c d):Rd L (.fn f cs) (.fn f ds)
section
variable {P:Program} {C:Cx P} {G:Gh} {bx:Nat->Option Bx} {w:World}
theorem A6M{G1:Gh}{L:List (Nat×Bx)}(hs:RS C G bx w)(hL:K8 bx L)(ev:L4 G w G1 w)(hz:∀q∈L,∀b s,G.bm q.1=some (b,s)->∀o,o<q.2.xs.length*s->G1.fz b o){x y:AV}(h:Rd L x y):∀{v:Value},RV G w x v->RV G1 w y v:=by
 induction h with
 | same x=>intro v hv; exact hv.mono ev
 | nils =>
  intro v hv;cases hv
  exact .sl [] none 0 0 (λ_ _=>undef) (zx _) (by simp[maxLen]) (λ_=>⟨rfl,rfl⟩) (λi x hi=>by simp at hi) (λa i x j y _ hi=>by simp at hi) (λa i x j y _ hi=>by simp at hi) (λi x j y hi=>by simp at hi)
 | agg cs ds hl h ih =>
  intro v hv;cases hv with|agg _ vs hl' h' =>
  exact .agg ds vs (hl▸hl') λi y hy=>by
   obtain⟨c,hc⟩:∃c,cs[i]?=some c:=⟨_,zc (by rw[hl]; exact (ze.1 hy).1)⟩;exact ih i c y hc hy (h' i c hc)
 | tup cs ds hl h ih =>
  intro v hv;cases hv with|tup _ vs hl' h' =>
  exact .tup ds vs (hl▸hl') λi y hy=>by
   obtain⟨c,hc⟩:∃c,cs[i]?=some c:=⟨_,zc (by rw[hl]; exact (ze.1 hy).1)⟩;exact ih i c y hc hy (h' i c hc)
 | fn f cs ds hl h ih =>
  intro v hv;cases hv with|fn _ _ vs hl' h' =>
  exact .fn f ds vs (hl▸hl') λi y hy=>by
   obtain⟨c,hc⟩:∃c,cs[i]?=some c:=⟨_,zc (by rw[hl]; exact (ze.1 hy).1)⟩;exact ih i c y hc hy (h' i c hc)
 | ptr id b x ds hb hx hl h ih =>
  intro v hv;have hbx:=hL _ hb;simp only at hbx;have h0:b.xs[0]?=some x:=by rw[hx]; rfl
  have hn:¬G.nl id:=hs.lies hbx h0;obtain⟨blk,s,cur,e,h1,h2,h3,⟨h4,h5⟩,h6,h7,h8⟩:=hs.box id b hbx hn;cases hv with|ptr _ _ _ _ ho hu hbm =>
  have:=hbm blk s h1;simp only[qo,yy] at this;subst this;obtain⟨hcs,hct⟩:=h6 0 x h0;have hlen:b.xs.length=1:=by rw[hx]; rfl
  have key:∀j d,ds[j]?=some d->∃c u,x.cells[j]?=some c/\cur[j]?=some u/\RV G w c u/\j<s:=λj d hj=>by
   have hjl:j<x.cells.length:=(by rw[←hl]; exact (ze.1 hj).1);obtain⟨u,hu1,hu2⟩:=hct j _ (zc hjl);exact⟨_,u,zc hjl,v_ hu1,hu2,o_⟩
  refine .cptr ds _ (λj=>cur.getD j undef) (λj y hj=>?_) (λj y hj=>?_) (λj y hj=>?_)
  ·obtain⟨c,u,k1,k2,k3,k4⟩:=key j y hj;exact hz _ hb blk s h1 _ (by simp only[hlen]; omega)
  ·obtain⟨c,u,k1,k2,k3,k4⟩:=key j y hj;have ha:(⟨blk,0,none⟩:Addr).add j=⟨blk,j,none⟩:=(by unfold Addr.add; split<;>simp_all);rw[ha,E4 h2,k2];simp[zl,k2]
  ·obtain⟨c,u,k1,k2,k3,k4⟩:=key j y hj;have:cur.getD j undef=u:=by simp[zl,k2]
   show RV G1 w y (cur.getD j undef);rw[this];exact ih j c y k1 hj k3
 | bsl id off len b ys hb hle hl hc h ih =>
  intro v hv;have hbx:=hL _ hb;simp only at hbx;by_cases hn:G.nl id
  ·cases hv with|bsl _ _ _ _ _ _ _ hnl =>
   obtain⟨rfl,_,rfl⟩:=hnl hn;have:ys=[]:=ug.1 hl;subst this;exact .sl [] none 0 0 (λ_ _=>undef) (zx _) (by simp[maxLen]) (λ_=>⟨rfl,rfl⟩) (λi x hi=>by simp at hi) (λa i x j y _ hi=>by simp at hi) (λa i x j y _ hi=>by simp at hi) (λi x j y hi=>by simp at hi)
  ·obtain⟨blk,s,cur,e,h1,h2,h3,⟨h4,h5⟩,h6,h7,h8⟩:=hs.box id b hbx hn;cases hv with|bsl _ _ _ _ hone hu hbm hnl =>
   obtain⟨c,cur',e',hv,hlc,hcm,hh,hzz⟩:=hbm blk s h1;subst hv;have key:∀i y j d,ys[i]?=some y->y.cells[j]?=some d->∃x c u,b.xs[off+i]?=some x/\x.cells[j]?=some c/\cur[(off+i)*s+j]?=some u/\RV G w c u/\j<s/\off+i<b.xs.length:=λi y j d hi hj=>by
    have hil:i<ys.length:=(ze.1 hi).1;have hx:=zc (l:=b.xs) (i:=off+i) o_;have hcl:=hc i _ y hx hi;have hjl:j<(b.xs[off+i]'o_).cells.length:=(by rw[hcl]; exact (ze.1 hj).1);obtain⟨hcs,hct⟩:=h6 _ _ hx;obtain⟨u,hu1,hu2⟩:=hct j _ (zc hjl);exact⟨_,_,u,hx,zc hjl,hu1,hu2,o_,o_⟩
   have ho:∀i j,(off+i)*s+j=off*s+(i*s+j):=λi j=>by rw[xp]; omega
   have:=RV.sl (G:=G1) (w:=w) ys (some ⟨blk,off*s,none⟩) c s (λi j=>cur.getD ((off+i)*s+j) undef) o_ hcm (λh=>by cases h) (λi y hi=>?_) (λa i y j d ha hi hj=>?_) (λa i y j d ha hi hj=>?_) (λi y j d hi hj=>?_)
   ·rw[hl] at this; exact this
   ·have hil:i<ys.length:=(ze.1 hi).1;have hx:=zc (l:=b.xs) (i:=off+i) o_;rw[←hc i _ y hx hi];exact (h6 _ _ hx).1
   ·injection ha with ha
    subst ha;obtain⟨x,c,u,k1,k2,k3,k4,k5,k6⟩:=key i y j d hi hj;refine hz _ hb blk s h1 _ ?_;simp only;rw[←ho];have:(off+i+1)*s<=b.xs.length*s:=yr _ o_;rw[xp (off+i) 1] at this;omega
   ·injection ha with ha
    subst ha;obtain⟨x,c,u,k1,k2,k3,k4,k5,k6⟩:=key i y j d hi hj;have ha:(⟨blk,off*s,none⟩:Addr).add (i*s+j)=⟨blk,off*s+(i*s+j),none⟩:=(by unfold Addr.add; split<;>simp_all);rw[ha,E4 h2,←ho,k3];simp[zl,k3]
   ·obtain⟨x,c,u,k1,k2,k3,k4,k5,k6⟩:=key i y j d hi hj;have:cur.getD ((off+i)*s+j) undef=u:=by simp[zl,k3]
    simp only[this];exact ih i x y j c d k1 hi k2 hj k4
mutual
def AV.flatB:AV->Bool
 | .int _ _=>true
 | .bool _=>true
 | .str _=>true
 | .tup vs=>B3P vs
 | .agg vs=>B3P vs
 | _=>false
def B3P:List AV->Bool
 | []=>true
 | x::r=>x.flatB&&B3P r
end
def B0E{l:List AV}(h:B3P l=true){i:Nat}{x:AV}(hx:l[i]?=some x):x.flatB=true:=by
 induction l generalizing i with
 | nil=>simp at hx
 | cons y r ih =>
  simp only[B3P,yk] at h;cases i with
  | zero=>simp at hx; subst hx; exact h.1
  | succ i=>exact ih h.2 (v_ hx)
def RV.flat{G:Gh}{w:World}{x:AV}{v:Value}(h:RV G w x v):x.flatB=true->∀(G':Gh) (w':World),RV G' w' x v:=by
 induction h with
 | int k n=>intro _ _ _; exact .int k n
 | bool b=>intro _ _ _; exact .bool b
 | str s=>intro _ _ _; exact .str s
 | agg cs vs hl h ih=>intro hf G' w'; simp only[AV.flatB] at hf; exact .agg cs vs hl λi y hy=>ih i y hy (B0E hf hy) G' w'
 | tup cs vs hl h ih=>intro hf G' w'; simp only[AV.flatB] at hf; exact .tup cs vs hl λi y hy=>ih i y hy (B0E hf hy) G' w'
 | _=>intro hf; simp[AV.flatB] at hf
def A2.read{f:Nat}{args args':List AV}{rd:List (Nat×Bx)}{id:Nat}{res:AV}(h:A2 P f args' [] id res [])(hr:res.flatB=true)(hl:args.length=args'.length)(ha:∀(i:Nat) x y,args[i]?=some x->args'[i]?=some y->Rd rd x y):A2 P f args rd id res []:=by
 refine⟨h.1,λC G bx w vs nb hs hv hh hnb hid=>?_⟩;let G0:Gh:=⟨λb o=>∃u,w.cell? ⟨b,o,none⟩=some u,G.used,λ_=>none,λ_=>False⟩
 let C0:Cx P:=⟨w.heap.size,w,λb o=>∃u,w.cell? ⟨b,o,none⟩=some u,λ_ hb=>(C.tab w hs.below).below hb⟩
 have hs0:RS C0 G0 (λ_=>none) w:=⟨Below.refl _ w,zx _,λb o h=>h,λb o h _=>h,λid x hx=>(by cases hx),λid x hx=>(by cases hx),λid h=>h.elim,λid b s h=>(by cases h),λid id' b s s' h=>(by cases h),λid b s h=>(by cases h)⟩;have ev:L4 G w G0 w:=⟨λb o hf=>hs.fzok b o hf,λ_ _=>rfl,λ_ h=>h,λ_ _=>.inr rfl,λ_ _ h=>h.elim,λ_ b s _ hb=>by cases hb⟩;have hz:∀q∈rd,∀b s,G.bm q.1=some (b,s)->∀o,o<q.2.xs.length*s->G0.fz b o:=λq hq b s hb o ho=>by
  have hn:¬G.nl q.1:=λhn=>by rw[(hs.nlu _ hn).2] at hb; cases hb
  obtain⟨b',s',cur,e,h1,h2,h3,⟨h4,h5⟩,_⟩:=hs.box q.1 q.2 (hh q hq) hn;rw[hb] at h1;injection h1 with h1
  injection h1 with e1 e2
  subst e1 e2;exact⟨_,by rw[E4 h2]; exact yb o_⟩
 have hv0:RVs G0 w args' vs:=⟨hl▸hv.1,λi y hy=>by
  obtain⟨x,hx⟩:∃x,args[i]?=some x:=⟨_,zc (by rw[hl]; exact (ze.1 hy).1)⟩;exact A6M hs hh ev hz (ha i x y hx hy) (hv.2 i x hx)⟩
 obtain⟨_,hc⟩:=h;refine Calls.mono (hc C0 G0 (λ_=>none) w vs nb hs0 hv0 K8.nil hnb hid) λe w' hq=>?_;obtain⟨v,G',rfl,s1,e1,r1,u1⟩:=hq;have hb:=s1.below;have hblk:∀b,b<w.heap.size->w'.heap[b]?=w.heap[b]?:=λb h=>hb.block b h;have hlt:∀b o,G.fz b o->b<w.heap.size:=λb o h=>let ⟨u,hu⟩:=hs.fzok b o h; Y9 hu;have ev':L4 G w G w':=A1k (λb o h=>hblk b (hlt b o h)) λid b s h cur e hh=>⟨cur,by rw[hblk b (hs.rows id b s h)]; exact hh,rfl⟩;refine⟨v,G,rfl,?_,ev',RV.flat r1 hr G w',λx hx=>.inl hx⟩;have hsz:w.heap.size<=w'.heap.size:=hb.size;refine⟨hs.below.trans (hb.mono hs.size),tk hs.size hsz,λb o h=>?_,hs.fzold,λid x hx hn=>?_,hs.nil,hs.nlu,hs.used,hs.inj,λid b s h=>ui (hs.rows id b s h) hsz⟩
 ·obtain⟨u,hu⟩:=hs.fzok b o h;exact⟨u,by rw[World.cell?_of_block (hblk b (hlt b o h))]; exact hu⟩
 ·obtain⟨b,s,cur,e,h1,h2,h3,h4,h5,h6⟩:=hs.box id x hx hn;exact⟨b,s,cur,e,h1,by rw[hblk b (hs.rows id b s h1)]; exact h2,h3,h4,h5.mono ev',h6⟩
def RS.freezeZ(hs:RS C G bx w){id:Nat}{x:Bx}(hx:bx id=some x)(hro:x.ro=false):
  ∃G',RS C G' (T6 bx id (some { x with frz:=true })) w/\L4 G w G' w/\(∀i,G'.used i->G.used i)/\G'.bm=G.bm/\∀b s,G.bm id=some (b,s)->∀o,o<x.xs.length*s->G'.fz b o:=by
 by_cases hn:G.nl id
 ·have h0:=(hs.nil id x hx hn).1;refine⟨G,⟨hs.below,hs.size,hs.fzok,hs.fzold,λi y hy hn'=>?_,λi y hy hn'=>?_,hs.nlu,hs.used,hs.inj,hs.rows⟩,L4.refl G w,λ_ h=>h,rfl,λb s hb=>by rw[(hs.nlu _ hn).2] at hb; cases hb⟩
  ·have hi:i≠id:=λhi=>hn' (hi▸hn);rw[B6 _ _ _ hi] at hy;exact hs.box i y hy hn'
  ·by_cases hi:i=id
   ·subst hi;rw[C7] at hy;injection hy with hy
    subst hy;exact⟨h0,hro⟩
   ·rw[B6 _ _ _ hi] at hy;exact hs.nil i y hy hn'
 ·obtain⟨b,s,cur,e,h1,h2,h3,⟨h4,h5⟩,h6,h7,h8⟩:=hs.box id x hx hn;have hB:=h3 hro;have ev:L4 G w (G.keep b (x.xs.length*s)) w:=L4.keep b _;refine⟨G.keep b (x.xs.length*s),⟨hs.below,hs.size,λb' o hf=>?_,λb' o hf hb=>?_,λi y hy hn'=>?_,λi y hy hn'=>?_,hs.nlu,hs.used,hs.inj,hs.rows⟩,ev,λ_ h=>h,rfl,λb' s' hb o ho=>?_⟩
  ·rcases hf with hf|⟨rfl,ho⟩
   ·exact hs.fzok b' o hf
   ·exact⟨_,by rw[E4 h2]; exact yb o_⟩
  ·rcases hf with hf|⟨rfl,ho⟩
   ·exact hs.fzold b' o hf hb
   ·omega
  ·by_cases hi:i=id
   ·subst hi;rw[C7] at hy;injection hy with hy
    subst hy;exact⟨b,s,cur,e,h1,h2,h3,⟨h4,h5⟩,h6.mono ev,λh=>(by cases h),λo ho=>ho.elim (h8 o) λh=>h.2⟩
   ·rw[B6 _ _ _ hi] at hy;obtain⟨b2,s2,cur2,e2,k1,k2,k3,k4,k5,k6,k7⟩:=hs.box i y hy hn';have hne:b2≠b:=λhbb=>hi (hs.inj i id b2 s2 s k1 (hbb▸h1));exact⟨b2,s2,cur2,e2,k1,k2,k3,k4,k5.mono ev,λhf o ho=>ho.elim (k6 hf o) λh=>hne h.1,λo ho=>ho.elim (k7 o) λh=>(hne h.1).elim⟩
  ·by_cases hi:i=id
   ·subst hi; exact (hn hn').elim
   ·rw[B6 _ _ _ hi] at hy;exact hs.nil i y hy hn'
  ·rw[h1] at hb;injection hb with hb
   injection hb with e1 e2
   subst e1 e2;exact .inr ⟨rfl,ho⟩
def freezeZ:∀(l:List (Nat×Bx)) {G:Gh} {bx:Nat->Option Bx},RS C G bx w->(∀p∈l,(bx p.1=some p.2\/bx p.1=some { p.2 with frz:=true })/\p.2.ro=false) ->
  ∃G',RS C G' (F6 bx (wrF l)) w/\L4 G w G' w/\(∀i,G'.used i->G.used i)/\G'.bm=G.bm/\∀q∈l,∀b s,G.bm q.1=some (b,s)->∀o,o<q.2.xs.length*s->G'.fz b o
 | [],G,bx,hs,_=>⟨G,hs,L4.refl G w,λ_ h=>h,rfl,λp hp=>by cases hp⟩
 | (i,b)::r,G,bx,hs,hl=>by
  obtain⟨hb,hro⟩:=hl (i,b) s_;simp only at hb hro;have key:∃G1,RS C G1 (T6 bx i (some { b with frz:=true })) w/\L4 G w G1 w/\(∀i,G1.used i->G.used i)/\G1.bm=G.bm/\∀blk s,G.bm i=some (blk,s)->∀o,o<b.xs.length*s->G1.fz blk o:=by
   rcases hb with hb|hb
   ·exact hs.freezeZ hb hro
   ·exact hs.freezeZ (x:={ b with frz:=true }) hb hro
  obtain⟨G1,s1,e1,u1,m1,k1⟩:=key;obtain⟨G2,s2,e2,u2,m2,k2⟩:=freezeZ r s1 λp hp=>by
   obtain⟨h1,h2⟩:=hl p (t_ hp);refine⟨?_,h2⟩;by_cases hi:p.1=i
   ·obtain⟨j,c⟩:=p;simp only at hi h1 h2 ⊢;subst hi;rw[C7];right
    rcases hb with hb|hb<;>rcases h1 with h1|h1<;>rw[hb] at h1<;>injection h1 with h1
    ·rw[h1]
    ·rw[h1]
    ·rw[←h1]
    ·have:b.xs=c.xs/\b.d=c.d/\b.ro=c.ro:=by injection h1 with q1 q2 q3; exact⟨q1,q2,q3⟩
     obtain⟨q1,q2,q3⟩:=this;rw[q1,q2,q3]
   ·rw[B6 _ _ _ hi]; exact h1
  refine⟨G2,s2,e1.trans e2,λi h=>u1 i (u2 i h),m2.trans m1,λp hp blk s hbm o ho=>?_⟩;rcases zi.1 hp with rfl|hp
  ·exact e2.fz _ _ (k1 blk s hbm o ho)
  ·exact k2 p hp blk s (by rw[m1]; exact hbm) o ho
end
def A2o{bx:Nat->Option Bx}{y:Nat}:∀{l:List (Nat×Bx)},(∀q∈l,q.1≠y)->F6 bx (wrF l) y=bx y
 | [],_=>rfl
 | (i,b)::l,h=>by
  simp only[wrF,F6];rw[A2o (l:=l) λq hq=>h q (zb _ hq)];exact B6 _ _ _ (λe=>h (i,b) (za ..) e.symm)
def A1T{y:Nat}:∀{l:List (Nat×Option Bx)},K6 y l↔∃q∈l,q.1=y
 | []=>by simp[K6]
 | (i,b)::l=>by
  simp only[K6,A1T (l:=l),zi];constructor
  ·rintro (rfl|⟨q,hq,rfl⟩)
   ·exact⟨_,.inl rfl,rfl⟩
   ·exact⟨q,.inr hq,rfl⟩
  ·rintro⟨q,rfl|hq,rfl⟩
   ·exact .inl rfl
   ·exact .inr ⟨q,hq,rfl⟩
def C0X{y:Nat}{b:Bx}:∀{l:List (Nat×Option Bx)},bk l y=some b->K6 y l
 | [],h=>by cases h
 | (i,c)::l,h=>by
  simp only[bk] at h;split at h
  ·rename_i e; exact .inl e
  ·exact .inr (C0X h)
section
variable {E:O8} {σ:St}
end
def A2.more{P:Program}{f:Nat}{args:List AV}{rd rd':List (Nat×Bx)}{id:Nat}{res:AV}{wr:List (Nat×Option Bx)}(h:A2 P f args rd id res wr)(hm:∀q∈rd,q∈rd'):A2 P f args rd' id res wr :=
 ⟨h.1,λC G bx w vs nb hs hv hh hnb hid=>h.2 C G bx w vs nb hs hv (λq hq=>hh q (hm q hq)) hnb hid⟩
def A04.of{B:Nat->Option Bx}:∀{l:List (Nat×Bx)},K8 B l->A04 B l
 | [],_=>trivial
 | (i,b)::l,h=>⟨h (i,b) (za ..),A04.of λq hq=>h q (zb _ hq)⟩
def A4F:∀(wr l:List (Nat×Option Bx)),bk (t7 l wr)=F6 (bk l) wr
 | [],_=>rfl
 | (i,b)::r,l=>by
  rw[t7,A4F r];rfl
def C3t{P:Program}{f:Nat}{fn:Func}{c:Code}{crs:List t8}{args:List AV}{rd:List (Nat×Bx)}{id:Nat}{res:AV}{wr:List (Nat×Option Bx)}
  (hf : P.funcs[f]? = some fn) (hb : fn.body = some c) (hnm : (fn.name == "runtime.NumGoroutine") = false) (hrs : N9 P fn.results.toList = some crs) (hN : args.length <= fn.ntmps)
  (h:∀E:O8,E.P=P->E.N=fn.ntmps->E.Rt=A27 E.n0 id E.G0.used crs rd res wr->(∀q∈rd,q.1<E.n0/\(q.1<id\/id+1024<=q.1))->id+1024<=E.n0->K8 E.β rd->(∀z,E.G0.used z->z<id\/id+1024<=z)->Wk E [.code (C9 P fn.ntmps c)] ⟨A1g 0 args,D4 rd,0⟩):A2 P f args rd id res wr :=
 B1R (o:=.ok (res,wr)) (λn0 S=>A27 n0 id S crs rd res wr) (λ_ _ _=>False) hf hb hnm hrs hN (λ_ _ _ h=>⟨_,rfl,h⟩) (λ_ _ _ h=>h.elim) λE h1 h2 h3 _ h5 h6 h7 h8=>h E h1 h2 h3 h5 h6 h7 h8
def C6K{P:Program}{f:Nat}{fn:Func}{cc:CC}{crs:List t8}{args:List AV}{rd:List (Nat×Bx)}{id:Nat}{res:AV}{wr:List (Nat×Option Bx)}
  (hf : P.funcs[f]? = some fn) (hcc : fn.body.map (C9 P fn.ntmps) = some cc) (hnm : (fn.name == "runtime.NumGoroutine") = false) (hrs : N9 P fn.results.toList = some crs) (hN : args.length <= fn.ntmps)
  (h:∀E:O8,E.P=P->E.Rt=A27 E.n0 id E.G0.used crs rd res wr->(∀q∈rd,q.1<E.n0/\(q.1<id\/id+1024<=q.1))->id+1024<=E.n0->K8 E.β rd->(∀z,E.G0.used z->z<id\/id+1024<=z)->Wk E [.code cc] ⟨A1g 0 args,D4 rd,0⟩):A2 P f args rd id res wr:=by
 obtain⟨c,hb,rfl⟩:=zn.1 hcc;exact C3t hf hb hnm hrs hN λE h1 _ h3 h4 h5 h6 h7=>h E h1 h3 h4 h5 h6 h7
section
variable {E:O8} {σ:St}
theorem C1{rd:List (Nat×Bx)}(hh:K8 E.β rd){j:Nat}{b:Bx}(h:(j,b)∈rd):∀x∈b.xs,B2 E.G0.used x:=λx hx=>by
 obtain⟨i,hi⟩:=yi.1 hx;exact (E.rs0.boxNames (hh _ h)).2 i x hi
theorem B6f{id:Nat}(hu:∀z,E.G0.used z->z<id\/id+1024<=z){n:Nat}{rn:List (Nat×Nat)}{hrn:F7 rn}(hk:∀z,z<E.n0->(z<id\/id+1024<=z)->lkN rn z=none):∀z,E.G0.used z->(P2 n rn hrn).fix E.G0.used z:=λz hz=>by
 rcases A4A (n0:=n) (hk z (E.old z hz) (hu z hz)) with h|h
 ·exact .inr ⟨h,hz⟩
 ·exact .inl h
theorem A3X{id:Nat}(hu:∀z,E.G0.used z->z<id\/id+1024<=z){n:Nat}{rn:List (Nat×Nat)}{hrn:F7 rn}{x:AV}(hx:B2 E.G0.used x)(hk:∀z,z<E.n0->(z<id\/id+1024<=z)->lkN rn z=none):O3 (P2 n rn hrn) E.G0.used x x :=
 .same x (L7 (B6f hu hk) x hx)
theorem m8{id:Nat}(hu:∀z,E.G0.used z->z<id\/id+1024<=z){n:Nat}{rn:List (Nat×Nat)}{hrn:F7 rn}(hk:∀z,z<E.n0->(z<id\/id+1024<=z)->lkN rn z=none):∀{l:List AV},(∀x∈l,B2 E.G0.used x)->N8 (P2 n rn hrn) E.G0.used l l
 | [],_=>.nil
 | x::l,h=>.cons x x l l (A3X hu (h x (za ..)) hk) (m8 hu hk λy hy=>h y (zb _ hy))
end
def A2.nil{P:Program}{f:Nat}{z:AV}{args:List AV}{rd:List (Nat×Bx)}{id:Nat}{res:AV}{wr:List (Nat×Option Bx)}
  (h:∀T,(∀q∈rd,q.1≠T)->(T<id\/id+1024<=T)->A2 P f (.bsl T 0 0::args) ((T,⟨[],z,false,false⟩)::rd) id res ((T,none)::wr))
  (hw:∀q∈wr,(id<=q.1/\q.1<id+1024)/\∀b,q.2=some b->∀x∈b.xs,x.pureB=true) (hr:B2 (λx=>id<=x/\x<id+1024) res):A2 P f (.nils::args) rd id res wr:=by
 obtain⟨T0,hT0⟩:∃T0,∀q∈rd,q.1<T0:=by
  clear h hw hr;induction rd with
  | nil=>exact⟨0,λq hq=>(by cases hq)⟩
  | cons p l ih =>
   obtain⟨T1,h1⟩:=ih;exact⟨max T1 (p.1+1),λq hq=>by
    rcases zi.1 hq with rfl|hq
    ·omega
    ·have:=h1 q hq; omega⟩
 refine⟨(h (id+1024+T0) (λq hq=>by have:=hT0 q hq; omega) o_).1,λC G bx w vs nb hs hv hh hnb hid=>?_⟩;let T:=max nb (id+1024)
 have hT:¬G.used T:=hnb T (Nat.le_max_left ..);have hlt:∀x,G.used x->x<T:=λx hx=>by
  rcases yd x nb with h|h
  ·exact ui h (Nat.le_max_left ..)
  ·exact (hnb x h hx).elim
 obtain⟨r1,r2,r3⟩:=hs.void hT z false;have hu1:∀x,(G.void T).used x->x=T\/G.used x:=λx hx=>hx;have hne:∀q∈rd,q.1≠T:=λq hq e=>hT (e▸(hs.boxNames (hh q hq)).1);obtain⟨hl,hvv⟩:=hv;obtain⟨_,hc⟩:=h T hne (.inr (ru ..));have hv':RVs (G.void T) w (.bsl T 0 0::args) vs:=⟨hl,λi y hy=>by
  cases i with
  | zero =>
   simp only[yn,zd] at hy;subst hy;have:=hvv 0 .nils rfl;generalize vs.getD 0 undef=u at this ⊢;cases this
   exact r3
  | succ i=>exact (hvv (i+1) y (v_ hy)).mono r2⟩
 have hh':K8 (T6 bx T (some ⟨[],z,false,false⟩)) ((T,⟨[],z,false,false⟩)::rd):=λq hq=>by
  rcases zi.1 hq with rfl|hq
  ·exact C7 ..
  ·rw[B6 _ _ _ (hne q hq)]; exact hh q hq
 refine Calls.mono (hc C (G.void T) _ w vs (T+1) r1 hv' hh' (λx hx hux=>?_) (λx h1 h2 hux=>?_)) λe w' hq=>?_
 ·rcases hu1 x hux with rfl|h'
  ·omega
  ·have:=hlt x h'; omega
 ·rcases hu1 x hux with e|h'
  ·have:id+1024<=T:=ru ..;omega
  ·exact hid x h1 h2 h'
 obtain⟨v,G',rfl,s1,e1,q1,u1⟩:=hq;have hbT:bx T=none:=by
  cases hb:bx T with
  | none=>rfl
  | some b=>exact (hT (hs.boxNames hb).1).elim
 have hupd:T6 (T6 bx T (some ⟨[],z,false,false⟩)) T none=bx:=by
  funext y
  by_cases hy:y=T
  ·subst hy; rw[C7,hbT]
  ·rw[B6 _ _ _ hy,B6 _ _ _ hy]
 have s2:RS C G' (F6 bx wr) w':=by
  have:=s1;simp only[F6] at this;rw[hupd] at this;exact this
 have hρ:∀x,x<T->(P2 T [] trivial).ρ x=some x:=λx hx=>by
  show rnF T [] x=some x;unfold rnF;simp[lkN,T7,hx]
 have hid':id+1024<=T:=ru ..;have hfix:∀x,G.used x->(P2 T [] trivial).ρ x=some x\/(P2 T [] trivial).ρ x=none:=λx hx=>.inl (hρ x (hlt x hx));refine⟨v,G'.ren (P2 T [] trivial) G.used,rfl,s2.ren λy b' hy=>?_,L4.ren (r2.trans e1) hfix,q1.ren (.same _ (L7 (λz hz=>.inl (hρ z o_)) _ hr)),λy hy=>?_⟩
 ·by_cases hk:y∈O7 wr
  ·have hlt':y<T:=by
    obtain⟨q,hq,rfl⟩:∃q∈wr,q.1=y:=by
     have:∀l:List (Nat×Option Bx),y∈O7 l->∃q∈l,q.1=y:=λl=>by
      induction l with
      | nil=>intro h; cases h
      | cons p l ih =>
       intro h;obtain⟨i,b⟩:=p;rcases zi.1 h with rfl|h
       ·exact⟨_,za ..,rfl⟩
       ·obtain⟨q,h1,h2⟩:=ih h; exact⟨q,zb _ h1,h2⟩
     exact this wr hk
    have:=(hw q hq).1; omega
   refine⟨y,b',hρ y hlt',hy,BxR.same λi x hx=>?_⟩;have hq:∀(l:List (Nat×Option Bx)) (B:Nat->Option Bx),y∈O7 l->F6 B l y=some b'->∃q∈l,q.2=some b':=λl=>by
    induction l with
    | nil=>intro B h; cases h
    | cons p l ih =>
     intro B h1 h2;obtain⟨i',b⟩:=p;by_cases hk':y∈O7 l
     ·obtain⟨q,g1,g2⟩:=ih (T6 B i' b) hk' h2;exact⟨q,zb _ g1,g2⟩
     ·rcases zi.1 h1 with rfl|h1
      ·simp only[F6] at h2;rw[Q0 hk',C7] at h2;exact⟨_,za ..,h2⟩
      ·exact (hk' h1).elim
   obtain⟨q,hqm,hqb⟩:=hq wr bx hk hy;exact H7 _ ((hw q hqm).2 b' hqb x (zg hx))
  ·rw[Q0 hk] at hy;have hub:=hs.boxNames hy;exact⟨y,b',hρ y (hlt y hub.1),by rw[Q0 hk]; exact hy,BxR.same λi x hx=>L7 (λz hz=>.inl (hρ z (hlt z hz))) x (hub.2 i x hx)⟩
 ·rcases hy with⟨x,hx,hu⟩|hy
  ·have hx':rnF T [] y=some x:=hx;unfold rnF at hx';simp only[lkN,T7] at hx';split at hx'
   ·rename_i hyT;simp at hx';subst hx';rcases u1 _ hu with h1|h1
    ·rcases hu1 _ h1 with e|h1
     ·omega
     ·exact .inl h1
    ·exact .inr h1
   ·cases hx'
  ·exact .inl hy
def C0Y{β:Nat->Option Bx}{y:Nat}:∀{l:List (Nat×Option Bx)},K6 y l->ov β l y=bk l y
 | [],h=>h.elim
 | (i,b)::l,h=>by
  simp only[ov,bk];by_cases e:y=i
  ·subst e; rw[C7,zj rfl]
  ·rw[B6 _ _ _ e,zf e];exact C0Y (h.resolve_left e)
structure B8K(n0:Nat)(L:List (Nat×Bx))(bx M:List (Nat×Option Bx)):Prop where
 kept:∀y b,bk M y=some b->bk bx y=some b/\∀q∈L,q.1≠y
 cov:∀q∈bx,n0<=q.1\/K6 q.1 M
section
variable {E:O8} {σ:St}
theorem B8K.weak{L:List (Nat×Bx)}{bx M:List (Nat×Option Bx)}(h:B8K E.n0 L bx M)(hL:∀q∈L,bk bx q.1=some q.2){y:Nat}{b:Bx}(hb:ov E.β M y=some b):F6 (ov E.β bx) (wrF L) y=some b:=by
 by_cases hk:K6 y M
 ·rw[C0Y hk] at hb;obtain⟨h1,h2⟩:=h.kept y b hb;rw[A2o h2];exact P5 E.β h1
 ·rw[A3T hk] at hb;have hlt:y<E.n0:=by
   rcases yd y E.n0 with h|h
   ·exact h
   ·rw[E.own y h] at hb; cases hb
  have hno:¬K6 y bx:=λh'=>by
   obtain⟨q,hq,rfl⟩:=A1T.1 h';rcases h.cov q hq with h1|h1
   ·omega
   ·exact hk h1
  rw[A2o λq hq e=>by subst e; exact hno (C0X (hL q hq)),A3T hno];exact hb
theorem D9.deepL(n:Nat)(L:List (Nat×Bx))(M:List (Nat×Option Bx)){x y:AV}(hx:lk σ.fr n=some (true,x))(hL:∀q∈L,bk σ.bx q.1=some q.2/\q.2.ro=false)(hr:Rd L x y)(hK:B8K E.n0 L σ.bx M):D9 E σ ⟨(n,true,y)::σ.fr,M,σ.k⟩:=λG a w hD=>by
 have hLo:K8 (ov E.β σ.bx) L:=λq hq=>P5 E.β (hL q hq).1;obtain⟨G1,q1,q2,q3,q4,q5⟩:=freezeZ L hD.rs λq hq=>⟨.inl (hLo q hq),(hL q hq).2⟩;have hxr':RV G1 w y (a.tmps.getD n undef):=A6M hD.rs hLo q2 q5 hr ((hD.fr n true x hx).1 rfl);refine⟨G1,hD.ev.trans q2,RS.weak q1 λid b hb=>hK.weak (λq hq=>(hL q hq).1) hb,λid h=>hD.used id (q3 id h),λid hi h=>hD.old id hi (q3 id h),λm c v hm=>?_,hD.size,hD.defers⟩;simp only[lk] at hm;split at hm
 ·rename_i he;subst he;simp only[zd,zh] at hm;obtain⟨rfl,rfl⟩:=hm;exact⟨λ_=>hxr',λh=>by cases h⟩
 ·exact⟨λhc=>((hD.fr m c v hm).1 hc).mono q2,(hD.fr m c v hm).2⟩
theorem D9.deepBox(j:Nat)(L:List (Nat×Bx))(M:List (Nat×Option Bx)){b:Bx}{x y:AV}(hb:bk σ.bx j=some b)(hx:b.xs=[x])(hc:x.cells.length=y.cells.length)(hr:∀(m:Nat) c d,x.cells[m]?=some c->y.cells[m]?=some d->Rd L c d)
  (hL:∀q∈L,bk σ.bx q.1=some q.2/\q.2.ro=false) (hK:B8K E.n0 L σ.bx M) (hj:∀q∈L,q.1≠j):D9 E σ ⟨σ.fr,(j,some { b with xs:=[y] })::M,σ.k⟩:=λG a w hD=>by
 have hLo:K8 (ov E.β σ.bx) L:=λq hq=>P5 E.β (hL q hq).1;obtain⟨G1,q1,q2,q3,q4,q5⟩:=freezeZ L hD.rs λq hq=>⟨.inl (hLo q hq),(hL q hq).2⟩;have hbj:=P5 E.β hb;have hK':B8K E.n0 L σ.bx ((j,some b)::M):=⟨λz c hz=>by
  simp only[bk] at hz;split at hz
  ·rename_i e; subst e; injection hz with hz; subst hz; exact⟨hb,hj⟩
  ·exact hK.kept z c hz,λq hq=>(hK.cov q hq).imp _root_.id .inr⟩
 have r1:RS E.C G1 (ov E.β ((j,some b)::M)) w:=RS.weak q1 λid b hb=>hK'.weak (λq hq=>(hL q hq).1) hb;have hbj1:ov E.β ((j,some b)::M) j=some b:=by simp only[ov,C7]
 have r4:RS E.C G1 (ov E.β ((j,some { b with xs:=[y] })::M)) w:=by
  refine⟨r1.below,r1.size,r1.fzok,r1.fzold,λi b' hi hn=>?_,λi b' hi hn=>?_,r1.nlu,r1.used,r1.inj,r1.rows⟩
  ·by_cases hij:i=j
   ·subst hij;simp only[ov,C7,zd] at hi;subst hi;obtain⟨blk,s,cur,e,k1,k2,k3,k4,k5,k6,k7⟩:=r1.box i b hbj1 hn;have hn0:¬G.nl i:=hD.rs.lies hbj (i:=0) (y:=x) (by rw[hx]; rfl);obtain⟨blk',s',cur',e',m1,m2,m3,m4,m5,m6,m7⟩:=hD.rs.box i b hbj hn0;rw[q4,m1] at k1;injection k1 with k1
    injection k1 with e1 e2
    subst e1 e2;rw[m2] at k2;injection k2 with k2
    injection k2 with e1 e2
    subst e1 e2;have hlen:b.xs.length=1:=(by rw[hx]; rfl);refine⟨blk',s',cur',e',by rw[q4]; exact m1,m2,k3,⟨k4.1,by have:=k4.2; rw[hlen] at this; exact this⟩,λi' y' hy'=>?_,k6,by have:=k7; rw[hlen] at this; exact this⟩;cases i' with
    | succ i'=>simp at hy'
    | zero =>
     simp only[yn,zd] at hy';subst hy';obtain⟨d1,d2⟩:=m5 0 x (by rw[hx]; rfl);refine⟨hc.symm.trans d1,λm z hz=>?_⟩;obtain⟨z0,hz0⟩:∃z0,x.cells[m]?=some z0:=⟨_,zc (by rw[hc]; exact (ze.1 hz).1)⟩;obtain⟨u,hu1,hu2⟩:=d2 m z0 hz0;exact⟨u,hu1,A6M hD.rs hLo q2 q5 (hr m z0 z hz0 hz) hu2⟩
   ·simp only[ov,B6 _ _ _ hij] at hi;exact r1.box i b' (by simp only[ov,B6 _ _ _ hij]; exact hi) hn
  ·by_cases hij:i=j
   ·subst hij;exfalso;have:=(r1.nil i b hbj1 hn).1;rw[hx] at this; cases this
   ·simp only[ov,B6 _ _ _ hij] at hi;exact r1.nil i b' (by simp only[ov,B6 _ _ _ hij]; exact hi) hn
 exact⟨G1,hD.ev.trans q2,r4,λid h=>hD.used id (q3 id h),λid hi h=>hD.old id hi (q3 id h),λm c v hm=>⟨λhc=>((hD.fr m c v hm).1 hc).mono q2,(hD.fr m c v hm).2⟩,hD.size,hD.defers⟩
theorem D9.stay{σ':St}(hk:σ.k<=σ'.k)(hf:∀n c v,lk σ'.fr n=some (c,v)->lk σ.fr n=some (c,v))(hb:∀y b,bk σ'.bx y=some b->bk σ.bx y=some b)(hc:∀q∈σ.bx,E.n0<=q.1\/K6 q.1 σ'.bx):D9 E σ σ':=λG a w hD=>by
 have hK:B8K E.n0 [] σ.bx σ'.bx:=⟨λy b h=>⟨hb y b h,λq hq=>by cases hq⟩,hc⟩;exact⟨G,hD.ev,RS.weak hD.rs λid b h=>hK.weak (λq hq=>by cases hq) h,λid h=>by have:=hD.used id h; omega,hD.old,λn c v h=>hD.fr n c v (hf n c v h),hD.size,hD.defers⟩
end
def W6(rd:List (Nat×Bx)):List (Nat×Option Bx):=rd.map λq=>(q.1,none)
def C0Z(rd:List (Nat×Bx))(y:Nat):bk (W6 rd) y=none:=by
 induction rd with
 | nil=>rfl
 | cons q l ih =>
  simp only[W6,yg,bk] at ih ⊢;split
  ·rfl
  ·exact ih
def B1V{rd:List (Nat×Bx)}{q:Nat×Bx}(h:q∈rd):K6 q.1 (W6 rd):=A1T.2 ⟨(q.1,none),zw.2 ⟨q,h,rfl⟩,rfl⟩
def A8P{f:Nat->Option Bx}{y:Nat}:∀{rd:List (Nat×Bx)},(y∈rd.map Prod.fst\/f y=none)->F6 f (W6 rd) y=none
 | [],h=>by
  rcases h with h|h
  ·cases h
  ·exact h
 | q::l,h=>by
  show F6 (T6 f q.1 none) (W6 l) y=none;refine A8P ?_;by_cases e:y=q.1
  ·right; rw[e,C7]
  ·rcases h with h|h
   ·rcases zi.1 h with h|h
    ·exact (e h).elim
    ·exact .inl h
   ·right; rw[B6 _ _ _ e]; exact h
def B0F{R:Rn}{S:Nat->Prop}{bx':List (Nat×Option Bx)}{fin:Nat->Option Bx}:∀{l:List Nat},(∀y∈l,fin y=none)->A2L R S bx' fin l
 | [],_=>trivial
 | y::l,h=>⟨by rw[h y (za ..)]; trivial,B0F λz hz=>h z (zb _ hz)⟩
def A79{id:Nat}{rd':List (Nat×Option Bx)}:∀{rd:List (Nat×Bx)},(∀q∈rd,K6 q.1 rd')->A4o id rd' (W6 rd)
 | [],_=>trivial
 | q::l,h=>⟨.inl (h q (za ..)),A79 λz hz=>h z (zb _ hz)⟩
def B0G{n0:Nat}{bx':List (Nat×Option Bx)}:∀{l:List (Nat×Option Bx)},(∀q∈l,n0<=q.1\/K6 q.1 bx')->I8 n0 bx' l
 | [],_=>trivial
 | (x,b)::l,h=>⟨h _ (za ..),B0G λq hq=>h q (zb _ hq)⟩
def B0H{n0 id:Nat}{S:Nat->Prop}{rd:List (Nat×Bx)}{res:AV}{vs:List AV}{bx':List (Nat×Option Bx)}(h:tupOf vs=res)(hp:res.pureB=true)(hd:∀q∈bx',n0<=q.1\/q.1∈rd.map Prod.fst):B1Q n0 id S rd res (W6 rd) vs bx' [] trivial:=by
 have hkey:∀y,y∈rd.map Prod.fst->K6 y (D4 rd):=λy hy=>by
  obtain⟨q,hq,rfl⟩:=zw.1 hy;exact R4.2 (zw.2 ⟨q,hq,rfl⟩)
 refine⟨by rw[h]; exact .same _ (H7 _ hp),B0F λy hy=>A8P (.inl ?_),B0G λq hq=>(hd q hq).imp _root_.id (hkey _),A79 λq hq=>hkey _ (zw.2 ⟨q,hq,rfl⟩),trivial,trivial⟩;rcases zr.1 hy with hy|hy
 ·exact hy
 ·simpa [O7,W6] using hy
def A3Y{P:Program}{f:Nat}{fn:Func}{cc:CC}{crs:List t8}{args:List AV}{rd:List (Nat×Bx)}{id:Nat}{o:Except AV (AV×List (Nat×Option Bx))}
  (hf : P.funcs[f]? = some fn) (hcc : fn.body.map (C9 P fn.ntmps) = some cc) (hnm : (fn.name == "runtime.NumGoroutine") = false) (hrs : N9 P fn.results.toList = some crs) (hN : args.length <= fn.ntmps)
  (h:∀E:O8,E.P=P->(∀v wr σ,o = .ok (v,wr)->A27 E.n0 id E.G0.used crs rd v wr σ->E.Rt σ)->(∀pv σ,o = .error pv->pv.pureB=true->I8 E.n0 (D4 rd) σ.bx->E.Pn pv σ)->(∀q∈rd,q.1<E.n0/\(q.1<id\/id+1024<=q.1))->id+1024<=E.n0->K8 E.β rd->(∀z,E.G0.used z->z<id\/id+1024<=z)->Wk E [.code cc] ⟨A1g 0 args,D4 rd,0⟩):Z0 P f args rd id o:=by
 obtain⟨c,hb,rfl⟩:=zn.1 hcc;exact B1R (o:=o) (λn0 S σ=>∃q,o = .ok q/\A27 n0 id S crs rd q.1 q.2 σ) (λn0 pv σ=>o = .error pv/\pv.pureB=true/\I8 n0 (D4 rd) σ.bx) hf hb hnm hrs hN (λ_ _ _ h=>h) (λ_ _ _ h=>h)
  λE h1 h2 h3 h4 h5 h6 h7 h8=>h E h1 (λv wr σ ho hr=>by rw[h3]; exact⟨_,ho,hr⟩) (λpv σ ho hp hd=>by rw[h4]; exact⟨ho,hp,hd⟩) h5 h6 h7 h8
section
variable {E:O8} {σ:St} {k:List Itm} {P:Program}
theorem D6(hP:E.P=P){dst:Option Nat}{us:List Nat}{f:Nat}{xs:List L5}{l:List CR}{j:Nat}{acc:List RR}{ps:List (Nat×Nat)}{args:List AV}{rd:List (Nat×Bx)}{o:Except AV (AV×List (Nat×Option Bx))}
  (ha:xs.map (M2 (lk σ.fr))=args) (hc:Z0 P f args rd (E.n0+(σ.k+1024*j)) o) (hu:A28 (lk σ.fr) us) (hh:A04 (bk σ.bx) rd)
  (he:∀pv,o = .error pv->A8L ((⟨true,.nili,rd,goL rd⟩::acc).reverse) j ps/\E.Pn pv ⟨σ.fr,t7 σ.bx (goL rd),σ.k⟩)
  (h:∀v wr,o = .ok (v,wr)->Wk E (.ops l (j+1) (A1R ps ⟨true,v,rd,wr⟩ acc) ps::k) (σ.app dst ⟨true,v,rd,wr⟩)):Wk E (.ops (⟨dst,none,us,.call f xs⟩::l) j acc ps::k) σ:=by
 cases o with
 | ok q=>exact E5 hP ha hc hu hh (h q.1 q.2 rfl)
 | error pv =>
  subst hP ha;refine C0I (pv:=pv) (r:=⟨true,.nili,rd,goL rd⟩) ⟨trivial,rfl,.call f xs _ _ hu (.inl ⟨⟨?_,rfl⟩,hh.has⟩)⟩ (he pv rfl).1 (he pv rfl).2;rw[yv]; exact hc
theorem A2P(hP:E.P=P){dst:Option Nat}{us:List Nat}{f:Nat}{caps:List AV}{x:L5}{xs:List L5}{l:List CR}{j:Nat}{acc:List RR}{ps:List (Nat×Nat)}{args:List AV}{rd:List (Nat×Bx)}{o:Except AV (AV×List (Nat×Option Bx))}
  (hx:M2 (lk σ.fr) x = .fn f caps) (ha:xs.map (M2 (lk σ.fr))=args) (hc:Z0 P f (args++caps) rd (E.n0+(σ.k+1024*j)) o) (hu:A28 (lk σ.fr) us) (hh:A04 (bk σ.bx) rd)
  (he:∀pv,o = .error pv->A8L ((⟨true,.nili,rd,goL rd⟩::acc).reverse) j ps/\E.Pn pv ⟨σ.fr,t7 σ.bx (goL rd),σ.k⟩)
  (h:∀v wr,o = .ok (v,wr)->Wk E (.ops l (j+1) (A1R ps ⟨true,v,rd,wr⟩ acc) ps::k) (σ.app dst ⟨true,v,rd,wr⟩)):Wk E (.ops (⟨dst,none,us,.callv x xs⟩::l) j acc ps::k) σ:=by
 cases o with
 | ok q=>exact E8 hP hx ha hc hu hh (h q.1 q.2 rfl)
 | error pv =>
  subst hP ha;refine C0I (pv:=pv) (r:=⟨true,.nili,rd,goL rd⟩) ⟨trivial,rfl,.callv x xs f caps _ _ hu hx (.inl ⟨⟨?_,rfl⟩,hh.has⟩)⟩ (he pv rfl).1 (he pv rfl).2;rw[yv]; exact hc
theorem C0a(hP:E.P=P){dst:Option Nat}{us:List Nat}{f:Nat}{caps:List AV}{x:L5}{xs:List L5}{l:List CR}{j:Nat}{acc:List RR}{ps:List (Nat×Nat)}{args:List AV}{rd:List (Nat×Bx)}{o:Except AV (AV×List (Nat×Option Bx))}
  (hx:M2 (lk σ.fr) x = .fnb f caps) (ha:xs.map (M2 (lk σ.fr))=args) (hc:Z0 P f (caps++args) rd (E.n0+(σ.k+1024*j)) o) (hu:A28 (lk σ.fr) us) (hh:A04 (bk σ.bx) rd)
  (he:∀pv,o = .error pv->A8L ((⟨true,.nili,rd,goL rd⟩::acc).reverse) j ps/\E.Pn pv ⟨σ.fr,t7 σ.bx (goL rd),σ.k⟩)
  (h:∀v wr,o = .ok (v,wr)->Wk E (.ops l (j+1) (A1R ps ⟨true,v,rd,wr⟩ acc) ps::k) (σ.app dst ⟨true,v,rd,wr⟩)):Wk E (.ops (⟨dst,none,us,.callv x xs⟩::l) j acc ps::k) σ:=by
 cases o with
 | ok q=>exact B6a hP hx ha hc hu hh (h q.1 q.2 rfl)
 | error pv =>
  subst hP ha;refine C0I (pv:=pv) (r:=⟨true,.nili,rd,goL rd⟩) ⟨trivial,rfl,.callb x xs f caps _ _ hu hx (.inl ⟨⟨?_,rfl⟩,hh.has⟩)⟩ (he pv rfl).1 (he pv rfl).2;rw[yv]; exact hc
theorem A8Q(hP:E.P=P){dst:Option Nat}{us:List Nat}{f:Nat}{xs:List L5}{l:List CR}{j:Nat}{acc:List RR}{ps:List (Nat×Nat)}{args args':List AV}{fz rd:List (Nat×Bx)}{o:Except AV (AV×List (Nat×Option Bx))}
  (ha:xs.map (M2 (lk σ.fr))=args) (hc:Z0 P f args' rd (E.n0+(σ.k+1024*j)) o) (hr:A8N (bk σ.bx) args args' fz) (hu:A28 (lk σ.fr) us) (hh:A04 (bk σ.bx) rd) (hd:p6 (U7 rd) (U7 fz))
  (he:∀pv,o = .error pv->A8L ((⟨true,.nili,fz++rd,wrF fz++goL rd⟩::acc).reverse) j ps/\E.Pn pv ⟨σ.fr,t7 σ.bx (wrF fz++goL rd),σ.k⟩)
  (h:∀v wr,o = .ok (v,wr)->Wk E (.ops l (j+1) (A1R ps ⟨true,v,fz++rd,wrF fz++wr⟩ acc) ps::k) (σ.app dst ⟨true,v,fz++rd,wrF fz++wr⟩)) :
  Wk E (.ops (⟨dst,none,us,.call f xs⟩::l) j acc ps::k) σ:=by
 cases o with
 | ok q=>exact A0z hP ha hc hr hu hh hd (h q.1 q.2 rfl)
 | error pv =>
  subst hP ha;refine C0I (pv:=pv) (r:=⟨true,.nili,fz++rd,wrF fz++goL rd⟩) ⟨trivial,rfl,.call f xs _ _ hu (.inr ⟨rd,goL rd,?_⟩)⟩ (he pv rfl).1 (he pv rfl).2;rw[hr.eq,yv];exact⟨hr.1,⟨hc,rfl⟩,hh.has,λq hq q1 hq1 e=>U2.1 hd q.1 (zw.2 ⟨q,hq,rfl⟩) (zw.2 ⟨q1,hq1,e.symm⟩),rfl,rfl⟩
theorem B1W{dst:Option Nat}{us:List Nat}{x:L5}{l:List CR}{j:Nat}{acc:List RR}{ps:List (Nat×Nat)}{t:Nat}{v:AV}(hx:M2 (lk σ.fr) x = .iface t v)(hu:A28 (lk σ.fr) us)
  (h:A8L ((⟨true,.nili,[],[]⟩::acc).reverse) j ps/\E.Pn (.iface t v) σ):Wk E (.ops (⟨dst,none,us,.pnk x⟩::l) j acc ps::k) σ :=
 C0I (pv:=.iface t v) (r:=⟨true,.nili,[],[]⟩) ⟨trivial,rfl,.pnk x t v _ _ hu hx⟩ h.1 h.2
end
attribute [simp] goL A8L
def A4q{w:World}{a:Addr}{u:Value}(h:w.cell? a=some u):a.block<w.heap.size:=by
 rcases yd a.block w.heap.size with h1|h1
 ·exact h1
 ·simp[World.cell?,wx h1] at h
def L4.below{P:Program}{C:Cx P}{G:Gh}{bx:Nat->Option Bx}{w w':World}(h:RS C G bx w)(hb:Below w.heap.size w w'):L4 G w G w':=by
 refine⟨λ_ _ h=>h,λa ha=>?_,λ_ h=>h,λ_ _=>.inl rfl,λ_ _ h=>h,λid b s _ _ cur e hw=>⟨cur,?_,rfl⟩⟩
 ·obtain⟨u,hu⟩:=h.fzok _ _ ha;exact hb.cell (show a.block<w.heap.size from A4q (a:=⟨a.block,a.off,none⟩) hu)
 ·rw[hb.block b (xj.1 hw).1]; exact hw
def RS.grown{P:Program}{C:Cx P}{G:Gh}{bx:Nat->Option Bx}{w w':World}(h:RS C G bx w)(hb:Below w.heap.size w w'):RS C G bx w':=by
 have he:=L4.below h hb;refine⟨h.below.trans (hb.mono h.size),tk h.size hb.size,λb o ho=>?_,h.fzold,λid x hx hn=>?_,h.nil,h.nlu,h.used,h.inj,λid b s hi=>ui (h.rows id b s hi) hb.size⟩
 ·obtain⟨u,hu⟩:=h.fzok b o ho;exact⟨u,by rw[hb.cell (show b<w.heap.size from A4q (a:=⟨b,o,none⟩) hu)]; exact hu⟩
 ·obtain⟨b,s,cur,e,h1,h2,h3,h4,h5,h6⟩:=h.box id x hx hn;refine⟨b,s,cur,e,h1,by rw[hb.block b (xj.1 h2).1]; exact h2,h3,h4,λi y hy=>?_,h6⟩;obtain⟨k1,k2⟩:=h5 i y hy;refine⟨k1,λj z hz=>?_⟩;obtain⟨u,u1,u2⟩:=k2 j z hz;exact⟨u,u1,u2.mono he⟩
def C6L{P:Program}{f:Nat}{args:List AV}{rd:List (Nat×Bx)}{id:Nat}{res:AV}(hp:X6 P f)
  (h:∀(C:Cx P) (G:Gh) (bx:Nat->Option Bx) (w:World) (vs:Array Value),RS C G bx w->RVs G w args vs->K8 bx rd->Calls P f vs w λe w'=>∃v,e = .returned v/\(∀G w,RV G w res v)/\Below w.heap.size w w'):A2 P f args rd id res [] :=
 ⟨hp,λC G bx w vs nb hs hv hh hnb hid=>Calls.mono (h C G bx w vs hs hv hh) λe w' ⟨v,h1,h2,h3⟩=>⟨v,G,h1,hs.grown h3,L4.below hs h3,h2 _ _,λ_ hx=>.inl hx⟩⟩
section
variable {P:Program} {C:Cx P} {N:Nat} {D:List Deferred} {n0:Nat} {G0:Gh} {w0:World} {G:Gh} {a:Act} {w:World} {ops:Array Oper} {Q:Exit->Act->World->Prop}
theorem C3u{crs:List CR}(hlen:crs.length=ops.size)(hcr:∀(i:Nat) o,ops[i]?=some o->∃c,crs[i]?=some c/\A0n P N ops o=some c){base:Nat}(hn:n0<=base){pv:AV}{r:RR}{F':Fr}{B':Nat->Option Bx}
  (hK:∀G a w u,F9 C N D n0 G0 w0 F' (F6 B' r.wr) (· < base+1024*ops.size) G a w->RV G w pv u->Q (.panic [{ v:=u,recovered:=false }]) a w) :
  ∀(rs:List RR) (m j:Nat) (F:Fr) (B:Nat->Option Bx) (G:Gh) (a:Act) (w:World),j+m=ops.size->B6W P base pv r j (crs.drop j) F B rs->runF (crs.drop j) rs F=F'->A0V rs B=B'->F9 C N D n0 G0 w0 F B (· < base+1024*j) G a w ->
   wpOps P ops Q (List.range' j m) a w:=by
 intro rs;induction rs with
 | nil =>
  intro m j F B G a w hj hr hF hB hd;simp only[A0V] at hB;subst hB;have hjn:j<ops.size:=by
   rcases yd j ops.size with h|h
   ·exact h
   ·rw[zp o_] at hr; exact hr.elim
  obtain⟨o,ho⟩:∃o,ops[j]?=some o:=⟨_,yb hjn⟩;obtain⟨cr,hc1,hc2⟩:=hcr j o ho;have hdrop:crs.drop j=cr::crs.drop (j+1):=by
   rw[xg o_];rw[zc o_] at hc1;injection hc1 with hc1
   rw[hc1]
  rw[hdrop] at hr hF;simp only[runF] at hF;subst hF;obtain⟨m,rfl⟩:∃k,m=k+1:=⟨m - 1,o_⟩;rw[vi,wpOps_cons];exact B6V hd ho hc2 hr (λx hx _ h=>absurd (hd.used _ h) o_) o_ (nb:=base+1024*j) (λx hx h=>absurd (hd.used _ h) o_) λG' u w' hd' hv=>hK G' a w' u (hd'.weak λid h=>h.elim (λh=>by have:=hd.used _ h; omega) λh=>o_) hv
 | cons r0 rs ih =>
  intro m j F B G a w hj hr hF hB hd;have hjn:j<ops.size:=by
   rcases yd j ops.size with h|h
   ·exact h
   ·rw[zp o_] at hr; exact hr.elim
  obtain⟨o,ho⟩:∃o,ops[j]?=some o:=⟨_,yb hjn⟩;obtain⟨cr,hc1,hc2⟩:=hcr j o ho;have hdrop:crs.drop j=cr::crs.drop (j+1):=by
   rw[xg o_];rw[zc o_] at hc1;injection hc1 with hc1
   rw[hc1]
  rw[hdrop] at hr hF;obtain⟨hr1,hr2⟩:=hr;obtain⟨m,rfl⟩:∃k,m=k+1:=⟨m - 1,o_⟩;rw[vi,wpOps_cons];refine B03 hd ho hc2 hr1 (λx hx _ h=>absurd (hd.used _ h) o_) o_ (nb:=base+1024*j) (λx hx h=>absurd (hd.used _ h) o_) λG' u w' hd'=>?_;exact ih m (j+1) _ _ G' _ w' o_ hr2 hF hB (hd'.weak λid h=>h.elim (λh=>by have:=hd.used _ h; omega) λh=>o_)
theorem F9.rebase{n1:Nat}{G1:Gh}{w1:World}{F:Fr}{B:Nat->Option Bx}{U:Nat->Prop}(h:F9 C N D n1 G1 w1 F B U G a w)(hn:n0<=n1)(e:L4 G0 w0 G1 w1)(ho:∀id,id<n0->G1.used id->G0.used id):F9 C N D n0 G0 w0 F B U G a w :=
 ⟨e.trans h.ev,h.rs,h.used,λid hi hu=>ho id hi (h.old id o_ hu),h.fr,h.size,h.defers⟩
theorem V3(β:Nat->Option Bx):∀(l r:List (Nat×Option Bx)),ov β (l++r)=ov (ov β r) l
 | [],r=>rfl
 | (i,b)::l,r=>by simp only[yw,ov,V3 β l r]
end
def APn.runF{P:Program}{base:Nat}{pv:AV}{r:RR}:∀{rs:List RR} {l:List CR} {j:Nat} {σ:St},APn P base pv r j l σ rs->runF l rs (lk σ.fr)=lk (σ.apps l rs).fr
 | [],[],_,_,h=>h.elim
 | _::_,[],_,_,h=>h.elim
 | [],cr::l,j,σ,h=>rfl
 | r0::rs,cr::l,j,σ,h=>by
  have:=APn.runF h.2;simp only[St.app,B5A] at this;exact this
def B1X{E:O8}{σ:St}{id:Nat}{ops:Array Oper}{crs:List CR}{K:St->Prop}{Q:Exit->Act->World->Prop}(hc:r9 E.P E.N ops false = .reg false crs [])(h:Wk E [.ops crs 0 [] [],.post K] σ){G:Gh}{a:Act}{w:World}(hD:Q5 E σ G a w)
  (hn:∀σ' G a w,Q5 E σ' G a w->K σ'->Q .normal a w)
  (hp:∀pv u σ' G a w,F9 E.C E.N E.D E.n0 E.G0 E.w0 (lk σ'.fr) (ov E.β σ'.bx) (· < E.n0+σ.k+1024*crs.length) G a w->RV G w pv u->E.Pn pv σ'->Q (.panic [{ v:=u,recovered:=false }]) a w):(Code.region id ops false).wp E.P Q a w:=by
 unfold r9 at hc;split at hc
 ·cases hc
 ·rename_i cs hcs;obtain⟨hlen,hget⟩:=A1E hcs;have hlen':cs.length=ops.size:=by simpa using hlen
  have hcr:∀(i:Nat) o,ops[i]?=some o->∃c,cs[i]?=some c/\A0n E.P E.N ops o=some c:=λi o ho=>hget i o (v_ ho);simp only[CC.reg.injEq,true_and,and_true] at hc;subst hc;refine wp_region ?_;rw[wv];rcases h with⟨rs,h1,h2,h3⟩|⟨rs,pv,r,h1,h2,h3⟩
  ·obtain⟨q1,q2,q3,q4⟩:=h1.runs E.β;refine C0C hlen' hcr (base:=E.n0+σ.k) o_ (Q:=Q) (F':=runF cs rs (lk σ.fr)) (B':=A0V rs (ov E.β σ.bx)) (λG a w h=>hn _ G a w ?_ h3) ops.size 0 rs _ _ G a w o_ q1 rfl rfl (hD.weak λid hid=>o_);rw[q2,q3] at h;simp only[Q5,St.bump,q4];exact h.weak λid hid=>by rw[hlen']; omega
  ·obtain⟨q1,q2,q3,cp,q4,q5⟩:=h1.runs E.β;have q6:=h1.runF;refine C3u hlen' hcr (base:=E.n0+σ.k) o_ (Q:=Q) (pv:=pv) (r:=r) (F':=runF cs rs (lk σ.fr)) (B':=A0V rs (ov E.β σ.bx)) (λG a w u h hv=>hp pv u _ G a w ?_ hv h3) rs ops.size 0 _ _ G a w o_ q1 rfl rfl (hD.weak λid hid=>o_);rw[q6,q3,←A4B] at h;exact h.weak λid hid=>by rw[hlen']; omega
def G00:Gh:=⟨λ_ _=>False,λ_=>False,λ_=>none,λ_=>False⟩
def C9C{P:Program}(w:World)(ht:A3L P w):RS (P:=P) ⟨w.heap.size,w,λ_ _=>False,λw' h=>ht.below h⟩ G00 (λ_=>none) w :=
 ⟨Below.refl _ _,zx _,λb o h=>False.elim h,λb o h=>False.elim h,(λid x h=>nomatch h),(λid x h=>nomatch h),λid h=>False.elim h,(λid b s h=>nomatch h),(λid id' b s s' h=>nomatch h),(λid b s h=>nomatch h)⟩
def RS.tabs{P:Program}{C:Cx P}{G:Gh}{bx:Nat->Option Bx}{w:World}(h:RS C G bx w):A3L P w:=C.tab w h.below
def A2.plain{P:Program}{f:Nat}{args:List AV}{id:Nat}{res:AV}(h:A2 P f args [] id res []){w:World}{vs:Array Value}(ht:A3L P w)(hv:RVs G00 w args vs):
  Calls P f vs w λe w'=>∃v G',e = .returned v/\RV G' w' res v/\Below w.heap.size w w' :=
 (h.2 _ G00 (λ_=>none) w vs 0 (C9C w ht) hv (λq hq=>by cases hq) (λ_ _ h=>h) (λ_ _ _ h=>h)).mono λe w' ⟨v,G',h1,h2,h3,h4,h5⟩=>⟨v,G',h1,h4,h2.below⟩
def C3v{G:Gh}{w:World}{x:AV}{v:Value}(h:RV G w x v):RVs G w [x] #[v] :=
 ⟨rfl,λi y hy=>by
  cases i with
  | zero=>simp at hy; subst hy; exact h
  | succ i=>simp at hy⟩
def A0X{G:Gh}{w:World}{x:AV}{vs:Array Value}(h:RVs G w [x] vs):∃v,vs = #[v]/\RV G w x v:=by
 obtain⟨h1,h2⟩:=h;obtain⟨l⟩:=vs;match l,h1,h2 with
 | [v],_,h2=>exact⟨v,rfl,h2 0 x rfl⟩
def A7A{G:Gh}{w:World}{x y:AV}{vs:Array Value}(h:RVs G w [x,y] vs):∃u v,vs = #[u,v]/\RV G w x u/\RV G w y v:=by
 obtain⟨h1,h2⟩:=h;obtain⟨l⟩:=vs;match l,h1,h2 with
 | [u,v],_,h2=>exact⟨u,v,rfl,h2 0 x rfl,h2 1 y rfl⟩
def B6g{P:Program}{C:Cx P}{G:Gh}{bx:Nat->Option Bx}{w:World}(hs:RS C G bx w){ks:List (List UInt8)}{v:Value}(h:RV G w (.sl (ks.map .str)) v):
 ∃(A:Option Addr) (c:Nat),v = .slice A ks.length c/\ks.length<=c/\c<=maxLen/\(ks=[]\/∃b o,A=some ⟨b,o,none⟩/\b<w.heap.size/\∀(j:Nat) s,ks[j]?=some s->w.cell? ⟨b,o+j,none⟩=some (.string ⟨⟨s⟩⟩)):=by
 cases h with
 | sl xs A c s u hc hm hn hs1 h1 h2 h3 =>
 refine⟨A,c,s_,v_ hc,hm,?_⟩;have key:∀a,A=some a->∀(j:Nat) t,ks[j]?=some t->w.cell? (a.add j)=some (.string ⟨⟨t⟩⟩):=λa ha j t ht=>by
  have e1:(ks.map AV.str)[j]?=some (.str t):=by simp[ht]
  have e2:(AV.str t).cells[0]?=some (.str t):=rfl;have e3:=hs1 j _ e1;have e4:=h2 a j _ 0 _ ha e1 e2;have e5:=h3 j _ 0 _ e1 e2;have e6:s=1:=by simpa [AV.cells] using e3.symm
  subst e6;rw[show (j:Nat)*1+0=j by omega] at e4;rw[e4];cases hu:u j 0 with
  | string z=>rw[hu] at e5; cases e5; rfl
  | _=>rw[hu] at e5; cases e5
 cases ks with
 | nil=>exact .inl rfl
 | cons k0 kr =>
  refine .inr ?_;cases A with
  | none=>simpa using (hn rfl).1
  | some a =>
  have k0':=key a rfl 0 k0 rfl;obtain⟨b,o,e⟩:=a;cases e with
  | some e =>
   exfalso;simp only[World.cell?,Addr.add] at k0';revert k0';split
   all_goals (intro k0'; first|(cases k0'; done)|(simp at k0'; done)|skip)
   all_goals (revert k0'; split<;>intro k0'<;>simp at k0')
  | none =>
   refine⟨b,o,rfl,by have:=A4q k0'; rwa [Y8] at this,λj t ht=>?_⟩;have:=A9s (key _ rfl j t ht)
   rwa [Y8,A1j] at this
def A4r{P:Program}{f:Nat}{args:List AV}{id:Nat}{res:AV}(hp:X6 P f)
  (h:∀(C:Cx P) (G:Gh) (bx:Nat->Option Bx) (w:World) (vs:Array Value),RS C G bx w->RVs G w args vs->Calls P f vs w λe w'=>∃v,e = .returned v/\(∀G w,RV G w res v)/\Below w.heap.size w w'):A2 P f args [] id res [] :=
 C6L hp λC G bx w vs hs hv _=>h C G bx w vs hs hv
section
variable {P:Program} {C:Cx P} {N:Nat} {D:List Deferred} {n0:Nat} {G0:Gh} {w0:World} {ops:Array Oper} {Q:Exit->Act->World->Prop}
theorem C6M{crs:List CR}{rs:List RR}{base p m:Nat}{pv:AV}{F0:Fr}{B0:Nat->Option Bx}(hn:n0<=base)(hl2:crs.length=rs.length)(hml:m=crs.length)(hpm:p<m)(hms:m<=ops.size)(hcr:∀(i:Nat) o c,ops[i]?=some o->crs[i]?=some c->A0n P N ops o=some c)
  (hr:∀(j:Nat) cr r,j≠p->crs[j]?=some cr->rs[j]?=some r->OpR P cr (base+1024*j) (D3 (stF crs rs) (λi=>decide (i<j)&&decide (i≠p)) (List.range m) F0) (D3 (stB rs) (λi=>decide (i<j)&&decide (i≠p)) (List.range m) B0) r)
  (hac:∀(j:Nat) o,ops[j]?=some o->∀e∈o.after,Region.binds .any e=true->e.on<j)
  (hcf:∀(i j:Nat) x y r s,i<j->crs[i]?=some x->crs[j]?=some y->rs[i]?=some r->rs[j]?=some s->S8 ops i j\/(M7 x y=true/\V7 r s))
  (hw:∀i,m<=i->i<ops.size->S8 ops p i)
  (hpn:∀cr r,crs[p]?=some cr->rs[p]?=some r->OpP P cr (base+1024*p) (D3 (stF crs rs) (λi=>decide (i<p)&&decide (i≠p)) (List.range m) F0) (D3 (stB rs) (λi=>decide (i<p)&&decide (i≠p)) (List.range m) B0) pv r)
  (hQ:∀r,rs[p]?=some r->∀L G a w u,F9 C N D n0 G0 w0 (D3 (stF crs rs) L (List.range m) F0) (F6 (D3 (stB rs) L (List.range m) B0) r.wr) (· < base+1024*ops.size) G a w->RV G w pv u->Q (.panic [{ v:=u,recovered:=false }]) a w) :
  ∀(fuel:Nat) (listed:Array Bool) (G:Gh) (a:Act) (w:World),listed.size=ops.size->A8J ops (λi=>listed.getD i false)->listed.getD p false=false->(∀i,m<=i->listed.getD i false=false)->(List.range ops.size).countP (λi=>!listed.getD i false)<=fuel ->
   F9 C N D n0 G0 w0 (D3 (stF crs rs) (λi=>listed.getD i false) (List.range m) F0) (D3 (stB rs) (λi=>listed.getD i false) (List.range m) B0) (λid=>id<base\/∃i,listed.getD i false=true/\base+1024*i<=id/\id<base+1024*i+1024) G a w ->
   wpAny P .any ops Q fuel listed a w:=by
 have done:∀(listed:Array Bool),listed.size=ops.size->listed.getD p false=false->Region.ready .any ops listed=[]->False:=by
  intro listed hsz hpf hrd;have all:∀j,j<ops.size->listed.getD j false=true:=λj=>by
   induction j using Nat.strongRecOn with
   | _ j ih =>
    intro hj;cases hlj:listed.getD j false with
    | true=>rfl
    | false =>
     obtain⟨o,ho⟩:∃o,ops[j]?=some o:=⟨_,yb hj⟩;have:j∈Region.ready .any ops listed:=mem_ready.2 ⟨by
      rw[zl,yb o_] at hlj ⊢;exact hlj,o,ho,λe he hb=>ih e.on (hac j o ho e he hb) (Nat.lt_trans (hac j o ho e he hb) hj)⟩
     rw[hrd] at this; cases this
  have:=all p o_;rw[hpf] at this; cases this
 intro fuel;induction fuel with
 | zero =>
  intro listed G a w hsz hcl hpf hlow hct hd;have hrd:Region.ready .any ops listed=[]:=by
   cases hrd:Region.ready .any ops listed with
   | nil=>rfl
   | cons j l =>
    obtain⟨h0,o,ho,_⟩:=mem_ready.1 (show j∈Region.ready .any ops listed by rw[hrd]; simp);have hj:j<ops.size:=(xj.1 ho).1;have h1:listed.getD j false=false:=by
     rw[zl,yb o_] at h0 ⊢;exact h0
    have:0<(List.range ops.size).countP (λi=>!listed.getD i false):=List.countP_pos_iff.2 ⟨j,v_ hj,by rw[h1]; rfl⟩;omega
  exact⟨hrd,(done listed hsz hpf hrd).elim⟩
 | succ fuel ih =>
  intro listed G a w hsz hcl hpf hlow hct hd;refine⟨λhrd=>(done listed hsz hpf hrd).elim,λj hj=>?_⟩;obtain⟨h0,o,ho,hed⟩:=mem_ready.1 hj;have hjn:j<ops.size:=(xj.1 ho).1;have hDj:listed.getD j false=false:=by
   rw[zl,yb o_] at h0 ⊢;exact h0
  have ahead:∀i,S8 ops i j->listed.getD i false=true:=λi hb=>A5L hcl hb λo' ho' e he hbd=>by
   rw[ho] at ho'; injection ho' with ho'; subst ho'; exact hed e he hbd
  have behind:∀i,S8 ops j i->listed.getD i false=false:=λi hb=>by
   cases h:listed.getD i false with
   | false=>rfl
   | true=>have:=hcl.before hb h; rw[hDj] at this; cases this
  have hjm:j<m:=by
   rcases yd j m with h|h
   ·exact h
   ·have:=ahead p (hw j h hjn); rw[hpf] at this; cases this
  have hjl:j<crs.length:=by omega
  obtain⟨cr,hc1⟩:∃c,crs[j]?=some c:=⟨_,zc hjl⟩;have hc2:=hcr j o cr ho hc1;have hrj:rs[j]?=some rs[j]:=zc o_;generalize rs[j]=r at hrj;have slots:∀x∈cr.looks,D3 (stF crs rs) (λi=>decide (i<j)&&decide (i≠p)) (List.range m) F0 x=D3 (stF crs rs) (λi=>listed.getD i false) (List.range m) F0 x:=λx hx =>
   q8 C0E (C3f hl2) (λi hi ⟨c,hc,hdst⟩=>by
    have hin:i<m:=(v_ hi);by_cases hip:i=p
    ·subst hip; rw[hpf]; simp
    rcases ut i j with h|h|h
    ·rcases hcf i j c cr _ r h hc hc1 (zc o_) hrj with hb|⟨hs,_⟩
     ·rw[ahead i hb]; simp[h,hip]
     ·simp only[M7,hdst,yk,wy,ux,decide_eq_false_iff_not] at hs;exact (hs.1.1 hx).elim
    ·subst h; rw[hDj]; simp
    ·rcases hcf j i cr c r _ h hc1 hc hrj (zc o_) with hb|⟨hs,_⟩
     ·rw[behind i hb]; simp; omega
     ·simp only[M7,hdst,yk,wy,ux,decide_eq_false_iff_not] at hs;exact (hs.2 hx).elim) rfl
  have boxes:K8 (D3 (stB rs) (λi=>decide (i<j)&&decide (i≠p)) (List.range m) B0) r.rd->K8 (D3 (stB rs) (λi=>listed.getD i false) (List.range m) B0) r.rd:=λhh q hq=>by
   rw[←hh q hq];refine (q8 C3g C3h (λi hi ⟨s,hs,hx⟩=>?_) rfl).symm;have hin:i<m:=(v_ hi);have hqr:q.1∈U7 r.rd:=zw.2 ⟨q,hq,rfl⟩;by_cases hip:i=p
   ·subst hip; rw[hpf]; simp
   rcases ut i j with h|h|h
   ·rcases hcf i j _ cr s r h (zc o_) hc1 hs hrj with hb|⟨_,ha⟩
    ·rw[ahead i hb]; simp[h,hip]
    ·exact (U2.1 ha.1 _ hx hqr).elim
   ·subst h; rw[hDj]; simp
   ·rcases hcf j i cr _ r s h hc1 (zc o_) hrj hs with hb|⟨_,ha⟩
    ·rw[behind i hb]; simp; omega
    ·exact (U2.1 ha.2.2 _ hx hqr).elim
  have hU:∀x,base+1024*j<=x->x<base+1024*j+1024->¬G.used x:=λx hx1 hx2 h=>by
   rcases hd.used _ h with h|⟨i,hi,h,h'⟩
   ·omega
   ·have:i=j:=by omega
    subst this; rw[hDj] at hi; cases hi
  have hnb:∀x,base+1024*ops.size<=x->¬G.used x:=λx hx h=>by
   rcases hd.used _ h with h|⟨i,hi,h,h'⟩
   ·omega
   ·have:i<ops.size:=by
     rw[←hsz];rcases yd i listed.size with h|h
     ·exact h
     ·rw[zl,wx h] at hi; cases hi
    omega
  by_cases hje:j=p
  ·subst hje;have hop:=hpn cr r hc1 hrj;have hop':=hop.local (λn hn=>slots n (by simp[CR.looks,hn])) (λn hn=>slots n (by simp[CR.looks,hn])) (λs want hg=>slots s (by simp[CR.looks,hg])) (boxes hop.has);exact B6V hd ho hc2 hop' hU o_ hnb λG' u w' hd' hv=>hQ r hrj _ G' a w' u (hd'.weak λx hx=>by
    rcases hx with hx|hx
    ·rcases yd x (base+1024*ops.size) with h|h
     ·exact h
     ·exact (hnb x h hx).elim
    ·omega) hv
  have hop:=hr j cr r hje hc1 hrj;have hop':=hop.local (λn hn=>slots n (by simp[CR.looks,hn])) (λn hn=>slots n (by simp[CR.looks,hn])) (λs want hg=>slots s (by simp[CR.looks,hg])) λhrc=>boxes (hop.2.2.1 hrc).has;refine B03 hd ho hc2 hop' hU o_ hnb λG' u w' hd'=>?_;have hget:∀i,(listed.setIfInBounds j true).getD i false=(if i=j then true else listed.getD i false):=λi=>by
   rw[zl,vj];by_cases hij:j=i
   ·subst hij; simp[show j<listed.size by omega]
   ·rw[zf hij,zf (λh=>hij h.symm),zl]
  have hsp:=A0U j m hjm;have hnl:j∉List.range' (j+1) (m - j - 1):=λh=>by rw[xw] at h; omega
  have eF:A24 (D3 (stF crs rs) (λi=>listed.getD i false) (List.range m) F0) cr.dst r=D3 (stF crs rs) (λi=>(listed.setIfInBounds j true).getD i false) (List.range m) F0:=by
   have:A24 (D3 (stF crs rs) (λi=>listed.getD i false) (List.range m) F0) cr.dst r=stF crs rs j (D3 (stF crs rs) (λi=>listed.getD i false) (List.range m) F0):=by
    simp only[stF,hc1,hrj]
   rw[this,hsp];refine A47 C0E (C3f hl2) (by rw[hget,zj rfl]) (λi hi=>by simp only[hget,zf hi]) hnl λi hi hD x ⟨c,hc,hx⟩ ⟨c',hc',hx'⟩=>?_;rw[xw] at hi;rw[hc1] at hc; injection hc with hc; subst hc
   rcases hcf j i cr c' r _ o_ hc1 hc' hrj (zc (by have:=(ze.1 hc').1; omega)) with hb|⟨hs,_⟩
   ·rw[behind i hb] at hD; cases hD
   ·simp[M7,hx,hx'] at hs
  have eB:F6 (D3 (stB rs) (λi=>listed.getD i false) (List.range m) B0) r.wr=D3 (stB rs) (λi=>(listed.setIfInBounds j true).getD i false) (List.range m) B0:=by
   have:F6 (D3 (stB rs) (λi=>listed.getD i false) (List.range m) B0) r.wr=stB rs j (D3 (stB rs) (λi=>listed.getD i false) (List.range m) B0):=by
    simp only[stB,hrj]
   rw[this,hsp];refine A47 C3g C3h (by rw[hget,zj rfl]) (λi hi=>by simp only[hget,zf hi]) hnl λi hi hD x ⟨s,hs,hx⟩ ⟨s',hs',hx'⟩=>?_;rw[xw] at hi;rw[hrj] at hs; injection hs with hs; subst hs
   rcases hcf j i cr _ r s' o_ hc1 (zc (by have:=(ze.1 hs').1; omega)) hrj hs' with hb|⟨_,ha⟩
   ·rw[behind i hb] at hD; cases hD
   ·exact U2.1 ha.2.1 _ hx hx'
  rw[eF,eB] at hd';refine ih (listed.setIfInBounds j true) G' _ w' (t_ hsz) (λk ok hk hDk e he hb=>?_) (by rw[hget,zf (λh=>hje h.symm)]; exact hpf) (λi hi=>by rw[hget,zf o_]; exact hlow i hi) ?_ (hd'.weak λid h=>?_)
  ·simp only[hget] at hDk ⊢;by_cases hkj:k=j
   ·subst hkj;rw[ho] at hk; injection hk with hk; subst hk
    split
    ·rfl
    ·exact hed e he hb
   ·rw[zf hkj] at hDk;split
    ·rfl
    ·exact hcl k ok hk hDk e he hb
  ·rw[A0U j ops.size hjn] at hct ⊢;simp only[tu,sm,hDj,qk,if_true] at hct;have hnl:j∉List.range' (j+1) (ops.size - j - 1):=λh=>by rw[xw] at h; omega
   have c1:∀l:List Nat,j∉l->l.countP (λi=>!(listed.setIfInBounds j true).getD i false)=l.countP (λi=>!listed.getD i false):=λl hl=>List.countP_congr λi hi=>by
    have hij:i≠j:=λh=>hl (h▸hi);rw[hget,zf hij]
   simp only[tu,sm,hget j,if_true,qm,xm,if_false];rw[c1 _ s_,c1 _ hnl];omega
  ·rcases h with h|h
   ·rcases hd.used _ h with h|⟨i,hi,h⟩
    ·exact .inl h
    ·exact .inr ⟨i,by rw[hget]; split; rfl; exact hi,h⟩
   ·exact .inr ⟨j,by rw[hget,zj rfl],h⟩
end
section
variable {α β:Type} {st:Nat->(α->β)->α->β}
theorem C0b{p m j:Nat}(hj:j<=p)(hp:p<m)(f:α->β):D3 st (λi=>decide (i<j)&&decide (i≠p)) (List.range m) f=D3 st (λ_=>true) (List.range' 0 j) f:=by
 rw[X8 (D':=λi=>decide (i<j)) λi _=>?_,A3Q o_];by_cases h:i<j
 ·have:i≠p:=by omega
  simp[h,this]
 ·simp[h]
theorem C0c{p m j:Nat}(hj:p<j)(hm:j<=m)(f:α->β):D3 st (λi=>decide (i<j)&&decide (i≠p)) (List.range m) f=D3 st (λ_=>true) (List.range' (p+1) (j - p - 1)) (D3 st (λ_=>true) (List.range' 0 p) f):=by
 have e:List.range' (p+1) (m - p - 1)=List.range' (p+1) (j - p - 1)++List.range' j (m - j):=by
  have:=sq (s:=p+1) (m:=j - p - 1) (n:=m - j);rw[show p+1+(j - p - 1)=j by omega,show j - p - 1+(m - j)=m - p - 1 by omega] at this;exact this.symm
 rw[A0U p m o_,u9,e,wv];simp only[D3];rw[zf s_,u9];rw[X8 (D':=λ_=>true) (l:=List.range' 0 p) λi hi=>by rw[xw] at hi; simp; omega];rw[X8 (D':=λ_=>true) (l:=List.range' (p+1) (j - p - 1)) λi hi=>by rw[xw] at hi; simp; omega];exact r8 λi hi=>by rw[xw] at hi; simp; omega
end
def B5G(rs:List RR)(p m:Nat):List (Nat×Nat)->Prop
 | []=>True
 | q::l=>(if q.2<m then V7 (A1f rs q.1) (A1f rs q.2) else q.1≠p)/\B5G rs p m l
def A8R{rs:List RR}{p m:Nat}:∀{ps:List (Nat×Nat)},B5G rs p m ps->∀q∈ps,(q.2<m->V7 (A1f rs q.1) (A1f rs q.2))/\(m<=q.2->q.1≠p)
 | [],_,q,hq=>by cases hq
 | x::l,h,q,hq=>by
  rcases zi.1 hq with rfl|hq
  ·have h1:=h.1;split at h1
   ·exact⟨λ_=>h1,λh=>o_⟩
   ·exact⟨λh=>o_,λ_=>h1⟩
  ·exact A8R h.2 q hq
section
variable {E:O8} {σ:St} {k:List Itm}
theorem A06.len{P:Program}{base:Nat}:∀{l:List CR} {j:Nat} {σ:St} {rs:List RR},A06 P base j l σ rs->l.length=rs.length
 | [],_,_,[],_=>rfl
 | [],_,_,_::_,h=>h.elim
 | _::_,_,_,[],h=>h.elim
 | cr::l,j,σ,r::rs,h=>by simp[A06.len h.2]
theorem B0I{crs:List CR}{rs:List RR}{L:Nat->Bool}{n:Nat}:∀(l:List Nat) {F:Fr},(∀(i:Nat) (c0:CR),crs[i]?=some c0->c0.dst≠some n)->D3 (stF crs rs) L l F n=F n
 | [],_,_=>rfl
 | i::l,F,h=>by
  simp only[D3];rw[B0I l h];split
  ·exact C0E i F n λ⟨c0,h1,h2⟩=>h i c0 h1 h2
  ·rfl
theorem A8S{id:Nat}{ops:Array Oper}{ps:List (Nat×Nat)}{l1 l2 l3:List CR}{c:CR}(hc:r9 E.P E.N ops true = .reg true (l1++c::(l2++l3)) ps){rs1 rs2:List RR}{r:RR}{pv:AV}
  (h1:A06 E.P (E.n0+σ.k) 0 l1 σ rs1) (h2:OpP E.P c (E.n0+σ.k+1024*l1.length) (lk (σ.apps l1 rs1).fr) (bk (σ.apps l1 rs1).bx) pv r)
  (h3:A06 E.P (E.n0+σ.k) (l1.length+1) l2 (σ.apps l1 rs1) rs2) (hd:B5G (rs1++r::rs2) l1.length (l1.length+1+l2.length) ps) {Q:Exit->Act->World->Prop}
  (hK:∀F B k' G u a w,F9 E.C E.N E.D E.n0 E.G0 E.w0 F B (· < E.n0+k') G a w->(∀n,(∀x∈l1++c::l2,x.dst≠some n)->F n=lk σ.fr n)->B6X E.β (((σ.apps l1 rs1).apps l2 rs2).app none r).bx B->RV G w pv u->Q (.panic [{ v:=u,recovered:=false }]) a w) {G:Gh} {a:Act} {w:World} (hD:Q5 E σ G a w):(Code.region id ops true).wp E.P Q a w:=by
 unfold r9 at hc;split at hc
 ·cases hc
 rename_i cs hcs;obtain⟨hlen,hget⟩:=A1E hcs;have hlen':cs.length=ops.size:=by simpa using hlen
 have hcr:∀(i:Nat) o,ops[i]?=some o->∃c,cs[i]?=some c/\A0n E.P E.N ops o=some c:=λi o ho=>hget i o (v_ ho);simp only at hc;split at hc
 rotate_left
 ·cases hc
 rename_i hs;rw[yk] at hs;simp only[CC.reg.injEq,true_and] at hc;obtain⟨hcq,rfl⟩:=hc;obtain⟨s1,s2⟩:=A3S hs.1;have n1:=h1.len;have n2:=h3.len;obtain⟨u1,u2,u3,u4⟩:=h1.runs E.β;obtain⟨v1,v2,v3,v4⟩:=h3.runs E.β;rw[←u2,←u3] at v1;have h2':=h2.ov E.β;rw[←u2,←u3] at h2';have hmw:=h2.mayW;have hcl:cs.length=l1.length+1+l2.length+l3.length:=by rw[hcq]; simp; omega
 have inA:∀q,q∈((σ.apps l1 rs1).apps l2 rs2).bx->q∈(((σ.apps l1 rs1).apps l2 rs2).app none r).bx:=λq hq=>A1Q.2 (.inl hq);have inR:∀q,q∈r.wr->q∈(((σ.apps l1 rs1).apps l2 rs2).app none r).bx:=λq hq=>A1Q.2 (.inr hq);refine wp_region_any hs.2 ?_;obtain⟨r1,r2⟩:=hD.rs.drew;have hD':F9 E.C E.N E.D E.n0 E.G0 E.w0 (lk σ.fr) (ov E.β σ.bx) (· < E.n0+σ.k) G a w.drew:=F9.step hD r1 r2 (λid h=>hD.used id h) λid _ h=>h;have anc:=A7i (ops:=ops) (l:=ops.toList) (acc:=[]) (λi o ho=>v_ ho) λj i hi=>by simp at hi
 have e1:∀(D:Nat->Bool),(∀i,D i=false)->∀{β:Type} (st:Nat->(Nat->β)->Nat->β) (f:Nat->β) (n:Nat),D3 st D (List.range n) f=f:=λD hD β st f n=>r8 λi _=>hD i;have none:∀i,(Array.replicate ops.size false).getD i false=false:=λi=>by simp[zl,tn]; split<;>rfl
 have g1:∀(i:Nat) c',(l1++c::l2)[i]?=some c'->i<l1.length+1+l2.length/\cs[i]?=some c':=λi c' h=>by
  have hi:i<l1.length+1+l2.length:=by have:=(ze.1 h).1; simp at this; omega
  refine⟨hi,?_⟩;have e:l1++c::(l2++l3)=(l1++c::l2)++l3:=by simp
  rw[hcq,e,yh m_];exact h
 have at1:∀{i:Nat} {α:Type} (a b:List α) (x:α),i<a.length->(a++x::b)[i]?=a[i]?:=λa b x h=>yh h;have at2:∀{i:Nat} {α:Type} (a b:List α) (x:α),(a++x::b)[a.length+1+i]?=b[i]?:=λ{i} {α} a b x=>by
  rw[yl o_,show a.length+1+i - a.length=i+1 by omega]; rfl
 have at0:∀{α:Type} (a b:List α) (x:α),(a++x::b)[a.length]?=some x:=λa b x=>by
  rw[yl o_,qr]; rfl
 have hdr1:∀{α:Type} (a b:List α) (x:α),(a++x::b).drop (a.length+1)=b:=λa b x=>by
  rw[List.drop_append,zp o_,show a.length+1 - a.length=1 by omega]; rfl
 have hl2:(l1++c::l2).length=(rs1++r::rs2).length:=by simp; omega
 have fF1:∀j,j<=l1.length->D3 (stF (l1++c::l2) (rs1++r::rs2)) (λi=>decide (i<j)&&decide (i≠l1.length)) (List.range (l1.length+1+l2.length)) (lk σ.fr)=runF (l1.take j) (rs1.take j) (lk σ.fr):=λj hj=>by
  rw[C0b hj o_];have:=A2J hl2 j 0 (lk σ.fr) m_;rw[←this,wo,wo,we hj,we o_]
 have fB1:∀j,j<=l1.length->D3 (stB (rs1++r::rs2)) (λi=>decide (i<j)&&decide (i≠l1.length)) (List.range (l1.length+1+l2.length)) (ov E.β σ.bx)=A0V (rs1.take j) (ov E.β σ.bx):=λj hj=>by
  rw[C0b hj o_];have:=A2K (rs:=rs1++r::rs2) j 0 (ov E.β σ.bx) m_;rw[←this,wo,we o_]
 have tk1:∀{α:Type} (a b:List α) (x:α),(a++x::b).take a.length=a:=λa b x=>List.take_left;have fF2:∀j,j<=l2.length->D3 (stF (l1++c::l2) (rs1++r::rs2)) (λi=>decide (i<l1.length+1+j)&&decide (i≠l1.length)) (List.range (l1.length+1+l2.length)) (lk σ.fr)=runF (l2.take j) (rs2.take j) (runF l1 rs1 (lk σ.fr)):=λj hj=>by
  rw[C0c o_ o_];have a1:=A2J hl2 l1.length 0 (lk σ.fr) s_;rw[wo,wo,tk1,n1,tk1,←n1] at a1;have a2:=A2J hl2 j (l1.length+1) (runF l1 rs1 (lk σ.fr)) m_;rw[hdr1,n1,hdr1,←n1] at a2;rw[←a1,show l1.length+1+j - l1.length - 1=j by omega,←a2]
 have fB2:∀j,j<=l2.length->D3 (stB (rs1++r::rs2)) (λi=>decide (i<l1.length+1+j)&&decide (i≠l1.length)) (List.range (l1.length+1+l2.length)) (ov E.β σ.bx)=A0V (rs2.take j) (A0V rs1 (ov E.β σ.bx)):=λj hj=>by
  rw[C0c o_ o_];have a1:=A2K (rs:=rs1++r::rs2) l1.length 0 (ov E.β σ.bx) m_;rw[wo,n1,tk1,←n1] at a1;have a2:=A2K (rs:=rs1++r::rs2) j (l1.length+1) (A0V rs1 (ov E.β σ.bx)) m_;rw[n1,hdr1,←n1] at a2;rw[←a1,show l1.length+1+j - l1.length - 1=j by omega,←a2]
 have pure:∀(i:Nat) z t,i≠l1.length->(l1++c::l2)[i]?=some z->(rs1++r::rs2)[i]?=some t->z.op.mayW=false->t.wr=[]:=λi z t hi hz ht hzw=>by
  have key:∀{id:Nat} {F:Fr} {B:Nat->Option Bx},OpR E.P z id F B t->t.wr=[]:=λh=>by
   obtain⟨_,_,g3,g4⟩:=h;cases hc:t.c with
   | false=>exact g4 hc
   | true=>exact A4l (g3 hc) hzw
  rcases yd i l1.length with h|h
  ·rw[at1 _ _ _ h] at hz;rw[at1 _ _ _ o_] at ht;exact key (u1.get i z t hz ht)
  ·obtain⟨i,rfl⟩:∃i',i=l1.length+1+i':=⟨i - l1.length - 1,o_⟩;rw[at2] at hz;rw[n1,at2] at ht;exact key (v1.get i z t hz ht)
 have hcf:∀(i j:Nat) x y r0 s,i<j->(l1++c::l2)[i]?=some x->(l1++c::l2)[j]?=some y->(rs1++r::rs2)[i]?=some r0->(rs1++r::rs2)[j]?=some s->S8 ops i j\/(M7 x y=true/\V7 r0 s):=λi j x y r0 s hij hx hy hr' hs'=>by
  obtain⟨hi1,hx1⟩:=g1 i x hx;obtain⟨hj1,hy1⟩:=g1 j y hy;by_cases hb:i∈(A9d ops.toList []).getD j []
  ·exact .inl (anc j i hb)
  ·refine .inr ?_;have hj:j<ops.size:=o_;have hm:=l9.2 ⟨hj,hij,hb⟩;refine⟨s2 i j hm x y hx1 hy1,?_⟩;cases hw:x.op.mayW||y.op.mayW with
   | true =>
    have:=(A8R hd (i,j) (tv.2 ⟨hm,by simp only[hx1,hy1,hw]⟩)).1 hj1;simpa only[q9 hr',q9 hs'] using this
   | false =>
    simp only[wm] at hw;have hip:i≠l1.length:=λh=>by subst h; rw[at0] at hx; injection hx with hx; subst hx; rw[hmw] at hw; cases hw.1
    have hjp:j≠l1.length:=λh=>by subst h; rw[at0] at hy; injection hy with hy; subst hy; rw[hmw] at hw; cases hw.2
    simp[V7,pure i x r0 hip hx hr' hw.1,pure j y s hjp hy hs' hw.2,O7,p6]
 refine C6M (C:=E.C) (D:=E.D) (G0:=E.G0) (w0:=E.w0) (n0:=E.n0) (base:=E.n0+σ.k) (p:=l1.length) (m:=l1.length+1+l2.length) (crs:=l1++c::l2) (rs:=rs1++r::rs2) (pv:=pv) (F0:=lk σ.fr) (B0:=ov E.β σ.bx) o_ hl2 m_ o_ o_
  (λi o c' ho hc'=>by obtain⟨c'',k1,k2⟩:=hcr i o ho; rw[(g1 i c' hc').2] at k1; injection k1 with k1; rw[k1]; exact k2) (λj cr r0 hj hcj hrj=>?_) s1 hcf (λi hi hi2=>?_) (λcr r0 hcj hrj=>?_) (λr0 hrj L G a w u h hv=>?_) ops.size _ G a w.drew s_ (λj o ho hj=>by simp only[none] at hj; cases hj) (none _) (λi _=>none i) ?_ ?_
 ·rcases yd j l1.length with h|h
  ·rw[fF1 j o_,fB1 j o_];rw[at1 _ _ _ h] at hcj;rw[at1 _ _ _ o_] at hrj;have:=u1.get j cr r0 hcj hrj;rw[yy] at this;exact this
  ·obtain⟨i,rfl⟩:∃i',j=l1.length+1+i':=⟨j - l1.length - 1,o_⟩;rw[at2] at hcj;rw[n1,at2] at hrj;have hil:i<l2.length:=(ze.1 hcj).1;rw[fF2 i o_,fB2 i o_];exact v1.get i cr r0 hcj hrj
 ·by_cases hb:l1.length∈(A9d ops.toList []).getD i []
  ·exact anc i _ hb
  ·exfalso;have hm:=l9.2 ⟨hi2,(show l1.length<i by omega),hb⟩;obtain⟨y,hy⟩:∃y,cs[i]?=some y:=⟨_,zc o_⟩;have hcp:cs[l1.length]?=some c:=(by rw[hcq]; exact at0 _ _ _);exact (A8R hd (l1.length,i) (tv.2 ⟨hm,by simp only[hcp,hy,hmw,qt]⟩)).2 hi rfl
 ·rw[at0] at hcj;rw[n1,at0] at hrj;injection hcj with hcj; injection hrj with hrj
  subst hcj hrj;rw[fF1 _ (zx _),fB1 _ (zx _),zm (zx _),zm o_];exact h2'
 ·rw[n1,at0] at hrj;injection hrj with hrj
  subst hrj;refine hK _ _ (σ.k+1024*ops.size) G u a w (h.weak λx hx=>o_) (λn hn=>?_) (λy=>?_) hv
  ·refine B0I _ λi c0 hi hd0=>hn c0 (zg hi) hd0
  by_cases hy:y∈O7 r.wr
  ·exact .inr (inR _ (A3R hy))
  ·rw[Q0 hy];rcases A4m (rs:=rs1++r::rs2) (L:=L) y (l:=List.range (l1.length+1+l2.length)) (B:=ov E.β σ.bx) with h|⟨r0,k1,k2⟩
   ·rw[h];exact (A7j y _).imp _root_.id λh=>inA _ (A0W o_ (.inl (A0W o_ (.inl h))))
   ·refine .inr ?_;rcases zr.1 k1 with k1|k1
    ·exact inA _ (A0W o_ (.inl (A0W o_ (.inr ⟨r0,k1,k2⟩))))
    ·rcases zi.1 k1 with k1|k1
     ·subst k1; exact inR _ k2
     ·exact inA _ (A0W o_ (.inr ⟨r0,k1,k2⟩))
 ·refine tk sf s_
 ·rw[e1 _ none,e1 _ none];exact hD'.weak λid hid=>.inl hid
theorem B5H{id:Nat}{ops:Array Oper}{ps:List (Nat×Nat)}{l1 l2 l3:List CR}{c:CR}(hc:r9 E.P E.N ops true = .reg true (l1++c::(l2++l3)) ps){rs1 rs2:List RR}{r:RR}{pv:AV}
  (h1:A06 E.P (E.n0+σ.k) 0 l1 σ rs1) (h2:OpP E.P c (E.n0+σ.k+1024*l1.length) (lk (σ.apps l1 rs1).fr) (bk (σ.apps l1 rs1).bx) pv r)
  (h3:A06 E.P (E.n0+σ.k) (l1.length+1) l2 (σ.apps l1 rs1) rs2) (hd:B5G (rs1++r::rs2) l1.length (l1.length+1+l2.length) ps) {K:St->Prop} {X:Nat->St->Prop}
  (hK:E.Pn pv (((σ.apps l1 rs1).apps l2 rs2).app none r)) {G:Gh} {a:Act} {w:World} (hD:Q5 E σ G a w):(Code.region id ops true).wp E.P (A9f E K X) a w :=
 A8S hc h1 h2 h3 hd (λF B k' G u a w q1 _ q3 q4=>⟨pv,u,_,F,B,_,G,rfl,q1,q3,q4,hK⟩) hD
theorem C6N{ps:List (Nat×Nat)}(l1 l2 l3:List CR)(c:CR){rs1 rs2:List RR}{r:RR}{pv:AV}
  (h1:A06 E.P (E.n0+σ.k) 0 l1 σ rs1) (h2:OpP E.P c (E.n0+σ.k+1024*l1.length) (lk (σ.apps l1 rs1).fr) (bk (σ.apps l1 rs1).bx) pv r)
  (h3:A06 E.P (E.n0+σ.k) (l1.length+1) l2 (σ.apps l1 rs1) rs2) (hd:B5G (rs1++r::rs2) l1.length (l1.length+1+l2.length) ps)
  (hK:E.Pn pv (((σ.apps l1 rs1).apps l2 rs2).app none r)):Wk E (.code (.reg true (l1++c::(l2++l3)) ps)::k) σ:=λc' hc' G a w hD=>by
 obtain⟨id,ops,rfl,hg⟩:=A5M hc';exact B5H hg h1 h2 h3 hd hK hD
theorem A6N{P:Program}{F:Fr}{B:Nat->Option Bx}{dst:Option Nat}{us:List Nat}{op:COp}{id:Nat}{v:AV}{rd:List (Nat×Bx)}{wr:List (Nat×Option Bx)}(hu:A28 F us)(h:match Am.sem (M2 F) B id op with
  | some (p,q)=>p/\q=⟨v,rd,wr⟩
  | none=>False):OpR P ⟨dst,none,us,op⟩ id F B ⟨true,v,rd,wr⟩:=by
 refine⟨trivial,rfl,λ_=>?_,λh=>by cases h⟩;split at h
 ·rename_i p q hs;obtain⟨hp,rfl⟩:=h;exact .sem _ _ p _ _ _ hu hs hp
 ·exact h.elim
theorem B6h{P:Program}{F:Fr}{B:Nat->Option Bx}{dst:Option Nat}{us:List Nat}{f:Nat}{xs:List L5}{args:List AV}{id:Nat}{pv:AV}{rd:List (Nat×Bx)}(hu:A28 F us)(ha:xs.map (M2 F)=args)(h:C3c P f args rd id pv)(hh:A04 B rd):OpP P ⟨dst,none,us,.call f xs⟩ id F B pv ⟨true,.nili,rd,goL rd⟩:=by
 subst ha;exact⟨trivial,rfl,.call f xs pv _ hu (.inl ⟨⟨h,rfl⟩,hh.has⟩)⟩
end
section
variable {E:O8} {σ:St} {k:List Itm} {P:Program}
theorem B3Q(hP:E.P=P){dst:Option Nat}{g:Option (Nat×Bool)}{us:List Nat}{f:Nat}{caps:List AV}{x:L5}{xs:List L5}{l:List CR}{j:Nat}{acc:List RR}{ps:List (Nat×Nat)}{args:List AV}{rd:List (Nat×Bx)}{v:AV}
  (hg:A3P (lk σ.fr) g) (ha:xs.map (M2 (lk σ.fr))=args) (hc:Z1 (lk σ.fr) g=true->M2 (lk σ.fr) x = .fn f caps/\A2 P f (args++caps) rd (E.n0+(σ.k+1024*j)) v []/\A28 (lk σ.fr) us/\A04 (bk σ.bx) rd)
  (h:Wk E (.ops l (j+1) (A1R ps ⟨Z1 (lk σ.fr) g,v,rd,[]⟩ acc) ps::k) (σ.app dst ⟨Z1 (lk σ.fr) g,v,rd,[]⟩)) :
  Wk E (.ops (⟨dst,g,us,.callv x xs⟩::l) j acc ps::k) σ:=by
 subst hP ha;refine A7U (r:=⟨Z1 (lk σ.fr) g,v,rd,[]⟩) ⟨hg,rfl,λhcc=>?_,λ_=>rfl⟩ (A0j h);obtain⟨hx,h1,h2,h3⟩:=hc hcc;refine .callv x xs f caps _ h2 hx (.inl ⟨?_,h3.has⟩);rw[yv]; exact h1
end
section
variable {E:O8} {σ:St} {k:List Itm}
theorem C0d{cc r:CC}{P:St->Prop}(h:Wk E (.code cc::.post P::k) σ)(hk:∀τ,P τ->Wk E (.code r::k) τ):Wk E (.code (.seq cc r)::k) σ:=by
 refine A3D λc hc G a w hD=>?_;refine wp_mono (h c hc G a w hD) λe a' w' hq=>?_;cases e with
 | normal =>
  obtain⟨σ',G',h1,h2⟩:=hq;exact⟨σ',G',h1,hk _ h2⟩
 | _=>exact hq
theorem C0e{r:CC}{X:Type}{inv:X->St}{ok:X->Prop}(hk:∀x,ok x->Wk E (.code r::k) (inv x))(τ:St)(h:∃x,ok x/\D9 E τ (inv x)):Wk E (.code r::k) τ:=by
 obtain⟨x,h1,h2⟩:=h;exact A6J h2 (hk x h1)
theorem C6O{a b r:CC}{X:Type}(inv:X->St)(ok:X->Prop)(h:∀p:St->Prop,(∀σ' x,ok x->D9 E σ' (inv x)->p σ')->Wk E (.code a::.code b::.post p::k) σ)
  (hk:∀x,ok x->Wk E (.code r::k) (inv x)):Wk E (.code (.seq a (.seq b r))::k) σ :=
 A3D (A7m (.code a) (λ_ q=>C0d q (C0e hk)) (λ_ _ q=>q) (h (λσ'=>∃x,ok x/\D9 E σ' (inv x)) λσ' x h1 h2=>⟨x,h1,h2⟩))
theorem C0f{a b c r:CC}{X:Type}(inv:X->St)(ok:X->Prop)(h:∀p:St->Prop,(∀σ' x,ok x->D9 E σ' (inv x)->p σ')->Wk E (.code a::.code b::.code c::.post p::k) σ)
  (hk:∀x,ok x->Wk E (.code r::k) (inv x)):Wk E (.code (.seq a (.seq b (.seq c r)))::k) σ :=
 A3D (A7m (.code a) (λ_ q=>A3D (A7m (.code b) (λ_ q=>C0d q (C0e hk)) (λ_ _ q=>q) q)) (λ_ _ q=>q) (h (λσ'=>∃x,ok x/\D9 E σ' (inv x)) λσ' x h1 h2=>⟨x,h1,h2⟩))
end
end Go.Am
