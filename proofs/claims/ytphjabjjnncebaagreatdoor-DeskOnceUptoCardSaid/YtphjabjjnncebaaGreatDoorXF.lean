/- Parts of the proof: an abstract machine for Go functions, and what functions of the program give back (Am47, Am48, Am49, Am50, Am51, Am52, Am53, Am54, Am55, Am56). No condition. -/
import Derived.Test.YtphjabjjnncebaaGreatDoorXE
import Derived.Below
set_option maxRecDepth 100000
set_option linter.all false
set_option maxHeartbeats 2000000
namespace Go.Am
open Go Go.RowKit
section
variable {E:R4} {σ:St}
theorem E4.subK(l:List (Nat×Nat))(hl:H5 l){σ':St}(hk:A6D E.n0 (E.n0+σ'.k) l)(h1:B2D (Q0 (E.n0+σ'.k) l hl) E.G0.used σ.fr σ'.fr)(h2:A6d (Q0 (E.n0+σ'.k) l hl) E.G0.used σ.bx σ'.bx)(h3:I9 E.n0 σ'.bx σ.bx)
  (h4:A34 E.n0 σ'.bx l):E4 E σ σ':=fun G a w hD=>by
 have hlow:∀x,x<E.n0->lkN l x=none:=fun x hx=>by
  cases h:lkN l x with
  | none=>rfl
  | some b=>have:=A14 hk _ (A0o h); simp only at this; omega
 have hold:∀x,lkN l x=none->(Q0 (E.n0+σ'.k) l hl).ρ x=none\/(Q0 (E.n0+σ'.k) l hl).ρ x=some x:=fun x hx=>by
  show rnF (E.n0+σ'.k) l x=none\/rnF (E.n0+σ'.k) l x=some x;unfold rnF;rw[hx];simp only;split
  ·split
   ·exact .inl rfl
   ·exact .inr rfl
  ·exact .inl rfl
 have hfix:∀x,E.G0.used x->(Q0 (E.n0+σ'.k) l hl).ρ x=some x\/(Q0 (E.n0+σ'.k) l hl).ρ x=none:=fun x hx=>(hold x (hlow x (E.old x hx))).symm;have hst:∀x,x<E.n0->U0 l x=false->(Q0 (E.n0+σ'.k) l hl).ρ x=some x:=fun x hx hg=>by
  show rnF (E.n0+σ'.k) l x=some x;unfold rnF;rw[hlow x hx];have hx':x<E.n0+σ'.k:=by omega
  simp[hx',hg]
 refine⟨G.ren (Q0 (E.n0+σ'.k) l hl) E.G0.used,M0.ren hD.ev hfix,hD.rs.ren fun y b' hy=>?_,fun y hy=>?_,fun y hy hu=>?_,fun n c v hv=>?_,hD.size,hD.defers⟩
 ·by_cases hk:J7 y σ'.bx
  ·obtain⟨x,b0,q1,q2,q3⟩:=h2.get y b' hy hk;exact⟨x,b0,q1,Q5 E.β q2,q3⟩
  ·rw[A21 hk] at hy;have hlt:y<E.n0:=by
    rcases yh y E.n0 with h|h
    ·exact h
    ·rw[E.own y h] at hy; cases hy
   refine⟨y,b',hst y hlt (A2Q h4 y hlt hk),by rw[h3.get y hlt hk E.β]; exact hy,BxR.same fun i x hx=>?_⟩;exact L4 (fun z hz=>(hfix z hz).imp _root_.id fun h=>⟨h,hz⟩) x ((E.rs0.boxNames hy).2 i x hx)
 ·rcases hy with⟨x,hx,hu⟩|hy
  ·have hx':rnF (E.n0+σ'.k) l y=some x:=hx;cases h:lkN l y with
   | some b=>exact (A14 hk _ (A0o h)).2
   | none =>
    unfold rnF at hx';rw[h] at hx';simp only at hx';split at hx'
    ·assumption
    ·cases hx'
  ·have:=E.old y hy; omega
 ·rcases hu with⟨x,hx,hu⟩|hu
  ·rcases hold y (hlow y hy) with h|h
   ·rw[h] at hx; cases hx
   ·rw[h] at hx;injection hx with hx
    subst hx;exact hD.old _ hy hu
  ·exact hu
 ·obtain⟨v0,q1,q2⟩:=h1.get n c v hv;obtain⟨r1,r2⟩:=hD.fr n c v0 q1;exact⟨fun hc=>(r1 hc).ren (q2 hc),r2⟩
theorem B40{dst:Option Nat}{us:List Nat}{z:AV}{n:Nat}{qs:List (Nat×L3)}{l:List CR}{j:Nat}{acc:List RR}{ps:List (Nat×Nat)}{k:List Itm}{vs:List (Nat×AV)}{xs:List AV}(hv:(qs.map fun q=>(q.1,M3 (lk σ.fr) q.2))=vs)(hu:A25 (lk σ.fr) us)
  (ho:A44 n z.cells.length vs) (hx:j9 (List.replicate n z) vs=xs)
  (h:Wk E (.ops l (j+1) (A1M ps ⟨true,.bsl (E.n0+(σ.k+1024*j)) 0 n,[],[(E.n0+(σ.k+1024*j),some ⟨xs,z,false,false⟩)]⟩ acc) ps::k) (σ.app dst ⟨true,.bsl (E.n0+(σ.k+1024*j)) 0 n,[],[(E.n0+(σ.k+1024*j),some ⟨xs,z,false,false⟩)]⟩)) :
  Wk E (.ops (⟨dst,none,us,.bslice z n qs⟩::l) j acc ps::k) σ:=by
 subst hv hx;refine A6c (r:=⟨true,.bsl (E.n0+(σ.k+1024*j)) 0 n,[],[(E.n0+(σ.k+1024*j),some ⟨j9 (List.replicate n z) (qs.map fun q=>(q.1,M3 (lk σ.fr) q.2)),z,false,false⟩)]⟩) ⟨trivial,rfl,fun _=>?_,fun h=>by cases h⟩ (A0W h);have:=ExR.keep (P:=E.P) (us:=us) (id:=E.n0+σ.k+1024*j) (F:=lk σ.fr) (B:=bk σ.bx) true z n qs hu ho;rw[yq] at this;rw[yq];exact this
structure x7(S:Nat->Prop)(tl:List (Nat×Option Bx)):Prop where
 keys:∀q∈tl,S q.1/\q.2.isSome=true
 nd:(tl.map Prod.fst).Nodup
 names:∀q∈tl,∀b,q.2=some b->∀x∈b.xs,B4 S x
theorem x7.nil(S:Nat->Prop):x7 S []:=⟨fun q hq=>(by cases hq),qb,fun q hq=>(by cases hq)⟩
theorem A27:∀{tl:List (Nat×Option Bx)},(tl.map Prod.fst).Nodup->∀{y:Nat} {b:Bx},(y,some b)∈tl->Am.bk tl y=some b
 | [],_,y,b,h=>by cases h
 | (z,c)::l,hn,y,b,h=>by
  rw[ym,xc] at hn;simp only[Am.bk];rcases zh.1 h with e|h
  ·injection e with e1 e2
   subst e1 e2;simp
  ·have hne:y≠z:=fun e=>hn.1 (e▸zu.2 ⟨_,h,rfl⟩);rw[zf hne];exact A27 hn.2 h
theorem x7.sub{A:Nat->Prop}{tl:List (Nat×Option Bx)}(h:x7 A tl){R:Rn}{S:Nat->Prop}{bx:List (Nat×Option Bx)}(hR:∀z,A z->R.ρ z=some z)(hb:∀y b,(y,some b)∈tl->Am.bk bx y=some b):A6d R S bx tl:=by
 have go:∀l:List (Nat×Option Bx),(∀q∈l,q∈tl)->A6d R S bx l:=by
  intro l;induction l with
  | nil=>intro _; trivial
  | cons q l ih =>
   intro hl;obtain⟨y,c⟩:=q;have hm:=hl _ (za ..);have hk:=h.keys _ hm;cases c with
   | none=>simp at hk
   | some b =>
    refine⟨⟨y,b,hR y hk.1,hb y b hm,BxR.same fun i x hx=>?_⟩,ih fun q hq=>hl q (zb _ hq)⟩;exact L4 (fun z hz=>.inl (hR z hz)) x (h.names _ hm b rfl x (zg hx))
 exact go tl fun q hq=>hq
theorem x7.cons{S:Nat->Prop}{tl:List (Nat×Option Bx)}(h:x7 S tl){y:Nat}{b:Bx}(h1:S y)(h2:∀q∈tl,q.1≠y)(h3:∀x∈b.xs,B4 S x):x7 S ((y,some b)::tl):=by
 refine⟨fun q hq=>?_,?_,fun q hq b' hb'=>?_⟩
 ·rcases zh.1 hq with rfl|hq
  ·exact⟨h1,rfl⟩
  ·exact h.keys q hq
 ·rw[ym,xc];exact⟨fun hm=>by obtain⟨q,hq,e⟩:=zu.1 hm; exact h2 q hq e,h.nd⟩
 ·rcases zh.1 hq with rfl|hq
  ·injection hb' with hb'; subst hb'; exact h3
  ·exact h.names q hq b' hb'
theorem x7.append{S:Nat->Prop}{a b:List (Nat×Option Bx)}(ha:x7 S a)(hb:x7 S b)(hd:∀p∈a,∀p'∈b,p.1≠p'.1):x7 S (a++b):=by
 refine⟨fun q hq=>(zo.1 hq).elim (ha.keys q) (hb.keys q),?_,fun q hq=>(zo.1 hq).elim (ha.names q) (hb.names q)⟩;rw[wn,xt];refine⟨ha.nd,hb.nd,fun x hx y hy=>?_⟩;obtain⟨p,hp,rfl⟩:=zu.1 hx;obtain⟨p',hp',rfl⟩:=zu.1 hy;exact hd p hp p' hp'
theorem B0j{n:Nat}{l:List (Nat×Nat)}{hl:H5 l}{z:Nat}(h1:lkN l z=none)(h2:U0 l z=false)(h3:z<n):(Q0 n l hl).ρ z=some z:=by
 show rnF n l z=some z;unfold rnF;rw[h1];simp[h2,h3]
theorem A15{R:Rn}{S A:Nat->Prop}(hR:∀z,A z->R.ρ z=some z):∀{l:List AV},(∀x∈l,B4 A x)->N8 R S l l
 | [],_=>.nil
 | x::l,h=>.cons x x l l (.same x (L4 (fun z hz=>.inl (hR z hz)) x (h x (za ..)))) (A15 hR fun y hy=>h y (zb _ hy))
theorem s7{R:Rn}{S:Nat->Prop}:∀{a b c d:List AV},N8 R S a b->N8 R S c d->N8 R S (a++c) (b++d)
 | [],[],_,_,_,h=>h
 | x::a,y::b,_,_,.cons _ _ _ _ h hl,h'=>.cons _ _ _ _ h (s7 hl h')
theorem A3k{q:Nat×Option Bx}{l:List (Nat×Option Bx)}{y:Nat}(h:y≠q.1):Am.bk (q::l) y=Am.bk l y:=by
 obtain⟨m,b⟩:=q;simp only[Am.bk];rw[zf h]
theorem z8{n0:Nat}{bx':List (Nat×Option Bx)}:∀{l:List (Nat×Option Bx)},(∀q∈l,n0<=q.1)->I9 n0 bx' l
 | [],_=>trivial
 | (x,b)::l,h=>⟨.inl (h _ (za ..)),z8 fun q hq=>h q (zb _ hq)⟩
end
inductive Rd(L:List (Nat×Bx)):AV->AV->Prop
 | same (x:AV):Rd L x x
 | nils:Rd L .nils (.sl [])
 | bsl (id off len:Nat) (b:Bx) (ys:List AV) (hb:(id,b)∈L) (hle:off+len<=b.xs.length) (hl:ys.length=len)
   (hc:∀(i:Nat) x y,b.xs[off+i]?=some x->ys[i]?=some y->x.cells.length=y.cells.length)
   (h:∀(i:Nat) x y (j:Nat) c d,b.xs[off+i]?=some x->ys[i]?=some y->x.cells[j]?=some c->y.cells[j]?=some d->Rd L c d):Rd L (.bsl id off len) (.sl ys)
 | ptr (id:Nat) (b:Bx) (x:AV) (ds:List AV) (hb:(id,b)∈L) (hx:b.xs=[x]) (hl:ds.length=x.cells.length)
   (h:∀(j:Nat) c d,x.cells[j]?=some c->ds[j]?=some d->Rd L c d):Rd L (.ptr id 0 0) (.cptr ds)
 | agg (cs ds:List AV) (hl:cs.length=ds.length) (h:∀(i:Nat) c d,cs[i]?=some c->ds[i]?=some d->Rd L c d):Rd L (.agg cs) (.agg ds)
 | tup (cs ds:List AV) (hl:cs.length=ds.length) (h:∀(i:Nat) c d,cs[i]?=some c->ds[i]?=some d->Rd L c d):Rd L (.tup cs) (.tup ds)
 | fn (f:Nat) (cs ds:List AV) (hl:cs.length=ds.length) (h:∀(i:Nat) c d,cs[i]?=some c->ds[i]?=some d->Rd L c d):Rd L (.fn f cs) (.fn f ds)
section
variable {P:Program} {C:Cx P} {G:Gh} {bx:Nat->Option Bx} {w:World}
theorem A5X{G1:Gh}{L:List (Nat×Bx)}(hs:RS C G bx w)(hL:K5 bx L)(ev:M0 G w G1 w)(hz:∀q∈L,∀b s,G.bm q.1=some (b,s)->∀o,o<q.2.xs.length*s->G1.fz b o){x y:AV}(h:Rd L x y):∀{v:Value},RV G w x v->RV G1 w y v:=by
 induction h with
 | same x=>intro v hv; exact hv.mono ev
 | nils =>
  intro v hv;cases hv
  exact .sl [] none 0 0 (fun _ _=>undef) (ya _) (by simp[maxLen]) (fun _=>⟨rfl,rfl⟩) (fun i x hi=>by simp at hi) (fun a i x j y _ hi=>by simp at hi) (fun a i x j y _ hi=>by simp at hi) (fun i x j y hi=>by simp at hi)
 | agg cs ds hl h ih =>
  intro v hv;cases hv with|agg _ vs hl' h' =>
  exact .agg ds vs (hl▸hl') fun i y hy=>by
   obtain⟨c,hc⟩:∃c,cs[i]?=some c:=⟨_,zc (by rw[hl]; exact (ze.1 hy).1)⟩;exact ih i c y hc hy (h' i c hc)
 | tup cs ds hl h ih =>
  intro v hv;cases hv with|tup _ vs hl' h' =>
  exact .tup ds vs (hl▸hl') fun i y hy=>by
   obtain⟨c,hc⟩:∃c,cs[i]?=some c:=⟨_,zc (by rw[hl]; exact (ze.1 hy).1)⟩;exact ih i c y hc hy (h' i c hc)
 | fn f cs ds hl h ih =>
  intro v hv;cases hv with|fn _ _ vs hl' h' =>
  exact .fn f ds vs (hl▸hl') fun i y hy=>by
   obtain⟨c,hc⟩:∃c,cs[i]?=some c:=⟨_,zc (by rw[hl]; exact (ze.1 hy).1)⟩;exact ih i c y hc hy (h' i c hc)
 | ptr id b x ds hb hx hl h ih =>
  intro v hv;have hbx:=hL _ hb;simp only at hbx;have h0:b.xs[0]?=some x:=by rw[hx]; rfl
  have hn:¬G.nl id:=hs.lies hbx h0;obtain⟨blk,s,cur,e,h1,h2,h3,⟨h4,h5⟩,h6,h7,h8⟩:=hs.box id b hbx hn;cases hv with|ptr _ _ _ _ ho hu hbm =>
  have:=hbm blk s h1;simp only[qf,yy] at this;subst this;obtain⟨hcs,hct⟩:=h6 0 x h0;have hlen:b.xs.length=1:=by rw[hx]; rfl
  have key:∀j d,ds[j]?=some d->∃c u,x.cells[j]?=some c/\cur[j]?=some u/\RV G w c u/\j<s:=fun j d hj=>by
   have hjl:j<x.cells.length:=(by rw[←hl]; exact (ze.1 hj).1);obtain⟨u,hu1,hu2⟩:=hct j _ (zc hjl);exact⟨_,u,zc hjl,by simpa using hu1,hu2,by omega⟩
  refine .cptr ds _ (fun j=>cur.getD j undef) (fun j y hj=>?_) (fun j y hj=>?_) (fun j y hj=>?_)
  ·obtain⟨c,u,k1,k2,k3,k4⟩:=key j y hj;exact hz _ hb blk s h1 _ (by simp only[hlen]; omega)
  ·obtain⟨c,u,k1,k2,k3,k4⟩:=key j y hj;have ha:(⟨blk,0,none⟩:Addr).add j=⟨blk,j,none⟩:=(by unfold Addr.add; split<;>simp_all);rw[ha,E6 h2,k2];simp[zk,k2]
  ·obtain⟨c,u,k1,k2,k3,k4⟩:=key j y hj;have:cur.getD j undef=u:=by simp[zk,k2]
   show RV G1 w y (cur.getD j undef);rw[this];exact ih j c y k1 hj k3
 | bsl id off len b ys hb hle hl hc h ih =>
  intro v hv;have hbx:=hL _ hb;simp only at hbx;by_cases hn:G.nl id
  ·cases hv with|bsl _ _ _ _ _ _ _ hnl =>
   obtain⟨rfl,_,rfl⟩:=hnl hn;have:ys=[]:=tf.1 hl;subst this;exact .sl [] none 0 0 (fun _ _=>undef) (ya _) (by simp[maxLen]) (fun _=>⟨rfl,rfl⟩) (fun i x hi=>by simp at hi) (fun a i x j y _ hi=>by simp at hi) (fun a i x j y _ hi=>by simp at hi) (fun i x j y hi=>by simp at hi)
  ·obtain⟨blk,s,cur,e,h1,h2,h3,⟨h4,h5⟩,h6,h7,h8⟩:=hs.box id b hbx hn;cases hv with|bsl _ _ _ _ hone hu hbm hnl =>
   obtain⟨c,cur',e',hv,hlc,hcm,hh,hzz⟩:=hbm blk s h1;subst hv;have key:∀i y j d,ys[i]?=some y->y.cells[j]?=some d->∃x c u,b.xs[off+i]?=some x/\x.cells[j]?=some c/\cur[(off+i)*s+j]?=some u/\RV G w c u/\j<s/\off+i<b.xs.length:=fun i y j d hi hj=>by
    have hil:i<ys.length:=(ze.1 hi).1;have hx:=zc (l:=b.xs) (i:=off+i) (by omega);have hcl:=hc i _ y hx hi;have hjl:j<(b.xs[off+i]'(by omega)).cells.length:=(by rw[hcl]; exact (ze.1 hj).1);obtain⟨hcs,hct⟩:=h6 _ _ hx;obtain⟨u,hu1,hu2⟩:=hct j _ (zc hjl);exact⟨_,_,u,hx,zc hjl,hu1,hu2,by omega,by omega⟩
   have ho:∀i j,(off+i)*s+j=off*s+(i*s+j):=fun i j=>by rw[xk]; omega
   have:=RV.sl (G:=G1) (w:=w) ys (some ⟨blk,off*s,none⟩) c s (fun i j=>cur.getD ((off+i)*s+j) undef) (by omega) hcm (fun h=>by cases h) (fun i y hi=>?_) (fun a i y j d ha hi hj=>?_) (fun a i y j d ha hi hj=>?_) (fun i y j d hi hj=>?_)
   ·rw[hl] at this; exact this
   ·have hil:i<ys.length:=(ze.1 hi).1;have hx:=zc (l:=b.xs) (i:=off+i) (by omega);rw[←hc i _ y hx hi];exact (h6 _ _ hx).1
   ·injection ha with ha
    subst ha;obtain⟨x,c,u,k1,k2,k3,k4,k5,k6⟩:=key i y j d hi hj;refine hz _ hb blk s h1 _ ?_;simp only;rw[←ho];have:(off+i+1)*s<=b.xs.length*s:=yt _ (by omega);rw[xk (off+i) 1] at this;omega
   ·injection ha with ha
    subst ha;obtain⟨x,c,u,k1,k2,k3,k4,k5,k6⟩:=key i y j d hi hj;have ha:(⟨blk,off*s,none⟩:Addr).add (i*s+j)=⟨blk,off*s+(i*s+j),none⟩:=(by unfold Addr.add; split<;>simp_all);rw[ha,E6 h2,←ho,k3];simp[zk,k3]
   ·obtain⟨x,c,u,k1,k2,k3,k4,k5,k6⟩:=key i y j d hi hj;have:cur.getD ((off+i)*s+j) undef=u:=by simp[zk,k3]
    simp only[this];exact ih i x y j c d k1 hi k2 hj k4
mutual
def AV.flatB:AV->Bool
 | .int _ _=>true
 | .bool _=>true
 | .str _=>true
 | .tup vs=>B2K vs
 | .agg vs=>B2K vs
 | _=>false
def B2K:List AV->Bool
 | []=>true
 | x::r=>x.flatB&&B2K r
end
theorem A9T{l:List AV}(h:B2K l=true){i:Nat}{x:AV}(hx:l[i]?=some x):x.flatB=true:=by
 induction l generalizing i with
 | nil=>simp at hx
 | cons y r ih =>
  simp only[B2K,yg] at h;cases i with
  | zero=>simp at hx; subst hx; exact h.1
  | succ i=>exact ih h.2 (by simpa using hx)
theorem RV.flat{G:Gh}{w:World}{x:AV}{v:Value}(h:RV G w x v):x.flatB=true->∀(G':Gh) (w':World),RV G' w' x v:=by
 induction h with
 | int k n=>intro _ _ _; exact .int k n
 | bool b=>intro _ _ _; exact .bool b
 | str s=>intro _ _ _; exact .str s
 | agg cs vs hl h ih=>intro hf G' w'; simp only[AV.flatB] at hf; exact .agg cs vs hl fun i y hy=>ih i y hy (A9T hf hy) G' w'
 | tup cs vs hl h ih=>intro hf G' w'; simp only[AV.flatB] at hf; exact .tup cs vs hl fun i y hy=>ih i y hy (A9T hf hy) G' w'
 | _=>intro hf; simp[AV.flatB] at hf
theorem A2.read{f:Nat}{args args':List AV}{rd:List (Nat×Bx)}{id:Nat}{res:AV}(h:A2 P f args' [] id res [])(hr:res.flatB=true)(hl:args.length=args'.length)(ha:∀(i:Nat) x y,args[i]?=some x->args'[i]?=some y->Rd rd x y):A2 P f args rd id res []:=by
 refine⟨h.1,fun C G bx w vs nb hs hv hh hnb hid=>?_⟩;let G0:Gh:=⟨fun b o=>∃u,w.cell? ⟨b,o,none⟩=some u,G.used,fun _=>none,fun _=>False⟩
 let C0:Cx P:=⟨w.heap.size,w,fun b o=>∃u,w.cell? ⟨b,o,none⟩=some u,fun _ hb=>(C.tab w hs.below).below hb⟩
 have hs0:RS C0 G0 (fun _=>none) w:=⟨Below.refl _ w,ya _,fun b o h=>h,fun b o h _=>h,fun id x hx=>(by cases hx),fun id x hx=>(by cases hx),fun id h=>h.elim,fun id b s h=>(by cases h),fun id id' b s s' h=>(by cases h),fun id b s h=>(by cases h)⟩;have ev:M0 G w G0 w:=⟨fun b o hf=>hs.fzok b o hf,fun _ _=>rfl,fun _ h=>h,fun _ _=>.inr rfl,fun _ _ h=>h.elim,fun _ b s _ hb=>by cases hb⟩;have hz:∀q∈rd,∀b s,G.bm q.1=some (b,s)->∀o,o<q.2.xs.length*s->G0.fz b o:=fun q hq b s hb o ho=>by
  have hn:¬G.nl q.1:=fun hn=>by rw[(hs.nlu _ hn).2] at hb; cases hb
  obtain⟨b',s',cur,e,h1,h2,h3,⟨h4,h5⟩,_⟩:=hs.box q.1 q.2 (hh q hq) hn;rw[hb] at h1;injection h1 with h1
  injection h1 with e1 e2
  subst e1 e2;exact⟨_,by rw[E6 h2]; exact zz (by omega)⟩
 have hv0:RVs G0 w args' vs:=⟨hl▸hv.1,fun i y hy=>by
  obtain⟨x,hx⟩:∃x,args[i]?=some x:=⟨_,zc (by rw[hl]; exact (ze.1 hy).1)⟩;exact A5X hs hh ev hz (ha i x y hx hy) (hv.2 i x hx)⟩
 obtain⟨_,hc⟩:=h;refine Calls.mono (hc C0 G0 (fun _=>none) w vs nb hs0 hv0 K5.nil hnb hid) fun e w' hq=>?_;obtain⟨v,G',rfl,s1,e1,r1,u1⟩:=hq;have hb:=s1.below;have hblk:∀b,b<w.heap.size->w'.heap[b]?=w.heap[b]?:=fun b h=>hb.block b h;have hlt:∀b o,G.fz b o->b<w.heap.size:=fun b o h=>let ⟨u,hu⟩:=hs.fzok b o h; Y4 hu;have ev':M0 G w G w':=A1O (fun b o h=>hblk b (hlt b o h)) fun id b s h cur e hh=>⟨cur,by rw[hblk b (hs.rows id b s h)]; exact hh,rfl⟩;refine⟨v,G,rfl,?_,ev',RV.flat r1 hr G w',fun x hx=>.inl hx⟩;have hsz:w.heap.size<=w'.heap.size:=hb.size;refine⟨hs.below.trans (hb.mono hs.size),ut hs.size hsz,fun b o h=>?_,hs.fzold,fun id x hx hn=>?_,hs.nil,hs.nlu,hs.used,hs.inj,fun id b s h=>vw (hs.rows id b s h) hsz⟩
 ·obtain⟨u,hu⟩:=hs.fzok b o h;exact⟨u,by rw[World.cell?_of_block (hblk b (hlt b o h))]; exact hu⟩
 ·obtain⟨b,s,cur,e,h1,h2,h3,h4,h5,h6⟩:=hs.box id x hx hn;exact⟨b,s,cur,e,h1,by rw[hblk b (hs.rows id b s h1)]; exact h2,h3,h4,h5.mono ev',h6⟩
theorem RS.freezeZ(hs:RS C G bx w){id:Nat}{x:Bx}(hx:bx id=some x)(hro:x.ro=false):
  ∃G',RS C G' (U8 bx id (some { x with frz:=true })) w/\M0 G w G' w/\(∀i,G'.used i->G.used i)/\G'.bm=G.bm/\∀b s,G.bm id=some (b,s)->∀o,o<x.xs.length*s->G'.fz b o:=by
 by_cases hn:G.nl id
 ·have h0:=(hs.nil id x hx hn).1;refine⟨G,⟨hs.below,hs.size,hs.fzok,hs.fzold,fun i y hy hn'=>?_,fun i y hy hn'=>?_,hs.nlu,hs.used,hs.inj,hs.rows⟩,M0.refl G w,fun _ h=>h,rfl,fun b s hb=>by rw[(hs.nlu _ hn).2] at hb; cases hb⟩
  ·have hi:i≠id:=fun hi=>hn' (hi▸hn);rw[B7 _ _ _ hi] at hy;exact hs.box i y hy hn'
  ·by_cases hi:i=id
   ·subst hi;rw[C7] at hy;injection hy with hy
    subst hy;exact⟨h0,hro⟩
   ·rw[B7 _ _ _ hi] at hy;exact hs.nil i y hy hn'
 ·obtain⟨b,s,cur,e,h1,h2,h3,⟨h4,h5⟩,h6,h7,h8⟩:=hs.box id x hx hn;have hB:=h3 hro;have ev:M0 G w (G.keep b (x.xs.length*s)) w:=M0.keep b _;refine⟨G.keep b (x.xs.length*s),⟨hs.below,hs.size,fun b' o hf=>?_,fun b' o hf hb=>?_,fun i y hy hn'=>?_,fun i y hy hn'=>?_,hs.nlu,hs.used,hs.inj,hs.rows⟩,ev,fun _ h=>h,rfl,fun b' s' hb o ho=>?_⟩
  ·rcases hf with hf|⟨rfl,ho⟩
   ·exact hs.fzok b' o hf
   ·exact⟨_,by rw[E6 h2]; exact zz (by omega)⟩
  ·rcases hf with hf|⟨rfl,ho⟩
   ·exact hs.fzold b' o hf hb
   ·omega
  ·by_cases hi:i=id
   ·subst hi;rw[C7] at hy;injection hy with hy
    subst hy;exact⟨b,s,cur,e,h1,h2,h3,⟨h4,h5⟩,h6.mono ev,fun h=>(by cases h),fun o ho=>ho.elim (h8 o) fun h=>h.2⟩
   ·rw[B7 _ _ _ hi] at hy;obtain⟨b2,s2,cur2,e2,k1,k2,k3,k4,k5,k6,k7⟩:=hs.box i y hy hn';have hne:b2≠b:=fun hbb=>hi (hs.inj i id b2 s2 s k1 (hbb▸h1));exact⟨b2,s2,cur2,e2,k1,k2,k3,k4,k5.mono ev,fun hf o ho=>ho.elim (k6 hf o) fun h=>hne h.1,fun o ho=>ho.elim (k7 o) fun h=>(hne h.1).elim⟩
  ·by_cases hi:i=id
   ·subst hi; exact (hn hn').elim
   ·rw[B7 _ _ _ hi] at hy;exact hs.nil i y hy hn'
  ·rw[h1] at hb;injection hb with hb
   injection hb with e1 e2
   subst e1 e2;exact .inr ⟨rfl,ho⟩
theorem freezeZ:∀(l:List (Nat×Bx)) {G:Gh} {bx:Nat->Option Bx},RS C G bx w->(∀p∈l,(bx p.1=some p.2\/bx p.1=some { p.2 with frz:=true })/\p.2.ro=false) ->
  ∃G',RS C G' (F4 bx (wrF l)) w/\M0 G w G' w/\(∀i,G'.used i->G.used i)/\G'.bm=G.bm/\∀q∈l,∀b s,G.bm q.1=some (b,s)->∀o,o<q.2.xs.length*s->G'.fz b o
 | [],G,bx,hs,_=>⟨G,hs,M0.refl G w,fun _ h=>h,rfl,fun p hp=>by cases hp⟩
 | (i,b)::r,G,bx,hs,hl=>by
  obtain⟨hb,hro⟩:=hl (i,b) (by simp);simp only at hb hro;have key:∃G1,RS C G1 (U8 bx i (some { b with frz:=true })) w/\M0 G w G1 w/\(∀i,G1.used i->G.used i)/\G1.bm=G.bm/\∀blk s,G.bm i=some (blk,s)->∀o,o<b.xs.length*s->G1.fz blk o:=by
   rcases hb with hb|hb
   ·exact hs.freezeZ hb hro
   ·exact hs.freezeZ (x:={ b with frz:=true }) hb hro
  obtain⟨G1,s1,e1,u1,m1,k1⟩:=key;obtain⟨G2,s2,e2,u2,m2,k2⟩:=freezeZ r s1 fun p hp=>by
   obtain⟨h1,h2⟩:=hl p (by simp[hp]);refine⟨?_,h2⟩;by_cases hi:p.1=i
   ·obtain⟨j,c⟩:=p;simp only at hi h1 h2 ⊢;subst hi;rw[C7];right
    rcases hb with hb|hb<;>rcases h1 with h1|h1<;>rw[hb] at h1<;>injection h1 with h1
    ·rw[h1]
    ·rw[h1]
    ·rw[←h1]
    ·have:b.xs=c.xs/\b.d=c.d/\b.ro=c.ro:=by injection h1 with q1 q2 q3; exact⟨q1,q2,q3⟩
     obtain⟨q1,q2,q3⟩:=this;rw[q1,q2,q3]
   ·rw[B7 _ _ _ hi]; exact h1
  refine⟨G2,s2,e1.trans e2,fun i h=>u1 i (u2 i h),m2.trans m1,fun p hp blk s hbm o ho=>?_⟩;rcases zh.1 hp with rfl|hp
  ·exact e2.fz _ _ (k1 blk s hbm o ho)
  ·exact k2 p hp blk s (by rw[m1]; exact hbm) o ho
end
theorem A0r{bx:Nat->Option Bx}{y:Nat}:∀{l:List (Nat×Bx)},(∀q∈l,q.1≠y)->F4 bx (wrF l) y=bx y
 | [],_=>rfl
 | (i,b)::l,h=>by
  simp only[wrF,F4];rw[A0r (l:=l) fun q hq=>h q (zb _ hq)];exact B7 _ _ _ (fun e=>h (i,b) (za ..) e.symm)
theorem A00{y:Nat}:∀{l:List (Nat×Option Bx)},J7 y l↔∃q∈l,q.1=y
 | []=>by simp[J7]
 | (i,b)::l=>by
  simp only[J7,A00 (l:=l),zh];constructor
  ·rintro (rfl|⟨q,hq,rfl⟩)
   ·exact⟨_,.inl rfl,rfl⟩
   ·exact⟨q,.inr hq,rfl⟩
  ·rintro⟨q,rfl|hq,rfl⟩
   ·exact .inl rfl
   ·exact .inr ⟨q,hq,rfl⟩
theorem B41{y:Nat}{b:Bx}:∀{l:List (Nat×Option Bx)},bk l y=some b->J7 y l
 | [],h=>by cases h
 | (i,c)::l,h=>by
  simp only[bk] at h;split at h
  ·rename_i e; exact .inl e
  ·exact .inr (B41 h)
section
variable {E:R4} {σ:St}
theorem E4.deep(n:Nat)(L:List (Nat×Bx)){x y:AV}(hx:lk σ.fr n=some (true,x))(hL:∀q∈L,bk σ.bx q.1=some q.2/\q.2.ro=false)(hr:Rd L x y)(hown:∀q∈σ.bx,E.n0<=q.1):E4 E σ ⟨(n,true,y)::σ.fr,[],σ.k⟩:=fun G a w hD=>by
 have hLo:K5 (ov E.β σ.bx) L:=fun q hq=>Q5 E.β (hL q hq).1;obtain⟨G1,q1,q2,q3,q4,q5⟩:=freezeZ L hD.rs fun q hq=>⟨.inl (hLo q hq),(hL q hq).2⟩;have hxr':RV G1 w y (a.tmps.getD n undef):=A5X hD.rs hLo q2 q5 hr ((hD.fr n true x hx).1 rfl);have hlo:∀z,J7 z σ.bx->E.n0<=z:=fun z hz=>by obtain⟨q,hq,rfl⟩:=A00.1 hz; exact hown q hq
 refine⟨G1,hD.ev.trans q2,?_,fun id h=>hD.used id (q3 id h),fun id hi h=>hD.old id hi (q3 id h),fun m c v hm=>?_,hD.size,hD.defers⟩
 ·refine RS.weak q1 fun id b hb=>?_;have hb:E.β id=some b:=hb;have hlt:id<E.n0:=by
   rcases yh id E.n0 with h|h
   ·exact h
   ·rw[E.own id h] at hb; cases hb
  rw[A0r fun q hq e=>by
   have:=hlo q.1 (B41 (hL q hq).1);omega]
  rw[A21 fun h=>by have:=hlo id h; omega];exact hb
 ·simp only[lk] at hm;split at hm
  ·rename_i he;subst he;simp only[zd,zi] at hm;obtain⟨rfl,rfl⟩:=hm;exact⟨fun _=>hxr',fun h=>by cases h⟩
  ·exact⟨fun hc=>((hD.fr m c v hm).1 hc).mono q2,(hD.fr m c v hm).2⟩
end
theorem A2.more{P:Program}{f:Nat}{args:List AV}{rd rd':List (Nat×Bx)}{id:Nat}{res:AV}{wr:List (Nat×Option Bx)}(h:A2 P f args rd id res wr)(hm:∀q∈rd,q∈rd'):A2 P f args rd' id res wr :=
 ⟨h.1,fun C G bx w vs nb hs hv hh hnb hid=>h.2 C G bx w vs nb hs hv (fun q hq=>hh q (hm q hq)) hnb hid⟩
theorem l9.of{B:Nat->Option Bx}:∀{l:List (Nat×Bx)},K5 B l->l9 B l
 | [],_=>trivial
 | (i,b)::l,h=>⟨h (i,b) (za ..),l9.of fun q hq=>h q (zb _ hq)⟩
theorem W5:∀(wr l:List (Nat×Option Bx)),bk (W9 l wr)=F4 (bk l) wr
 | [],_=>rfl
 | (i,b)::r,l=>by
  rw[W9,W5 r];rfl
theorem C1a{P:Program}{f:Nat}{fn:Func}{c:Code}{crs:List x2}{args:List AV}{rd:List (Nat×Bx)}{id:Nat}{res:AV}{wr:List (Nat×Option Bx)}
  (hf : P.funcs[f]? = some fn) (hb : fn.body = some c) (hnm : (fn.name == "runtime.NumGoroutine") = false) (hrs : O6 P fn.results.toList = some crs) (hN : args.length <= fn.ntmps)
  (h:∀E:R4,E.P=P->E.N=fn.ntmps->E.Rt=A22 E.n0 id E.G0.used crs rd res wr->(∀q∈rd,q.1<E.n0/\(q.1<id\/id+1024<=q.1))->id+1024<=E.n0->K5 E.β rd->(∀z,E.G0.used z->z<id\/id+1024<=z)->Wk E [.code (D3 P fn.ntmps c)] ⟨A24 0 args,C9 rd,0⟩):A2 P f args rd id res wr :=
 B0f (o:=.ok (res,wr)) (fun n0 S=>A22 n0 id S crs rd res wr) (fun _ _ _=>False) hf hb hnm hrs hN (fun _ _ _ h=>⟨_,rfl,h⟩) (fun _ _ _ h=>h.elim) fun E h1 h2 h3 _ h5 h6 h7 h8=>h E h1 h2 h3 h5 h6 h7 h8
theorem C3Y{P:Program}{f:Nat}{fn:Func}{cc:CC}{crs:List x2}{args:List AV}{rd:List (Nat×Bx)}{id:Nat}{res:AV}{wr:List (Nat×Option Bx)}
  (hf : P.funcs[f]? = some fn) (hcc : fn.body.map (D3 P fn.ntmps) = some cc) (hnm : (fn.name == "runtime.NumGoroutine") = false) (hrs : O6 P fn.results.toList = some crs) (hN : args.length <= fn.ntmps)
  (h:∀E:R4,E.P=P->E.Rt=A22 E.n0 id E.G0.used crs rd res wr->(∀q∈rd,q.1<E.n0/\(q.1<id\/id+1024<=q.1))->id+1024<=E.n0->K5 E.β rd->(∀z,E.G0.used z->z<id\/id+1024<=z)->Wk E [.code cc] ⟨A24 0 args,C9 rd,0⟩):A2 P f args rd id res wr:=by
 obtain⟨c,hb,rfl⟩:=zm.1 hcc;exact C1a hf hb hnm hrs hN fun E h1 _ h3 h4 h5 h6 h7=>h E h1 h3 h4 h5 h6 h7
section
variable {E:R4} {σ:St}
theorem C1{rd:List (Nat×Bx)}(hh:K5 E.β rd){j:Nat}{b:Bx}(h:(j,b)∈rd):∀x∈b.xs,B4 E.G0.used x:=fun x hx=>by
 obtain⟨i,hi⟩:=ye.1 hx;exact (E.rs0.boxNames (hh _ h)).2 i x hi
theorem B5H{id:Nat}(hu:∀z,E.G0.used z->z<id\/id+1024<=z){n:Nat}{rn:List (Nat×Nat)}{hrn:H5 rn}(hk:∀z,z<E.n0->(z<id\/id+1024<=z)->lkN rn z=none):∀z,E.G0.used z->(Q0 n rn hrn).fix E.G0.used z:=fun z hz=>by
 rcases A3g (n0:=n) (hk z (E.old z hz) (hu z hz)) with h|h
 ·exact .inr ⟨h,hz⟩
 ·exact .inl h
theorem A37{id:Nat}(hu:∀z,E.G0.used z->z<id\/id+1024<=z){n:Nat}{rn:List (Nat×Nat)}{hrn:H5 rn}{x:AV}(hx:B4 E.G0.used x)(hk:∀z,z<E.n0->(z<id\/id+1024<=z)->lkN rn z=none):P0 (Q0 n rn hrn) E.G0.used x x :=
 .same x (L4 (B5H hu hk) x hx)
theorem j0{id:Nat}(hu:∀z,E.G0.used z->z<id\/id+1024<=z){n:Nat}{rn:List (Nat×Nat)}{hrn:H5 rn}(hk:∀z,z<E.n0->(z<id\/id+1024<=z)->lkN rn z=none):∀{l:List AV},(∀x∈l,B4 E.G0.used x)->N8 (Q0 n rn hrn) E.G0.used l l
 | [],_=>.nil
 | x::l,h=>.cons x x l l (A37 hu (h x (za ..)) hk) (j0 hu hk fun y hy=>h y (zb _ hy))
end
theorem A2.nil{P:Program}{f:Nat}{z:AV}{args:List AV}{rd:List (Nat×Bx)}{id:Nat}{res:AV}{wr:List (Nat×Option Bx)}
  (h:∀T,(∀q∈rd,q.1≠T)->(T<id\/id+1024<=T)->A2 P f (.bsl T 0 0::args) ((T,⟨[],z,false,false⟩)::rd) id res ((T,none)::wr))
  (hw:∀q∈wr,(id<=q.1/\q.1<id+1024)/\∀b,q.2=some b->∀x∈b.xs,x.pureB=true) (hr:B4 (fun x=>id<=x/\x<id+1024) res):A2 P f (.nils::args) rd id res wr:=by
 obtain⟨T0,hT0⟩:∃T0,∀q∈rd,q.1<T0:=by
  clear h hw hr;induction rd with
  | nil=>exact⟨0,fun q hq=>(by cases hq)⟩
  | cons p l ih =>
   obtain⟨T1,h1⟩:=ih;exact⟨max T1 (p.1+1),fun q hq=>by
    rcases zh.1 hq with rfl|hq
    ·omega
    ·have:=h1 q hq; omega⟩
 refine⟨(h (id+1024+T0) (fun q hq=>by have:=hT0 q hq; omega) (by omega)).1,fun C G bx w vs nb hs hv hh hnb hid=>?_⟩;let T:=max nb (id+1024)
 have hT:¬G.used T:=hnb T (Nat.le_max_left ..);have hlt:∀x,G.used x->x<T:=fun x hx=>by
  rcases yh x nb with h|h
  ·exact vw h (Nat.le_max_left ..)
  ·exact (hnb x h hx).elim
 obtain⟨r1,r2,r3⟩:=hs.void hT z false;have hu1:∀x,(G.void T).used x->x=T\/G.used x:=fun x hx=>hx;have hne:∀q∈rd,q.1≠T:=fun q hq e=>hT (e▸(hs.boxNames (hh q hq)).1);obtain⟨hl,hvv⟩:=hv;obtain⟨_,hc⟩:=h T hne (.inr (su ..));have hv':RVs (G.void T) w (.bsl T 0 0::args) vs:=⟨hl,fun i y hy=>by
  cases i with
  | zero =>
   simp only[yr,zd] at hy;subst hy;have:=hvv 0 .nils rfl;generalize vs.getD 0 undef=u at this ⊢;cases this
   exact r3
  | succ i=>exact (hvv (i+1) y (by simpa using hy)).mono r2⟩
 have hh':K5 (U8 bx T (some ⟨[],z,false,false⟩)) ((T,⟨[],z,false,false⟩)::rd):=fun q hq=>by
  rcases zh.1 hq with rfl|hq
  ·exact C7 ..
  ·rw[B7 _ _ _ (hne q hq)]; exact hh q hq
 refine Calls.mono (hc C (G.void T) _ w vs (T+1) r1 hv' hh' (fun x hx hux=>?_) (fun x h1 h2 hux=>?_)) fun e w' hq=>?_
 ·rcases hu1 x hux with rfl|h'
  ·omega
  ·have:=hlt x h'; omega
 ·rcases hu1 x hux with e|h'
  ·have:id+1024<=T:=su ..;omega
  ·exact hid x h1 h2 h'
 obtain⟨v,G',rfl,s1,e1,q1,u1⟩:=hq;have hbT:bx T=none:=by
  cases hb:bx T with
  | none=>rfl
  | some b=>exact (hT (hs.boxNames hb).1).elim
 have hupd:U8 (U8 bx T (some ⟨[],z,false,false⟩)) T none=bx:=by
  funext y
  by_cases hy:y=T
  ·subst hy; rw[C7,hbT]
  ·rw[B7 _ _ _ hy,B7 _ _ _ hy]
 have s2:RS C G' (F4 bx wr) w':=by
  have:=s1;simp only[F4] at this;rw[hupd] at this;exact this
 have hρ:∀x,x<T->(Q0 T [] trivial).ρ x=some x:=fun x hx=>by
  show rnF T [] x=some x;unfold rnF;simp[lkN,U0,hx]
 have hid':id+1024<=T:=su ..;have hfix:∀x,G.used x->(Q0 T [] trivial).ρ x=some x\/(Q0 T [] trivial).ρ x=none:=fun x hx=>.inl (hρ x (hlt x hx));refine⟨v,G'.ren (Q0 T [] trivial) G.used,rfl,s2.ren fun y b' hy=>?_,M0.ren (r2.trans e1) hfix,q1.ren (.same _ (L4 (fun z hz=>.inl (hρ z (by omega))) _ hr)),fun y hy=>?_⟩
 ·by_cases hk:y∈O8 wr
  ·have hlt':y<T:=by
    obtain⟨q,hq,rfl⟩:∃q∈wr,q.1=y:=by
     have:∀l:List (Nat×Option Bx),y∈O8 l->∃q∈l,q.1=y:=fun l=>by
      induction l with
      | nil=>intro h; cases h
      | cons p l ih =>
       intro h;obtain⟨i,b⟩:=p;rcases zh.1 h with rfl|h
       ·exact⟨_,za ..,rfl⟩
       ·obtain⟨q,h1,h2⟩:=ih h; exact⟨q,zb _ h1,h2⟩
     exact this wr hk
    have:=(hw q hq).1; omega
   refine⟨y,b',hρ y hlt',hy,BxR.same fun i x hx=>?_⟩;have hq:∀(l:List (Nat×Option Bx)) (B:Nat->Option Bx),y∈O8 l->F4 B l y=some b'->∃q∈l,q.2=some b':=fun l=>by
    induction l with
    | nil=>intro B h; cases h
    | cons p l ih =>
     intro B h1 h2;obtain⟨i',b⟩:=p;by_cases hk':y∈O8 l
     ·obtain⟨q,g1,g2⟩:=ih (U8 B i' b) hk' h2;exact⟨q,zb _ g1,g2⟩
     ·rcases zh.1 h1 with rfl|h1
      ·simp only[F4] at h2;rw[P4 hk',C7] at h2;exact⟨_,za ..,h2⟩
      ·exact (hk' h1).elim
   obtain⟨q,hqm,hqb⟩:=hq wr bx hk hy;exact I4 _ ((hw q hqm).2 b' hqb x (zg hx))
  ·rw[P4 hk] at hy;have hub:=hs.boxNames hy;exact⟨y,b',hρ y (hlt y hub.1),by rw[P4 hk]; exact hy,BxR.same fun i x hx=>L4 (fun z hz=>.inl (hρ z (hlt z hz))) x (hub.2 i x hx)⟩
 ·rcases hy with⟨x,hx,hu⟩|hy
  ·have hx':rnF T [] y=some x:=hx;unfold rnF at hx';simp only[lkN,U0] at hx';split at hx'
   ·rename_i hyT;simp at hx';subst hx';rcases u1 _ hu with h1|h1
    ·rcases hu1 _ h1 with e|h1
     ·omega
     ·exact .inl h1
    ·exact .inr h1
   ·cases hx'
  ·exact .inl hy
theorem B8i{β:Nat->Option Bx}{y:Nat}:∀{l:List (Nat×Option Bx)},J7 y l->ov β l y=bk l y
 | [],h=>h.elim
 | (i,b)::l,h=>by
  simp only[ov,bk];by_cases e:y=i
  ·subst e; rw[C7,zj rfl]
  ·rw[B7 _ _ _ e,zf e];exact B8i (h.resolve_left e)
structure C1b(n0:Nat)(L:List (Nat×Bx))(bx M:List (Nat×Option Bx)):Prop where
 kept:∀y b,bk M y=some b->bk bx y=some b/\∀q∈L,q.1≠y
 cov:∀q∈bx,n0<=q.1\/J7 q.1 M
section
variable {E:R4} {σ:St}
theorem C1b.weak{L:List (Nat×Bx)}{bx M:List (Nat×Option Bx)}(h:C1b E.n0 L bx M)(hL:∀q∈L,bk bx q.1=some q.2){y:Nat}{b:Bx}(hb:ov E.β M y=some b):F4 (ov E.β bx) (wrF L) y=some b:=by
 by_cases hk:J7 y M
 ·rw[B8i hk] at hb;obtain⟨h1,h2⟩:=h.kept y b hb;rw[A0r h2];exact Q5 E.β h1
 ·rw[A21 hk] at hb;have hlt:y<E.n0:=by
   rcases yh y E.n0 with h|h
   ·exact h
   ·rw[E.own y h] at hb; cases hb
  have hno:¬J7 y bx:=fun h'=>by
   obtain⟨q,hq,rfl⟩:=A00.1 h';rcases h.cov q hq with h1|h1
   ·omega
   ·exact hk h1
  rw[A0r fun q hq e=>by subst e; exact hno (B41 (hL q hq)),A21 hno];exact hb
theorem E4.deepL(n:Nat)(L:List (Nat×Bx))(M:List (Nat×Option Bx)){x y:AV}(hx:lk σ.fr n=some (true,x))(hL:∀q∈L,bk σ.bx q.1=some q.2/\q.2.ro=false)(hr:Rd L x y)(hK:C1b E.n0 L σ.bx M):E4 E σ ⟨(n,true,y)::σ.fr,M,σ.k⟩:=fun G a w hD=>by
 have hLo:K5 (ov E.β σ.bx) L:=fun q hq=>Q5 E.β (hL q hq).1;obtain⟨G1,q1,q2,q3,q4,q5⟩:=freezeZ L hD.rs fun q hq=>⟨.inl (hLo q hq),(hL q hq).2⟩;have hxr':RV G1 w y (a.tmps.getD n undef):=A5X hD.rs hLo q2 q5 hr ((hD.fr n true x hx).1 rfl);refine⟨G1,hD.ev.trans q2,RS.weak q1 fun id b hb=>hK.weak (fun q hq=>(hL q hq).1) hb,fun id h=>hD.used id (q3 id h),fun id hi h=>hD.old id hi (q3 id h),fun m c v hm=>?_,hD.size,hD.defers⟩;simp only[lk] at hm;split at hm
 ·rename_i he;subst he;simp only[zd,zi] at hm;obtain⟨rfl,rfl⟩:=hm;exact⟨fun _=>hxr',fun h=>by cases h⟩
 ·exact⟨fun hc=>((hD.fr m c v hm).1 hc).mono q2,(hD.fr m c v hm).2⟩
theorem E4.stay{σ':St}(hk:σ.k<=σ'.k)(hf:∀n c v,lk σ'.fr n=some (c,v)->lk σ.fr n=some (c,v))(hb:∀y b,bk σ'.bx y=some b->bk σ.bx y=some b)(hc:∀q∈σ.bx,E.n0<=q.1\/J7 q.1 σ'.bx):E4 E σ σ':=fun G a w hD=>by
 have hK:C1b E.n0 [] σ.bx σ'.bx:=⟨fun y b h=>⟨hb y b h,fun q hq=>by cases hq⟩,hc⟩;exact⟨G,hD.ev,RS.weak hD.rs fun id b h=>hK.weak (fun q hq=>by cases hq) h,fun id h=>by have:=hD.used id h; omega,hD.old,fun n c v h=>hD.fr n c v (hf n c v h),hD.size,hD.defers⟩
end
def S8(rd:List (Nat×Bx)):List (Nat×Option Bx):=rd.map fun q=>(q.1,none)
theorem B2L(rd:List (Nat×Bx))(y:Nat):bk (S8 rd) y=none:=by
 induction rd with
 | nil=>rfl
 | cons q l ih =>
  simp only[S8,ym,bk] at ih ⊢;split
  ·rfl
  ·exact ih
theorem B0k{rd:List (Nat×Bx)}{q:Nat×Bx}(h:q∈rd):J7 q.1 (S8 rd):=A00.2 ⟨(q.1,none),zu.2 ⟨q,h,rfl⟩,rfl⟩
theorem A7b{f:Nat->Option Bx}{y:Nat}:∀{rd:List (Nat×Bx)},(y∈rd.map Prod.fst\/f y=none)->F4 f (S8 rd) y=none
 | [],h=>by
  rcases h with h|h
  ·cases h
  ·exact h
 | q::l,h=>by
  show F4 (U8 f q.1 none) (S8 l) y=none;refine A7b ?_;by_cases e:y=q.1
  ·right; rw[e,C7]
  ·rcases h with h|h
   ·rcases zh.1 h with h|h
    ·exact (e h).elim
    ·exact .inl h
   ·right; rw[B7 _ _ _ e]; exact h
theorem A9U{R:Rn}{S:Nat->Prop}{bx':List (Nat×Option Bx)}{fin:Nat->Option Bx}:∀{l:List Nat},(∀y∈l,fin y=none)->A2S R S bx' fin l
 | [],_=>trivial
 | y::l,h=>⟨by rw[h y (za ..)]; trivial,A9U fun z hz=>h z (zb _ hz)⟩
theorem A6H{id:Nat}{rd':List (Nat×Option Bx)}:∀{rd:List (Nat×Bx)},(∀q∈rd,J7 q.1 rd')->A5V id rd' (S8 rd)
 | [],_=>trivial
 | q::l,h=>⟨.inl (h q (za ..)),A6H fun z hz=>h z (zb _ hz)⟩
theorem A9V{n0:Nat}{bx':List (Nat×Option Bx)}:∀{l:List (Nat×Option Bx)},(∀q∈l,n0<=q.1\/J7 q.1 bx')->I9 n0 bx' l
 | [],_=>trivial
 | (x,b)::l,h=>⟨h _ (za ..),A9V fun q hq=>h q (zb _ hq)⟩
theorem A3l{n0 id:Nat}{S:Nat->Prop}{rd:List (Nat×Bx)}{res:AV}{vs:List AV}{bx':List (Nat×Option Bx)}(h:tupOf vs=res)(hp:res.pureB=true)(hd:∀q∈bx',n0<=q.1\/q.1∈rd.map Prod.fst):B0e n0 id S rd res (S8 rd) vs bx' [] trivial:=by
 have hkey:∀y,y∈rd.map Prod.fst->J7 y (C9 rd):=fun y hy=>by
  obtain⟨q,hq,rfl⟩:=zu.1 hy;exact Q6.2 (zu.2 ⟨q,hq,rfl⟩)
 refine⟨by rw[h]; exact .same _ (I4 _ hp),A9U fun y hy=>A7b (.inl ?_),A9V fun q hq=>(hd q hq).imp _root_.id (hkey _),A6H fun q hq=>hkey _ (zu.2 ⟨q,hq,rfl⟩),trivial,trivial⟩;rcases zo.1 hy with hy|hy
 ·exact hy
 ·simpa [O8,S8] using hy
theorem A38{P:Program}{f:Nat}{fn:Func}{cc:CC}{crs:List x2}{args:List AV}{rd:List (Nat×Bx)}{id:Nat}{o:Except AV (AV×List (Nat×Option Bx))}
  (hf : P.funcs[f]? = some fn) (hcc : fn.body.map (D3 P fn.ntmps) = some cc) (hnm : (fn.name == "runtime.NumGoroutine") = false) (hrs : O6 P fn.results.toList = some crs) (hN : args.length <= fn.ntmps)
  (h:∀E:R4,E.P=P->(∀v wr σ,o = .ok (v,wr)->A22 E.n0 id E.G0.used crs rd v wr σ->E.Rt σ)->(∀pv σ,o = .error pv->pv.pureB=true->I9 E.n0 (C9 rd) σ.bx->E.Pn pv σ)->(∀q∈rd,q.1<E.n0/\(q.1<id\/id+1024<=q.1))->id+1024<=E.n0->K5 E.β rd->(∀z,E.G0.used z->z<id\/id+1024<=z)->Wk E [.code cc] ⟨A24 0 args,C9 rd,0⟩):Y5 P f args rd id o:=by
 obtain⟨c,hb,rfl⟩:=zm.1 hcc;exact B0f (o:=o) (fun n0 S σ=>∃q,o = .ok q/\A22 n0 id S crs rd q.1 q.2 σ) (fun n0 pv σ=>o = .error pv/\pv.pureB=true/\I9 n0 (C9 rd) σ.bx) hf hb hnm hrs hN (fun _ _ _ h=>h) (fun _ _ _ h=>h)
  fun E h1 h2 h3 h4 h5 h6 h7 h8=>h E h1 (fun v wr σ ho hr=>by rw[h3]; exact⟨_,ho,hr⟩) (fun pv σ ho hp hd=>by rw[h4]; exact⟨ho,hp,hd⟩) h5 h6 h7 h8
section
variable {E:R4} {σ:St} {k:List Itm} {P:Program}
theorem D5(hP:E.P=P){dst:Option Nat}{us:List Nat}{f:Nat}{xs:List L3}{l:List CR}{j:Nat}{acc:List RR}{ps:List (Nat×Nat)}{args:List AV}{rd:List (Nat×Bx)}{o:Except AV (AV×List (Nat×Option Bx))}
  (ha:xs.map (M3 (lk σ.fr))=args) (hc:Y5 P f args rd (E.n0+(σ.k+1024*j)) o) (hu:A25 (lk σ.fr) us) (hh:l9 (bk σ.bx) rd)
  (he:∀pv,o = .error pv->A7X ((⟨true,.nili,rd,goL rd⟩::acc).reverse) j ps/\E.Pn pv ⟨σ.fr,W9 σ.bx (goL rd),σ.k⟩)
  (h:∀v wr,o = .ok (v,wr)->Wk E (.ops l (j+1) (A1M ps ⟨true,v,rd,wr⟩ acc) ps::k) (σ.app dst ⟨true,v,rd,wr⟩)):Wk E (.ops (⟨dst,none,us,.call f xs⟩::l) j acc ps::k) σ:=by
 cases o with
 | ok q=>exact D8 hP ha hc hu hh (h q.1 q.2 rfl)
 | error pv =>
  subst hP ha;refine B8T (pv:=pv) (r:=⟨true,.nili,rd,goL rd⟩) ⟨trivial,rfl,.call f xs _ _ hu (.inl ⟨⟨?_,rfl⟩,hh.has⟩)⟩ (he pv rfl).1 (he pv rfl).2;rw[yq]; exact hc
theorem A28(hP:E.P=P){dst:Option Nat}{us:List Nat}{f:Nat}{caps:List AV}{x:L3}{xs:List L3}{l:List CR}{j:Nat}{acc:List RR}{ps:List (Nat×Nat)}{args:List AV}{rd:List (Nat×Bx)}{o:Except AV (AV×List (Nat×Option Bx))}
  (hx:M3 (lk σ.fr) x = .fn f caps) (ha:xs.map (M3 (lk σ.fr))=args) (hc:Y5 P f (args++caps) rd (E.n0+(σ.k+1024*j)) o) (hu:A25 (lk σ.fr) us) (hh:l9 (bk σ.bx) rd)
  (he:∀pv,o = .error pv->A7X ((⟨true,.nili,rd,goL rd⟩::acc).reverse) j ps/\E.Pn pv ⟨σ.fr,W9 σ.bx (goL rd),σ.k⟩)
  (h:∀v wr,o = .ok (v,wr)->Wk E (.ops l (j+1) (A1M ps ⟨true,v,rd,wr⟩ acc) ps::k) (σ.app dst ⟨true,v,rd,wr⟩)):Wk E (.ops (⟨dst,none,us,.callv x xs⟩::l) j acc ps::k) σ:=by
 cases o with
 | ok q=>exact L5 hP hx ha hc hu hh (h q.1 q.2 rfl)
 | error pv =>
  subst hP ha;refine B8T (pv:=pv) (r:=⟨true,.nili,rd,goL rd⟩) ⟨trivial,rfl,.callv x xs f caps _ _ hu hx (.inl ⟨⟨?_,rfl⟩,hh.has⟩)⟩ (he pv rfl).1 (he pv rfl).2;rw[yq]; exact hc
theorem B8j(hP:E.P=P){dst:Option Nat}{us:List Nat}{f:Nat}{caps:List AV}{x:L3}{xs:List L3}{l:List CR}{j:Nat}{acc:List RR}{ps:List (Nat×Nat)}{args:List AV}{rd:List (Nat×Bx)}{o:Except AV (AV×List (Nat×Option Bx))}
  (hx:M3 (lk σ.fr) x = .fnb f caps) (ha:xs.map (M3 (lk σ.fr))=args) (hc:Y5 P f (caps++args) rd (E.n0+(σ.k+1024*j)) o) (hu:A25 (lk σ.fr) us) (hh:l9 (bk σ.bx) rd)
  (he:∀pv,o = .error pv->A7X ((⟨true,.nili,rd,goL rd⟩::acc).reverse) j ps/\E.Pn pv ⟨σ.fr,W9 σ.bx (goL rd),σ.k⟩)
  (h:∀v wr,o = .ok (v,wr)->Wk E (.ops l (j+1) (A1M ps ⟨true,v,rd,wr⟩ acc) ps::k) (σ.app dst ⟨true,v,rd,wr⟩)):Wk E (.ops (⟨dst,none,us,.callv x xs⟩::l) j acc ps::k) σ:=by
 cases o with
 | ok q=>exact B5C hP hx ha hc hu hh (h q.1 q.2 rfl)
 | error pv =>
  subst hP ha;refine B8T (pv:=pv) (r:=⟨true,.nili,rd,goL rd⟩) ⟨trivial,rfl,.callb x xs f caps _ _ hu hx (.inl ⟨⟨?_,rfl⟩,hh.has⟩)⟩ (he pv rfl).1 (he pv rfl).2;rw[yq]; exact hc
theorem A7c(hP:E.P=P){dst:Option Nat}{us:List Nat}{f:Nat}{xs:List L3}{l:List CR}{j:Nat}{acc:List RR}{ps:List (Nat×Nat)}{args args':List AV}{fz rd:List (Nat×Bx)}{o:Except AV (AV×List (Nat×Option Bx))}
  (ha:xs.map (M3 (lk σ.fr))=args) (hc:Y5 P f args' rd (E.n0+(σ.k+1024*j)) o) (hr:A9N (bk σ.bx) args args' fz) (hu:A25 (lk σ.fr) us) (hh:l9 (bk σ.bx) rd) (hd:l8 (Z3 rd) (Z3 fz))
  (he:∀pv,o = .error pv->A7X ((⟨true,.nili,fz++rd,wrF fz++goL rd⟩::acc).reverse) j ps/\E.Pn pv ⟨σ.fr,W9 σ.bx (wrF fz++goL rd),σ.k⟩)
  (h:∀v wr,o = .ok (v,wr)->Wk E (.ops l (j+1) (A1M ps ⟨true,v,fz++rd,wrF fz++wr⟩ acc) ps::k) (σ.app dst ⟨true,v,fz++rd,wrF fz++wr⟩)) :
  Wk E (.ops (⟨dst,none,us,.call f xs⟩::l) j acc ps::k) σ:=by
 cases o with
 | ok q=>exact A2T hP ha hc hr hu hh hd (h q.1 q.2 rfl)
 | error pv =>
  subst hP ha;refine B8T (pv:=pv) (r:=⟨true,.nili,fz++rd,wrF fz++goL rd⟩) ⟨trivial,rfl,.call f xs _ _ hu (.inr ⟨rd,goL rd,?_⟩)⟩ (he pv rfl).1 (he pv rfl).2;rw[hr.eq,yq];exact⟨hr.1,⟨hc,rfl⟩,hh.has,fun q hq q1 hq1 e=>R6.1 hd q.1 (zu.2 ⟨q,hq,rfl⟩) (zu.2 ⟨q1,hq1,e.symm⟩),rfl,rfl⟩
theorem B0l{dst:Option Nat}{us:List Nat}{x:L3}{l:List CR}{j:Nat}{acc:List RR}{ps:List (Nat×Nat)}{t:Nat}{v:AV}(hx:M3 (lk σ.fr) x = .iface t v)(hu:A25 (lk σ.fr) us)
  (h:A7X ((⟨true,.nili,[],[]⟩::acc).reverse) j ps/\E.Pn (.iface t v) σ):Wk E (.ops (⟨dst,none,us,.pnk x⟩::l) j acc ps::k) σ :=
 B8T (pv:=.iface t v) (r:=⟨true,.nili,[],[]⟩) ⟨trivial,rfl,.pnk x t v _ _ hu hx⟩ h.1 h.2
end
attribute [simp] goL A7X
theorem A4K{w:World}{a:Addr}{u:Value}(h:w.cell? a=some u):a.block<w.heap.size:=by
 rcases yh a.block w.heap.size with h1|h1
 ·exact h1
 ·simp[World.cell?,ws h1] at h
theorem M0.below{P:Program}{C:Cx P}{G:Gh}{bx:Nat->Option Bx}{w w':World}(h:RS C G bx w)(hb:Below w.heap.size w w'):M0 G w G w':=by
 refine⟨fun _ _ h=>h,fun a ha=>?_,fun _ h=>h,fun _ _=>.inl rfl,fun _ _ h=>h,fun id b s _ _ cur e hw=>⟨cur,?_,rfl⟩⟩
 ·obtain⟨u,hu⟩:=h.fzok _ _ ha;exact hb.cell (show a.block<w.heap.size from A4K (a:=⟨a.block,a.off,none⟩) hu)
 ·rw[hb.block b (xl.1 hw).1]; exact hw
theorem RS.grown{P:Program}{C:Cx P}{G:Gh}{bx:Nat->Option Bx}{w w':World}(h:RS C G bx w)(hb:Below w.heap.size w w'):RS C G bx w':=by
 have he:=M0.below h hb;refine⟨h.below.trans (hb.mono h.size),ut h.size hb.size,fun b o ho=>?_,h.fzold,fun id x hx hn=>?_,h.nil,h.nlu,h.used,h.inj,fun id b s hi=>vw (h.rows id b s hi) hb.size⟩
 ·obtain⟨u,hu⟩:=h.fzok b o ho;exact⟨u,by rw[hb.cell (show b<w.heap.size from A4K (a:=⟨b,o,none⟩) hu)]; exact hu⟩
 ·obtain⟨b,s,cur,e,h1,h2,h3,h4,h5,h6⟩:=h.box id x hx hn;refine⟨b,s,cur,e,h1,by rw[hb.block b (xl.1 h2).1]; exact h2,h3,h4,fun i y hy=>?_,h6⟩;obtain⟨k1,k2⟩:=h5 i y hy;refine⟨k1,fun j z hz=>?_⟩;obtain⟨u,u1,u2⟩:=k2 j z hz;exact⟨u,u1,u2.mono he⟩
theorem C3Z{P:Program}{f:Nat}{args:List AV}{rd:List (Nat×Bx)}{id:Nat}{res:AV}(hp:Z8 P f)
  (h:∀(C:Cx P) (G:Gh) (bx:Nat->Option Bx) (w:World) (vs:Array Value),RS C G bx w->RVs G w args vs->K5 bx rd->Calls P f vs w fun e w'=>∃v,e = .returned v/\(∀G w,RV G w res v)/\Below w.heap.size w w'):A2 P f args rd id res [] :=
 ⟨hp,fun C G bx w vs nb hs hv hh hnb hid=>Calls.mono (h C G bx w vs hs hv hh) fun e w' ⟨v,h1,h2,h3⟩=>⟨v,G,h1,hs.grown h3,M0.below hs h3,h2 _ _,fun _ hx=>.inl hx⟩⟩
section
variable {P:Program} {C:Cx P} {N:Nat} {D:List Deferred} {n0:Nat} {G0:Gh} {w0:World} {G:Gh} {a:Act} {w:World} {ops:Array Oper} {Q:Exit->Act->World->Prop}
theorem C1c{crs:List CR}(hlen:crs.length=ops.size)(hcr:∀(i:Nat) o,ops[i]?=some o->∃c,crs[i]?=some c/\A0d P N ops o=some c){base:Nat}(hn:n0<=base){pv:AV}{r:RR}{F':Fr}{B':Nat->Option Bx}
  (hK:∀G a w u,F7 C N D n0 G0 w0 F' (F4 B' r.wr) (· < base+1024*ops.size) G a w->RV G w pv u->Q (.panic [{ v:=u,recovered:=false }]) a w) :
  ∀(rs:List RR) (m j:Nat) (F:Fr) (B:Nat->Option Bx) (G:Gh) (a:Act) (w:World),j+m=ops.size->B59 P base pv r j (crs.drop j) F B rs->runF (crs.drop j) rs F=F'->A0H rs B=B'->F7 C N D n0 G0 w0 F B (· < base+1024*j) G a w ->
   wpOps P ops Q (List.range' j m) a w:=by
 intro rs;induction rs with
 | nil =>
  intro m j F B G a w hj hr hF hB hd;simp only[A0H] at hB;subst hB;have hjn:j<ops.size:=by
   rcases yh j ops.size with h|h
   ·exact h
   ·rw[zn (by omega)] at hr; exact hr.elim
  obtain⟨o,ho⟩:∃o,ops[j]?=some o:=⟨_,zz hjn⟩;obtain⟨cr,hc1,hc2⟩:=hcr j o ho;have hdrop:crs.drop j=cr::crs.drop (j+1):=by
   rw[xe (by omega)];rw[zc (by omega)] at hc1;injection hc1 with hc1
   rw[hc1]
  rw[hdrop] at hr hF;simp only[runF] at hF;subst hF;obtain⟨m,rfl⟩:∃k,m=k+1:=⟨m - 1,by omega⟩;rw[wx,wpOps_cons];exact B58 hd ho hc2 hr (fun x hx _ h=>absurd (hd.used _ h) (by omega)) (by omega) (nb:=base+1024*j) (fun x hx h=>absurd (hd.used _ h) (by omega)) fun G' u w' hd' hv=>hK G' a w' u (hd'.weak fun id h=>h.elim (fun h=>by have:=hd.used _ h; omega) fun h=>by omega) hv
 | cons r0 rs ih =>
  intro m j F B G a w hj hr hF hB hd;have hjn:j<ops.size:=by
   rcases yh j ops.size with h|h
   ·exact h
   ·rw[zn (by omega)] at hr; exact hr.elim
  obtain⟨o,ho⟩:∃o,ops[j]?=some o:=⟨_,zz hjn⟩;obtain⟨cr,hc1,hc2⟩:=hcr j o ho;have hdrop:crs.drop j=cr::crs.drop (j+1):=by
   rw[xe (by omega)];rw[zc (by omega)] at hc1;injection hc1 with hc1
   rw[hc1]
  rw[hdrop] at hr hF;obtain⟨hr1,hr2⟩:=hr;obtain⟨m,rfl⟩:∃k,m=k+1:=⟨m - 1,by omega⟩;rw[wx,wpOps_cons];refine A9G hd ho hc2 hr1 (fun x hx _ h=>absurd (hd.used _ h) (by omega)) (by omega) (nb:=base+1024*j) (fun x hx h=>absurd (hd.used _ h) (by omega)) fun G' u w' hd'=>?_;exact ih m (j+1) _ _ G' _ w' (by omega) hr2 hF hB (hd'.weak fun id h=>h.elim (fun h=>by have:=hd.used _ h; omega) fun h=>by omega)
theorem F7.rebase{n1:Nat}{G1:Gh}{w1:World}{F:Fr}{B:Nat->Option Bx}{U:Nat->Prop}(h:F7 C N D n1 G1 w1 F B U G a w)(hn:n0<=n1)(e:M0 G0 w0 G1 w1)(ho:∀id,id<n0->G1.used id->G0.used id):F7 C N D n0 G0 w0 F B U G a w :=
 ⟨e.trans h.ev,h.rs,h.used,fun id hi hu=>ho id hi (h.old id (by omega) hu),h.fr,h.size,h.defers⟩
theorem Y8(β:Nat->Option Bx):∀(l r:List (Nat×Option Bx)),ov β (l++r)=ov (ov β r) l
 | [],r=>rfl
 | (i,b)::l,r=>by simp only[yv,ov,Y8 β l r]
end
theorem APn.runF{P:Program}{base:Nat}{pv:AV}{r:RR}:∀{rs:List RR} {l:List CR} {j:Nat} {σ:St},APn P base pv r j l σ rs->runF l rs (lk σ.fr)=lk (σ.apps l rs).fr
 | [],[],_,_,h=>h.elim
 | _::_,[],_,_,h=>h.elim
 | [],cr::l,j,σ,h=>rfl
 | r0::rs,cr::l,j,σ,h=>by
  have:=APn.runF h.2;simp only[St.app,B3u] at this;exact this
theorem B0m{E:R4}{σ:St}{id:Nat}{ops:Array Oper}{crs:List CR}{K:St->Prop}{Q:Exit->Act->World->Prop}(hc:o5 E.P E.N ops false = .reg false crs [])(h:Wk E [.ops crs 0 [] [],.post K] σ){G:Gh}{a:Act}{w:World}(hD:S5 E σ G a w)
  (hn:∀σ' G a w,S5 E σ' G a w->K σ'->Q .normal a w)
  (hp:∀pv u σ' G a w,F7 E.C E.N E.D E.n0 E.G0 E.w0 (lk σ'.fr) (ov E.β σ'.bx) (· < E.n0+σ.k+1024*crs.length) G a w->RV G w pv u->E.Pn pv σ'->Q (.panic [{ v:=u,recovered:=false }]) a w):(Code.region id ops false).wp E.P Q a w:=by
 unfold o5 at hc;split at hc
 ·cases hc
 ·rename_i cs hcs;obtain⟨hlen,hget⟩:=A12 hcs;have hlen':cs.length=ops.size:=by simpa using hlen
  have hcr:∀(i:Nat) o,ops[i]?=some o->∃c,cs[i]?=some c/\A0d E.P E.N ops o=some c:=fun i o ho=>hget i o (by simpa using ho);simp only[CC.reg.injEq,true_and,and_true] at hc;subst hc;refine wp_region ?_;rw[wo];rcases h with⟨rs,h1,h2,h3⟩|⟨rs,pv,r,h1,h2,h3⟩
  ·obtain⟨q1,q2,q3,q4⟩:=h1.runs E.β;refine B8O hlen' hcr (base:=E.n0+σ.k) (by omega) (Q:=Q) (F':=runF cs rs (lk σ.fr)) (B':=A0H rs (ov E.β σ.bx)) (fun G a w h=>hn _ G a w ?_ h3) ops.size 0 rs _ _ G a w (by omega) q1 rfl rfl (hD.weak fun id hid=>by omega);rw[q2,q3] at h;simp only[S5,St.bump,q4];exact h.weak fun id hid=>by rw[hlen']; omega
  ·obtain⟨q1,q2,q3,cp,q4,q5⟩:=h1.runs E.β;have q6:=h1.runF;refine C1c hlen' hcr (base:=E.n0+σ.k) (by omega) (Q:=Q) (pv:=pv) (r:=r) (F':=runF cs rs (lk σ.fr)) (B':=A0H rs (ov E.β σ.bx)) (fun G a w u h hv=>hp pv u _ G a w ?_ hv h3) rs ops.size 0 _ _ G a w (by omega) q1 rfl rfl (hD.weak fun id hid=>by omega);rw[q6,q3,←A3h] at h;exact h.weak fun id hid=>by rw[hlen']; omega
theorem RS.tabs{P:Program}{C:Cx P}{G:Gh}{bx:Nat->Option Bx}{w:World}(h:RS C G bx w):A6W P w:=C.tab w h.below
theorem A1R{G:Gh}{w:World}{x:AV}{vs:Array Value}(h:RVs G w [x] vs):∃v,vs = #[v]/\RV G w x v:=by
 obtain⟨h1,h2⟩:=h;obtain⟨l⟩:=vs;match l,h1,h2 with
 | [v],_,h2=>exact⟨v,rfl,h2 0 x rfl⟩
theorem A6I{G:Gh}{w:World}{x y:AV}{vs:Array Value}(h:RVs G w [x,y] vs):∃u v,vs = #[u,v]/\RV G w x u/\RV G w y v:=by
 obtain⟨h1,h2⟩:=h;obtain⟨l⟩:=vs;match l,h1,h2 with
 | [u,v],_,h2=>exact⟨u,v,rfl,h2 0 x rfl,h2 1 y rfl⟩
theorem C1d{P:Program}{C:Cx P}{G:Gh}{bx:Nat->Option Bx}{w:World}(hs:RS C G bx w){ks:List (List UInt8)}{v:Value}(h:RV G w (.sl (ks.map .str)) v):
 ∃(A:Option Addr) (c:Nat),v = .slice A ks.length c/\ks.length<=c/\c<=maxLen/\(ks=[]\/∃b o,A=some ⟨b,o,none⟩/\b<w.heap.size/\∀(j:Nat) s,ks[j]?=some s->w.cell? ⟨b,o+j,none⟩=some (.string ⟨⟨s⟩⟩)):=by
 cases h with
 | sl xs A c s u hc hm hn hs1 h1 h2 h3 =>
 refine⟨A,c,by simp,by simpa using hc,hm,?_⟩;have key:∀a,A=some a->∀(j:Nat) t,ks[j]?=some t->w.cell? (a.add j)=some (.string ⟨⟨t⟩⟩):=fun a ha j t ht=>by
  have e1:(ks.map AV.str)[j]?=some (.str t):=by simp[ht]
  have e2:(AV.str t).cells[0]?=some (.str t):=rfl;have e3:=hs1 j _ e1;have e4:=h2 a j _ 0 _ ha e1 e2;have e5:=h3 j _ 0 _ e1 e2;have e6:s=1:=by simpa [AV.cells] using e3.symm
  subst e6;rw[show (j:Nat)*1+0=j by omega] at e4;rw[e4];cases hu:u j 0 with
  | string z=>rw[hu] at e5; cases e5; rfl
  | _=>rw[hu] at e5; cases e5
 cases ks with
 | nil=>exact .inl rfl
 | cons k0 kr =>
  refine .inr ?_;cases A with
  | none=>simpa using (hn rfl).1
  | some a =>
  have k0':=key a rfl 0 k0 rfl;obtain⟨b,o,e⟩:=a;cases e with
  | some e =>
   exfalso;simp only[World.cell?,Addr.add] at k0';revert k0';split
   all_goals (intro k0'; first|(cases k0'; done)|(simp at k0'; done)|skip)
   all_goals (revert k0'; split<;>intro k0'<;>simp at k0')
  | none =>
   refine⟨b,o,rfl,by have:=A4K k0'; rwa [Y3] at this,fun j t ht=>?_⟩;have:=A95 (key _ rfl j t ht)
   rwa [Y3,A1N] at this
theorem A5Y{P:Program}{f:Nat}{args:List AV}{id:Nat}{res:AV}(hp:Z8 P f)
  (h:∀(C:Cx P) (G:Gh) (bx:Nat->Option Bx) (w:World) (vs:Array Value),RS C G bx w->RVs G w args vs->Calls P f vs w fun e w'=>∃v,e = .returned v/\(∀G w,RV G w res v)/\Below w.heap.size w w'):A2 P f args [] id res [] :=
 C3Z hp fun C G bx w vs hs hv _=>h C G bx w vs hs hv
section
variable {P:Program} {C:Cx P} {N:Nat} {D:List Deferred} {n0:Nat} {G0:Gh} {w0:World} {ops:Array Oper} {Q:Exit->Act->World->Prop}
theorem C3a{crs:List CR}{rs:List RR}{base p m:Nat}{pv:AV}{F0:Fr}{B0:Nat->Option Bx}(hn:n0<=base)(hl2:crs.length=rs.length)(hml:m=crs.length)(hpm:p<m)(hms:m<=ops.size)(hcr:∀(i:Nat) o c,ops[i]?=some o->crs[i]?=some c->A0d P N ops o=some c)
  (hr:∀(j:Nat) cr r,j≠p->crs[j]?=some cr->rs[j]?=some r->OpR P cr (base+1024*j) (D2 (stF crs rs) (fun i=>decide (i<j)&&decide (i≠p)) (List.range m) F0) (D2 (stB rs) (fun i=>decide (i<j)&&decide (i≠p)) (List.range m) B0) r)
  (hac:∀(j:Nat) o,ops[j]?=some o->∀e∈o.after,Region.binds .any e=true->e.on<j)
  (hcf:∀(i j:Nat) x y r s,i<j->crs[i]?=some x->crs[j]?=some y->rs[i]?=some r->rs[j]?=some s->S4 ops i j\/(M7 x y=true/\V7 r s))
  (hw:∀i,m<=i->i<ops.size->S4 ops p i)
  (hpn:∀cr r,crs[p]?=some cr->rs[p]?=some r->OpP P cr (base+1024*p) (D2 (stF crs rs) (fun i=>decide (i<p)&&decide (i≠p)) (List.range m) F0) (D2 (stB rs) (fun i=>decide (i<p)&&decide (i≠p)) (List.range m) B0) pv r)
  (hQ:∀r,rs[p]?=some r->∀L G a w u,F7 C N D n0 G0 w0 (D2 (stF crs rs) L (List.range m) F0) (F4 (D2 (stB rs) L (List.range m) B0) r.wr) (· < base+1024*ops.size) G a w->RV G w pv u->Q (.panic [{ v:=u,recovered:=false }]) a w) :
  ∀(fuel:Nat) (listed:Array Bool) (G:Gh) (a:Act) (w:World),listed.size=ops.size->A7V ops (fun i=>listed.getD i false)->listed.getD p false=false->(∀i,m<=i->listed.getD i false=false)->(List.range ops.size).countP (fun i=>!listed.getD i false)<=fuel ->
   F7 C N D n0 G0 w0 (D2 (stF crs rs) (fun i=>listed.getD i false) (List.range m) F0) (D2 (stB rs) (fun i=>listed.getD i false) (List.range m) B0) (fun id=>id<base\/∃i,listed.getD i false=true/\base+1024*i<=id/\id<base+1024*i+1024) G a w ->
   wpAny P .any ops Q fuel listed a w:=by
 have done:∀(listed:Array Bool),listed.size=ops.size->listed.getD p false=false->Region.ready .any ops listed=[]->False:=by
  intro listed hsz hpf hrd;have all:∀j,j<ops.size->listed.getD j false=true:=fun j=>by
   induction j using Nat.strongRecOn with
   | _ j ih =>
    intro hj;cases hlj:listed.getD j false with
    | true=>rfl
    | false =>
     obtain⟨o,ho⟩:∃o,ops[j]?=some o:=⟨_,zz hj⟩;have:j∈Region.ready .any ops listed:=mem_ready.2 ⟨by
      rw[zk,zz (by omega)] at hlj ⊢;exact hlj,o,ho,fun e he hb=>ih e.on (hac j o ho e he hb) (Nat.lt_trans (hac j o ho e he hb) hj)⟩
     rw[hrd] at this; cases this
  have:=all p (by omega);rw[hpf] at this; cases this
 intro fuel;induction fuel with
 | zero =>
  intro listed G a w hsz hcl hpf hlow hct hd;have hrd:Region.ready .any ops listed=[]:=by
   cases hrd:Region.ready .any ops listed with
   | nil=>rfl
   | cons j l =>
    obtain⟨h0,o,ho,_⟩:=mem_ready.1 (show j∈Region.ready .any ops listed by rw[hrd]; simp);have hj:j<ops.size:=(xl.1 ho).1;have h1:listed.getD j false=false:=by
     rw[zk,zz (by omega)] at h0 ⊢;exact h0
    have:0<(List.range ops.size).countP (fun i=>!listed.getD i false):=List.countP_pos_iff.2 ⟨j,by simpa using hj,by rw[h1]; rfl⟩;omega
  exact⟨hrd,(done listed hsz hpf hrd).elim⟩
 | succ fuel ih =>
  intro listed G a w hsz hcl hpf hlow hct hd;refine⟨fun hrd=>(done listed hsz hpf hrd).elim,fun j hj=>?_⟩;obtain⟨h0,o,ho,hed⟩:=mem_ready.1 hj;have hjn:j<ops.size:=(xl.1 ho).1;have hDj:listed.getD j false=false:=by
   rw[zk,zz (by omega)] at h0 ⊢;exact h0
  have ahead:∀i,S4 ops i j->listed.getD i false=true:=fun i hb=>A4n hcl hb fun o' ho' e he hbd=>by
   rw[ho] at ho'; injection ho' with ho'; subst ho'; exact hed e he hbd
  have behind:∀i,S4 ops j i->listed.getD i false=false:=fun i hb=>by
   cases h:listed.getD i false with
   | false=>rfl
   | true=>have:=hcl.before hb h; rw[hDj] at this; cases this
  have hjm:j<m:=by
   rcases yh j m with h|h
   ·exact h
   ·have:=ahead p (hw j h hjn); rw[hpf] at this; cases this
  have hjl:j<crs.length:=by omega
  obtain⟨cr,hc1⟩:∃c,crs[j]?=some c:=⟨_,zc hjl⟩;have hc2:=hcr j o cr ho hc1;have hrj:rs[j]?=some rs[j]:=zc (by omega);generalize rs[j]=r at hrj;have slots:∀x∈cr.looks,D2 (stF crs rs) (fun i=>decide (i<j)&&decide (i≠p)) (List.range m) F0 x=D2 (stF crs rs) (fun i=>listed.getD i false) (List.range m) F0 x:=fun x hx =>
   m9 B8Q (C1L hl2) (fun i hi ⟨c,hc,hdst⟩=>by
    have hin:i<m:=(by simpa using hi);by_cases hip:i=p
    ·subst hip; rw[hpf]; simp
    rcases uh i j with h|h|h
    ·rcases hcf i j c cr _ r h hc hc1 (zc (by omega)) hrj with hb|⟨hs,_⟩
     ·rw[ahead i hb]; simp[h,hip]
     ·simp only[M7,hdst,yg,wt,uj,decide_eq_false_iff_not] at hs;exact (hs.1.1 hx).elim
    ·subst h; rw[hDj]; simp
    ·rcases hcf j i cr c r _ h hc1 hc hrj (zc (by omega)) with hb|⟨hs,_⟩
     ·rw[behind i hb]; simp; omega
     ·simp only[M7,hdst,yg,wt,uj,decide_eq_false_iff_not] at hs;exact (hs.2 hx).elim) rfl
  have boxes:K5 (D2 (stB rs) (fun i=>decide (i<j)&&decide (i≠p)) (List.range m) B0) r.rd->K5 (D2 (stB rs) (fun i=>listed.getD i false) (List.range m) B0) r.rd:=fun hh q hq=>by
   rw[←hh q hq];refine (m9 C1M C1N (fun i hi ⟨s,hs,hx⟩=>?_) rfl).symm;have hin:i<m:=(by simpa using hi);have hqr:q.1∈Z3 r.rd:=zu.2 ⟨q,hq,rfl⟩;by_cases hip:i=p
   ·subst hip; rw[hpf]; simp
   rcases uh i j with h|h|h
   ·rcases hcf i j _ cr s r h (zc (by omega)) hc1 hs hrj with hb|⟨_,ha⟩
    ·rw[ahead i hb]; simp[h,hip]
    ·exact (R6.1 ha.1 _ hx hqr).elim
   ·subst h; rw[hDj]; simp
   ·rcases hcf j i cr _ r s h hc1 (zc (by omega)) hrj hs with hb|⟨_,ha⟩
    ·rw[behind i hb]; simp; omega
    ·exact (R6.1 ha.2.2 _ hx hqr).elim
  have hU:∀x,base+1024*j<=x->x<base+1024*j+1024->¬G.used x:=fun x hx1 hx2 h=>by
   rcases hd.used _ h with h|⟨i,hi,h,h'⟩
   ·omega
   ·have:i=j:=by omega
    subst this; rw[hDj] at hi; cases hi
  have hnb:∀x,base+1024*ops.size<=x->¬G.used x:=fun x hx h=>by
   rcases hd.used _ h with h|⟨i,hi,h,h'⟩
   ·omega
   ·have:i<ops.size:=by
     rw[←hsz];rcases yh i listed.size with h|h
     ·exact h
     ·rw[zk,ws h] at hi; cases hi
    omega
  by_cases hje:j=p
  ·subst hje;have hop:=hpn cr r hc1 hrj;have hop':=hop.local (fun n hn=>slots n (by simp[CR.looks,hn])) (fun n hn=>slots n (by simp[CR.looks,hn])) (fun s want hg=>slots s (by simp[CR.looks,hg])) (boxes hop.has);exact B58 hd ho hc2 hop' hU (by omega) hnb fun G' u w' hd' hv=>hQ r hrj _ G' a w' u (hd'.weak fun x hx=>by
    rcases hx with hx|hx
    ·rcases yh x (base+1024*ops.size) with h|h
     ·exact h
     ·exact (hnb x h hx).elim
    ·omega) hv
  have hop:=hr j cr r hje hc1 hrj;have hop':=hop.local (fun n hn=>slots n (by simp[CR.looks,hn])) (fun n hn=>slots n (by simp[CR.looks,hn])) (fun s want hg=>slots s (by simp[CR.looks,hg])) fun hrc=>boxes (hop.2.2.1 hrc).has;refine A9G hd ho hc2 hop' hU (by omega) hnb fun G' u w' hd'=>?_;have hget:∀i,(listed.setIfInBounds j true).getD i false=(if i=j then true else listed.getD i false):=fun i=>by
   rw[zk,wy];by_cases hij:j=i
   ·subst hij; simp[show j<listed.size by omega]
   ·rw[zf hij,zf (fun h=>hij h.symm),zk]
  have hsp:=A0G j m hjm;have hnl:j∉List.range' (j+1) (m - j - 1):=fun h=>by rw[xp] at h; omega
  have eF:A1m (D2 (stF crs rs) (fun i=>listed.getD i false) (List.range m) F0) cr.dst r=D2 (stF crs rs) (fun i=>(listed.setIfInBounds j true).getD i false) (List.range m) F0:=by
   have:A1m (D2 (stF crs rs) (fun i=>listed.getD i false) (List.range m) F0) cr.dst r=stF crs rs j (D2 (stF crs rs) (fun i=>listed.getD i false) (List.range m) F0):=by
    simp only[stF,hc1,hrj]
   rw[this,hsp];refine A3d B8Q (C1L hl2) (by rw[hget,zj rfl]) (fun i hi=>by simp only[hget,zf hi]) hnl fun i hi hD x ⟨c,hc,hx⟩ ⟨c',hc',hx'⟩=>?_;rw[xp] at hi;rw[hc1] at hc; injection hc with hc; subst hc
   rcases hcf j i cr c' r _ (by omega) hc1 hc' hrj (zc (by have:=(ze.1 hc').1; omega)) with hb|⟨hs,_⟩
   ·rw[behind i hb] at hD; cases hD
   ·simp[M7,hx,hx'] at hs
  have eB:F4 (D2 (stB rs) (fun i=>listed.getD i false) (List.range m) B0) r.wr=D2 (stB rs) (fun i=>(listed.setIfInBounds j true).getD i false) (List.range m) B0:=by
   have:F4 (D2 (stB rs) (fun i=>listed.getD i false) (List.range m) B0) r.wr=stB rs j (D2 (stB rs) (fun i=>listed.getD i false) (List.range m) B0):=by
    simp only[stB,hrj]
   rw[this,hsp];refine A3d C1M C1N (by rw[hget,zj rfl]) (fun i hi=>by simp only[hget,zf hi]) hnl fun i hi hD x ⟨s,hs,hx⟩ ⟨s',hs',hx'⟩=>?_;rw[xp] at hi;rw[hrj] at hs; injection hs with hs; subst hs
   rcases hcf j i cr _ r s' (by omega) hc1 (zc (by have:=(ze.1 hs').1; omega)) hrj hs' with hb|⟨_,ha⟩
   ·rw[behind i hb] at hD; cases hD
   ·exact R6.1 ha.2.1 _ hx hx'
  rw[eF,eB] at hd';refine ih (listed.setIfInBounds j true) G' _ w' (by simp[hsz]) (fun k ok hk hDk e he hb=>?_) (by rw[hget,zf (fun h=>hje h.symm)]; exact hpf) (fun i hi=>by rw[hget,zf (by omega)]; exact hlow i hi) ?_ (hd'.weak fun id h=>?_)
  ·simp only[hget] at hDk ⊢;by_cases hkj:k=j
   ·subst hkj;rw[ho] at hk; injection hk with hk; subst hk
    split
    ·rfl
    ·exact hed e he hb
   ·rw[zf hkj] at hDk;split
    ·rfl
    ·exact hcl k ok hk hDk e he hb
  ·rw[A0G j ops.size hjn] at hct ⊢;simp only[tc,tr,hDj,qa,if_true] at hct;have hnl:j∉List.range' (j+1) (ops.size - j - 1):=fun h=>by rw[xp] at h; omega
   have c1:∀l:List Nat,j∉l->l.countP (fun i=>!(listed.setIfInBounds j true).getD i false)=l.countP (fun i=>!listed.getD i false):=fun l hl=>List.countP_congr fun i hi=>by
    have hij:i≠j:=fun h=>hl (h▸hi);rw[hget,zf hij]
   simp only[tc,tr,hget j,if_true,qd,xi,if_false];rw[c1 _ (by simp),c1 _ hnl];omega
  ·rcases h with h|h
   ·rcases hd.used _ h with h|⟨i,hi,h⟩
    ·exact .inl h
    ·exact .inr ⟨i,by rw[hget]; split; rfl; exact hi,h⟩
   ·exact .inr ⟨j,by rw[hget,zj rfl],h⟩
end
section
variable {α β:Type} {st:Nat->(α->β)->α->β}
theorem B8k{p m j:Nat}(hj:j<=p)(hp:p<m)(f:α->β):D2 st (fun i=>decide (i<j)&&decide (i≠p)) (List.range m) f=D2 st (fun _=>true) (List.range' 0 j) f:=by
 rw[X4 (D':=fun i=>decide (i<j)) fun i _=>?_,A30 (by omega)];by_cases h:i<j
 ·have:i≠p:=by omega
  simp[h,this]
 ·simp[h]
theorem B8l{p m j:Nat}(hj:p<j)(hm:j<=m)(f:α->β):D2 st (fun i=>decide (i<j)&&decide (i≠p)) (List.range m) f=D2 st (fun _=>true) (List.range' (p+1) (j - p - 1)) (D2 st (fun _=>true) (List.range' 0 p) f):=by
 have e:List.range' (p+1) (m - p - 1)=List.range' (p+1) (j - p - 1)++List.range' j (m - j):=by
  have:=tv (s:=p+1) (m:=j - p - 1) (n:=m - j);rw[show p+1+(j - p - 1)=j by omega,show j - p - 1+(m - j)=m - p - 1 by omega] at this;exact this.symm
 rw[A0G p m (by omega),s6,e,wo];simp only[D2];rw[zf (by simp),s6];rw[X4 (D':=fun _=>true) (l:=List.range' 0 p) fun i hi=>by rw[xp] at hi; simp; omega];rw[X4 (D':=fun _=>true) (l:=List.range' (p+1) (j - p - 1)) fun i hi=>by rw[xp] at hi; simp; omega];exact n9 fun i hi=>by rw[xp] at hi; simp; omega
end
def B42(rs:List RR)(p m:Nat):List (Nat×Nat)->Prop
 | []=>True
 | q::l=>(if q.2<m then V7 (A1L rs q.1) (A1L rs q.2) else q.1≠p)/\B42 rs p m l
theorem A7d{rs:List RR}{p m:Nat}:∀{ps:List (Nat×Nat)},B42 rs p m ps->∀q∈ps,(q.2<m->V7 (A1L rs q.1) (A1L rs q.2))/\(m<=q.2->q.1≠p)
 | [],_,q,hq=>by cases hq
 | x::l,h,q,hq=>by
  rcases zh.1 hq with rfl|hq
  ·have h1:=h.1;split at h1
   ·exact⟨fun _=>h1,fun h=>by omega⟩
   ·exact⟨fun h=>by omega,fun _=>h1⟩
  ·exact A7d h.2 q hq
section
variable {E:R4} {σ:St} {k:List Itm}
theorem x6.len{P:Program}{base:Nat}:∀{l:List CR} {j:Nat} {σ:St} {rs:List RR},x6 P base j l σ rs->l.length=rs.length
 | [],_,_,[],_=>rfl
 | [],_,_,_::_,h=>h.elim
 | _::_,_,_,[],h=>h.elim
 | cr::l,j,σ,r::rs,h=>by simp[x6.len h.2]
theorem A9W{crs:List CR}{rs:List RR}{L:Nat->Bool}{n:Nat}:∀(l:List Nat) {F:Fr},(∀(i:Nat) (c0:CR),crs[i]?=some c0->c0.dst≠some n)->D2 (stF crs rs) L l F n=F n
 | [],_,_=>rfl
 | i::l,F,h=>by
  simp only[D2];rw[A9W l h];split
  ·exact B8Q i F n fun⟨c0,h1,h2⟩=>h i c0 h1 h2
  ·rfl
theorem A7e{id:Nat}{ops:Array Oper}{ps:List (Nat×Nat)}{l1 l2 l3:List CR}{c:CR}(hc:o5 E.P E.N ops true = .reg true (l1++c::(l2++l3)) ps){rs1 rs2:List RR}{r:RR}{pv:AV}
  (h1:x6 E.P (E.n0+σ.k) 0 l1 σ rs1) (h2:OpP E.P c (E.n0+σ.k+1024*l1.length) (lk (σ.apps l1 rs1).fr) (bk (σ.apps l1 rs1).bx) pv r)
  (h3:x6 E.P (E.n0+σ.k) (l1.length+1) l2 (σ.apps l1 rs1) rs2) (hd:B42 (rs1++r::rs2) l1.length (l1.length+1+l2.length) ps) {Q:Exit->Act->World->Prop}
  (hK:∀F B k' G u a w,F7 E.C E.N E.D E.n0 E.G0 E.w0 F B (· < E.n0+k') G a w->(∀n,(∀x∈l1++c::l2,x.dst≠some n)->F n=lk σ.fr n)->B5A E.β (((σ.apps l1 rs1).apps l2 rs2).app none r).bx B->RV G w pv u->Q (.panic [{ v:=u,recovered:=false }]) a w) {G:Gh} {a:Act} {w:World} (hD:S5 E σ G a w):(Code.region id ops true).wp E.P Q a w:=by
 unfold o5 at hc;split at hc
 ·cases hc
 rename_i cs hcs;obtain⟨hlen,hget⟩:=A12 hcs;have hlen':cs.length=ops.size:=by simpa using hlen
 have hcr:∀(i:Nat) o,ops[i]?=some o->∃c,cs[i]?=some c/\A0d E.P E.N ops o=some c:=fun i o ho=>hget i o (by simpa using ho);simp only at hc;split at hc
 rotate_left
 ·cases hc
 rename_i hs;rw[yg] at hs;simp only[CC.reg.injEq,true_and] at hc;obtain⟨hcq,rfl⟩:=hc;obtain⟨s1,s2⟩:=A32 hs.1;have n1:=h1.len;have n2:=h3.len;obtain⟨u1,u2,u3,u4⟩:=h1.runs E.β;obtain⟨v1,v2,v3,v4⟩:=h3.runs E.β;rw[←u2,←u3] at v1;have h2':=h2.ov E.β;rw[←u2,←u3] at h2';have hmw:=h2.mayW;have hcl:cs.length=l1.length+1+l2.length+l3.length:=by rw[hcq]; simp; omega
 have inA:∀q,q∈((σ.apps l1 rs1).apps l2 rs2).bx->q∈(((σ.apps l1 rs1).apps l2 rs2).app none r).bx:=fun q hq=>A1D.2 (.inl hq);have inR:∀q,q∈r.wr->q∈(((σ.apps l1 rs1).apps l2 rs2).app none r).bx:=fun q hq=>A1D.2 (.inr hq);refine wp_region_any hs.2 ?_;obtain⟨r1,r2⟩:=hD.rs.drew;have hD':F7 E.C E.N E.D E.n0 E.G0 E.w0 (lk σ.fr) (ov E.β σ.bx) (· < E.n0+σ.k) G a w.drew:=F7.step hD r1 r2 (fun id h=>hD.used id h) fun id _ h=>h;have anc:=A6q (ops:=ops) (l:=ops.toList) (acc:=[]) (fun i o ho=>by simpa using ho) fun j i hi=>by simp at hi
 have e1:∀(D:Nat->Bool),(∀i,D i=false)->∀{β:Type} (st:Nat->(Nat->β)->Nat->β) (f:Nat->β) (n:Nat),D2 st D (List.range n) f=f:=fun D hD β st f n=>n9 fun i _=>hD i;have none:∀i,(Array.replicate ops.size false).getD i false=false:=fun i=>by simp[zk,uv]; split<;>rfl
 have g1:∀(i:Nat) c',(l1++c::l2)[i]?=some c'->i<l1.length+1+l2.length/\cs[i]?=some c':=fun i c' h=>by
  have hi:i<l1.length+1+l2.length:=by have:=(ze.1 h).1; simp at this; omega
  refine⟨hi,?_⟩;have e:l1++c::(l2++l3)=(l1++c::l2)++l3:=by simp
  rw[hcq,e,yf (by simp; omega)];exact h
 have at1:∀{i:Nat} {α:Type} (a b:List α) (x:α),i<a.length->(a++x::b)[i]?=a[i]?:=fun a b x h=>yf h;have at2:∀{i:Nat} {α:Type} (a b:List α) (x:α),(a++x::b)[a.length+1+i]?=b[i]?:=fun {i} {α} a b x=>by
  rw[yj (by omega),show a.length+1+i - a.length=i+1 by omega]; rfl
 have at0:∀{α:Type} (a b:List α) (x:α),(a++x::b)[a.length]?=some x:=fun a b x=>by
  rw[yj (by omega),qi]; rfl
 have hdr1:∀{α:Type} (a b:List α) (x:α),(a++x::b).drop (a.length+1)=b:=fun a b x=>by
  rw[List.drop_append,zn (by omega),show a.length+1 - a.length=1 by omega]; rfl
 have hl2:(l1++c::l2).length=(rs1++r::rs2).length:=by simp; omega
 have fF1:∀j,j<=l1.length->D2 (stF (l1++c::l2) (rs1++r::rs2)) (fun i=>decide (i<j)&&decide (i≠l1.length)) (List.range (l1.length+1+l2.length)) (lk σ.fr)=runF (l1.take j) (rs1.take j) (lk σ.fr):=fun j hj=>by
  rw[B8k hj (by omega)];have:=A1z hl2 j 0 (lk σ.fr) (by simp; omega);rw[←this,wh,wh,xz hj,xz (by omega)]
 have fB1:∀j,j<=l1.length->D2 (stB (rs1++r::rs2)) (fun i=>decide (i<j)&&decide (i≠l1.length)) (List.range (l1.length+1+l2.length)) (ov E.β σ.bx)=A0H (rs1.take j) (ov E.β σ.bx):=fun j hj=>by
  rw[B8k hj (by omega)];have:=A20 (rs:=rs1++r::rs2) j 0 (ov E.β σ.bx) (by simp; omega);rw[←this,wh,xz (by omega)]
 have tk1:∀{α:Type} (a b:List α) (x:α),(a++x::b).take a.length=a:=fun a b x=>List.take_left;have fF2:∀j,j<=l2.length->D2 (stF (l1++c::l2) (rs1++r::rs2)) (fun i=>decide (i<l1.length+1+j)&&decide (i≠l1.length)) (List.range (l1.length+1+l2.length)) (lk σ.fr)=runF (l2.take j) (rs2.take j) (runF l1 rs1 (lk σ.fr)):=fun j hj=>by
  rw[B8l (by omega) (by omega)];have a1:=A1z hl2 l1.length 0 (lk σ.fr) (by simp);rw[wh,wh,tk1,n1,tk1,←n1] at a1;have a2:=A1z hl2 j (l1.length+1) (runF l1 rs1 (lk σ.fr)) (by simp; omega);rw[hdr1,n1,hdr1,←n1] at a2;rw[←a1,show l1.length+1+j - l1.length - 1=j by omega,←a2]
 have fB2:∀j,j<=l2.length->D2 (stB (rs1++r::rs2)) (fun i=>decide (i<l1.length+1+j)&&decide (i≠l1.length)) (List.range (l1.length+1+l2.length)) (ov E.β σ.bx)=A0H (rs2.take j) (A0H rs1 (ov E.β σ.bx)):=fun j hj=>by
  rw[B8l (by omega) (by omega)];have a1:=A20 (rs:=rs1++r::rs2) l1.length 0 (ov E.β σ.bx) (by simp; omega);rw[wh,n1,tk1,←n1] at a1;have a2:=A20 (rs:=rs1++r::rs2) j (l1.length+1) (A0H rs1 (ov E.β σ.bx)) (by simp; omega);rw[n1,hdr1,←n1] at a2;rw[←a1,show l1.length+1+j - l1.length - 1=j by omega,←a2]
 have pure:∀(i:Nat) z t,i≠l1.length->(l1++c::l2)[i]?=some z->(rs1++r::rs2)[i]?=some t->z.op.mayW=false->t.wr=[]:=fun i z t hi hz ht hzw=>by
  have key:∀{id:Nat} {F:Fr} {B:Nat->Option Bx},OpR E.P z id F B t->t.wr=[]:=fun h=>by
   obtain⟨_,_,g3,g4⟩:=h;cases hc:t.c with
   | false=>exact g4 hc
   | true=>exact A4G (g3 hc) hzw
  rcases yh i l1.length with h|h
  ·rw[at1 _ _ _ h] at hz;rw[at1 _ _ _ (by omega)] at ht;exact key (u1.get i z t hz ht)
  ·obtain⟨i,rfl⟩:∃i',i=l1.length+1+i':=⟨i - l1.length - 1,by omega⟩;rw[at2] at hz;rw[n1,at2] at ht;exact key (v1.get i z t hz ht)
 have hcf:∀(i j:Nat) x y r0 s,i<j->(l1++c::l2)[i]?=some x->(l1++c::l2)[j]?=some y->(rs1++r::rs2)[i]?=some r0->(rs1++r::rs2)[j]?=some s->S4 ops i j\/(M7 x y=true/\V7 r0 s):=fun i j x y r0 s hij hx hy hr' hs'=>by
  obtain⟨hi1,hx1⟩:=g1 i x hx;obtain⟨hj1,hy1⟩:=g1 j y hy;by_cases hb:i∈(A8p ops.toList []).getD j []
  ·exact .inl (anc j i hb)
  ·refine .inr ?_;have hj:j<ops.size:=(by omega);have hm:=g9.2 ⟨hj,hij,hb⟩;refine⟨s2 i j hm x y hx1 hy1,?_⟩;cases hw:x.op.mayW||y.op.mayW with
   | true =>
    have:=(A7d hd (i,j) (td.2 ⟨hm,by simp only[hx1,hy1,hw]⟩)).1 hj1;simpa only[n8 hr',n8 hs'] using this
   | false =>
    simp only[we] at hw;have hip:i≠l1.length:=fun h=>by subst h; rw[at0] at hx; injection hx with hx; subst hx; rw[hmw] at hw; cases hw.1
    have hjp:j≠l1.length:=fun h=>by subst h; rw[at0] at hy; injection hy with hy; subst hy; rw[hmw] at hw; cases hw.2
    simp[V7,pure i x r0 hip hx hr' hw.1,pure j y s hjp hy hs' hw.2,O8,l8]
 refine C3a (C:=E.C) (D:=E.D) (G0:=E.G0) (w0:=E.w0) (n0:=E.n0) (base:=E.n0+σ.k) (p:=l1.length) (m:=l1.length+1+l2.length) (crs:=l1++c::l2) (rs:=rs1++r::rs2) (pv:=pv) (F0:=lk σ.fr) (B0:=ov E.β σ.bx) (by omega) hl2 (by simp; omega) (by omega) (by omega)
  (fun i o c' ho hc'=>by obtain⟨c'',k1,k2⟩:=hcr i o ho; rw[(g1 i c' hc').2] at k1; injection k1 with k1; rw[k1]; exact k2) (fun j cr r0 hj hcj hrj=>?_) s1 hcf (fun i hi hi2=>?_) (fun cr r0 hcj hrj=>?_) (fun r0 hrj L G a w u h hv=>?_) ops.size _ G a w.drew (by simp) (fun j o ho hj=>by simp only[none] at hj; cases hj) (none _) (fun i _=>none i) ?_ ?_
 ·rcases yh j l1.length with h|h
  ·rw[fF1 j (by omega),fB1 j (by omega)];rw[at1 _ _ _ h] at hcj;rw[at1 _ _ _ (by omega)] at hrj;have:=u1.get j cr r0 hcj hrj;rw[yy] at this;exact this
  ·obtain⟨i,rfl⟩:∃i',j=l1.length+1+i':=⟨j - l1.length - 1,by omega⟩;rw[at2] at hcj;rw[n1,at2] at hrj;have hil:i<l2.length:=(ze.1 hcj).1;rw[fF2 i (by omega),fB2 i (by omega)];exact v1.get i cr r0 hcj hrj
 ·by_cases hb:l1.length∈(A8p ops.toList []).getD i []
  ·exact anc i _ hb
  ·exfalso;have hm:=g9.2 ⟨hi2,(show l1.length<i by omega),hb⟩;obtain⟨y,hy⟩:∃y,cs[i]?=some y:=⟨_,zc (by omega)⟩;have hcp:cs[l1.length]?=some c:=(by rw[hcq]; exact at0 _ _ _);exact (A7d hd (l1.length,i) (td.2 ⟨hm,by simp only[hcp,hy,hmw,qj]⟩)).2 hi rfl
 ·rw[at0] at hcj;rw[n1,at0] at hrj;injection hcj with hcj; injection hrj with hrj
  subst hcj hrj;rw[fF1 _ (ya _),fB1 _ (ya _),zq (ya _),zq (by omega)];exact h2'
 ·rw[n1,at0] at hrj;injection hrj with hrj
  subst hrj;refine hK _ _ (σ.k+1024*ops.size) G u a w (h.weak fun x hx=>by omega) (fun n hn=>?_) (fun y=>?_) hv
  ·refine A9W _ fun i c0 hi hd0=>hn c0 (zg hi) hd0
  by_cases hy:y∈O8 r.wr
  ·exact .inr (inR _ (A31 hy))
  ·rw[P4 hy];rcases A4H (rs:=rs1++r::rs2) (L:=L) y (l:=List.range (l1.length+1+l2.length)) (B:=ov E.β σ.bx) with h|⟨r0,k1,k2⟩
   ·rw[h];exact (A6r y _).imp _root_.id fun h=>inA _ (A0I (by omega) (.inl (A0I (by omega) (.inl h))))
   ·refine .inr ?_;rcases zo.1 k1 with k1|k1
    ·exact inA _ (A0I (by omega) (.inl (A0I (by omega) (.inr ⟨r0,k1,k2⟩))))
    ·rcases zh.1 k1 with k1|k1
     ·subst k1; exact inR _ k2
     ·exact inA _ (A0I (by omega) (.inr ⟨r0,k1,k2⟩))
 ·refine ut to (by simp)
 ·rw[e1 _ none,e1 _ none];exact hD'.weak fun id hid=>.inl hid
theorem B43{id:Nat}{ops:Array Oper}{ps:List (Nat×Nat)}{l1 l2 l3:List CR}{c:CR}(hc:o5 E.P E.N ops true = .reg true (l1++c::(l2++l3)) ps){rs1 rs2:List RR}{r:RR}{pv:AV}
  (h1:x6 E.P (E.n0+σ.k) 0 l1 σ rs1) (h2:OpP E.P c (E.n0+σ.k+1024*l1.length) (lk (σ.apps l1 rs1).fr) (bk (σ.apps l1 rs1).bx) pv r)
  (h3:x6 E.P (E.n0+σ.k) (l1.length+1) l2 (σ.apps l1 rs1) rs2) (hd:B42 (rs1++r::rs2) l1.length (l1.length+1+l2.length) ps) {K:St->Prop} {X:Nat->St->Prop}
  (hK:E.Pn pv (((σ.apps l1 rs1).apps l2 rs2).app none r)) {G:Gh} {a:Act} {w:World} (hD:S5 E σ G a w):(Code.region id ops true).wp E.P (A8r E K X) a w :=
 A7e hc h1 h2 h3 hd (fun F B k' G u a w q1 _ q3 q4=>⟨pv,u,_,F,B,_,G,rfl,q1,q3,q4,hK⟩) hD
theorem C3b{ps:List (Nat×Nat)}(l1 l2 l3:List CR)(c:CR){rs1 rs2:List RR}{r:RR}{pv:AV}
  (h1:x6 E.P (E.n0+σ.k) 0 l1 σ rs1) (h2:OpP E.P c (E.n0+σ.k+1024*l1.length) (lk (σ.apps l1 rs1).fr) (bk (σ.apps l1 rs1).bx) pv r)
  (h3:x6 E.P (E.n0+σ.k) (l1.length+1) l2 (σ.apps l1 rs1) rs2) (hd:B42 (rs1++r::rs2) l1.length (l1.length+1+l2.length) ps)
  (hK:E.Pn pv (((σ.apps l1 rs1).apps l2 rs2).app none r)):Wk E (.code (.reg true (l1++c::(l2++l3)) ps)::k) σ:=fun c' hc' G a w hD=>by
 obtain⟨id,ops,rfl,hg⟩:=A4o hc';exact B43 hg h1 h2 h3 hd hK hD
theorem A5Z{P:Program}{F:Fr}{B:Nat->Option Bx}{dst:Option Nat}{us:List Nat}{op:COp}{id:Nat}{v:AV}{rd:List (Nat×Bx)}{wr:List (Nat×Option Bx)}(hu:A25 F us)(h:match Am.sem (M3 F) B id op with
  | some (p,q)=>p/\q=⟨v,rd,wr⟩
  | none=>False):OpR P ⟨dst,none,us,op⟩ id F B ⟨true,v,rd,wr⟩:=by
 refine⟨trivial,rfl,fun _=>?_,fun h=>by cases h⟩;split at h
 ·rename_i p q hs;obtain⟨hp,rfl⟩:=h;exact .sem _ _ p _ _ _ hu hs hp
 ·exact h.elim
theorem B5I{P:Program}{F:Fr}{B:Nat->Option Bx}{dst:Option Nat}{us:List Nat}{f:Nat}{xs:List L3}{args:List AV}{id:Nat}{pv:AV}{rd:List (Nat×Bx)}(hu:A25 F us)(ha:xs.map (M3 F)=args)(h:C1I P f args rd id pv)(hh:l9 B rd):OpP P ⟨dst,none,us,.call f xs⟩ id F B pv ⟨true,.nili,rd,goL rd⟩:=by
 subst ha;exact⟨trivial,rfl,.call f xs pv _ hu (.inl ⟨⟨h,rfl⟩,hh.has⟩)⟩
end
section
variable {E:R4} {σ:St} {k:List Itm} {P:Program}
theorem B2M(hP:E.P=P){dst:Option Nat}{g:Option (Nat×Bool)}{us:List Nat}{f:Nat}{caps:List AV}{x:L3}{xs:List L3}{l:List CR}{j:Nat}{acc:List RR}{ps:List (Nat×Nat)}{args:List AV}{rd:List (Nat×Bx)}{v:AV}
  (hg:A2z (lk σ.fr) g) (ha:xs.map (M3 (lk σ.fr))=args) (hc:Y6 (lk σ.fr) g=true->M3 (lk σ.fr) x = .fn f caps/\A2 P f (args++caps) rd (E.n0+(σ.k+1024*j)) v []/\A25 (lk σ.fr) us/\l9 (bk σ.bx) rd)
  (h:Wk E (.ops l (j+1) (A1M ps ⟨Y6 (lk σ.fr) g,v,rd,[]⟩ acc) ps::k) (σ.app dst ⟨Y6 (lk σ.fr) g,v,rd,[]⟩)) :
  Wk E (.ops (⟨dst,g,us,.callv x xs⟩::l) j acc ps::k) σ:=by
 subst hP ha;refine A6c (r:=⟨Y6 (lk σ.fr) g,v,rd,[]⟩) ⟨hg,rfl,fun hcc=>?_,fun _=>rfl⟩ (A0W h);obtain⟨hx,h1,h2,h3⟩:=hc hcc;refine .callv x xs f caps _ h2 hx (.inl ⟨?_,h3.has⟩);rw[yq]; exact h1
end
section
variable {E:R4} {σ:St} {k:List Itm}
theorem C3c{cc r:CC}{P:St->Prop}(h:Wk E (.code cc::.post P::k) σ)(hk:∀τ,P τ->Wk E (.code r::k) τ):Wk E (.code (.seq cc r)::k) σ:=by
 refine A9M fun c hc G a w hD=>?_;refine wp_mono (h c hc G a w hD) fun e a' w' hq=>?_;cases e with
 | normal =>
  obtain⟨σ',G',h1,h2⟩:=hq;exact⟨σ',G',h1,hk _ h2⟩
 | _=>exact hq
theorem C3d{r:CC}{X:Type}{inv:X->St}{ok:X->Prop}(hk:∀x,ok x->Wk E (.code r::k) (inv x))(τ:St)(h:∃x,ok x/\E4 E τ (inv x)):Wk E (.code r::k) τ:=by
 obtain⟨x,h1,h2⟩:=h;exact A33 h2 (hk x h1)
theorem B8m{a b c r:CC}{X:Type}(inv:X->St)(ok:X->Prop)(h:∀p:St->Prop,(∀σ' x,ok x->E4 E σ' (inv x)->p σ')->Wk E (.code a::.code b::.code c::.post p::k) σ)
  (hk:∀x,ok x->Wk E (.code r::k) (inv x)):Wk E (.code (.seq a (.seq b (.seq c r)))::k) σ :=
 A9M (B0i (.code a) (fun _ q=>A9M (B0i (.code b) (fun _ q=>C3c q (C3d hk)) (fun _ _ q=>q) q)) (fun _ _ q=>q) (h (fun σ'=>∃x,ok x/\E4 E σ' (inv x)) fun σ' x h1 h2=>⟨x,h1,h2⟩))
end
end Go.Am
