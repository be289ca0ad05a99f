/- Parts of the proof: an abstract machine for Go functions, and what functions of the program give back (Am47, Am48, Am49, Am50, Am51, Am52, Am53, Am54, Am55, Am56). No condition. -/
import Derived.Test.YtphjabjjnncebaaGreatDoorXE
import Derived.Below
set_option maxRecDepth 100000
set_option linter.all false
namespace Go.Am
open Go Go.RowKit
section
variable {E:R9} {σ:St}
theorem H0.subK(l:List (Nat×Nat))(hl:I0 l){σ':St}(hk:A2e E.n0 (E.n0+σ'.k) l)(h1:A7A (L9 (E.n0+σ'.k) l hl) E.G0.used σ.fr σ'.fr)(h2:A2y (L9 (E.n0+σ'.k) l hl) E.G0.used σ.bx σ'.bx)(h3:G6 E.n0 σ'.bx σ.bx)
  (h4:A0T E.n0 σ'.bx l):H0 E σ σ':=fun G a w hD=>by
 have hlow:∀x,x<E.n0->Y3 l x=none:=fun x hx=>by
  cases h:Y3 l x with
  | none=>rfl
  | some b=>have:=c5 hk _ (Z4 h); simp only at this; omega
 have hold:∀x,Y3 l x=none->(L9 (E.n0+σ'.k) l hl).ρ x=none\/(L9 (E.n0+σ'.k) l hl).ρ x=some x:=fun x hx=>by
  show z6 (E.n0+σ'.k) l x=none\/z6 (E.n0+σ'.k) l x=some x;unfold z6;rw[hx];simp only;split
  ·split
   ·exact .inl rfl
   ·exact .inr rfl
  ·exact .inl rfl
 have hfix:∀x,E.G0.used x->(L9 (E.n0+σ'.k) l hl).ρ x=some x\/(L9 (E.n0+σ'.k) l hl).ρ x=none:=fun x hx=>(hold x (hlow x (E.old x hx))).symm;have hst:∀x,x<E.n0->M6 l x=false->(L9 (E.n0+σ'.k) l hl).ρ x=some x:=fun x hx hg=>by
  show z6 (E.n0+σ'.k) l x=some x;unfold z6;rw[hlow x hx];have hx':x<E.n0+σ'.k:=by omega
  simp[hx',hg]
 refine⟨G.ren (L9 (E.n0+σ'.k) l hl) E.G0.used,I9.ren hD.ev hfix,hD.rs.ren fun y b' hy=>?_,fun y hy=>?_,fun y hy hu=>?_,fun n c v hv=>?_,hD.size,hD.defers⟩
 ·by_cases hk:H5 y σ'.bx
  ·obtain⟨x,b0,q1,q2,q3⟩:=h2.get y b' hy hk;exact⟨x,b0,q1,U1 E.β q2,q3⟩
  ·rw[v7 hk] at hy;have hlt:y<E.n0:=by
    rcases yt y E.n0 with h|h
    ·exact h
    ·rw[E.own y h] at hy; cases hy
   refine⟨y,b',hst y hlt (A01 h4 y hlt hk),by rw[h3.get y hlt hk E.β]; exact hy,BxR.same fun i x hx=>?_⟩;exact G9 (fun z hz=>(hfix z hz).imp _root_.id fun h=>⟨h,hz⟩) x ((E.rs0.boxNames hy).2 i x hx)
 ·rcases hy with⟨x,hx,hu⟩|hy
  ·have hx':z6 (E.n0+σ'.k) l y=some x:=hx;cases h:Y3 l y with
   | some b=>exact (c5 hk _ (Z4 h)).2
   | none =>
    unfold z6 at hx';rw[h] at hx';simp only at hx';split at hx'
    ·assumption
    ·cases hx'
  ·have:=E.old y hy; omega
 ·rcases hu with⟨x,hx,hu⟩|hu
  ·rcases hold y (hlow y hy) with h|h
   ·rw[h] at hx; cases hx
   ·rw[h] at hx;injection hx with hx
    subst hx;exact hD.old _ hy hu
  ·exact hu
 ·obtain⟨v0,q1,q2⟩:=h1.get n c v hv;obtain⟨r1,r2⟩:=hD.fr n c v0 q1;exact⟨fun hc=>(r1 hc).ren (q2 hc),r2⟩
theorem A8P{dst:Option Nat}{us:List Nat}{z:AV}{n:Nat}{qs:List (Nat×G7)}{l:List CR}{j:Nat}{acc:List RR}{ps:List (Nat×Nat)}{k:List Itm}{vs:List (Nat×AV)}{xs:List AV}(hv:(qs.map fun q=>(q.1,H9 (lk σ.fr) q.2))=vs)(hu:A03 (lk σ.fr) us)
  (ho:A13 n z.cells.length vs) (hx:Q6 (List.replicate n z) vs=xs)
  (h:Wk E (.ops l (j+1) (j0 ps ⟨true,.bsl (E.n0+(σ.k+1024*j)) 0 n,[],[(E.n0+(σ.k+1024*j),some ⟨xs,z,false,false⟩)]⟩ acc) ps::k) (σ.app dst ⟨true,.bsl (E.n0+(σ.k+1024*j)) 0 n,[],[(E.n0+(σ.k+1024*j),some ⟨xs,z,false,false⟩)]⟩)) :
  Wk E (.ops (⟨dst,none,us,.bslice z n qs⟩::l) j acc ps::k) σ:=by
 subst hv hx;refine A2x (r:=⟨true,.bsl (E.n0+(σ.k+1024*j)) 0 n,[],[(E.n0+(σ.k+1024*j),some ⟨Q6 (List.replicate n z) (qs.map fun q=>(q.1,H9 (lk σ.fr) q.2)),z,false,false⟩)]⟩) ⟨trivial,rfl,fun _=>?_,fun h=>by cases h⟩ (Y5 h);have:=ExR.keep (P:=E.P) (us:=us) (id:=E.n0+σ.k+1024*j) (F:=lk σ.fr) (B:=bk σ.bx) true z n qs hu ho;rw[yx] at this;rw[yx];exact this
structure U2(S:Nat->Prop)(tl:List (Nat×Option Bx)):Prop where
 keys:∀q∈tl,S q.1/\q.2.isSome=true
 nd:(tl.map Prod.fst).Nodup
 names:∀q∈tl,∀b,q.2=some b->∀x∈b.xs,A4 S x
theorem U2.nil(S:Nat->Prop):U2 S []:=⟨fun q hq=>(by cases hq),tf,fun q hq=>(by cases hq)⟩
theorem w7:∀{tl:List (Nat×Option Bx)},(tl.map Prod.fst).Nodup->∀{y:Nat} {b:Bx},(y,some b)∈tl->Am.bk tl y=some b
 | [],_,y,b,h=>by cases h
 | (z,c)::l,hn,y,b,h=>by
  rw[yd,yw] at hn;simp only[Am.bk];rcases zi.1 h with e|h
  ·injection e with e1 e2
   subst e1 e2;simp
  ·have hne:y≠z:=fun e=>hn.1 (e▸yi.2 ⟨_,h,rfl⟩);rw[zh hne];exact w7 hn.2 h
theorem U2.sub{A:Nat->Prop}{tl:List (Nat×Option Bx)}(h:U2 A tl){R:Rn}{S:Nat->Prop}{bx:List (Nat×Option Bx)}(hR:∀z,A z->R.ρ z=some z)(hb:∀y b,(y,some b)∈tl->Am.bk bx y=some b):A2y R S bx tl:=by
 have go:∀l:List (Nat×Option Bx),(∀q∈l,q∈tl)->A2y R S bx l:=by
  intro l;induction l with
  | nil=>intro _; trivial
  | cons q l ih =>
   intro hl;obtain⟨y,c⟩:=q;have hm:=hl _ (zb ..);have hk:=h.keys _ hm;cases c with
   | none=>simp at hk
   | some b =>
    refine⟨⟨y,b,hR y hk.1,hb y b hm,BxR.same fun i x hx=>?_⟩,ih fun q hq=>hl q (za _ hq)⟩;exact G9 (fun z hz=>.inl (hR z hz)) x (h.names _ hm b rfl x (zf hx))
 exact go tl fun q hq=>hq
theorem U2.cons{S:Nat->Prop}{tl:List (Nat×Option Bx)}(h:U2 S tl){y:Nat}{b:Bx}(h1:S y)(h2:∀q∈tl,q.1≠y)(h3:∀x∈b.xs,A4 S x):U2 S ((y,some b)::tl):=by
 refine⟨fun q hq=>?_,?_,fun q hq b' hb'=>?_⟩
 ·rcases zi.1 hq with rfl|hq
  ·exact⟨h1,rfl⟩
  ·exact h.keys q hq
 ·rw[yd,yw];exact⟨fun hm=>by obtain⟨q,hq,e⟩:=yi.1 hm; exact h2 q hq e,h.nd⟩
 ·rcases zi.1 hq with rfl|hq
  ·injection hb' with hb'; subst hb'; exact h3
  ·exact h.names q hq b' hb'
theorem U2.append{S:Nat->Prop}{a b:List (Nat×Option Bx)}(ha:U2 S a)(hb:U2 S b)(hd:∀p∈a,∀p'∈b,p.1≠p'.1):U2 S (a++b):=by
 refine⟨fun q hq=>(zo.1 hq).elim (ha.keys q) (hb.keys q),?_,fun q hq=>(zo.1 hq).elim (ha.names q) (hb.names q)⟩;rw[xu,xj];refine⟨ha.nd,hb.nd,fun x hx y hy=>?_⟩;obtain⟨p,hp,rfl⟩:=yi.1 hx;obtain⟨p',hp',rfl⟩:=yi.1 hy;exact hd p hp p' hp'
theorem A67{n:Nat}{l:List (Nat×Nat)}{hl:I0 l}{z:Nat}(h1:Y3 l z=none)(h2:M6 l z=false)(h3:z<n):(L9 n l hl).ρ z=some z:=by
 show z6 n l z=some z;unfold z6;rw[h1];simp[h2,h3]
theorem c7{R:Rn}{S A:Nat->Prop}(hR:∀z,A z->R.ρ z=some z):∀{l:List AV},(∀x∈l,A4 A x)->K2 R S l l
 | [],_=>.nil
 | x::l,h=>.cons x x l l (.same x (G9 (fun z hz=>.inl (hR z hz)) x (h x (zb ..)))) (c7 hR fun y hy=>h y (za _ hy))
theorem S8{R:Rn}{S:Nat->Prop}:∀{a b c d:List AV},K2 R S a b->K2 R S c d->K2 R S (a++c) (b++d)
 | [],[],_,_,_,h=>h
 | x::a,y::b,_,_,.cons _ _ _ _ h hl,h'=>.cons _ _ _ _ h (S8 hl h')
theorem A0q{q:Nat×Option Bx}{l:List (Nat×Option Bx)}{y:Nat}(h:y≠q.1):Am.bk (q::l) y=Am.bk l y:=by
 obtain⟨m,b⟩:=q;simp only[Am.bk];rw[zh h]
theorem j2{n0:Nat}{bx':List (Nat×Option Bx)}:∀{l:List (Nat×Option Bx)},(∀q∈l,n0<=q.1)->G6 n0 bx' l
 | [],_=>trivial
 | (x,b)::l,h=>⟨.inl (h _ (zb ..)),j2 fun q hq=>h q (za _ hq)⟩
end
inductive Rd(L:List (Nat×Bx)):AV->AV->Prop
 | same (x:AV):Rd L x x
 | nils:Rd L .nils (.sl [])
 | bsl (id off len:Nat) (b:Bx) (ys:List AV) (hb:(id,b)∈L) (hle:off+len<=b.xs.length) (hl:ys.length=len)
   (hc:∀(i:Nat) x y,b.xs[off+i]?=some x->ys[i]?=some y->x.cells.length=y.cells.length)
   (h:∀(i:Nat) x y (j:Nat) c d,b.xs[off+i]?=some x->ys[i]?=some y->x.cells[j]?=some c->y.cells[j]?=some d->Rd L c d):Rd L (.bsl id off len) (.sl ys)
 | ptr (id:Nat) (b:Bx) (x:AV) (ds:List AV) (hb:(id,b)∈L) (hx:b.xs=[x]) (hl:ds.length=x.cells.length)
   (h:∀(j:Nat) c d,x.cells[j]?=some c->ds[j]?=some d->Rd L c d):Rd L (.ptr id 0 0) (.cptr ds)
 | agg (cs ds:List AV) (hl:cs.length=ds.length) (h:∀(i:Nat) c d,cs[i]?=some c->ds[i]?=some d->Rd L c d):Rd L (.agg cs) (.agg ds)
 | tup (cs ds:List AV) (hl:cs.length=ds.length) (h:∀(i:Nat) c d,cs[i]?=some c->ds[i]?=some d->Rd L c d):Rd L (.tup cs) (.tup ds)
 | fn (f:Nat) (cs ds:List AV) (hl:cs.length=ds.length) (h:∀(i:Nat) c d,cs[i]?=some c->ds[i]?=some d->Rd L c d):Rd L (.fn f cs) (.fn f ds)
section
variable {P:Program} {C:Cx P} {G:Gh} {bx:Nat->Option Bx} {w:World}
theorem A24{G1:Gh}{L:List (Nat×Bx)}(hs:RS C G bx w)(hL:G8 bx L)(ev:I9 G w G1 w)(hz:∀q∈L,∀b s,G.bm q.1=some (b,s)->∀o,o<q.2.xs.length*s->G1.fz b o){x y:AV}(h:Rd L x y):∀{v:Value},RV G w x v->RV G1 w y v:=by
 induction h with
 | same x=>intro v hv; exact hv.mono ev
 | nils =>
  intro v hv;cases hv
  exact .sl [] none 0 0 (fun _ _=>undef) (yg _) (by simp[maxLen]) (fun _=>⟨rfl,rfl⟩) (fun i x hi=>by simp at hi) (fun a i x j y _ hi=>by simp at hi) (fun a i x j y _ hi=>by simp at hi) (fun i x j y hi=>by simp at hi)
 | agg cs ds hl h ih =>
  intro v hv;cases hv with|agg _ vs hl' h' =>
  exact .agg ds vs (hl▸hl') fun i y hy=>by
   obtain⟨c,hc⟩:∃c,cs[i]?=some c:=⟨_,zd (by rw[hl]; exact (ze.1 hy).1)⟩;exact ih i c y hc hy (h' i c hc)
 | tup cs ds hl h ih =>
  intro v hv;cases hv with|tup _ vs hl' h' =>
  exact .tup ds vs (hl▸hl') fun i y hy=>by
   obtain⟨c,hc⟩:∃c,cs[i]?=some c:=⟨_,zd (by rw[hl]; exact (ze.1 hy).1)⟩;exact ih i c y hc hy (h' i c hc)
 | fn f cs ds hl h ih =>
  intro v hv;cases hv with|fn _ _ vs hl' h' =>
  exact .fn f ds vs (hl▸hl') fun i y hy=>by
   obtain⟨c,hc⟩:∃c,cs[i]?=some c:=⟨_,zd (by rw[hl]; exact (ze.1 hy).1)⟩;exact ih i c y hc hy (h' i c hc)
 | ptr id b x ds hb hx hl h ih =>
  intro v hv;have hbx:=hL _ hb;simp only at hbx;have h0:b.xs[0]?=some x:=by rw[hx]; rfl
  have hn:¬G.nl id:=hs.lies hbx h0;obtain⟨blk,s,cur,e,h1,h2,h3,⟨h4,h5⟩,h6,h7,h8⟩:=hs.box id b hbx hn;cases hv with|ptr _ _ _ _ ho hu hbm =>
  have:=hbm blk s h1;simp only[tj,yu] at this;subst this;obtain⟨hcs,hct⟩:=h6 0 x h0;have hlen:b.xs.length=1:=by rw[hx]; rfl
  have key:∀j d,ds[j]?=some d->∃c u,x.cells[j]?=some c/\cur[j]?=some u/\RV G w c u/\j<s:=fun j d hj=>by
   have hjl:j<x.cells.length:=(by rw[←hl]; exact (ze.1 hj).1);obtain⟨u,hu1,hu2⟩:=hct j _ (zd hjl);exact⟨_,u,zd hjl,by simpa using hu1,hu2,by omega⟩
  refine .cptr ds _ (fun j=>cur.getD j undef) (fun j y hj=>?_) (fun j y hj=>?_) (fun j y hj=>?_)
  ·obtain⟨c,u,k1,k2,k3,k4⟩:=key j y hj;exact hz _ hb blk s h1 _ (by simp only[hlen]; omega)
  ·obtain⟨c,u,k1,k2,k3,k4⟩:=key j y hj;have ha:(⟨blk,0,none⟩:Addr).add j=⟨blk,j,none⟩:=(by unfold Addr.add; split<;>simp_all);rw[ha,C1 h2,k2];simp[zl,k2]
  ·obtain⟨c,u,k1,k2,k3,k4⟩:=key j y hj;have:cur.getD j undef=u:=by simp[zl,k2]
   show RV G1 w y (cur.getD j undef);rw[this];exact ih j c y k1 hj k3
 | bsl id off len b ys hb hle hl hc h ih =>
  intro v hv;have hbx:=hL _ hb;simp only at hbx;by_cases hn:G.nl id
  ·cases hv with|bsl _ _ _ _ _ _ _ hnl =>
   obtain⟨rfl,_,rfl⟩:=hnl hn;have:ys=[]:=vk.1 hl;subst this;exact .sl [] none 0 0 (fun _ _=>undef) (yg _) (by simp[maxLen]) (fun _=>⟨rfl,rfl⟩) (fun i x hi=>by simp at hi) (fun a i x j y _ hi=>by simp at hi) (fun a i x j y _ hi=>by simp at hi) (fun i x j y hi=>by simp at hi)
  ·obtain⟨blk,s,cur,e,h1,h2,h3,⟨h4,h5⟩,h6,h7,h8⟩:=hs.box id b hbx hn;cases hv with|bsl _ _ _ _ hone hu hbm hnl =>
   obtain⟨c,cur',e',hv,hlc,hcm,hh,hzz⟩:=hbm blk s h1;subst hv;have key:∀i y j d,ys[i]?=some y->y.cells[j]?=some d->∃x c u,b.xs[off+i]?=some x/\x.cells[j]?=some c/\cur[(off+i)*s+j]?=some u/\RV G w c u/\j<s/\off+i<b.xs.length:=fun i y j d hi hj=>by
    have hil:i<ys.length:=(ze.1 hi).1;have hx:=zd (l:=b.xs) (i:=off+i) (by omega);have hcl:=hc i _ y hx hi;have hjl:j<(b.xs[off+i]'(by omega)).cells.length:=(by rw[hcl]; exact (ze.1 hj).1);obtain⟨hcs,hct⟩:=h6 _ _ hx;obtain⟨u,hu1,hu2⟩:=hct j _ (zd hjl);exact⟨_,_,u,hx,zd hjl,hu1,hu2,by omega,by omega⟩
   have ho:∀i j,(off+i)*s+j=off*s+(i*s+j):=fun i j=>by rw[xb]; omega
   have:=RV.sl (G:=G1) (w:=w) ys (some ⟨blk,off*s,none⟩) c s (fun i j=>cur.getD ((off+i)*s+j) undef) (by omega) hcm (fun h=>by cases h) (fun i y hi=>?_) (fun a i y j d ha hi hj=>?_) (fun a i y j d ha hi hj=>?_) (fun i y j d hi hj=>?_)
   ·rw[hl] at this; exact this
   ·have hil:i<ys.length:=(ze.1 hi).1;have hx:=zd (l:=b.xs) (i:=off+i) (by omega);rw[←hc i _ y hx hi];exact (h6 _ _ hx).1
   ·injection ha with ha
    subst ha;obtain⟨x,c,u,k1,k2,k3,k4,k5,k6⟩:=key i y j d hi hj;refine hz _ hb blk s h1 _ ?_;simp only;rw[←ho];have:(off+i+1)*s<=b.xs.length*s:=yf _ (by omega);rw[xb (off+i) 1] at this;omega
   ·injection ha with ha
    subst ha;obtain⟨x,c,u,k1,k2,k3,k4,k5,k6⟩:=key i y j d hi hj;have ha:(⟨blk,off*s,none⟩:Addr).add (i*s+j)=⟨blk,off*s+(i*s+j),none⟩:=(by unfold Addr.add; split<;>simp_all);rw[ha,C1 h2,←ho,k3];simp[zl,k3]
   ·obtain⟨x,c,u,k1,k2,k3,k4,k5,k6⟩:=key i y j d hi hj;have:cur.getD ((off+i)*s+j) undef=u:=by simp[zl,k3]
    simp only[this];exact ih i x y j c d k1 hi k2 hj k4
mutual
def AV.flatB:AV->Bool
 | .int _ _=>true
 | .bool _=>true
 | .str _=>true
 | .tup vs=>A7I vs
 | .agg vs=>A7I vs
 | _=>false
def A7I:List AV->Bool
 | []=>true
 | x::r=>x.flatB&&A7I r
end
theorem A5C{l:List AV}(h:A7I l=true){i:Nat}{x:AV}(hx:l[i]?=some x):x.flatB=true:=by
 induction l generalizing i with
 | nil=>simp at hx
 | cons y r ih =>
  simp only[A7I,yh] at h;cases i with
  | zero=>simp at hx; subst hx; exact h.1
  | succ i=>exact ih h.2 (by simpa using hx)
theorem RV.flat{G:Gh}{w:World}{x:AV}{v:Value}(h:RV G w x v):x.flatB=true->∀(G':Gh) (w':World),RV G' w' x v:=by
 induction h with
 | int k n=>intro _ _ _; exact .int k n
 | bool b=>intro _ _ _; exact .bool b
 | str s=>intro _ _ _; exact .str s
 | agg cs vs hl h ih=>intro hf G' w'; simp only[AV.flatB] at hf; exact .agg cs vs hl fun i y hy=>ih i y hy (A5C hf hy) G' w'
 | tup cs vs hl h ih=>intro hf G' w'; simp only[AV.flatB] at hf; exact .tup cs vs hl fun i y hy=>ih i y hy (A5C hf hy) G' w'
 | _=>intro hf; simp[AV.flatB] at hf
theorem A2.read{f:Nat}{args args':List AV}{rd:List (Nat×Bx)}{id:Nat}{res:AV}(h:A2 P f args' [] id res [])(hr:res.flatB=true)(hl:args.length=args'.length)(ha:∀(i:Nat) x y,args[i]?=some x->args'[i]?=some y->Rd rd x y):A2 P f args rd id res []:=by
 refine⟨h.1,fun C G bx w vs nb hs hv hh hnb hid=>?_⟩;let G0:Gh:=⟨fun b o=>∃u,w.cell? ⟨b,o,none⟩=some u,G.used,fun _=>none,fun _=>False⟩
 let C0:Cx P:=⟨w.heap.size,w,fun b o=>∃u,w.cell? ⟨b,o,none⟩=some u,fun _ hb=>(C.tab w hs.below).below hb⟩
 have hs0:RS C0 G0 (fun _=>none) w:=⟨Below.refl _ w,yg _,fun b o h=>h,fun b o h _=>h,fun id x hx=>(by cases hx),fun id x hx=>(by cases hx),fun id h=>h.elim,fun id b s h=>(by cases h),fun id id' b s s' h=>(by cases h),fun id b s h=>(by cases h)⟩;have ev:I9 G w G0 w:=⟨fun b o hf=>hs.fzok b o hf,fun _ _=>rfl,fun _ h=>h,fun _ _=>.inr rfl,fun _ _ h=>h.elim,fun _ b s _ hb=>by cases hb⟩;have hz:∀q∈rd,∀b s,G.bm q.1=some (b,s)->∀o,o<q.2.xs.length*s->G0.fz b o:=fun q hq b s hb o ho=>by
  have hn:¬G.nl q.1:=fun hn=>by rw[(hs.nlu _ hn).2] at hb; cases hb
  obtain⟨b',s',cur,e,h1,h2,h3,⟨h4,h5⟩,_⟩:=hs.box q.1 q.2 (hh q hq) hn;rw[hb] at h1;injection h1 with h1
  injection h1 with e1 e2
  subst e1 e2;exact⟨_,by rw[C1 h2]; exact zy (by omega)⟩
 have hv0:j8 G0 w args' vs:=⟨hl▸hv.1,fun i y hy=>by
  obtain⟨x,hx⟩:∃x,args[i]?=some x:=⟨_,zd (by rw[hl]; exact (ze.1 hy).1)⟩;exact A24 hs hh ev hz (ha i x y hx hy) (hv.2 i x hx)⟩
 obtain⟨_,hc⟩:=h;refine Calls.mono (hc C0 G0 (fun _=>none) w vs nb hs0 hv0 G8.nil hnb hid) fun e w' hq=>?_;obtain⟨v,G',rfl,s1,e1,r1,u1⟩:=hq;have hb:=s1.below;have hblk:∀b,b<w.heap.size->w'.heap[b]?=w.heap[b]?:=fun b h=>hb.block b h;have hlt:∀b o,G.fz b o->b<w.heap.size:=fun b o h=>let ⟨u,hu⟩:=hs.fzok b o h; P0 hu;have ev':I9 G w G w':=l7 (fun b o h=>hblk b (hlt b o h)) fun id b s h cur e hh=>⟨cur,by rw[hblk b (hs.rows id b s h)]; exact hh,rfl⟩;refine⟨v,G,rfl,?_,ev',RV.flat r1 hr G w',fun x hx=>.inl hx⟩;have hsz:w.heap.size<=w'.heap.size:=hb.size;refine⟨hs.below.trans (hb.mono hs.size),uh hs.size hsz,fun b o h=>?_,hs.fzold,fun id x hx hn=>?_,hs.nil,hs.nlu,hs.used,hs.inj,fun id b s h=>ws (hs.rows id b s h) hsz⟩
 ·obtain⟨u,hu⟩:=hs.fzok b o h;exact⟨u,by rw[World.cell?_of_block (hblk b (hlt b o h))]; exact hu⟩
 ·obtain⟨b,s,cur,e,h1,h2,h3,h4,h5,h6⟩:=hs.box id x hx hn;exact⟨b,s,cur,e,h1,by rw[hblk b (hs.rows id b s h1)]; exact h2,h3,h4,h5.mono ev',h6⟩
theorem RS.freezeZ(hs:RS C G bx w){id:Nat}{x:Bx}(hx:bx id=some x)(hro:x.ro=false):
  ∃G',RS C G' (P9 bx id (some { x with frz:=true })) w/\I9 G w G' w/\(∀i,G'.used i->G.used i)/\G'.bm=G.bm/\∀b s,G.bm id=some (b,s)->∀o,o<x.xs.length*s->G'.fz b o:=by
 by_cases hn:G.nl id
 ·have h0:=(hs.nil id x hx hn).1;refine⟨G,⟨hs.below,hs.size,hs.fzok,hs.fzold,fun i y hy hn'=>?_,fun i y hy hn'=>?_,hs.nlu,hs.used,hs.inj,hs.rows⟩,I9.refl G w,fun _ h=>h,rfl,fun b s hb=>by rw[(hs.nlu _ hn).2] at hb; cases hb⟩
  ·have hi:i≠id:=fun hi=>hn' (hi▸hn);rw[A7 _ _ _ hi] at hy;exact hs.box i y hy hn'
  ·by_cases hi:i=id
   ·subst hi;rw[B5] at hy;injection hy with hy
    subst hy;exact⟨h0,hro⟩
   ·rw[A7 _ _ _ hi] at hy;exact hs.nil i y hy hn'
 ·obtain⟨b,s,cur,e,h1,h2,h3,⟨h4,h5⟩,h6,h7,h8⟩:=hs.box id x hx hn;have hB:=h3 hro;have ev:I9 G w (G.keep b (x.xs.length*s)) w:=I9.keep b _;refine⟨G.keep b (x.xs.length*s),⟨hs.below,hs.size,fun b' o hf=>?_,fun b' o hf hb=>?_,fun i y hy hn'=>?_,fun i y hy hn'=>?_,hs.nlu,hs.used,hs.inj,hs.rows⟩,ev,fun _ h=>h,rfl,fun b' s' hb o ho=>?_⟩
  ·rcases hf with hf|⟨rfl,ho⟩
   ·exact hs.fzok b' o hf
   ·exact⟨_,by rw[C1 h2]; exact zy (by omega)⟩
  ·rcases hf with hf|⟨rfl,ho⟩
   ·exact hs.fzold b' o hf hb
   ·omega
  ·by_cases hi:i=id
   ·subst hi;rw[B5] at hy;injection hy with hy
    subst hy;exact⟨b,s,cur,e,h1,h2,h3,⟨h4,h5⟩,h6.mono ev,fun h=>(by cases h),fun o ho=>ho.elim (h8 o) fun h=>h.2⟩
   ·rw[A7 _ _ _ hi] at hy;obtain⟨b2,s2,cur2,e2,k1,k2,k3,k4,k5,k6,k7⟩:=hs.box i y hy hn';have hne:b2≠b:=fun hbb=>hi (hs.inj i id b2 s2 s k1 (hbb▸h1));exact⟨b2,s2,cur2,e2,k1,k2,k3,k4,k5.mono ev,fun hf o ho=>ho.elim (k6 hf o) fun h=>hne h.1,fun o ho=>ho.elim (k7 o) fun h=>(hne h.1).elim⟩
  ·by_cases hi:i=id
   ·subst hi; exact (hn hn').elim
   ·rw[A7 _ _ _ hi] at hy;exact hs.nil i y hy hn'
  ·rw[h1] at hb;injection hb with hb
   injection hb with e1 e2
   subst e1 e2;exact .inr ⟨rfl,ho⟩
theorem freezeZ:∀(l:List (Nat×Bx)) {G:Gh} {bx:Nat->Option Bx},RS C G bx w->(∀p∈l,(bx p.1=some p.2\/bx p.1=some { p.2 with frz:=true })/\p.2.ro=false) ->
  ∃G',RS C G' (D8 bx (wrF l)) w/\I9 G w G' w/\(∀i,G'.used i->G.used i)/\G'.bm=G.bm/\∀q∈l,∀b s,G.bm q.1=some (b,s)->∀o,o<q.2.xs.length*s->G'.fz b o
 | [],G,bx,hs,_=>⟨G,hs,I9.refl G w,fun _ h=>h,rfl,fun p hp=>by cases hp⟩
 | (i,b)::r,G,bx,hs,hl=>by
  obtain⟨hb,hro⟩:=hl (i,b) (by simp);simp only at hb hro;have key:∃G1,RS C G1 (P9 bx i (some { b with frz:=true })) w/\I9 G w G1 w/\(∀i,G1.used i->G.used i)/\G1.bm=G.bm/\∀blk s,G.bm i=some (blk,s)->∀o,o<b.xs.length*s->G1.fz blk o:=by
   rcases hb with hb|hb
   ·exact hs.freezeZ hb hro
   ·exact hs.freezeZ (x:={ b with frz:=true }) hb hro
  obtain⟨G1,s1,e1,u1,m1,k1⟩:=key;obtain⟨G2,s2,e2,u2,m2,k2⟩:=freezeZ r s1 fun p hp=>by
   obtain⟨h1,h2⟩:=hl p (by simp[hp]);refine⟨?_,h2⟩;by_cases hi:p.1=i
   ·obtain⟨j,c⟩:=p;simp only at hi h1 h2 ⊢;subst hi;rw[B5];right
    rcases hb with hb|hb<;>rcases h1 with h1|h1<;>rw[hb] at h1<;>injection h1 with h1
    ·rw[h1]
    ·rw[h1]
    ·rw[←h1]
    ·have:b.xs=c.xs/\b.d=c.d/\b.ro=c.ro:=by injection h1 with q1 q2 q3; exact⟨q1,q2,q3⟩
     obtain⟨q1,q2,q3⟩:=this;rw[q1,q2,q3]
   ·rw[A7 _ _ _ hi]; exact h1
  refine⟨G2,s2,e1.trans e2,fun i h=>u1 i (u2 i h),m2.trans m1,fun p hp blk s hbm o ho=>?_⟩;rcases zi.1 hp with rfl|hp
  ·exact e2.fz _ _ (k1 blk s hbm o ho)
  ·exact k2 p hp blk s (by rw[m1]; exact hbm) o ho
end
theorem Z5{bx:Nat->Option Bx}{y:Nat}:∀{l:List (Nat×Bx)},(∀q∈l,q.1≠y)->D8 bx (wrF l) y=bx y
 | [],_=>rfl
 | (i,b)::l,h=>by
  simp only[wrF,D8];rw[Z5 (l:=l) fun q hq=>h q (za _ hq)];exact A7 _ _ _ (fun e=>h (i,b) (zb ..) e.symm)
theorem A1E{y:Nat}:∀{l:List (Nat×Option Bx)},H5 y l↔∃q∈l,q.1=y
 | []=>by simp[H5]
 | (i,b)::l=>by
  simp only[H5,A1E (l:=l),zi];constructor
  ·rintro (rfl|⟨q,hq,rfl⟩)
   ·exact⟨_,.inl rfl,rfl⟩
   ·exact⟨q,.inr hq,rfl⟩
  ·rintro⟨q,rfl|hq,rfl⟩
   ·exact .inl rfl
   ·exact .inr ⟨q,hq,rfl⟩
theorem A8Q{y:Nat}{b:Bx}:∀{l:List (Nat×Option Bx)},bk l y=some b->H5 y l
 | [],h=>by cases h
 | (i,c)::l,h=>by
  simp only[bk] at h;split at h
  ·rename_i e; exact .inl e
  ·exact .inr (A8Q h)
section
variable {E:R9} {σ:St}
theorem H0.deep(n:Nat)(L:List (Nat×Bx)){x y:AV}(hx:lk σ.fr n=some (true,x))(hL:∀q∈L,bk σ.bx q.1=some q.2/\q.2.ro=false)(hr:Rd L x y)(hown:∀q∈σ.bx,E.n0<=q.1):H0 E σ ⟨(n,true,y)::σ.fr,[],σ.k⟩:=fun G a w hD=>by
 have hLo:G8 (ov E.β σ.bx) L:=fun q hq=>U1 E.β (hL q hq).1;obtain⟨G1,q1,q2,q3,q4,q5⟩:=freezeZ L hD.rs fun q hq=>⟨.inl (hLo q hq),(hL q hq).2⟩;have hxr':RV G1 w y (a.tmps.getD n undef):=A24 hD.rs hLo q2 q5 hr ((hD.fr n true x hx).1 rfl);have hlo:∀z,H5 z σ.bx->E.n0<=z:=fun z hz=>by obtain⟨q,hq,rfl⟩:=A1E.1 hz; exact hown q hq
 refine⟨G1,hD.ev.trans q2,?_,fun id h=>hD.used id (q3 id h),fun id hi h=>hD.old id hi (q3 id h),fun m c v hm=>?_,hD.size,hD.defers⟩
 ·refine RS.weak q1 fun id b hb=>?_;have hb:E.β id=some b:=hb;have hlt:id<E.n0:=by
   rcases yt id E.n0 with h|h
   ·exact h
   ·rw[E.own id h] at hb; cases hb
  rw[Z5 fun q hq e=>by
   have:=hlo q.1 (A8Q (hL q hq).1);omega]
  rw[v7 fun h=>by have:=hlo id h; omega];exact hb
 ·simp only[lk] at hm;split at hm
  ·rename_i he;subst he;simp only[zc,zg] at hm;obtain⟨rfl,rfl⟩:=hm;exact⟨fun _=>hxr',fun h=>by cases h⟩
  ·exact⟨fun hc=>((hD.fr m c v hm).1 hc).mono q2,(hD.fr m c v hm).2⟩
end
theorem A2.more{P:Program}{f:Nat}{args:List AV}{rd rd':List (Nat×Bx)}{id:Nat}{res:AV}{wr:List (Nat×Option Bx)}(h:A2 P f args rd id res wr)(hm:∀q∈rd,q∈rd'):A2 P f args rd' id res wr :=
 ⟨h.1,fun C G bx w vs nb hs hv hh hnb hid=>h.2 C G bx w vs nb hs hv (fun q hq=>hh q (hm q hq)) hnb hid⟩
theorem X2.of{B:Nat->Option Bx}:∀{l:List (Nat×Bx)},G8 B l->X2 B l
 | [],_=>trivial
 | (i,b)::l,h=>⟨h (i,b) (zb ..),X2.of fun q hq=>h q (za _ hq)⟩
theorem A04:∀(wr l:List (Nat×Option Bx)),bk (f8 l wr)=D8 (bk l) wr
 | [],_=>rfl
 | (i,b)::r,l=>by
  rw[f8,A04 r];rfl
theorem B3e{P:Program}{f:Nat}{fn:Func}{c:Code}{crs:List X1}{args:List AV}{rd:List (Nat×Bx)}{id:Nat}{res:AV}{wr:List (Nat×Option Bx)}
  (hf : P.funcs[f]? = some fn) (hb : fn.body = some c) (hnm : (fn.name == "runtime.NumGoroutine") = false) (hrs : L2 P fn.results.toList = some crs) (hN : args.length <= fn.ntmps)
  (h:∀E:R9,E.P=P->E.N=fn.ntmps->E.Rt=v8 E.n0 id E.G0.used crs rd res wr->(∀q∈rd,q.1<E.n0/\(q.1<id\/id+1024<=q.1))->id+1024<=E.n0->G8 E.β rd->(∀z,E.G0.used z->z<id\/id+1024<=z)->Wk E [.code (D4 P fn.ntmps c)] ⟨A0K 0 args,C4 rd,0⟩):A2 P f args rd id res wr :=
 A65 (o:=.ok (res,wr)) (fun n0 S=>v8 n0 id S crs rd res wr) (fun _ _ _=>False) hf hb hnm hrs hN (fun _ _ _ h=>⟨_,rfl,h⟩) (fun _ _ _ h=>h.elim) fun E h1 h2 h3 _ h5 h6 h7 h8=>h E h1 h2 h3 h5 h6 h7 h8
theorem B56{P:Program}{f:Nat}{fn:Func}{cc:CC}{crs:List X1}{args:List AV}{rd:List (Nat×Bx)}{id:Nat}{res:AV}{wr:List (Nat×Option Bx)}
  (hf : P.funcs[f]? = some fn) (hcc : fn.body.map (D4 P fn.ntmps) = some cc) (hnm : (fn.name == "runtime.NumGoroutine") = false) (hrs : L2 P fn.results.toList = some crs) (hN : args.length <= fn.ntmps)
  (h:∀E:R9,E.P=P->E.Rt=v8 E.n0 id E.G0.used crs rd res wr->(∀q∈rd,q.1<E.n0/\(q.1<id\/id+1024<=q.1))->id+1024<=E.n0->G8 E.β rd->(∀z,E.G0.used z->z<id\/id+1024<=z)->Wk E [.code cc] ⟨A0K 0 args,C4 rd,0⟩):A2 P f args rd id res wr:=by
 obtain⟨c,hb,rfl⟩:=zj.1 hcc;exact B3e hf hb hnm hrs hN fun E h1 _ h3 h4 h5 h6 h7=>h E h1 h3 h4 h5 h6 h7
section
variable {E:R9} {σ:St}
theorem A9{rd:List (Nat×Bx)}(hh:G8 E.β rd){j:Nat}{b:Bx}(h:(j,b)∈rd):∀x∈b.xs,A4 E.G0.used x:=fun x hx=>by
 obtain⟨i,hi⟩:=yk.1 hx;exact (E.rs0.boxNames (hh _ h)).2 i x hi
theorem A9E{id:Nat}(hu:∀z,E.G0.used z->z<id\/id+1024<=z){n:Nat}{rn:List (Nat×Nat)}{hrn:I0 rn}(hk:∀z,z<E.n0->(z<id\/id+1024<=z)->Y3 rn z=none):∀z,E.G0.used z->(L9 n rn hrn).fix E.G0.used z:=fun z hz=>by
 rcases A0p (n0:=n) (hk z (E.old z hz) (hu z hz)) with h|h
 ·exact .inr ⟨h,hz⟩
 ·exact .inl h
theorem A0W{id:Nat}(hu:∀z,E.G0.used z->z<id\/id+1024<=z){n:Nat}{rn:List (Nat×Nat)}{hrn:I0 rn}{x:AV}(hx:A4 E.G0.used x)(hk:∀z,z<E.n0->(z<id\/id+1024<=z)->Y3 rn z=none):J8 (L9 n rn hrn) E.G0.used x x :=
 .same x (G9 (A9E hu hk) x hx)
theorem Q1{id:Nat}(hu:∀z,E.G0.used z->z<id\/id+1024<=z){n:Nat}{rn:List (Nat×Nat)}{hrn:I0 rn}(hk:∀z,z<E.n0->(z<id\/id+1024<=z)->Y3 rn z=none):∀{l:List AV},(∀x∈l,A4 E.G0.used x)->K2 (L9 n rn hrn) E.G0.used l l
 | [],_=>.nil
 | x::l,h=>.cons x x l l (A0W hu (h x (zb ..)) hk) (Q1 hu hk fun y hy=>h y (za _ hy))
end
theorem A2.nil{P:Program}{f:Nat}{z:AV}{args:List AV}{rd:List (Nat×Bx)}{id:Nat}{res:AV}{wr:List (Nat×Option Bx)}
  (h:∀T,(∀q∈rd,q.1≠T)->(T<id\/id+1024<=T)->A2 P f (.bsl T 0 0::args) ((T,⟨[],z,false,false⟩)::rd) id res ((T,none)::wr))
  (hw:∀q∈wr,(id<=q.1/\q.1<id+1024)/\∀b,q.2=some b->∀x∈b.xs,x.pureB=true) (hr:A4 (fun x=>id<=x/\x<id+1024) res):A2 P f (.nils::args) rd id res wr:=by
 obtain⟨T0,hT0⟩:∃T0,∀q∈rd,q.1<T0:=by
  clear h hw hr;induction rd with
  | nil=>exact⟨0,fun q hq=>(by cases hq)⟩
  | cons p l ih =>
   obtain⟨T1,h1⟩:=ih;exact⟨max T1 (p.1+1),fun q hq=>by
    rcases zi.1 hq with rfl|hq
    ·omega
    ·have:=h1 q hq; omega⟩
 refine⟨(h (id+1024+T0) (fun q hq=>by have:=hT0 q hq; omega) (by omega)).1,fun C G bx w vs nb hs hv hh hnb hid=>?_⟩;let T:=max nb (id+1024)
 have hT:¬G.used T:=hnb T (Nat.le_max_left ..);have hlt:∀x,G.used x->x<T:=fun x hx=>by
  rcases yt x nb with h|h
  ·exact ws h (Nat.le_max_left ..)
  ·exact (hnb x h hx).elim
 obtain⟨r1,r2,r3⟩:=hs.void hT z false;have hu1:∀x,(G.void T).used x->x=T\/G.used x:=fun x hx=>hx;have hne:∀q∈rd,q.1≠T:=fun q hq e=>hT (e▸(hs.boxNames (hh q hq)).1);obtain⟨hl,hvv⟩:=hv;obtain⟨_,hc⟩:=h T hne (.inr (uq ..));have hv':j8 (G.void T) w (.bsl T 0 0::args) vs:=⟨hl,fun i y hy=>by
  cases i with
  | zero =>
   simp only[yb,zc] at hy;subst hy;have:=hvv 0 .nils rfl;generalize vs.getD 0 undef=u at this ⊢;cases this
   exact r3
  | succ i=>exact (hvv (i+1) y (by simpa using hy)).mono r2⟩
 have hh':G8 (P9 bx T (some ⟨[],z,false,false⟩)) ((T,⟨[],z,false,false⟩)::rd):=fun q hq=>by
  rcases zi.1 hq with rfl|hq
  ·exact B5 ..
  ·rw[A7 _ _ _ (hne q hq)]; exact hh q hq
 refine Calls.mono (hc C (G.void T) _ w vs (T+1) r1 hv' hh' (fun x hx hux=>?_) (fun x h1 h2 hux=>?_)) fun e w' hq=>?_
 ·rcases hu1 x hux with rfl|h'
  ·omega
  ·have:=hlt x h'; omega
 ·rcases hu1 x hux with e|h'
  ·have:id+1024<=T:=uq ..;omega
  ·exact hid x h1 h2 h'
 obtain⟨v,G',rfl,s1,e1,q1,u1⟩:=hq;have hbT:bx T=none:=by
  cases hb:bx T with
  | none=>rfl
  | some b=>exact (hT (hs.boxNames hb).1).elim
 have hupd:P9 (P9 bx T (some ⟨[],z,false,false⟩)) T none=bx:=by
  funext y
  by_cases hy:y=T
  ·subst hy; rw[B5,hbT]
  ·rw[A7 _ _ _ hy,A7 _ _ _ hy]
 have s2:RS C G' (D8 bx wr) w':=by
  have:=s1;simp only[D8] at this;rw[hupd] at this;exact this
 have hρ:∀x,x<T->(L9 T [] trivial).ρ x=some x:=fun x hx=>by
  show z6 T [] x=some x;unfold z6;simp[Y3,M6,hx]
 have hid':id+1024<=T:=uq ..;have hfix:∀x,G.used x->(L9 T [] trivial).ρ x=some x\/(L9 T [] trivial).ρ x=none:=fun x hx=>.inl (hρ x (hlt x hx));refine⟨v,G'.ren (L9 T [] trivial) G.used,rfl,s2.ren fun y b' hy=>?_,I9.ren (r2.trans e1) hfix,q1.ren (.same _ (G9 (fun z hz=>.inl (hρ z (by omega))) _ hr)),fun y hy=>?_⟩
 ·by_cases hk:y∈K8 wr
  ·have hlt':y<T:=by
    obtain⟨q,hq,rfl⟩:∃q∈wr,q.1=y:=by
     have:∀l:List (Nat×Option Bx),y∈K8 l->∃q∈l,q.1=y:=fun l=>by
      induction l with
      | nil=>intro h; cases h
      | cons p l ih =>
       intro h;obtain⟨i,b⟩:=p;rcases zi.1 h with rfl|h
       ·exact⟨_,zb ..,rfl⟩
       ·obtain⟨q,h1,h2⟩:=ih h; exact⟨q,za _ h1,h2⟩
     exact this wr hk
    have:=(hw q hq).1; omega
   refine⟨y,b',hρ y hlt',hy,BxR.same fun i x hx=>?_⟩;have hq:∀(l:List (Nat×Option Bx)) (B:Nat->Option Bx),y∈K8 l->D8 B l y=some b'->∃q∈l,q.2=some b':=fun l=>by
    induction l with
    | nil=>intro B h; cases h
    | cons p l ih =>
     intro B h1 h2;obtain⟨i',b⟩:=p;by_cases hk':y∈K8 l
     ·obtain⟨q,g1,g2⟩:=ih (P9 B i' b) hk' h2;exact⟨q,za _ g1,g2⟩
     ·rcases zi.1 h1 with rfl|h1
      ·simp only[D8] at h2;rw[K9 hk',B5] at h2;exact⟨_,zb ..,h2⟩
      ·exact (hk' h1).elim
   obtain⟨q,hqm,hqb⟩:=hq wr bx hk hy;exact L0 _ ((hw q hqm).2 b' hqb x (zf hx))
  ·rw[K9 hk] at hy;have hub:=hs.boxNames hy;exact⟨y,b',hρ y (hlt y hub.1),by rw[K9 hk]; exact hy,BxR.same fun i x hx=>G9 (fun z hz=>.inl (hρ z (hlt z hz))) x (hub.2 i x hx)⟩
 ·rcases hy with⟨x,hx,hu⟩|hy
  ·have hx':z6 T [] y=some x:=hx;unfold z6 at hx';simp only[Y3,M6] at hx';split at hx'
   ·rename_i hyT;simp at hx';subst hx';rcases u1 _ hu with h1|h1
    ·rcases hu1 _ h1 with e|h1
     ·omega
     ·exact .inl h1
    ·exact .inr h1
   ·cases hx'
  ·exact .inl hy
theorem B1e{β:Nat->Option Bx}{y:Nat}:∀{l:List (Nat×Option Bx)},H5 y l->ov β l y=bk l y
 | [],h=>h.elim
 | (i,b)::l,h=>by
  simp only[ov,bk];by_cases e:y=i
  ·subst e; rw[B5,zk rfl]
  ·rw[A7 _ _ _ e,zh e];exact B1e (h.resolve_left e)
structure B3f(n0:Nat)(L:List (Nat×Bx))(bx M:List (Nat×Option Bx)):Prop where
 kept:∀y b,bk M y=some b->bk bx y=some b/\∀q∈L,q.1≠y
 cov:∀q∈bx,n0<=q.1\/H5 q.1 M
section
variable {E:R9} {σ:St}
theorem B3f.weak{L:List (Nat×Bx)}{bx M:List (Nat×Option Bx)}(h:B3f E.n0 L bx M)(hL:∀q∈L,bk bx q.1=some q.2){y:Nat}{b:Bx}(hb:ov E.β M y=some b):D8 (ov E.β bx) (wrF L) y=some b:=by
 by_cases hk:H5 y M
 ·rw[B1e hk] at hb;obtain⟨h1,h2⟩:=h.kept y b hb;rw[Z5 h2];exact U1 E.β h1
 ·rw[v7 hk] at hb;have hlt:y<E.n0:=by
   rcases yt y E.n0 with h|h
   ·exact h
   ·rw[E.own y h] at hb; cases hb
  have hno:¬H5 y bx:=fun h'=>by
   obtain⟨q,hq,rfl⟩:=A1E.1 h';rcases h.cov q hq with h1|h1
   ·omega
   ·exact hk h1
  rw[Z5 fun q hq e=>by subst e; exact hno (A8Q (hL q hq)),v7 hno];exact hb
theorem H0.deepBox(j:Nat)(L:List (Nat×Bx))(M:List (Nat×Option Bx)){b:Bx}{x y:AV}(hb:bk σ.bx j=some b)(hx:b.xs=[x])(hc:x.cells.length=y.cells.length)(hr:∀(m:Nat) c d,x.cells[m]?=some c->y.cells[m]?=some d->Rd L c d)
  (hL:∀q∈L,bk σ.bx q.1=some q.2/\q.2.ro=false) (hK:B3f E.n0 L σ.bx M) (hj:∀q∈L,q.1≠j):H0 E σ ⟨σ.fr,(j,some { b with xs:=[y] })::M,σ.k⟩:=fun G a w hD=>by
 have hLo:G8 (ov E.β σ.bx) L:=fun q hq=>U1 E.β (hL q hq).1;obtain⟨G1,q1,q2,q3,q4,q5⟩:=freezeZ L hD.rs fun q hq=>⟨.inl (hLo q hq),(hL q hq).2⟩;have hbj:=U1 E.β hb;have hK':B3f E.n0 L σ.bx ((j,some b)::M):=⟨fun z c hz=>by
  simp only[bk] at hz;split at hz
  ·rename_i e; subst e; injection hz with hz; subst hz; exact⟨hb,hj⟩
  ·exact hK.kept z c hz,fun q hq=>(hK.cov q hq).imp _root_.id .inr⟩
 have r1:RS E.C G1 (ov E.β ((j,some b)::M)) w:=RS.weak q1 fun id b hb=>hK'.weak (fun q hq=>(hL q hq).1) hb;have hbj1:ov E.β ((j,some b)::M) j=some b:=by simp only[ov,B5]
 have r4:RS E.C G1 (ov E.β ((j,some { b with xs:=[y] })::M)) w:=by
  refine⟨r1.below,r1.size,r1.fzok,r1.fzold,fun i b' hi hn=>?_,fun i b' hi hn=>?_,r1.nlu,r1.used,r1.inj,r1.rows⟩
  ·by_cases hij:i=j
   ·subst hij;simp only[ov,B5,zc] at hi;subst hi;obtain⟨blk,s,cur,e,k1,k2,k3,k4,k5,k6,k7⟩:=r1.box i b hbj1 hn;have hn0:¬G.nl i:=hD.rs.lies hbj (i:=0) (y:=x) (by rw[hx]; rfl);obtain⟨blk',s',cur',e',m1,m2,m3,m4,m5,m6,m7⟩:=hD.rs.box i b hbj hn0;rw[q4,m1] at k1;injection k1 with k1
    injection k1 with e1 e2
    subst e1 e2;rw[m2] at k2;injection k2 with k2
    injection k2 with e1 e2
    subst e1 e2;have hlen:b.xs.length=1:=(by rw[hx]; rfl);refine⟨blk',s',cur',e',by rw[q4]; exact m1,m2,k3,⟨k4.1,by have:=k4.2; rw[hlen] at this; exact this⟩,fun i' y' hy'=>?_,k6,by have:=k7; rw[hlen] at this; exact this⟩;cases i' with
    | succ i'=>simp at hy'
    | zero =>
     simp only[yb,zc] at hy';subst hy';obtain⟨d1,d2⟩:=m5 0 x (by rw[hx]; rfl);refine⟨hc.symm.trans d1,fun m z hz=>?_⟩;obtain⟨z0,hz0⟩:∃z0,x.cells[m]?=some z0:=⟨_,zd (by rw[hc]; exact (ze.1 hz).1)⟩;obtain⟨u,hu1,hu2⟩:=d2 m z0 hz0;exact⟨u,hu1,A24 hD.rs hLo q2 q5 (hr m z0 z hz0 hz) hu2⟩
   ·simp only[ov,A7 _ _ _ hij] at hi;exact r1.box i b' (by simp only[ov,A7 _ _ _ hij]; exact hi) hn
  ·by_cases hij:i=j
   ·subst hij;exfalso;have:=(r1.nil i b hbj1 hn).1;rw[hx] at this; cases this
   ·simp only[ov,A7 _ _ _ hij] at hi;exact r1.nil i b' (by simp only[ov,A7 _ _ _ hij]; exact hi) hn
 exact⟨G1,hD.ev.trans q2,r4,fun id h=>hD.used id (q3 id h),fun id hi h=>hD.old id hi (q3 id h),fun m c v hm=>⟨fun hc=>((hD.fr m c v hm).1 hc).mono q2,(hD.fr m c v hm).2⟩,hD.size,hD.defers⟩
end
theorem B1f{P:Program}{f:Nat}{fn:Func}{cc:CC}{crs:List X1}{args:List AV}{rd:List (Nat×Bx)}{id:Nat}{o:Except AV (AV×List (Nat×Option Bx))}
  (hf : P.funcs[f]? = some fn) (hcc : fn.body.map (D4 P fn.ntmps) = some cc) (hnm : (fn.name == "runtime.NumGoroutine") = false) (hrs : L2 P fn.results.toList = some crs) (hN : args.length <= fn.ntmps)
  (h:∀E:R9,E.P=P->(∀v wr σ,o = .ok (v,wr)->v8 E.n0 id E.G0.used crs rd v wr σ->E.Rt σ)->(∀pv σ,o = .error pv->pv.pureB=true->G6 E.n0 (C4 rd) σ.bx->E.Pn pv σ)->(∀q∈rd,q.1<E.n0/\(q.1<id\/id+1024<=q.1))->id+1024<=E.n0->G8 E.β rd->(∀z,E.G0.used z->z<id\/id+1024<=z)->Wk E [.code cc] ⟨A0K 0 args,C4 rd,0⟩):u9 P f args rd id o:=by
 obtain⟨c,hb,rfl⟩:=zj.1 hcc;exact A65 (o:=o) (fun n0 S σ=>∃q,o = .ok q/\v8 n0 id S crs rd q.1 q.2 σ) (fun n0 pv σ=>o = .error pv/\pv.pureB=true/\G6 n0 (C4 rd) σ.bx) hf hb hnm hrs hN (fun _ _ _ h=>h) (fun _ _ _ h=>h)
  fun E h1 h2 h3 h4 h5 h6 h7 h8=>h E h1 (fun v wr σ ho hr=>by rw[h3]; exact⟨_,ho,hr⟩) (fun pv σ ho hp hd=>by rw[h4]; exact⟨ho,hp,hd⟩) h5 h6 h7 h8
section
variable {E:R9} {σ:St} {k:List Itm} {P:Program}
theorem K4(hP:E.P=P){dst:Option Nat}{us:List Nat}{f:Nat}{xs:List G7}{l:List CR}{j:Nat}{acc:List RR}{ps:List (Nat×Nat)}{args:List AV}{rd:List (Nat×Bx)}{o:Except AV (AV×List (Nat×Option Bx))}
  (ha:xs.map (H9 (lk σ.fr))=args) (hc:u9 P f args rd (E.n0+(σ.k+1024*j)) o) (hu:A03 (lk σ.fr) us) (hh:X2 (bk σ.bx) rd)
  (he:∀pv,o = .error pv->A3d ((⟨true,.nili,rd,goL rd⟩::acc).reverse) j ps/\E.Pn pv ⟨σ.fr,f8 σ.bx (goL rd),σ.k⟩)
  (h:∀v wr,o = .ok (v,wr)->Wk E (.ops l (j+1) (j0 ps ⟨true,v,rd,wr⟩ acc) ps::k) (σ.app dst ⟨true,v,rd,wr⟩)):Wk E (.ops (⟨dst,none,us,.call f xs⟩::l) j acc ps::k) σ:=by
 cases o with
 | ok q=>exact C6 hP ha hc hu hh (h q.1 q.2 rfl)
 | error pv =>
  subst hP ha;refine B1N (pv:=pv) (r:=⟨true,.nili,rd,goL rd⟩) ⟨trivial,rfl,.call f xs _ _ hu (.inl ⟨⟨?_,rfl⟩,hh.has⟩)⟩ (he pv rfl).1 (he pv rfl).2;rw[yx]; exact hc
theorem B1g(hP:E.P=P){dst:Option Nat}{us:List Nat}{f:Nat}{caps:List AV}{x:G7}{xs:List G7}{l:List CR}{j:Nat}{acc:List RR}{ps:List (Nat×Nat)}{args:List AV}{rd:List (Nat×Bx)}{o:Except AV (AV×List (Nat×Option Bx))}
  (hx:H9 (lk σ.fr) x = .fn f caps) (ha:xs.map (H9 (lk σ.fr))=args) (hc:u9 P f (args++caps) rd (E.n0+(σ.k+1024*j)) o) (hu:A03 (lk σ.fr) us) (hh:X2 (bk σ.bx) rd)
  (he:∀pv,o = .error pv->A3d ((⟨true,.nili,rd,goL rd⟩::acc).reverse) j ps/\E.Pn pv ⟨σ.fr,f8 σ.bx (goL rd),σ.k⟩)
  (h:∀v wr,o = .ok (v,wr)->Wk E (.ops l (j+1) (j0 ps ⟨true,v,rd,wr⟩ acc) ps::k) (σ.app dst ⟨true,v,rd,wr⟩)):Wk E (.ops (⟨dst,none,us,.callv x xs⟩::l) j acc ps::k) σ:=by
 cases o with
 | ok q=>exact P2 hP hx ha hc hu hh (h q.1 q.2 rfl)
 | error pv =>
  subst hP ha;refine B1N (pv:=pv) (r:=⟨true,.nili,rd,goL rd⟩) ⟨trivial,rfl,.callv x xs f caps _ _ hu hx (.inl ⟨⟨?_,rfl⟩,hh.has⟩)⟩ (he pv rfl).1 (he pv rfl).2;rw[yx]; exact hc
theorem A7J(hP:E.P=P){dst:Option Nat}{us:List Nat}{f:Nat}{caps:List AV}{x:G7}{xs:List G7}{l:List CR}{j:Nat}{acc:List RR}{ps:List (Nat×Nat)}{args:List AV}{rd:List (Nat×Bx)}{o:Except AV (AV×List (Nat×Option Bx))}
  (hx:H9 (lk σ.fr) x = .fnb f caps) (ha:xs.map (H9 (lk σ.fr))=args) (hc:u9 P f (caps++args) rd (E.n0+(σ.k+1024*j)) o) (hu:A03 (lk σ.fr) us) (hh:X2 (bk σ.bx) rd)
  (he:∀pv,o = .error pv->A3d ((⟨true,.nili,rd,goL rd⟩::acc).reverse) j ps/\E.Pn pv ⟨σ.fr,f8 σ.bx (goL rd),σ.k⟩)
  (h:∀v wr,o = .ok (v,wr)->Wk E (.ops l (j+1) (j0 ps ⟨true,v,rd,wr⟩ acc) ps::k) (σ.app dst ⟨true,v,rd,wr⟩)):Wk E (.ops (⟨dst,none,us,.callv x xs⟩::l) j acc ps::k) σ:=by
 cases o with
 | ok q=>exact A66 hP hx ha hc hu hh (h q.1 q.2 rfl)
 | error pv =>
  subst hP ha;refine B1N (pv:=pv) (r:=⟨true,.nili,rd,goL rd⟩) ⟨trivial,rfl,.callb x xs f caps _ _ hu hx (.inl ⟨⟨?_,rfl⟩,hh.has⟩)⟩ (he pv rfl).1 (he pv rfl).2;rw[yx]; exact hc
theorem B1h(hP:E.P=P){dst:Option Nat}{us:List Nat}{f:Nat}{xs:List G7}{l:List CR}{j:Nat}{acc:List RR}{ps:List (Nat×Nat)}{args args':List AV}{fz rd:List (Nat×Bx)}{o:Except AV (AV×List (Nat×Option Bx))}
  (ha:xs.map (H9 (lk σ.fr))=args) (hc:u9 P f args' rd (E.n0+(σ.k+1024*j)) o) (hr:A3i (bk σ.bx) args args' fz) (hu:A03 (lk σ.fr) us) (hh:X2 (bk σ.bx) rd) (hd:R0 (O2 rd) (O2 fz))
  (he:∀pv,o = .error pv->A3d ((⟨true,.nili,fz++rd,wrF fz++goL rd⟩::acc).reverse) j ps/\E.Pn pv ⟨σ.fr,f8 σ.bx (wrF fz++goL rd),σ.k⟩)
  (h:∀v wr,o = .ok (v,wr)->Wk E (.ops l (j+1) (j0 ps ⟨true,v,fz++rd,wrF fz++wr⟩ acc) ps::k) (σ.app dst ⟨true,v,fz++rd,wrF fz++wr⟩)) :
  Wk E (.ops (⟨dst,none,us,.call f xs⟩::l) j acc ps::k) σ:=by
 cases o with
 | ok q=>exact A1c hP ha hc hr hu hh hd (h q.1 q.2 rfl)
 | error pv =>
  subst hP ha;refine B1N (pv:=pv) (r:=⟨true,.nili,fz++rd,wrF fz++goL rd⟩) ⟨trivial,rfl,.call f xs _ _ hu (.inr ⟨rd,goL rd,?_⟩)⟩ (he pv rfl).1 (he pv rfl).2;rw[hr.eq,yx];exact⟨hr.1,⟨hc,rfl⟩,hh.has,fun q hq q1 hq1 e=>R3.1 hd q.1 (yi.2 ⟨q,hq,rfl⟩) (yi.2 ⟨q1,hq1,e.symm⟩),rfl,rfl⟩
theorem B3g{dst:Option Nat}{us:List Nat}{x:G7}{l:List CR}{j:Nat}{acc:List RR}{ps:List (Nat×Nat)}{t:Nat}{v:AV}(hx:H9 (lk σ.fr) x = .iface t v)(hu:A03 (lk σ.fr) us)
  (h:A3d ((⟨true,.nili,[],[]⟩::acc).reverse) j ps/\E.Pn (.iface t v) σ):Wk E (.ops (⟨dst,none,us,.pnk x⟩::l) j acc ps::k) σ :=
 B1N (pv:=.iface t v) (r:=⟨true,.nili,[],[]⟩) ⟨trivial,rfl,.pnk x t v _ _ hu hx⟩ h.1 h.2
end
attribute [simp] goL A3d
theorem A1F{w:World}{a:Addr}{u:Value}(h:w.cell? a=some u):a.block<w.heap.size:=by
 rcases yt a.block w.heap.size with h1|h1
 ·exact h1
 ·simp[World.cell?,we h1] at h
theorem I9.below{P:Program}{C:Cx P}{G:Gh}{bx:Nat->Option Bx}{w w':World}(h:RS C G bx w)(hb:Below w.heap.size w w'):I9 G w G w':=by
 refine⟨fun _ _ h=>h,fun a ha=>?_,fun _ h=>h,fun _ _=>.inl rfl,fun _ _ h=>h,fun id b s _ _ cur e hw=>⟨cur,?_,rfl⟩⟩
 ·obtain⟨u,hu⟩:=h.fzok _ _ ha;exact hb.cell (show a.block<w.heap.size from A1F (a:=⟨a.block,a.off,none⟩) hu)
 ·rw[hb.block b (xl.1 hw).1]; exact hw
theorem RS.grown{P:Program}{C:Cx P}{G:Gh}{bx:Nat->Option Bx}{w w':World}(h:RS C G bx w)(hb:Below w.heap.size w w'):RS C G bx w':=by
 have he:=I9.below h hb;refine⟨h.below.trans (hb.mono h.size),uh h.size hb.size,fun b o ho=>?_,h.fzold,fun id x hx hn=>?_,h.nil,h.nlu,h.used,h.inj,fun id b s hi=>ws (h.rows id b s hi) hb.size⟩
 ·obtain⟨u,hu⟩:=h.fzok b o ho;exact⟨u,by rw[hb.cell (show b<w.heap.size from A1F (a:=⟨b,o,none⟩) hu)]; exact hu⟩
 ·obtain⟨b,s,cur,e,h1,h2,h3,h4,h5,h6⟩:=h.box id x hx hn;refine⟨b,s,cur,e,h1,by rw[hb.block b (xl.1 h2).1]; exact h2,h3,h4,fun i y hy=>?_,h6⟩;obtain⟨k1,k2⟩:=h5 i y hy;refine⟨k1,fun j z hz=>?_⟩;obtain⟨u,u1,u2⟩:=k2 j z hz;exact⟨u,u1,u2.mono he⟩
theorem B57{P:Program}{f:Nat}{args:List AV}{rd:List (Nat×Bx)}{id:Nat}{res:AV}(hp:Q7 P f)
  (h:∀(C:Cx P) (G:Gh) (bx:Nat->Option Bx) (w:World) (vs:Array Value),RS C G bx w->j8 G w args vs->G8 bx rd->Calls P f vs w fun e w'=>∃v,e = .returned v/\(∀G w,RV G w res v)/\Below w.heap.size w w'):A2 P f args rd id res [] :=
 ⟨hp,fun C G bx w vs nb hs hv hh hnb hid=>Calls.mono (h C G bx w vs hs hv hh) fun e w' ⟨v,h1,h2,h3⟩=>⟨v,G,h1,hs.grown h3,I9.below hs h3,h2 _ _,fun _ hx=>.inl hx⟩⟩
section
variable {P:Program} {C:Cx P} {N:Nat} {D:List Deferred} {n0:Nat} {G0:Gh} {w0:World} {G:Gh} {a:Act} {w:World} {ops:Array Oper} {Q:Exit->Act->World->Prop}
theorem B3h{crs:List CR}(hlen:crs.length=ops.size)(hcr:∀(i:Nat) o,ops[i]?=some o->∃c,crs[i]?=some c/\l9 P N ops o=some c){base:Nat}(hn:n0<=base){pv:AV}{r:RR}{F':Fr}{B':Nat->Option Bx}
  (hK:∀G a w u,E0 C N D n0 G0 w0 F' (D8 B' r.wr) (· < base+1024*ops.size) G a w->RV G w pv u->Q (.panic [{ v:=u,recovered:=false }]) a w) :
  ∀(rs:List RR) (m j:Nat) (F:Fr) (B:Nat->Option Bx) (G:Gh) (a:Act) (w:World),j+m=ops.size->A98 P base pv r j (crs.drop j) F B rs->runF (crs.drop j) rs F=F'->j9 rs B=B'->E0 C N D n0 G0 w0 F B (· < base+1024*j) G a w ->
   wpOps P ops Q (List.range' j m) a w:=by
 intro rs;induction rs with
 | nil =>
  intro m j F B G a w hj hr hF hB hd;simp only[j9] at hB;subst hB;have hjn:j<ops.size:=by
   rcases yt j ops.size with h|h
   ·exact h
   ·rw[zt (by omega)] at hr; exact hr.elim
  obtain⟨o,ho⟩:∃o,ops[j]?=some o:=⟨_,zy hjn⟩;obtain⟨cr,hc1,hc2⟩:=hcr j o ho;have hdrop:crs.drop j=cr::crs.drop (j+1):=by
   rw[yv (by omega)];rw[zd (by omega)] at hc1;injection hc1 with hc1
   rw[hc1]
  rw[hdrop] at hr hF;simp only[runF] at hF;subst hF;obtain⟨m,rfl⟩:∃k,m=k+1:=⟨m - 1,by omega⟩;rw[wa,wpOps_cons];exact B1I hd ho hc2 hr (fun x hx _ h=>absurd (hd.used _ h) (by omega)) (by omega) (nb:=base+1024*j) (fun x hx h=>absurd (hd.used _ h) (by omega)) fun G' u w' hd' hv=>hK G' a w' u (hd'.weak fun id h=>h.elim (fun h=>by have:=hd.used _ h; omega) fun h=>by omega) hv
 | cons r0 rs ih =>
  intro m j F B G a w hj hr hF hB hd;have hjn:j<ops.size:=by
   rcases yt j ops.size with h|h
   ·exact h
   ·rw[zt (by omega)] at hr; exact hr.elim
  obtain⟨o,ho⟩:∃o,ops[j]?=some o:=⟨_,zy hjn⟩;obtain⟨cr,hc1,hc2⟩:=hcr j o ho;have hdrop:crs.drop j=cr::crs.drop (j+1):=by
   rw[yv (by omega)];rw[zd (by omega)] at hc1;injection hc1 with hc1
   rw[hc1]
  rw[hdrop] at hr hF;obtain⟨hr1,hr2⟩:=hr;obtain⟨m,rfl⟩:∃k,m=k+1:=⟨m - 1,by omega⟩;rw[wa,wpOps_cons];refine A75 hd ho hc2 hr1 (fun x hx _ h=>absurd (hd.used _ h) (by omega)) (by omega) (nb:=base+1024*j) (fun x hx h=>absurd (hd.used _ h) (by omega)) fun G' u w' hd'=>?_;exact ih m (j+1) _ _ G' _ w' (by omega) hr2 hF hB (hd'.weak fun id h=>h.elim (fun h=>by have:=hd.used _ h; omega) fun h=>by omega)
theorem E0.rebase{n1:Nat}{G1:Gh}{w1:World}{F:Fr}{B:Nat->Option Bx}{U:Nat->Prop}(h:E0 C N D n1 G1 w1 F B U G a w)(hn:n0<=n1)(e:I9 G0 w0 G1 w1)(ho:∀id,id<n0->G1.used id->G0.used id):E0 C N D n0 G0 w0 F B U G a w :=
 ⟨e.trans h.ev,h.rs,h.used,fun id hi hu=>ho id hi (h.old id (by omega) hu),h.fr,h.size,h.defers⟩
theorem A0r(β:Nat->Option Bx):∀(l r:List (Nat×Option Bx)),ov β (l++r)=ov (ov β r) l
 | [],r=>rfl
 | (i,b)::l,r=>by simp only[yo,ov,A0r β l r]
end
theorem APn.runF{P:Program}{base:Nat}{pv:AV}{r:RR}:∀{rs:List RR} {l:List CR} {j:Nat} {σ:St},APn P base pv r j l σ rs->runF l rs (lk σ.fr)=lk (σ.apps l rs).fr
 | [],[],_,_,h=>h.elim
 | _::_,[],_,_,h=>h.elim
 | [],cr::l,j,σ,h=>rfl
 | r0::rs,cr::l,j,σ,h=>by
  have:=APn.runF h.2;simp only[St.app,A8I] at this;exact this
theorem B1i{E:R9}{σ:St}{id:Nat}{ops:Array Oper}{crs:List CR}{K:St->Prop}{Q:Exit->Act->World->Prop}(hc:X0 E.P E.N ops false = .reg false crs [])(h:Wk E [.ops crs 0 [] [],.post K] σ){G:Gh}{a:Act}{w:World}(hD:Y4 E σ G a w)
  (hn:∀σ' G a w,Y4 E σ' G a w->K σ'->Q .normal a w)
  (hp:∀pv u σ' G a w,E0 E.C E.N E.D E.n0 E.G0 E.w0 (lk σ'.fr) (ov E.β σ'.bx) (· < E.n0+σ.k+1024*crs.length) G a w->RV G w pv u->E.Pn pv σ'->Q (.panic [{ v:=u,recovered:=false }]) a w):(Code.region id ops false).wp E.P Q a w:=by
 unfold X0 at hc;split at hc
 ·cases hc
 ·rename_i cs hcs;obtain⟨hlen,hget⟩:=v6 hcs;have hlen':cs.length=ops.size:=by simpa using hlen
  have hcr:∀(i:Nat) o,ops[i]?=some o->∃c,cs[i]?=some c/\l9 E.P E.N ops o=some c:=fun i o ho=>hget i o (by simpa using ho);simp only[CC.reg.injEq,true_and,and_true] at hc;subst hc;refine wp_region ?_;rw[wb];rcases h with⟨rs,h1,h2,h3⟩|⟨rs,pv,r,h1,h2,h3⟩
  ·obtain⟨q1,q2,q3,q4⟩:=h1.runs E.β;refine B1J hlen' hcr (base:=E.n0+σ.k) (by omega) (Q:=Q) (F':=runF cs rs (lk σ.fr)) (B':=j9 rs (ov E.β σ.bx)) (fun G a w h=>hn _ G a w ?_ h3) ops.size 0 rs _ _ G a w (by omega) q1 rfl rfl (hD.weak fun id hid=>by omega);rw[q2,q3] at h;simp only[Y4,St.bump,q4];exact h.weak fun id hid=>by rw[hlen']; omega
  ·obtain⟨q1,q2,q3,cp,q4,q5⟩:=h1.runs E.β;have q6:=h1.runF;refine B3h hlen' hcr (base:=E.n0+σ.k) (by omega) (Q:=Q) (pv:=pv) (r:=r) (F':=runF cs rs (lk σ.fr)) (B':=j9 rs (ov E.β σ.bx)) (fun G a w u h hv=>hp pv u _ G a w ?_ hv h3) rs ops.size 0 _ _ G a w (by omega) q1 rfl rfl (hD.weak fun id hid=>by omega);rw[q6,q3,←A1b] at h;exact h.weak fun id hid=>by rw[hlen']; omega
def G00:Gh:=⟨fun _ _=>False,fun _=>False,fun _=>none,fun _=>False⟩
theorem B6U{P:Program}(w:World)(ht:A16 P w):RS (P:=P) ⟨w.heap.size,w,fun _ _=>False,fun w' h=>ht.below h⟩ G00 (fun _=>none) w :=
 ⟨Below.refl _ _,yg _,fun b o h=>False.elim h,fun b o h=>False.elim h,(fun id x h=>nomatch h),(fun id x h=>nomatch h),fun id h=>False.elim h,(fun id b s h=>nomatch h),(fun id id' b s s' h=>nomatch h),(fun id b s h=>nomatch h)⟩
theorem RS.tabs{P:Program}{C:Cx P}{G:Gh}{bx:Nat->Option Bx}{w:World}(h:RS C G bx w):A16 P w:=C.tab w h.below
theorem A2.plain{P:Program}{f:Nat}{args:List AV}{id:Nat}{res:AV}(h:A2 P f args [] id res []){w:World}{vs:Array Value}(ht:A16 P w)(hv:j8 G00 w args vs):
  Calls P f vs w fun e w'=>∃v G',e = .returned v/\RV G' w' res v/\Below w.heap.size w w' :=
 (h.2 _ G00 (fun _=>none) w vs 0 (B6U w ht) hv (fun q hq=>by cases hq) (fun _ _ h=>h) (fun _ _ _ h=>h)).mono fun e w' ⟨v,G',h1,h2,h3,h4,h5⟩=>⟨v,G',h1,h4,h2.below⟩
theorem B3i{G:Gh}{w:World}{x:AV}{v:Value}(h:RV G w x v):j8 G w [x] #[v] :=
 ⟨rfl,fun i y hy=>by
  cases i with
  | zero=>simp at hy; subst hy; exact h
  | succ i=>simp at hy⟩
theorem A2j{G:Gh}{w:World}{x:AV}{vs:Array Value}(h:j8 G w [x] vs):∃v,vs = #[v]/\RV G w x v:=by
 obtain⟨h1,h2⟩:=h;obtain⟨l⟩:=vs;match l,h1,h2 with
 | [v],_,h2=>exact⟨v,rfl,h2 0 x rfl⟩
theorem A7K{G:Gh}{w:World}{x y:AV}{vs:Array Value}(h:j8 G w [x,y] vs):∃u v,vs = #[u,v]/\RV G w x u/\RV G w y v:=by
 obtain⟨h1,h2⟩:=h;obtain⟨l⟩:=vs;match l,h1,h2 with
 | [u,v],_,h2=>exact⟨u,v,rfl,h2 0 x rfl,h2 1 y rfl⟩
theorem A9F{P:Program}{C:Cx P}{G:Gh}{bx:Nat->Option Bx}{w:World}(hs:RS C G bx w){ks:List (List UInt8)}{v:Value}(h:RV G w (.sl (ks.map .str)) v):
 ∃(A:Option Addr) (c:Nat),v = .slice A ks.length c/\ks.length<=c/\c<=maxLen/\(ks=[]\/∃b o,A=some ⟨b,o,none⟩/\b<w.heap.size/\∀(j:Nat) s,ks[j]?=some s->w.cell? ⟨b,o+j,none⟩=some (.string ⟨⟨s⟩⟩)):=by
 cases h with
 | sl xs A c s u hc hm hn hs1 h1 h2 h3 =>
 refine⟨A,c,by simp,by simpa using hc,hm,?_⟩;have key:∀a,A=some a->∀(j:Nat) t,ks[j]?=some t->w.cell? (a.add j)=some (.string ⟨⟨t⟩⟩):=fun a ha j t ht=>by
  have e1:(ks.map AV.str)[j]?=some (.str t):=by simp[ht]
  have e2:(AV.str t).cells[0]?=some (.str t):=rfl;have e3:=hs1 j _ e1;have e4:=h2 a j _ 0 _ ha e1 e2;have e5:=h3 j _ 0 _ e1 e2;have e6:s=1:=by simpa [AV.cells] using e3.symm
  subst e6;rw[show (j:Nat)*1+0=j by omega] at e4;rw[e4];cases hu:u j 0 with
  | string z=>rw[hu] at e5; cases e5; rfl
  | _=>rw[hu] at e5; cases e5
 cases ks with
 | nil=>exact .inl rfl
 | cons k0 kr =>
  refine .inr ?_;cases A with
  | none=>simpa using (hn rfl).1
  | some a =>
  have k0':=key a rfl 0 k0 rfl;obtain⟨b,o,e⟩:=a;cases e with
  | some e =>
   exfalso;simp only[World.cell?,Addr.add] at k0';revert k0';split
   all_goals (intro k0'; first|(cases k0'; done)|(simp at k0'; done)|skip)
   all_goals (revert k0'; split<;>intro k0'<;>simp at k0')
  | none =>
   refine⟨b,o,rfl,by have:=A1F k0'; rwa [O9] at this,fun j t ht=>?_⟩;have:=A4n (key _ rfl j t ht)
   rwa [O9,l6] at this
theorem A8R{P:Program}{f:Nat}{args:List AV}{id:Nat}{res:AV}(hp:Q7 P f)
  (h:∀(C:Cx P) (G:Gh) (bx:Nat->Option Bx) (w:World) (vs:Array Value),RS C G bx w->j8 G w args vs->Calls P f vs w fun e w'=>∃v,e = .returned v/\(∀G w,RV G w res v)/\Below w.heap.size w w'):A2 P f args [] id res [] :=
 B57 hp fun C G bx w vs hs hv _=>h C G bx w vs hs hv
section
variable {P:Program} {C:Cx P} {N:Nat} {D:List Deferred} {n0:Nat} {G0:Gh} {w0:World} {ops:Array Oper} {Q:Exit->Act->World->Prop}
end
section
variable {α β:Type} {st:Nat->(α->β)->α->β}
end
section
variable {E:R9} {σ:St} {k:List Itm}
end
section
variable {E:R9} {σ:St} {k:List Itm} {P:Program}
end
section
variable {E:R9} {σ:St} {k:List Itm}
end
end Go.Am
