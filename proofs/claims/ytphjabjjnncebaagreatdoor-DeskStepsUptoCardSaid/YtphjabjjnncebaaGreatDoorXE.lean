/- Parts of the proof: an abstract machine for Go functions, and what functions of the program give back (Am35, Am36, Am37, Am38, Am39, Am40, Am41, Am42, Am43, Am44, Am45, Am46). No condition. -/
import Derived.Test.YtphjabjjnncebaaGreatDoorXD
import Derived.IntWalk
import Derived.ProofKit
import Derived.WideShapes
import Derived.Carry
import Derived.SizedLaws
import Derived.Lib.LazyBuf
set_option maxRecDepth 100000
set_option linter.all false
namespace Go.Am
open Go Go.RowKit
inductive t8 where
 | tmp (t:Nat)
 | cell (a:Nat) (agg:Bool) (n:Nat)
def N9(P:Program):List ResultVar->Option (List t8)
 | []=>some []
 | .tmp t::l=>(N9 P l).map (.tmp t::·)
 | .cell a t::l=>match P.underlying t,A3C P t,N9 P l with
  | some _,some n,some r=>some (.cell a (A0A P t) n::r)
  | _,_,_=>none
def A26(F:Fr)(B:Nat->Option Bx):List t8->Option (Prop×List AV)
 | []=>some (True,[])
 | .tmp t::l=>match A26 F B l with
  | some (p,vs)=>some (ceF F t=true/\p,M2 F (.t t)::vs)
  | none=>none
 | .cell a agg n::l=>match ldT agg n (A1O B (M2 F (.t a))),A26 F B l with
  | some (q,r),some (p,vs)=>some ((ceF F a=true/\q)/\p,r.v::vs)
  | _,_=>none
def tupOf:List AV->AV
 | [v]=>v
 | vs=>.tup vs
section
variable {P:Program} {C:Cx P} {G:Gh} {B:Nat->Option Bx} {w:World} {F:Fr} {tmps:Array Value}
def A2m(tmps:Array Value):ResultVar->Sem Value
 | .tmp t=>pure (tmps.getD t undef)
 | .cell a t=>do loadVar t (←asAddr (tmps.getD a undef))
theorem B1P(hs:RS C G B w)(hF:∀n c v,F n=some (c,v)->c=true->RV G w v (tmps.getD n undef)):∀{l:List ResultVar} {crs:List t8} {p:Prop} {vs:List AV},N9 P l=some crs->A26 F B crs=some (p,vs)->p ->
  ∃us:List Value,(l.mapM (A2m tmps)).run P w = .ok us w/\vs.length=us.length/\∀(i:Nat) v u,vs[i]?=some v->us[i]?=some u->RV G w v u
 | [],crs,p,vs,h1,h2,_=>by
  simp only[N9,zd] at h1;subst h1;simp only[A26,zd,zh] at h2;obtain⟨_,rfl⟩:=h2;exact⟨[],rfl,rfl,λi v u h=>by simp at h⟩
 | .tmp t::l,crs,p,vs,h1,h2,hp=>by
  simp only[N9,zn] at h1;obtain⟨r,hr,rfl⟩:=h1;simp only[A26] at h2;cases hv:A26 F B r with
  | none=>rw[hv] at h2; cases h2
  | some q =>
   obtain⟨p',vs'⟩:=q;rw[hv] at h2;simp only[zd,zh] at h2;obtain⟨rfl,rfl⟩:=h2;obtain⟨us,k1,k2,k3⟩:=B1P hs hF hr hv hp.2;have h0:RV G w (M2 F (.t t)) (tmps.getD t undef):=by
    have:=hp.1;simp only[ceF] at this;simp only[M2];split at this
    ·rename_i c v hl; exact hF t c v hl this
    ·cases this
   refine⟨tmps.getD t undef::us,?_,t_ k2,λi v u hv hu=>?_⟩
   ·simp only[qj,A2m,Sem.run_bind,Sem.run_pure,Result.andThen_ok,k1]
   ·cases i with
    | zero=>simp only[yn,zd] at hv hu; subst hv hu; exact h0
    | succ i=>exact k3 i v u (v_ hv) (v_ hu)
 | .cell a t::l,crs,p,vs,h1,h2,hp=>by
  simp only[N9] at h1;split at h1
  ·rename_i d n r hd hn hr;injection h1 with h1
   subst h1;simp only[A26] at h2;split at h2
   ·rename_i q rr p' vs' hq hv;simp only[zd,zh] at h2;obtain⟨rfl,rfl⟩:=h2;obtain⟨us,k1,k2,k3⟩:=B1P hs hF hr hv hp.2;have h0:RV G w (M2 F (.t a)) (tmps.getD a undef):=by
     have:=hp.1.1;simp only[ceF] at this;simp only[M2];split at this
     ·rename_i c v hl; exact hF a c v hl this
     ·cases this
    have hld:∃u,(A2m tmps (.cell a t)).run P w = .ok u w/\RV G w rr.v u:=by
     cases hl:A1O B (M2 F (.t a)) with
     | none=>rw[hl] at hq; simp[ldT] at hq
     | some z =>
      obtain⟨p0,cs,rd⟩:=z;rw[hl] at hq;cases hag:A0A P t with
      | true =>
       simp only[hag,ldT,zd,zh] at hq;obtain⟨rfl,rfl⟩:=hq;obtain⟨addr,hv1,hat⟩:=A7b hs h0 (A5G hl hp.1.2.1);obtain⟨v,e1,e2⟩:=(hat.take n).load_agg (P:=P) hag hn (by rw[zy]; have:=hp.1.2.2; omega);exact⟨v,by simp only[A2m,hv1,asAddr,Sem.run_bind,Sem.run_pure,Result.andThen_ok,e1],e2⟩
      | false =>
       simp only[hag,ldT] at hq;cases cs with
       | nil=>simp at hq
       | cons y l =>
        simp only[zd,zh] at hq;obtain⟨rfl,rfl⟩:=hq;obtain⟨addr,hv1,hat⟩:=A7b hs h0 (A5G hl hp.1.2);obtain⟨v,e1,e2⟩:=hat.load_one (P:=P) hd hag rfl;exact⟨v,by simp only[A2m,hv1,asAddr,Sem.run_bind,Sem.run_pure,Result.andThen_ok,e1],e2⟩
    obtain⟨u0,e1,e2⟩:=hld;refine⟨u0::us,?_,t_ k2,λi v u hv hu=>?_⟩
    ·simp only[qj,Sem.run_bind,Sem.run_pure,Result.andThen_ok,k1,e1]
    ·cases i with
     | zero=>simp at hv hu; subst hv hu; exact e2
     | succ i=>exact k3 i v u (v_ hv) (v_ hu)
   ·cases h2
  ·cases h1
theorem B3J{fn:Func}{us:List Value}(h:(fn.results.toList.mapM (A2m tmps)).run P w = .ok us w):(results fn tmps).run P w = .ok (if h:us.length=1 then us[0] else .tuple us.toArray) w:=by
 have e:results fn tmps=(do let vs←fn.results.mapM (A2m tmps); pure (if h:vs.size=1 then vs[0] else .tuple vs)):=by
  unfold results;congr 1
 rw[e,rc];simp only[Sem.run_bind,Sem.run_pure];rw[show (List.toArray <$> List.mapM (A2m tmps) fn.results.toList)=(do let r←List.mapM (A2m tmps) fn.results.toList; pure r.toArray) from rfl];simp[h]
end
/-! ### The end of a function -/
def D4:List (Nat×Bx)->List (Nat×Option Bx)
 | []=>[]
 | (i,b)::l=>(i,some b)::D4 l
def A2L(R:Rn)(S:Nat->Prop)(bx':List (Nat×Option Bx))(fin:Nat->Option Bx):List Nat->Prop
 | []=>True
 | y::l=>(match fin y with
  | none=>True
  | some b'=>∃x b,R.ρ y=some x/\bk bx' x=some b/\BxR R S b b')/\A2L R S bx' fin l
def A4o(id:Nat)(rd:List (Nat×Option Bx)):List (Nat×Option Bx)->Prop
 | []=>True
 | (y,_)::l=>(K6 y rd\/(id<=y/\y<id+1024))/\A4o id rd l
structure B1Q(n0 id:Nat)(S:Nat->Prop)(rd:List (Nat×Bx))(res:AV)(wr:List (Nat×Option Bx))(vs:List AV)(bx':List (Nat×Option Bx))(rn:List (Nat×Nat))(hrn:F7 rn):Prop where
 res:O3 (P2 n0 rn hrn) S (tupOf vs) res
 fin:A2L (P2 n0 rn hrn) S bx' (F6 (bk (D4 rd)) wr) (U7 rd++O7 wr)
 drop:I8 n0 (D4 rd) bx'
 wr:A4o id (D4 rd) wr
 new:A4a id (id+1024) rn
 gone:A25 n0 (D4 rd) rn
def C9B(n0 id:Nat)(S:Nat->Prop)(rd:List (Nat×Bx))(res:AV)(wr:List (Nat×Option Bx))(σ:St)(vs:List AV)(rn:List (Nat×Nat))(hrn:F7 rn):Bool->Prop
 | true=>(N0 (bk σ.bx) vs).1/\B1Q n0 id S rd res wr (N0 (bk σ.bx) vs).2.1 (t7 σ.bx (wrF (N0 (bk σ.bx) vs).2.2)) rn hrn
 | false=>B1Q n0 id S rd res wr vs σ.bx rn hrn
def C7o(n0 id:Nat)(S:Nat->Prop)(rd:List (Nat×Bx))(res:AV)(wr:List (Nat×Option Bx))(σ:St):Option (Prop×List AV)->Prop
 | none=>False
 | some (p,vs)=>p/\∃(b:Bool) (rn:List (Nat×Nat)) (hrn:F7 rn),C9B n0 id S rd res wr σ vs rn hrn b
def A27(n0 id:Nat)(S:Nat->Prop)(crs:List t8)(rd:List (Nat×Bx))(res:AV)(wr:List (Nat×Option Bx))(σ:St):Prop:=C7o n0 id S rd res wr σ (A26 (lk σ.fr) (bk σ.bx) crs)
def A2L.get{R:Rn}{S:Nat->Prop}{bx':List (Nat×Option Bx)}{fin:Nat->Option Bx}:∀{l:List Nat},A2L R S bx' fin l->∀y∈l,∀b',fin y=some b'->∃x b,R.ρ y=some x/\bk bx' x=some b/\BxR R S b b'
 | [],_,y,hy,_,_=>by cases hy
 | z::l,h,y,hy,b',hf=>by
  rcases zi.1 hy with rfl|hy
  ·have:=h.1;rw[hf] at this;exact this
  ·exact A2L.get h.2 y hy b' hf
def B5B{id:Nat}{rd:List (Nat×Option Bx)}:∀{l:List (Nat×Option Bx)},A4o id rd l->∀y∈O7 l,K6 y rd\/(id<=y/\y<id+1024)
 | [],_,y,hy=>by simp[O7] at hy
 | (z,b)::l,h,y,hy=>by
  simp only[O7,yg,zi] at hy;rcases hy with rfl|hy
  ·exact h.1
  ·exact B5B h.2 y hy
def R4{y:Nat}:∀{l:List (Nat×Bx)},K6 y (D4 l)↔y∈U7 l
 | []=>by simp[K6,D4,U7]
 | (i,b)::l=>by simp[K6,D4,U7,R4 (l:=l)]
def B3K{β:Nat->Option Bx}:∀{l:List (Nat×Bx)},K8 β l->∀y,y∈U7 l->bk (D4 l) y=β y
 | [],_,y,hy=>by simp[U7] at hy
 | (i,b)::l,h,y,hy=>by
  simp only[D4,bk];split
  ·rename_i e; subst e; exact (h (y,b) s_).symm
  ·rename_i e;simp only[U7,yg,zi] at hy;exact B3K (λq hq=>h q (t_ hq)) y (hy.resolve_left e)
def A2M{β:Nat->Option Bx}:∀{l:List (Nat×Bx)},K8 β l->ov β (D4 l)=β
 | [],_=>rfl
 | (i,b)::l,h=>by
  simp only[D4,ov];rw[A2M λq hq=>h q (t_ hq)];funext y
  by_cases e:y=i
  ·subst e; rw[C7]; exact (h (y,b) s_).symm
  ·exact B6 _ _ _ e
def A1g:Nat->List AV->List (Nat×Bool×AV)
 | _,[]=>[]
 | i,a::l=>(i,true,a)::A1g (i+1) l
def A4C:∀{l:List AV} {i n:Nat} {c:Bool} {v:AV},lk (A1g i l) n=some (c,v)->c=true/\i<=n/\l[n - i]?=some v
 | [],_,_,_,_,h=>by cases h
 | a::l,i,n,c,v,h=>by
  simp only[A1g,lk] at h;split at h
  ·rename_i e;subst e;simp only[zd,zh] at h;obtain⟨rfl,rfl⟩:=h;exact⟨rfl,zx _,s_⟩
  ·rename_i e;obtain⟨h1,h2,h3⟩:=A4C h;refine⟨h1,o_,?_⟩;rw[show n - i=(n - (i+1))+1 by omega];simpa using h3
def RV.tupOf{G:Gh}{w:World}{vs:List AV}{us:List Value}(hl:vs.length=us.length)(h:∀(i:Nat) v u,vs[i]?=some v->us[i]?=some u->RV G w v u):RV G w (Am.tupOf vs) (if h:us.length=1 then us[0] else .tuple us.toArray):=by
 match vs,us,hl,h with
 | [v],[u],_,h=>exact h 0 v u rfl rfl
 | [],[],_,_=>exact .tup [] _ rfl λi y hy=>by simp at hy
 | v::v'::vs,u::u'::us,hl,h =>
  simp only[zt,Nat.add_eq_right,Nat.add_eq_zero_iff,Nat.succ_ne_self,and_false,dite_false];refine .tup _ _ (v_ hl) λi y hy=>?_;obtain⟨z,hz⟩:∃z,(u::u'::us)[i]?=some z:=⟨_,zc (by rw[←hl]; exact (ze.1 hy).1)⟩;have:=h i y z hy hz;rw[zl];simpa [hz] using this
def A6L{E:O8}{fn:Func}{crs:List t8}{rd:List (Nat×Bx)}{id:Nat}{res:AV}{wr:List (Nat×Option Bx)}{σ:St}{G':Gh}{a:Act}{w':World}(hrs:N9 E.P fn.results.toList=some crs)(hh:K8 E.β rd)(hid:∀x,id<=x->x<id+1024->¬E.G0.used x)
  (hD':Q5 E σ G' a w') (hR:A27 E.n0 id E.G0.used crs rd res wr σ) :
  ∃v,(results fn a.tmps).run E.P w' = .ok v w'/\∃G1,RS E.C G1 (F6 E.β wr) w'/\L4 E.G0 E.w0 G1 w'/\RV G1 w' res v/\∀x,G1.used x->E.G0.used x\/(id<=x/\x<id+1024):=by
 have hR':C7o E.n0 id E.G0.used rd res wr σ (A26 (lk σ.fr) (bk σ.bx) crs):=hR;cases hres:A26 (lk σ.fr) (bk σ.bx) crs with
 | none=>rw[hres] at hR'; exact hR'.elim
 | some q =>
  obtain⟨p,rvs⟩:=q;rw[hres] at hR';obtain⟨hp,b,rn,hrn,hend⟩:=hR';have hres':A26 (lk σ.fr) (ov E.β σ.bx) crs=some (p,rvs):=by
   have key:∀{l:List t8} {p:Prop} {vs:List AV},A26 (lk σ.fr) (bk σ.bx) l=some (p,vs)->A26 (lk σ.fr) (ov E.β σ.bx) l=some (p,vs):=λ{l}=>by
    induction l with
    | nil=>intro p vs h; exact h
    | cons x l ih =>
     intro p vs h;cases x with
     | tmp t =>
      simp only[A26] at h ⊢;cases hl:A26 (lk σ.fr) (bk σ.bx) l with
      | none=>rw[hl] at h; cases h
      | some q=>obtain⟨p',vs'⟩:=q; rw[hl] at h; rw[ih hl]; exact h
     | cell a agg n =>
      simp only[A26] at h ⊢;cases hld:ldT agg n (A1O (bk σ.bx) (M2 (lk σ.fr) (.t a))) with
      | none=>rw[hld] at h; cases h
      | some q0 =>
       obtain⟨q,r⟩:=q0;obtain⟨l1,l2⟩:=A9y (bx':=ov E.β σ.bx) hld;rw[l2 (l1.ov E.β)];rw[hld] at h;cases hl:A26 (lk σ.fr) (bk σ.bx) l with
       | none=>rw[hl] at h; cases h
       | some q=>obtain⟨p',vs'⟩:=q; rw[hl] at h; rw[ih hl]; exact h
   exact key hres
  obtain⟨us,k1,k2,k3⟩:=B1P hD'.rs (λn c v h1 h2=>(hD'.fr n c v h1).1 h2) hrs hres' hp;obtain⟨G1,vs1,bx1,s1,e1,u1,l1,r1,hE⟩:∃G1 vs1 bx1,RS E.C G1 (ov E.β bx1) w'/\L4 G' w' G1 w'/\(∀i,G1.used i->G'.used i)/\vs1.length=us.length/\(∀(i:Nat) v u,vs1[i]?=some v->us[i]?=some u->RV G1 w' v u)/\B1Q E.n0 id E.G0.used rd res wr vs1 bx1 rn hrn:=by
   cases b with
   | false=>exact⟨G',rvs,σ.bx,hD'.rs,L4.refl _ _,λ_ h=>h,k2,k3,hend⟩
   | true =>
    obtain⟨h1,h2⟩:=hend;obtain⟨g1,g2⟩:=A0B (bx':=ov E.β σ.bx) h1;have ge:=g2 (g1.ov E.β);obtain⟨G1,q1,q2,q3,q4⟩:=A1C (N0 (bk σ.bx) rvs).2.2 hD'.rs λq hq=>let ⟨z1,z2⟩:=A3O h1 q hq; ⟨.inl (P5 E.β z1),z2⟩;have h1':(N0 (ov E.β σ.bx) rvs).1:=(by rw[ge]; exact h1);have q4':A4Z G' G1 w' (N0 (ov E.β σ.bx) rvs).2.2:=(by rw[ge]; exact q4);obtain⟨m1,m2⟩:=A5H q2 h1' q4';rw[ge] at m1 m2;refine⟨G1,_,_,by rw[A4B]; exact q1,q2,q3,m1.trans k2,λi v u hv hu=>?_,h2⟩;have:=m2 (λi=>us.getD i undef) (λi y hy=>by
     obtain⟨z,hz⟩:∃z,us[i]?=some z:=⟨_,zc (by rw[←k2]; exact (ze.1 hy).1)⟩;simp only[xv,hz,vh];exact k3 i y z hy hz) i v hv
    simp only[xv,hu,vh] at this;exact this
  have hrv:=(RV.tupOf l1 r1).ren hE.res;have hlk:∀y,(¬(id<=y/\y<id+1024))->lkN rn y=none:=λy hf=>by
   cases hl:lkN rn y with
   | none=>rfl
   | some t=>exact (hf (A1G hE.new _ (A0y hl))).elim
  have hfix:∀x,E.G0.used x->(P2 E.n0 rn hrn).ρ x=some x\/(P2 E.n0 rn hrn).ρ x=none:=λx hx=>(A4A (hlk x λ⟨h1,h2⟩=>hid x h1 h2 hx)).symm;refine⟨_,B3J k1,G1.ren (P2 E.n0 rn hrn) E.G0.used,s1.ren λy b' hy=>?_,L4.ren (hD'.ev.trans e1) hfix,hrv,λy hy=>?_⟩
  ·by_cases hk:y∈U7 rd++O7 wr
   ·have hy':F6 (bk (D4 rd)) wr y=some b':=by
     by_cases hw:y∈O7 wr
     ·rw[B1M (B':=E.β) hw]; exact hy
     ·rw[Q0 hw] at hy ⊢;rw[B3K hh y (by simpa [hw] using hk)]; exact hy
    obtain⟨x,b,z1,z2,z3⟩:=hE.fin.get y hk b' hy';exact⟨x,b,z1,P5 E.β z2,z3⟩
   ·simp only[zr,not_or] at hk;rw[Q0 hk.2] at hy;have hub:=E.rs0.boxNames hy;have hkk:¬K6 y (D4 rd):=λh=>hk.1 (R4.1 h);have hlt:=E.old y hub.1;have hst:(P2 E.n0 rn hrn).ρ y=some y:=by
     show rnF E.n0 rn y=some y;unfold rnF;rw[hlk y λ⟨h1,h2⟩=>hid y h1 h2 hub.1];rw[A2l hE.gone y hlt hkk];simp[hlt]
    refine⟨y,b',hst,?_,BxR.same λi x hx=>L7 (λz hz=>(hfix z hz).imp _root_.id λh=>⟨h,hz⟩) x (hub.2 i x hx)⟩;rw[hE.drop.get y hlt hkk E.β];exact hy
  ·rcases hy with⟨x,hx,hu⟩|hy
   ·by_cases hf:id<=y/\y<id+1024
    ·exact .inr hf
    ·have hx':rnF E.n0 rn y=some x:=hx;rcases A4A (n0:=E.n0) (hlk y hf) with h|h
     ·rw[h] at hx'; cases hx'
     ·have hy:y<E.n0:=by
       unfold rnF at h;rw[hlk y hf] at h;simp only at h;split at h
       ·assumption
       ·cases h
      rw[h] at hx';injection hx' with hx'
      subst hx';exact .inl (hD'.old _ hy (u1 _ hu))
   ·exact .inl hy
def I8.mem{n0:Nat}{bx':List (Nat×Option Bx)}:∀{l:List (Nat×Option Bx)},I8 n0 bx' l->∀q∈l,n0<=q.1\/K6 q.1 bx'
 | [],_,q,hq=>by cases hq
 | (x,b)::l,h,q,hq=>by
  rcases zi.1 hq with rfl|hq
  ·exact h.1
  ·exact I8.mem h.2 q hq
def B3L{f:Nat->Option Bx}{y:Nat}{b:Bx}:∀{rd:List (Nat×Bx)},F6 f (goL rd) y=some b->y∉U7 rd/\f y=some b
 | [],h=>⟨by simp[U7],h⟩
 | (i,b')::l,h=>by
  simp only[goL,F6] at h;obtain⟨h1,h2⟩:=B3L h;have hy:y≠i:=λe=>by subst e; rw[C7] at h2; cases h2
  rw[B6 _ _ _ hy] at h2;exact⟨by simp[U7,hy] at h1 ⊢; exact h1,h2⟩
def C3i{E:O8}{rd:List (Nat×Bx)}{id:Nat}{pv:AV}{u:Value}{l:List (Nat×Option Bx)}{F:Fr}{B:Nat->Option Bx}{U:Nat->Prop}{G':Gh}{a:Act}{w':World}
  (hD':F9 E.C E.N E.D E.n0 E.G0 E.w0 F B U G' a w') (hB:B6X E.β l B) (hv:RV G' w' pv u) (hp:pv.pureB=true) (hd:I8 E.n0 (D4 rd) l) :
  ∃G1,RS E.C G1 (F6 E.β (goL rd)) w'/\L4 E.G0 E.w0 G1 w'/\RV G1 w' pv u/\∀x,G1.used x->E.G0.used x\/(id<=x/\x<id+1024):=by
 have hfix:∀x,E.G0.used x->(P2 E.n0 [] trivial).ρ x=some x\/(P2 E.n0 [] trivial).ρ x=none:=λx hx=>(A4A (show lkN [] x=none from rfl)).symm;refine⟨G'.ren (P2 E.n0 [] trivial) E.G0.used,hD'.rs.ren λy b' hy=>?_,L4.ren hD'.ev hfix,hv.ren (.same _ (H7 _ hp)),λy hy=>?_⟩
 ·obtain⟨h1,h2⟩:=B3L hy;have hub:=E.rs0.boxNames h2;have hlt:=E.old y hub.1;refine⟨y,b',?_,?_,BxR.same λi x hx=>L7 (λz hz=>(hfix z hz).imp _root_.id λh=>⟨h,hz⟩) x (hub.2 i x hx)⟩
  ·show rnF E.n0 [] y=some y;simp[rnF,lkN,T7,hlt]
  ·rcases hB y with h|h
   ·rw[h,h2]
   ·rcases hd.mem _ h with h|h
    ·simp only at h; omega
    ·exact (h1 (R4.1 h)).elim
 ·rcases hy with⟨x,hx,hu⟩|hy
  ·have hx':rnF E.n0 [] y=some x:=hx;simp only[rnF,lkN,T7] at hx';split at hx'
   ·rename_i hy;injection hx' with hx'
    subst hx';exact .inl (hD'.old _ (v_ hy) hu)
   ·cases hx'
  ·exact .inl hy
def B1R{P:Program}{f:Nat}{fn:Func}{c:Code}{crs:List t8}{args:List AV}{rd:List (Nat×Bx)}{id:Nat}{o:Except AV (AV×List (Nat×Option Bx))}(Rt:Nat->(Nat->Prop)->St->Prop)(Pn:Nat->AV->St->Prop)
  (hf : P.funcs[f]? = some fn) (hb : fn.body = some c) (hnm : (fn.name == "runtime.NumGoroutine") = false) (hrs : N9 P fn.results.toList = some crs) (hN : args.length <= fn.ntmps)
  (hRt:∀n0 S σ,Rt n0 S σ->∃q,o = .ok q/\A27 n0 id S crs rd q.1 q.2 σ) (hPn:∀n0 pv σ,Pn n0 pv σ->o = .error pv/\pv.pureB=true/\I8 n0 (D4 rd) σ.bx)
  (h:∀E:O8,E.P=P->E.N=fn.ntmps->E.Rt=Rt E.n0 E.G0.used->E.Pn=Pn E.n0->(∀q∈rd,q.1<E.n0/\(q.1<id\/id+1024<=q.1))->id+1024<=E.n0->K8 E.β rd->(∀z,E.G0.used z->z<id\/id+1024<=z)->Wk E [.code (C9 P fn.ntmps c)] ⟨A1g 0 args,D4 rd,0⟩):Z0 P f args rd id o:=by
 have pl:X6 P f:=⟨fn,hf,hnm,by rw[hb]; rfl⟩;have main:∀(C:Cx P) (G:Gh) (bx:Nat->Option Bx) (w:World) (vs:Array Value) (nb:Nat),RS C G bx w->RVs G w args vs->K8 bx rd->(∀x,nb<=x->¬G.used x)->(∀x,id<=x->x<id+1024->¬G.used x) ->
   Calls P f vs w λe w'=>(∃q,o = .ok q/\∃v G',e = .returned v/\RS C G' (F6 bx q.2) w'/\L4 G w G' w'/\RV G' w' q.1 v/\∀x,G'.used x->G.used x\/(id<=x/\x<id+1024)) \/
    ∃pv,o = .error pv/\∃v G',e = .panicked [{ v:=v,recovered:=false }]/\RS C G' (F6 bx (goL rd)) w'/\L4 G w G' w'/\RV G' w' pv v/\∀x,G'.used x->G.used x\/(id<=x/\x<id+1024):=λC G bx w vs nb hs hv hh hnb hid=>calls_of_wp hf hb<|by
  have own:∀i,max nb (id+1024)<=i->bx i=none:=λi hi=>by
   cases hbi:bx i with
   | none=>rfl
   | some b=>exact (hnb i o_ (hs.boxNames hbi).1).elim
  have old:∀i,G.used i->i<max nb (id+1024):=λi hi=>by
   rcases yd i nb with h|h
   ·omega
   ·exact (hnb i h hi).elim
  let E:O8:=⟨P,C,bx,fn.ntmps,max nb (id+1024),G,w,own,old,hs,[],Rt (max nb (id+1024)) G.used,Pn (max nb (id+1024))⟩
  have hW:=h E rfl rfl rfl rfl (λq hq=>⟨E.old _ (hs.boxNames (hh q hq)).1,by
   have:=(hs.boxNames (hh q hq)).1;rcases yd q.1 id with h|h
   ·exact .inl h
   ·rcases yd q.1 (id+1024) with h'|h'
    ·exact (hid _ h h' this).elim
    ·exact .inr h'⟩) (by show id+1024<=max nb (id+1024); omega) hh (λz hz=>by
   rcases yd z id with h|h
   ·exact .inl h
   ·rcases yd z (id+1024) with h'|h'
    ·exact (hid z h h' hz).elim
    ·exact .inr h')
  have hD:Q5 E ⟨A1g 0 args,D4 rd,0⟩ G { tmps:=vs++Array.replicate (fn.ntmps - vs.size) undef,defers:=[] } w:=by
   refine⟨L4.refl G w,?_,λi hi=>?_,λi _ hi=>hi,λn c v hl=>?_,?_,rfl⟩
   ·show RS C G (ov bx (D4 rd)) w;rw[A2M hh]; exact hs
   ·have:=E.old i hi;show i<E.n0+0;omega
   ·obtain⟨rfl,_,h3⟩:=A4C hl;simp only[ra] at h3;refine⟨λ_=>?_,λh=>by cases h⟩;have:=hv.2 n v h3;rw[zl] at this ⊢;rw[xu (by rw[←hv.1]; exact (ze.1 h3).1)];exact this
   ·show (vs++Array.replicate (fn.ntmps - vs.size) undef).size=fn.ntmps;have:=hv.1;simp; omega
  refine wp_mono (hW c rfl G _ w hD) λe a w' hq=>?_;have fin:∀σ G',Q5 E σ G' a w'->E.Rt σ->a.defers=[]/\∃v,(results fn a.tmps).run P w' = .ok v w'/\((∃q,o = .ok q/\∃v_1 G',Ending.returned v = .returned v_1/\RS C G' (F6 bx q.2) w'/\L4 G w G' w'/\RV G' w' q.1 v_1/\∀x,G'.used x->G.used x\/(id<=x/\x<id+1024)) \/
    ∃pv,o = .error pv/\∃v_1 G',Ending.returned v = .panicked [{ v:=v_1,recovered:=false }]/\RS C G' (F6 bx (goL rd)) w'/\L4 G w G' w'/\RV G' w' pv v_1/\∀x,G'.used x->G.used x\/(id<=x/\x<id+1024)):=λσ G' hD' hR=>by
   obtain⟨q,ho,hR'⟩:=hRt _ _ _ hR;obtain⟨v,h1,G1,h2,h3,h4,h5⟩:=A6L (E:=E) hrs hh hid hD' hR';exact⟨hD'.defers,v,h1,.inl ⟨q,ho,v,G1,rfl,h2,h3,h4,h5⟩⟩
  cases e with
  | normal=>obtain⟨σ,G',h1,h2⟩:=hq; exact fin σ G' h1 h2
  | ret=>obtain⟨σ,G',h1,h2⟩:=hq; exact fin σ G' h1 h2
  | exit id=>obtain⟨σ,G',h1,h2⟩:=hq; exact h2
  | panic chain =>
   obtain⟨pv,u,σ,F,B,U,G',rfl,h1,h2,h3,h4⟩:=hq;obtain⟨ho,hp,hd⟩:=hPn _ _ _ h4;obtain⟨G1,k1,k2,k3,k4⟩:=C3i (E:=E) (id:=id) h1 h2 h3 hp hd;exact⟨h1.defers,.inr ⟨pv,ho,u,G1,rfl,k1,k2,k3,k4⟩⟩
  | _=>exact hq.elim
 cases o with
 | ok q =>
  refine⟨pl,λC G bx w vs nb hs hv hh hnb hid=>Calls.mono (main C G bx w vs nb hs hv hh hnb hid) λe w' he=>?_⟩;rcases he with⟨q',h1,h2⟩|⟨_,h1,_⟩
  ·injection h1 with h1; subst h1; exact h2
  ·cases h1
 | error pv =>
  refine⟨pl,λC G bx w vs nb hs hv hh hnb hid=>Calls.mono (main C G bx w vs nb hs hv hh hnb hid) λe w' he=>?_⟩;rcases he with⟨_,h1,_⟩|⟨q',h1,h2⟩
  ·cases h1
  ·injection h1 with h1; subst h1; exact h2
def C7p{P:Program}{f:Nat}{fn:Func}{c:Code}{crs:List t8}{args:List AV}{rd:List (Nat×Bx)}{id:Nat}{res:AV}{wr:List (Nat×Option Bx)}
  (hf : P.funcs[f]? = some fn) (hb : fn.body = some c) (hnm : (fn.name == "runtime.NumGoroutine") = false) (hrs : N9 P fn.results.toList = some crs) (hN : args.length <= fn.ntmps)
  (h:∀E:O8,E.P=P->E.N=fn.ntmps->E.Rt=A27 E.n0 id E.G0.used crs rd res wr->(∀q∈rd,q.1<E.n0/\(q.1<id\/id+1024<=q.1))->id+1024<=E.n0->Wk E [.code (C9 P fn.ntmps c)] ⟨A1g 0 args,D4 rd,0⟩):A2 P f args rd id res wr :=
 B1R (o:=.ok (res,wr)) (λn0 S=>A27 n0 id S crs rd res wr) (λ_ _ _=>False) hf hb hnm hrs hN (λ_ _ _ h=>⟨_,rfl,h⟩) (λ_ _ _ h=>h.elim) λE h1 h2 h3 _ h5 h6 _ _=>h E h1 h2 h3 h5 h6
def A1R(ps:List (Nat×Nat))(r:RR)(acc:List RR):List RR:=match ps with
 | []=>[]
 | _::_=>r::acc
def A28(F:Fr)(us:List Nat):Prop:=us.all (ceF F)=true
def C3j(acc:List RR)(j:Nat):List (Nat×Nat)->Prop
 | []=>True
 | q::l=>(q.1<j/\q.2<j)/\V7 (A1f acc (j - 1 - q.1)) (A1f acc (j - 1 - q.2))/\C3j acc j l
def C6C(acc:List RR)(j:Nat)(ps:List (Nat×Nat)):Prop:=match ps with
 | []=>True
 | q::l=>acc.length=j/\C3j acc j (q::l)
def B3M{acc:List RR}{i:Nat}(h:i<acc.length):A1f acc.reverse i=A1f acc (acc.length - 1 - i):=by
 have h1:acc.reverse[i]?=acc[acc.length - 1 - i]?:=List.getElem?_reverse h;have h2:acc[acc.length - 1 - i]?=some acc[acc.length - 1 - i]:=zc o_;rw[q9 (h1.trans h2),q9 h2]
def B6Z{acc:List RR}:∀{ps:List (Nat×Nat)},C3j acc acc.length ps->A8K acc.reverse ps
 | [],_=>trivial
 | q::l,h=>by
  obtain⟨⟨h1,h2⟩,h3,h4⟩:=h;exact⟨by rw[B3M h1,B3M h2]; exact h3,B6Z h4⟩
def C3k{acc:List RR}{j:Nat}{ps:List (Nat×Nat)}(h:C6C acc j ps):A8K acc.reverse ps:=by
 cases ps with
 | nil=>trivial
 | cons q l=>obtain⟨rfl,h⟩:=h; exact B6Z h
mutual
def go(E:O8):Nat->List Itm->St->Prop
 | 0,k,σ=>Wk E k σ
 | _+1,[],σ=>E.Rt σ
 | n+1,.blk _::k,σ=>go E n k σ
 | _+1,.post p::_,σ=>p σ
 | n+1,.code .skip::k,σ=>go E n k σ
 | n+1,.code (.seq x y)::k,σ=>go E n (.code x::.code y::k) σ
 | n+1,.code (.block id c)::k,σ=>go E n (.code c::.blk id::k) σ
 | n+1,.code (.exit id)::k,σ=>goX E n id k σ
 | _+1,.code .ret::_,σ=>E.Rt σ
 | n+1,.code (.cond o x y)::k,σ=>ceO (lk σ.fr) o=true/\goV E n (M2 (lk σ.fr) o) x y k σ
 | n+1,.code (.reg _ crs ps)::k,σ=>go E n (.ops crs 0 [] ps::k) σ
 | _+1,.code (.loop c)::k,σ=>Wk E (.code (.loop c)::k) σ
 | _+1,.code .bad::k,σ=>Wk E (.code .bad::k) σ
 | n+1,.ops [] j acc ps::k,σ=>C6C acc j ps/\go E n k (σ.bump (1024*j))
 | n+1,.ops (cr::l) j acc ps::k,σ=>A3P (lk σ.fr) cr.g/\goO E n cr.op cr l j acc ps k σ (Z1 (lk σ.fr) cr.g)
def goX(E:O8):Nat->Nat->List Itm->St->Prop
 | 0,id,k,σ=>Wx E id k σ
 | _+1,_,[],_=>False
 | n+1,id,.blk id'::k,σ=>goB E n (decide (id=id')) id k σ
 | n+1,id,.post _::k,σ=>goX E n id k σ
 | n+1,id,.code _::k,σ=>goX E n id k σ
 | n+1,id,.ops _ _ _ _::k,σ=>goX E n id k σ
def goB(E:O8):Nat->Bool->Nat->List Itm->St->Prop
 | 0,b,id,k,σ=>if b then Wk E k σ else Wx E id k σ
 | n+1,true,_,k,σ=>go E n k σ
 | n+1,false,id,k,σ=>goX E n id k σ
def goV(E:O8):Nat->AV->CC->CC->List Itm->St->Prop
 | 0,v,x,y,k,σ=>∃b,v = .bool b/\(b=true->Wk E (.code x::k) σ)/\(b=false->Wk E (.code y::k) σ)
 | n+1,.bool b,x,y,k,σ=>goC E n b x y k σ
 | _+1,_,_,_,_,_=>False
def goC(E:O8):Nat->Bool->CC->CC->List Itm->St->Prop
 | 0,b,x,y,k,σ=>(b=true->Wk E (.code x::k) σ)/\(b=false->Wk E (.code y::k) σ)
 | n+1,true,x,_,k,σ=>go E n (.code x::k) σ
 | n+1,false,_,y,k,σ=>go E n (.code y::k) σ
def goO(E:O8):Nat->COp->CR->List CR->Nat->List RR->List (Nat×Nat)->List Itm->St->Bool->Prop
 | 0,_,_,_,_,_,_,_,_,_=>False
 | n+1,.pick c a b,cr,l,j,acc,ps,k,σ,g =>
  (g=true->(ceO (lk σ.fr) c=true/\(M2 (lk σ.fr) c).isBoolB=true)/\((M2 (lk σ.fr) c).isT=true->ceO (lk σ.fr) a=true/\(M2 (lk σ.fr) a).isBoolB=true)/\((M2 (lk σ.fr) c).isT=false->ceO (lk σ.fr) b=true/\(M2 (lk σ.fr) b).isBoolB=true)) /\
  goR E n cr l j acc ps k σ g (.bool (B00 (M2 (lk σ.fr) c).isT (M2 (lk σ.fr) a).isT (M2 (lk σ.fr) b).isT)) [] []
 | _+1,.call f xs,cr,l,j,acc,ps,k,σ,_=>Wk E (.ops (⟨cr.dst,cr.g,cr.us,.call f xs⟩::l) j acc ps::k) σ
 | _+1,.callv x xs,cr,l,j,acc,ps,k,σ,_=>Wk E (.ops (⟨cr.dst,cr.g,cr.us,.callv x xs⟩::l) j acc ps::k) σ
 | _+1,.cpy x y,cr,l,j,acc,ps,k,σ,_=>Wk E (.ops (⟨cr.dst,cr.g,cr.us,.cpy x y⟩::l) j acc ps::k) σ
 | _+1,.inv m x xs,cr,l,j,acc,ps,k,σ,_=>Wk E (.ops (⟨cr.dst,cr.g,cr.us,.inv m x xs⟩::l) j acc ps::k) σ
 | n+1,op,cr,l,j,acc,ps,k,σ,g=>goS E n cr l j acc ps k σ g (sem (M2 (lk σ.fr)) (bk σ.bx) (E.n0+(σ.k+1024*j)) op)
def goS(E:O8):Nat->CR->List CR->Nat->List RR->List (Nat×Nat)->List Itm->St->Bool->Option (Prop×Rs)->Prop
 | 0,_,_,_,_,_,_,_,_,_=>False
 | _+1,_,_,_,_,_,_,_,_,none=>False
 | n+1,cr,l,j,acc,ps,k,σ,g,some (p,⟨v,rd,wr⟩)=>(g=true->A28 (lk σ.fr) cr.us/\p)/\goR E n cr l j acc ps k σ g v rd wr
def goR(E:O8):Nat->CR->List CR->Nat->List RR->List (Nat×Nat)->List Itm->St->Bool->AV->List (Nat×Bx)->List (Nat×Option Bx)->Prop
 | 0,_,_,_,_,_,_,_,_,_,_,_=>False
 | n+1,cr,l,j,acc,ps,k,σ,g,v,rd,[]=>go E n (.ops l (j+1) (A1R ps ⟨g,v,rd,[]⟩ acc) ps::k) (σ.app cr.dst ⟨g,v,rd,[]⟩)
 | n+1,cr,l,j,acc,ps,k,σ,g,v,rd,q::wr=>goG E n cr l j acc ps k σ g v rd (q::wr)
def goG(E:O8):Nat->CR->List CR->Nat->List RR->List (Nat×Nat)->List Itm->St->Bool->AV->List (Nat×Bx)->List (Nat×Option Bx)->Prop
 | 0,_,_,_,_,_,_,_,_,_,_,_=>False
 | n+1,cr,l,j,acc,ps,k,σ,true,v,rd,wr=>go E n (.ops l (j+1) (A1R ps ⟨true,v,rd,wr⟩ acc) ps::k) (σ.app cr.dst ⟨true,v,rd,wr⟩)
 | n+1,cr,l,j,acc,ps,k,σ,false,_,_,_=>go E n (.ops l (j+1) (A1R ps ⟨false,.nili,[],[]⟩ acc) ps::k) (σ.app cr.dst ⟨false,.nili,[],[]⟩)
end
section
variable {E:O8}
theorem C7q{l:List CR}{j:Nat}{acc acc':List RR}{k:List Itm}{σ:St}(h:Wk E (.ops l j acc []::k) σ):Wk E (.ops l j acc' []::k) σ:=by
 rcases h with⟨rs,h1,h2,h3⟩|⟨rs,pv,r,h1,h2,h3⟩
 ·exact .inl ⟨rs,h1,trivial,h3⟩
 ·exact .inr ⟨rs,pv,r,h1,trivial,h3⟩
theorem A0j{l:List CR}{j:Nat}{acc:List RR}{ps:List (Nat×Nat)}{r:RR}{k:List Itm}{σ:St}(h:Wk E (.ops l j (A1R ps r acc) ps::k) σ):Wk E (.ops l j (r::acc) ps::k) σ:=by
 cases ps with
 | nil=>exact C7q h
 | cons p ps=>exact h
theorem C6D:∀n:Nat,(∀k σ,go E n k σ->Wk E k σ)/\(∀id k σ,goX E n id k σ->Wx E id k σ)/\(∀b id k σ,goB E n b id k σ->if b then Wk E k σ else Wx E id k σ) /\
  (∀v x y k σ,goV E n v x y k σ->∃b,v = .bool b/\(b=true->Wk E (.code x::k) σ)/\(b=false->Wk E (.code y::k) σ)) /\
  (∀b x y k σ,goC E n b x y k σ->(b=true->Wk E (.code x::k) σ)/\(b=false->Wk E (.code y::k) σ)) /\
  (∀cr l j acc ps k σ,A3P (lk σ.fr) cr.g->goO E n cr.op cr l j acc ps k σ (Z1 (lk σ.fr) cr.g)->Wk E (.ops (cr::l) j acc ps::k) σ) /\
  (∀cr l j acc ps k σ op p v rd wr,cr.op=op->A3P (lk σ.fr) cr.g->sem (M2 (lk σ.fr)) (bk σ.bx) (E.n0+(σ.k+1024*j)) op=some (p,⟨v,rd,wr⟩)->goS E n cr l j acc ps k σ (Z1 (lk σ.fr) cr.g) (some (p,⟨v,rd,wr⟩))->Wk E (.ops (cr::l) j acc ps::k) σ) /\
  (∀cr l j acc ps k σ v rd wr,A3P (lk σ.fr) cr.g->(Z1 (lk σ.fr) cr.g=true->ExR E.P cr.us (E.n0+σ.k+1024*j) (lk σ.fr) (bk σ.bx) cr.op ⟨true,v,rd,wr⟩)->goR E n cr l j acc ps k σ (Z1 (lk σ.fr) cr.g) v rd wr->Wk E (.ops (cr::l) j acc ps::k) σ) /\
  (∀cr l j acc ps k σ v rd wr,A3P (lk σ.fr) cr.g->(Z1 (lk σ.fr) cr.g=true->ExR E.P cr.us (E.n0+σ.k+1024*j) (lk σ.fr) (bk σ.bx) cr.op ⟨true,v,rd,wr⟩)->goG E n cr l j acc ps k σ (Z1 (lk σ.fr) cr.g) v rd wr->Wk E (.ops (cr::l) j acc ps::k) σ):=by
 intro n;induction n with
 | zero =>
  refine⟨λk σ h=>by simpa only[go] using h,λid k σ h=>by simpa only[goX] using h,λb id k σ h=>by simpa only[goB] using h,λv x y k σ h=>by simpa only[goV] using h,λb x y k σ h=>by simpa only[goC] using h,
   λcr l j acc ps k σ hg h=>by simp only[goO] at h,λcr l j acc ps k σ op p v rd wr hop hg hs h=>by simp only[goS] at h,λcr l j acc ps k σ v rd wr hg hx h=>by simp only[goR] at h,λcr l j acc ps k σ v rd wr hg hx h=>by simp only[goG] at h⟩
 | succ n ih =>
  obtain⟨i1,i2,i3,i4,i5,i6,i7,i8,i9⟩:=ih;refine⟨λk σ h=>?_,λid k σ h=>?_,λb id k σ h=>?_,λv x y k σ h=>?_,λb x y k σ h=>?_,λcr l j acc ps k σ hg h=>?_,λcr l j acc ps k σ op p v rd wr hop hg hs h=>?_,λcr l j acc ps k σ v rd wr hg hx h=>?_,λcr l j acc ps k σ v rd wr hg hx h=>?_⟩
  ·cases k with
   | nil=>simp only[go] at h; exact h
   | cons x k =>
    cases x with
    | blk id=>simp only[go] at h; exact i1 k σ h
    | post p=>simp only[go] at h; exact h
    | code c =>
     cases c with
     | skip=>simp only[go] at h; exact C6A (i1 k σ h)
     | seq x y=>simp only[go] at h; exact A3D (i1 _ σ h)
     | block id c=>simp only[go] at h; exact B6Y (i1 _ σ h)
     | exit id=>simp only[go] at h; exact C6B (i2 id k σ h)
     | ret=>simp only[go] at h; exact C7l h
     | cond o x y =>
      simp only[go] at h;obtain⟨b,e,h1,h2⟩:=i4 _ x y k σ h.2;exact C0H h.1 e h1 h2
     | reg d crs ps=>simp only[go] at h; exact C7m (i1 _ σ h)
     | loop c=>simpa only[go] using h
     | bad=>simpa only[go] using h
    | ops l j acc ps =>
     cases l with
     | nil=>simp only[go] at h; exact C7n (C3k h.1) (i1 k _ h.2)
     | cons cr l=>simp only[go] at h; exact i6 cr l j acc ps k σ h.1 h.2
  ·cases k with
   | nil=>simp only[goX] at h
   | cons x k =>
    cases x with
    | blk id' =>
     simp only[goX] at h;have:=i3 _ id k σ h;show (if id=id' then Wk E k σ else Wx E id k σ);simpa only[decide_eq_true_eq] using this
    | post p=>simp only[goX] at h; exact i2 id k σ h
    | code c=>simp only[goX] at h; exact i2 id k σ h
    | ops=>simp only[goX] at h; exact i2 id k σ h
  ·cases b with
   | true=>simp only[goB] at h; simpa using i1 k σ h
   | false=>simp only[goB] at h; simpa using i2 id k σ h
  ·cases v with
   | bool b=>simp only[goV] at h; exact⟨b,rfl,i5 b x y k σ h⟩
   | _=>simp only[goV] at h
  ·cases b with
   | true=>simp only[goC] at h; exact⟨λ_=>i1 _ σ h,λh=>by cases h⟩
   | false=>simp only[goC] at h; exact⟨(λh=>by cases h),λ_=>i1 _ σ h⟩
  ·have other:∀op,cr.op=op->goS E n cr l j acc ps k σ (Z1 (lk σ.fr) cr.g) (sem (M2 (lk σ.fr)) (bk σ.bx) (E.n0+(σ.k+1024*j)) op)->Wk E (.ops (cr::l) j acc ps::k) σ:=λop hop h=>by
    cases hs:sem (M2 (lk σ.fr)) (bk σ.bx) (E.n0+(σ.k+1024*j)) op with
    | none=>rw[hs] at h; cases n<;>simp only[goS] at h
    | some q =>
     obtain⟨p,v,rd,wr⟩:=q;rw[hs] at h;exact i7 cr l j acc ps k σ op p v rd wr hop hg hs h
   obtain⟨dst,g,us,op⟩:=cr;cases op with
   | pick c a b =>
    simp only[goO] at h;refine i8 _ l j acc ps k σ _ [] [] hg (λhc=>?_) h.2;obtain⟨⟨q1,q2⟩,q3,q4⟩:=h.1 hc;exact .pick true c a b q1 q2 q3 q4
   | call f xs=>simpa only[goO] using h
   | callv x xs=>simpa only[goO] using h
   | cpy x y=>simpa only[goO] using h
   | inv m x xs=>simpa only[goO] using h
   | _=>simp only[goO] at h; exact other _ rfl h
  ·subst hop;simp only[goS] at h;refine i8 cr l j acc ps k σ v rd wr hg (λhc=>?_) h.2;obtain⟨q1,q2⟩:=h.1 hc;exact .sem true cr.op p v rd wr q1 (by rw[yv]; exact hs) q2
  ·have ex:∀b,Z1 (lk σ.fr) cr.g=b->(b=true->ExR E.P cr.us (E.n0+σ.k+1024*j) (lk σ.fr) (bk σ.bx) cr.op ⟨b,v,rd,wr⟩):=λb hb hb'=>by subst hb'; exact hx hb
   cases wr with
   | nil =>
    simp only[goR] at h;exact A7U (r:=⟨Z1 (lk σ.fr) cr.g,v,rd,[]⟩) ⟨hg,rfl,λhc=>ex _ rfl hc,λ_=>rfl⟩ (A0j (i1 _ _ h))
   | cons q wr=>simp only[goR] at h; exact i9 cr l j acc ps k σ v rd (q::wr) hg hx h
  ·cases hc:Z1 (lk σ.fr) cr.g with
   | true =>
    rw[hc] at h;simp only[goG] at h;exact A7U (r:=⟨true,v,rd,wr⟩) ⟨hg,hc.symm,λ_=>hx hc,λh=>by cases h⟩ (A0j (i1 _ _ h))
   | false =>
    rw[hc] at h;simp only[goG] at h;exact A7U (r:=⟨false,.nili,[],[]⟩) ⟨hg,hc.symm,(λh=>by cases h),λ_=>rfl⟩ (A0j (i1 _ _ h))
theorem A3(n:Nat){k:List Itm}{σ:St}(h:go E n k σ):Wk E k σ:=(C6D n).1 k σ h
end
def A04(B:Nat->Option Bx):List (Nat×Bx)->Prop
 | []=>True
 | (i,b)::l=>B i=some b/\A04 B l
def A04.has{B:Nat->Option Bx}:∀{l:List (Nat×Bx)},A04 B l->K8 B l
 | [],_=>K8.nil
 | (i,b)::l,h=>λq hq=>by
  rcases zi.1 hq with rfl|hq
  ·exact h.1
  ·exact h.2.has q hq
section
variable {E:O8} {σ:St} {k:List Itm} {P:Program}
theorem E5(hP:E.P=P){dst:Option Nat}{us:List Nat}{f:Nat}{xs:List L5}{l:List CR}{j:Nat}{acc:List RR}{ps:List (Nat×Nat)}{args:List AV}{rd:List (Nat×Bx)}{v:AV}{wr:List (Nat×Option Bx)}
  (ha:xs.map (M2 (lk σ.fr))=args) (hc:A2 P f args rd (E.n0+(σ.k+1024*j)) v wr) (hu:A28 (lk σ.fr) us) (hh:A04 (bk σ.bx) rd) (h:Wk E (.ops l (j+1) (A1R ps ⟨true,v,rd,wr⟩ acc) ps::k) (σ.app dst ⟨true,v,rd,wr⟩)) :
  Wk E (.ops (⟨dst,none,us,.call f xs⟩::l) j acc ps::k) σ:=by
 subst hP ha;refine A7U (r:=⟨true,v,rd,wr⟩) ⟨trivial,rfl,λ_=>.call f xs _ hu (.inl ⟨?_,hh.has⟩),λh=>by cases h⟩ (A0j h);rw[yv]; exact hc
theorem C3l(hP:E.P=P){dst:Option Nat}{us:List Nat}{f:Nat}{xs:List L5}{l:List CR}{j:Nat}{acc:List RR}{ps:List (Nat×Nat)}{args args':List AV}{p:Prop}{fz rd:List (Nat×Bx)}{v:AV}{wr:List (Nat×Option Bx)}
  (ha:xs.map (M2 (lk σ.fr))=args) (hr:N0 (bk σ.bx) args=(p,args',fz)) (hp:p) (hc:A2 P f args' rd (E.n0+(σ.k+1024*j)) v wr) (hu:A28 (lk σ.fr) us) (hh:A04 (bk σ.bx) rd) (hd:p6 (U7 rd) (U7 fz))
  (h:Wk E (.ops l (j+1) (A1R ps ⟨true,v,fz++rd,wrF fz++wr⟩ acc) ps::k) (σ.app dst ⟨true,v,fz++rd,wrF fz++wr⟩)) :
  Wk E (.ops (⟨dst,none,us,.call f xs⟩::l) j acc ps::k) σ:=by
 subst hP ha;refine A7U (r:=⟨true,v,fz++rd,wrF fz++wr⟩) ⟨trivial,rfl,λ_=>.call f xs _ hu (.inr ⟨rd,wr,?_⟩),λh=>by cases h⟩ (A0j h);rw[hr,yv];exact⟨hp,hc,hh.has,λq hq q1 hq1 e=>U2.1 hd q.1 (zw.2 ⟨q,hq,rfl⟩) (zw.2 ⟨q1,hq1,e.symm⟩),rfl,rfl⟩
theorem H5(hP:E.P=P){dst:Option Nat}{g:Option (Nat×Bool)}{us:List Nat}{f:Nat}{xs:List L5}{l:List CR}{j:Nat}{acc:List RR}{ps:List (Nat×Nat)}{args:List AV}{rd:List (Nat×Bx)}{v:AV}
  (hg:A3P (lk σ.fr) g) (ha:xs.map (M2 (lk σ.fr))=args) (hc:Z1 (lk σ.fr) g=true->A2 P f args rd (E.n0+(σ.k+1024*j)) v []/\A28 (lk σ.fr) us/\A04 (bk σ.bx) rd)
  (h:Wk E (.ops l (j+1) (A1R ps ⟨Z1 (lk σ.fr) g,v,rd,[]⟩ acc) ps::k) (σ.app dst ⟨Z1 (lk σ.fr) g,v,rd,[]⟩)) :
  Wk E (.ops (⟨dst,g,us,.call f xs⟩::l) j acc ps::k) σ:=by
 subst hP ha;refine A7U (r:=⟨Z1 (lk σ.fr) g,v,rd,[]⟩) ⟨hg,rfl,λhcc=>?_,λ_=>rfl⟩ (A0j h);obtain⟨h1,h2,h3⟩:=hc hcc;refine .call f xs _ h2 (.inl ⟨?_,h3.has⟩);rw[yv]; exact h1
theorem E8(hP:E.P=P){dst:Option Nat}{us:List Nat}{f:Nat}{caps:List AV}{x:L5}{xs:List L5}{l:List CR}{j:Nat}{acc:List RR}{ps:List (Nat×Nat)}{args:List AV}{rd:List (Nat×Bx)}{v:AV}{wr:List (Nat×Option Bx)}
  (hx:M2 (lk σ.fr) x = .fn f caps) (ha:xs.map (M2 (lk σ.fr))=args) (hc:A2 P f (args++caps) rd (E.n0+(σ.k+1024*j)) v wr) (hu:A28 (lk σ.fr) us) (hh:A04 (bk σ.bx) rd) (h:Wk E (.ops l (j+1) (A1R ps ⟨true,v,rd,wr⟩ acc) ps::k) (σ.app dst ⟨true,v,rd,wr⟩)) :
  Wk E (.ops (⟨dst,none,us,.callv x xs⟩::l) j acc ps::k) σ:=by
 subst hP ha;refine A7U (r:=⟨true,v,rd,wr⟩) ⟨trivial,rfl,λ_=>.callv x xs f caps _ hu hx (.inl ⟨?_,hh.has⟩),λh=>by cases h⟩ (A0j h);rw[yv]; exact hc
theorem B6a(hP:E.P=P){dst:Option Nat}{us:List Nat}{f:Nat}{caps:List AV}{x:L5}{xs:List L5}{l:List CR}{j:Nat}{acc:List RR}{ps:List (Nat×Nat)}{args:List AV}{rd:List (Nat×Bx)}{v:AV}{wr:List (Nat×Option Bx)}
  (hx:M2 (lk σ.fr) x = .fnb f caps) (ha:xs.map (M2 (lk σ.fr))=args) (hc:A2 P f (caps++args) rd (E.n0+(σ.k+1024*j)) v wr) (hu:A28 (lk σ.fr) us) (hh:A04 (bk σ.bx) rd) (h:Wk E (.ops l (j+1) (A1R ps ⟨true,v,rd,wr⟩ acc) ps::k) (σ.app dst ⟨true,v,rd,wr⟩)) :
  Wk E (.ops (⟨dst,none,us,.callv x xs⟩::l) j acc ps::k) σ:=by
 subst hP ha;refine A7U (r:=⟨true,v,rd,wr⟩) ⟨trivial,rfl,λ_=>.callb x xs f caps _ hu hx (.inl ⟨?_,hh.has⟩),λh=>by cases h⟩ (A0j h);rw[yv]; exact hc
theorem D0{b:Bool}{n:Nat}{x y:CC}(h1:b=true->go E n (.code x::k) σ)(h2:b=false->go E n (.code y::k) σ):goC E (n+1) b x y k σ:=by
 cases b with
 | true=>simpa only[goC] using h1 rfl
 | false=>simpa only[goC] using h2 rfl
theorem A7{b:Bool}{n:Nat}{x y:CC}(hb:b=true)(h1:go E n (.code x::k) σ):goC E (n+1) b x y k σ:=by subst hb; simpa only[goC] using h1
theorem A0{b:Bool}{n:Nat}{x y:CC}(hb:b=false)(h1:go E n (.code y::k) σ):goC E (n+1) b x y k σ:=by subst hb; simpa only[goC] using h1
theorem S9{n0 id:Nat}{S:Nat->Prop}{res:AV}{vs:List AV}{bx':List (Nat×Option Bx)}(h:tupOf vs=res)(hp:res.pureB=true)(hd:I8 n0 [] bx'):B1Q n0 id S [] res [] vs bx' [] trivial :=
 ⟨by rw[h]; exact .same _ (H7 _ hp),trivial,hd,trivial,trivial,trivial⟩
end
section
variable {R:Rn} {S:Nat->Prop}
theorem C0J{k k':IntKind}{a b:Int}:O3 R S (.int k a) (.int k' b)↔k=k'/\a=b :=
 ⟨λh=>by cases h; exact⟨rfl,rfl⟩,λ⟨h1,h2⟩=>by subst h1 h2; exact .same _ trivial⟩
theorem B8D{a b:Bool}:O3 R S (.bool a) (.bool b)↔a=b :=
 ⟨λh=>by cases h; rfl,λh=>by subst h; exact .same _ trivial⟩
theorem C0K{a b:List UInt8}:O3 R S (.str a) (.str b)↔a=b :=
 ⟨λh=>by cases h; rfl,λh=>by subst h; exact .same _ trivial⟩
theorem B8E:O3 R S .nilp .nilp↔True:=⟨λ_=>trivial,λ_=>.same _ trivial⟩
theorem B8F:O3 R S .nilf .nilf↔True:=⟨λ_=>trivial,λ_=>.same _ trivial⟩
theorem B8G:O3 R S .nili .nili↔True:=⟨λ_=>trivial,λ_=>.same _ trivial⟩
theorem B8H:O3 R S .nils .nils↔True:=⟨λ_=>trivial,λ_=>.same _ trivial⟩
theorem B5C{ys:List AV}:O3 R S .nils (.sl ys)↔ys=[] :=
 ⟨λh=>by cases h; rfl,λh=>by subst h; exact .nils⟩
theorem C3m{xs ys:List AV}:O3 R S (.sl xs) (.sl ys)↔xs=ys/\F4 (R.fix S) xs :=
 ⟨λh=>by cases h with|same _ h=>exact⟨rfl,h⟩,λ⟨h1,h2⟩=>by subst h1; exact .same _ h2⟩
theorem B8I{xs ys:List AV}:O3 R S (.cptr xs) (.cptr ys)↔xs=ys/\F4 (R.fix S) xs :=
 ⟨λh=>by cases h with|same _ h=>exact⟨rfl,h⟩,λ⟨h1,h2⟩=>by subst h1; exact .same _ h2⟩
theorem C0L{a b i i' o o':Nat}:O3 R S (.ptr a i o) (.ptr b i' o')↔i=i'/\o=o'/\(R.ρ b=some a\/(a=b/\R.ρ a=none/\S a)):=by
 constructor
 ·intro h;cases h with
  | same _ h=>exact⟨rfl,rfl,h.imp _root_.id λh=>⟨rfl,h⟩⟩
  | ptr _ _ _ _ h=>exact⟨rfl,rfl,.inl h⟩
 ·rintro⟨rfl,rfl,h|⟨rfl,h⟩⟩
  ·exact .ptr _ _ _ _ h
  ·exact .same _ (.inr h)
theorem C0M{a b i i' o o':Nat}:O3 R S (.bsl a i o) (.bsl b i' o')↔i=i'/\o=o'/\(R.ρ b=some a\/(a=b/\R.ρ a=none/\S a)):=by
 constructor
 ·intro h;cases h with
  | same _ h=>exact⟨rfl,rfl,h.imp _root_.id λh=>⟨rfl,h⟩⟩
  | bsl _ _ _ _ h=>exact⟨rfl,rfl,.inl h⟩
 ·rintro⟨rfl,rfl,h|⟨rfl,h⟩⟩
  ·exact .bsl _ _ _ _ h
  ·exact .same _ (.inr h)
theorem C0N{cs ds:List AV}:O3 R S (.agg cs) (.agg ds)↔N8 R S cs ds :=
 ⟨λh=>by
  cases h with
  | same _ h=>exact N8.same h
  | agg _ _ h=>exact h,.agg _ _⟩
theorem C0O{cs ds:List AV}:O3 R S (.tup cs) (.tup ds)↔N8 R S cs ds :=
 ⟨λh=>by
  cases h with
  | same _ h=>exact N8.same h
  | tup _ _ h=>exact h,.tup _ _⟩
theorem C3n{f g:Nat}{cs ds:List AV}:O3 R S (.fn f cs) (.fn g ds)↔f=g/\N8 R S cs ds :=
 ⟨λh=>by
  cases h with
  | same _ h=>exact⟨rfl,N8.same h⟩
  | fn _ _ _ h=>exact⟨rfl,h⟩,λ⟨h1,h2⟩=>by subst h1; exact .fn _ _ _ h2⟩
theorem C0P{f g:Nat}{cs ds:List AV}:O3 R S (.fnb f cs) (.fnb g ds)↔f=g/\N8 R S cs ds :=
 ⟨λh=>by
  cases h with
  | same _ h=>exact⟨rfl,N8.same h⟩
  | fnb _ _ _ h=>exact⟨rfl,h⟩,λ⟨h1,h2⟩=>by subst h1; exact .fnb _ _ _ h2⟩
theorem B5D{t u:Nat}{x y:AV}:O3 R S (.iface t x) (.iface u y)↔t=u/\O3 R S x y :=
 ⟨λh=>by
  cases h with
  | same _ h=>exact⟨rfl,.same _ h⟩
  | iface _ _ _ h=>exact⟨rfl,h⟩,λ⟨h1,h2⟩=>by subst h1; exact .iface _ _ _ h2⟩
theorem C0Q:N8 R S [] []↔True:=⟨λ_=>trivial,λ_=>.nil⟩
theorem B8J{x y:AV}{l r:List AV}:N8 R S (x::l) (y::r)↔O3 R S x y/\N8 R S l r :=
 ⟨λh=>by cases h with|cons _ _ _ _ h hl=>exact⟨h,hl⟩,λ⟨h,hl⟩=>.cons _ _ _ _ h hl⟩
theorem B4{xs ys:List AV}(h:xs=ys)(hp:F8 xs=true):N8 R S xs ys:=by subst h; exact N8.same (A4 _ hp)
theorem K0{x y:AV}(h:x=y)(hp:x.pureB=true):O3 R S x y:=by subst h; exact .same _ (H7 _ hp)
theorem C3o{xs xs':List AV}{d d':AV}{ro ro' frz frz':Bool}:BxR R S ⟨xs,d,ro,frz⟩ ⟨xs',d',ro',frz'⟩↔N8 R S xs xs'/\d.cells.length=d'.cells.length/\ro=ro'/\frz=frz' :=
 ⟨λ⟨h1,h2,h3,h4⟩=>⟨h1,h2,h3,h4⟩,λ⟨h1,h2,h3,h4⟩=>⟨h1,h2,h3,h4⟩⟩
theorem C6E(n0:Nat)(l:List (Nat×Nat))(h:F7 l)(y:Nat):(P2 n0 l h).ρ y=rnF n0 l y:=rfl
theorem E9{α:Type}{f:α->AV}(h:∀x,(f x).pureB=true):∀l:List α,F8 (l.map f)=true
 | []=>rfl
 | x::l=>by simp only[yg,F8,h x,E9 h l,Bool.and_self]
theorem B3{a b:List AV}(h1:F8 a=true)(h2:F8 b=true):F8 (a++b)=true:=by
 induction a with
 | nil=>exact h2
 | cons x l ih =>
  simp only[F8,yk,yw] at h1 ⊢;exact⟨h1.1,ih h1.2⟩
end
def wrap64{x:Int}(h : -9223372036854775808<=x/\x<=9223372036854775807):IntKind.i64.wrap x=x:=IntWalk.i64_in _ h
def T2{i n0:Nat}(h:i<n0)(t:Nat):(i=n0+t)=False:=by simp; omega
def O0{i n0:Nat}(h:i<n0)(t:Nat):(n0+t=i)=False:=by simp; omega
def O1{i n0:Nat}(h:i<n0):(i=n0)=False:=by simp; omega
def L8{i n0:Nat}(h:i<n0):(n0=i)=False:=by simp; omega
def A76{i id:Nat}(h:i<id\/id+1024<=i):(i=id)=False:=by simp; omega
def A3U{i id:Nat}(h:i<id\/id+1024<=i):(id=i)=False:=by simp; omega
def C7r{id n0:Nat}(h:id+1024<=n0):(id<n0)=True:=by simp; omega
def C6F{id n0:Nat}(h:id+1024<=n0)(t:Nat):(id=n0+t)=False:=by simp; omega
def C3p{id n0:Nat}(h:id+1024<=n0)(t:Nat):(n0+t=id)=False:=by simp; omega
def C3q{id n0:Nat}(h:id+1024<=n0):(id=n0)=False:=by simp; omega
def C0R{id n0:Nat}(h:id+1024<=n0):(n0=id)=False:=by simp; omega
def lf{i n0 id:Nat}(h:i<n0/\(i<id\/id+1024<=i)):(∀t,(i=n0+t)=False)/\(∀t,(n0+t=i)=False)/\(i=n0)=False/\(n0=i)=False/\i<n0/\(i=id)=False/\(id=i)=False :=
 ⟨T2 h.1,O0 h.1,O1 h.1,L8 h.1,h.1,A76 h.2,A3U h.2⟩
def I5{id n0:Nat}(h:id+1024<=n0):(id<n0)=True/\(∀t,(id=n0+t)=False)/\(∀t,(n0+t=id)=False)/\(id=n0)=False/\(n0=id)=False:=⟨C7r h,C6F h,C3p h,C3q h,C0R h⟩
def B3N(c a:Bool):B00 c a false=(c&&a):=by cases c<;>cases a<;>rfl
def B5E(c b:Bool):B00 c true b=(c||b):=by cases c<;>cases b<;>rfl
attribute [simp] B1B go goX goB goV goC goO goS goR goG mmT mmI St.app St.bump B1N t7 lk bk M2 ceF ceO Z1 A3P A1R A28 sem A1g D4 A1O A21 A2k B1C hiT loT A0i C64 U5 C65 rsv u7 A0R A22 N0 wrF B2s Bx.el Bx.sz ldT stT unT X4 B2v C3a AV.isAgg AV.isStr AV.isBoolB AV.isT AV.cells AV.one B3N B5E B9v U7 O7 C6C C3j V7 p6 B05 A1f A04 A0h A3M p5 A4Y
attribute [simp] B1O A6K I8 A25 A4a F7 T7 K6 lkN rnF C6E C0J B8D C0K B8E B8F B8G B8H B5C C3m B8I C0L C0M C0N C0O C3n C0P B5D C0Q B8J C3o tupOf A2L A4o F6 T6 AV.pureB F8
def A4p{P:Program}{f:Nat}{fn:Func}{cc:CC}{crs:List t8}{args:List AV}{rd:List (Nat×Bx)}{id:Nat}{res:AV}{wr:List (Nat×Option Bx)}
  (hf : P.funcs[f]? = some fn) (hcc : fn.body.map (C9 P fn.ntmps) = some cc) (hnm : (fn.name == "runtime.NumGoroutine") = false) (hrs : N9 P fn.results.toList = some crs) (hN : args.length <= fn.ntmps)
  (h:∀E:O8,E.P=P->E.Rt=A27 E.n0 id E.G0.used crs rd res wr->(∀q∈rd,q.1<E.n0/\(q.1<id\/id+1024<=q.1))->id+1024<=E.n0->Wk E [.code cc] ⟨A1g 0 args,D4 rd,0⟩):A2 P f args rd id res wr:=by
 obtain⟨c,hb,rfl⟩:=zn.1 hcc;exact C7p hf hb hnm hrs hN λE h1 _ h3 h4 h5=>h E h1 h3 h4 h5
def A5O(F:Fr)(B:Nat->Option Bx)(crs:List t8)(vs:List AV):Prop:=match A26 F B crs with
 | some (p,us)=>p/\us=vs
 | none=>False
def F5{n0 id:Nat}{S:Nat->Prop}{crs:List t8}{rd:List (Nat×Bx)}{res:AV}{wr:List (Nat×Option Bx)}{σ:St}{vs:List AV}(h:A5O (lk σ.fr) (bk σ.bx) crs vs)(rn:List (Nat×Nat))(hrn:F7 rn)(he:B1Q n0 id S rd res wr vs σ.bx rn hrn):A27 n0 id S crs rd res wr σ:=by
 unfold A5O at h;unfold A27;cases hr:A26 (lk σ.fr) (bk σ.bx) crs with
 | none=>rw[hr] at h; exact h.elim
 | some q =>
  obtain⟨p,us⟩:=q;rw[hr] at h;obtain⟨hp,rfl⟩:=h;exact⟨hp,false,rn,hrn,he⟩
def C3r{n0 id:Nat}{S:Nat->Prop}{crs:List t8}{rd:List (Nat×Bx)}{res:AV}{wr:List (Nat×Option Bx)}{σ:St}{vs vs':List AV}{q:Prop}{fz:List (Nat×Bx)}(h:A5O (lk σ.fr) (bk σ.bx) crs vs)(hr:N0 (bk σ.bx) vs=(q,vs',fz))(hq:q)
  (rn:List (Nat×Nat)) (hrn:F7 rn) (he:B1Q n0 id S rd res wr vs' (t7 σ.bx (wrF fz)) rn hrn):A27 n0 id S crs rd res wr σ:=by
 unfold A5O at h;unfold A27;cases hv:A26 (lk σ.fr) (bk σ.bx) crs with
 | none=>rw[hv] at h; exact h.elim
 | some z =>
  obtain⟨p,us⟩:=z;rw[hv] at h;obtain⟨hp,rfl⟩:=h;refine⟨hp,true,rn,hrn,?_⟩;show (N0 (bk σ.bx) us).1/\_;rw[hr];exact⟨hq,he⟩
def A8N(B:Nat->Option Bx)(vs vs':List AV)(fz:List (Nat×Bx)):Prop:=(N0 B vs).1/\(N0 B vs).2.1=vs'/\(N0 B vs).2.2=fz
def A8N.eq{B:Nat->Option Bx}{vs vs':List AV}{fz:List (Nat×Bx)}(h:A8N B vs vs' fz):N0 B vs=((N0 B vs).1,vs',fz):=by
 obtain⟨_,h2,h3⟩:=h;rw[←h2,←h3]
def A0z{E:O8}{σ:St}{k:List Itm}{P:Program}(hP:E.P=P){dst:Option Nat}{us:List Nat}{f:Nat}{xs:List L5}{l:List CR}{j:Nat}{acc:List RR}{ps:List (Nat×Nat)}{args args':List AV}{fz rd:List (Nat×Bx)}{v:AV}{wr:List (Nat×Option Bx)}
  (ha:xs.map (M2 (lk σ.fr))=args) (hc:A2 P f args' rd (E.n0+(σ.k+1024*j)) v wr) (hr:A8N (bk σ.bx) args args' fz) (hu:A28 (lk σ.fr) us) (hh:A04 (bk σ.bx) rd) (hd:p6 (U7 rd) (U7 fz))
  (h:Wk E (.ops l (j+1) (A1R ps ⟨true,v,fz++rd,wrF fz++wr⟩ acc) ps::k) (σ.app dst ⟨true,v,fz++rd,wrF fz++wr⟩)) :
  Wk E (.ops (⟨dst,none,us,.call f xs⟩::l) j acc ps::k) σ:=C3l hP ha hr.eq hr.1 hc hu hh hd h
def J0{n0 id:Nat}{S:Nat->Prop}{crs:List t8}{rd:List (Nat×Bx)}{res:AV}{wr:List (Nat×Option Bx)}{σ:St}{vs vs':List AV}{fz:List (Nat×Bx)}(h:A5O (lk σ.fr) (bk σ.bx) crs vs)(hr:A8N (bk σ.bx) vs vs' fz)
  (rn:List (Nat×Nat)) (hrn:F7 rn) (he:B1Q n0 id S rd res wr vs' (t7 σ.bx (wrF fz)) rn hrn):A27 n0 id S crs rd res wr σ:=C3r h hr.eq hr.1 rn hrn he
@[simp] theorem C3s {α:Type} (f:α->AV) (l:List α):List.take l.length (l.map f)=l.map f:=zm s_
attribute [simp] A26 A5O A8N
def G0(W:World):Gh:={ fz:=λb o=>∃u,W.cell? ⟨b,o,none⟩=some u,used:=λ_=>False,bm:=λ_=>none,nl:=λ_=>False }
def C0{P:Program}(W:World)(ht:A3L P W):Cx P:=⟨W.heap.size,W,(G0 W).fz,λ_ hb=>ht.below hb⟩
def RS.start{P:Program}(W:World)(ht:A3L P W):RS (C0 W ht) (G0 W) (λ_=>none) W :=
 ⟨Below.refl _ _,zx _,λ_ _ h=>h,λ_ _ h _=>h,λ_ _ h=>by (cases h),λ_ _ h=>by (cases h),λ_ h=>h.elim,λ_ _ _ h=>by (cases h),λ_ _ _ _ _ h=>by (cases h),λ_ _ _ h=>by (cases h)⟩
def A5P(p:TypeId->AV->Prop):List TypeId->List AV->Prop
 | [],[]=>True
 | t::ts,y::ys=>p t y/\A5P p ts ys
 | _,_=>False
def A10(P:Program):Nat->TypeId->AV->Prop
 | 0,_,_=>False
 | n+1,t,x=>match P.underlying t with
  | some .bool=>∃b,x = .bool b
  | some (.int k)=>∃m,x = .int k m/\(Lit.int k m).wf=true
  | some .string=>∃s:List UInt8,x = .str s/\s.length<=reachBytes
  | some (.slice e)=>∃xs:List AV,x = .sl xs/\xs.length<=reachBytes/\∀y∈xs,A10 P n e y
  | some (.struct fs)=>∃ys:List AV,x = .agg (ys.flatMap AV.cells)/\A5P (A10 P n) (fs.toList.map (·.type)) ys
  | _=>False
mutual
def c7{H:Type}:DataW H->AV
 | .lit (.int k n)=>.int k n
 | .lit (.bool b)=>.bool b
 | .lit (.string s)=>.str s
 | .nil=>.sl []
 | .slice elems _=>.sl (B6b elems)
 | .agg parts=>.agg (A7k parts)
 | _=>.nili
def B6b{H:Type}:List (DataW H)->List AV
 | []=>[]
 | d::r=>c7 d::B6b r
def A7k{H:Type}:List (DataW H)->List AV
 | []=>[]
 | d::r=>(c7 d).cells++A7k r
end
def B09{H:Type}:∀l:List (DataW H),B6b l=l.map c7
 | []=>rfl
 | d::r=>by simp only[B6b,yg,B09 r]
def A77{H:Type}:∀l:List (DataW H),A7k l=(l.map c7).flatMap AV.cells
 | []=>rfl
 | d::r=>by simp only[A7k,yg,xo,A77 r]
def A78(P:Program):List Field->Nat->Nat->Bool
 | [],k,n=>k==n
 | f::r,k,n=>f.offset==k&&A78 P r (k+P.cellsOf f.type) n
def B0A(P:Program)(l:List TypeId)(t:TypeId):Bool:=match P.underlying t with
 | some .bool=>true
 | some (.int _)=>true
 | some .string=>true
 | some (.slice e)=>l.contains e&&decide (0<P.bytesOf e)
 | some (.struct fs)=>fs.toList.all (λf=>l.contains f.type)&&A78 P fs.toList 0 (P.cellsOf t)
 | _=>false
def B3O{P:Program}:∀{l:List Field} {k n:Nat},A78 P l k n=true->k<=n
 | [],k,n,h=>by simp[A78] at h; omega
 | f::r,k,n,h=>by
  simp only[A78,yk] at h;have:=B3O h.2;omega
def A7l(W:World)(a:AV)(cs:List Value):Prop:=a.cells.length=cs.length/\∀(j:Nat) y,a.cells[j]?=some y->RV (G0 W) W y (cs.getD j undef)
def A3V(l:List Nat):Prop:=∀n∈l,n<=reachBytes
def A3V.of{l:List Nat}(h:l.all (·<=reachBytes)=true):A3V l:=λn hn=>by simpa using xe.1 h n hn
def B0B{H:Type}{P:Program}{e:TypeId}:∀{l:List (DataW H)},A3V (DataW.weightsAll P e l)->∀d∈l,A3V (d.weights P e)
 | [],_,d,hd=>by cases hd
 | x::l,h,d,hd=>by
  simp only[DataW.weightsAll] at h;rcases zi.1 hd with rfl|hd
  ·exactλn hn=>h n (t_ hn)
  ·exact B0B (l:=l) (λn hn=>h n (t_ hn)) d hd
section
variable {H:Type} {enc:TypeId×Value->H} {P:Program} {W:World} {sp:Nat->Bool} {l:List TypeId}
theorem B0C{n:Nat}(ih:∀t cs (x:DataW H×List MemPlace),t∈l->DataW.trod enc P W 0 sp true n t cs=some x->A3V (x.1.weights P t)->A10 P n t (c7 x.1)/\A7l W (c7 x.1) cs){cs:List Value}:
  ∀(fl:List Field) (xs:List (DataW H×List MemPlace)) (k:Nat),xs.length=fl.length->(∀f∈fl,f.type∈l)->A78 P fl k cs.length=true->(∀(i:Nat) f,fl[i]?=some f->DataW.trod enc P W 0 sp true n f.type ((cs.drop f.offset).take (P.cellsOf f.type))=xs[i]?) ->
  A3V (DataW.weightsEach P (fl.map (·.type)) (xs.map (·.1))) ->
  A5P (A10 P n) (fl.map (·.type)) (xs.map λx=>c7 x.1)/\k+((xs.map λx=>c7 x.1).flatMap AV.cells).length=cs.length/\∀(j:Nat) y,((xs.map λx=>c7 x.1).flatMap AV.cells)[j]?=some y->RV (G0 W) W y (cs.getD (k+j) undef)
 | [],[],k,_,_,hl,_,_=>by
  simp[A78] at hl;exact⟨trivial,v_ hl,λj y hy=>by simp at hy⟩
 | [],_::_,_,hx,_,_,_,_=>by simp at hx
 | _::_,[],_,hx,_,_,_,_=>by simp at hx
 | f::r,x::xs,k,hlen,hm,hl,ht,hw=>by
  simp only[A78,yk,beq_iff_eq] at hl;obtain⟨h1,h2⟩:=hl;have hx:=ht 0 f rfl;simp only[yg,DataW.weightsEach] at hw;obtain⟨f1,f2,f3⟩:=ih _ _ _ (hm f s_) hx λn hn=>hw n (t_ hn);obtain⟨g1,g2,g3⟩:=B0C ih r xs (k+P.cellsOf f.type) (v_ hlen) (λf' hf'=>hm f' (t_ hf')) h2 (λi f' hf'=>by simpa using ht (i+1) f' (v_ hf')) λn hn=>hw n (t_ hn);have hle:=B3O h2;have hal:(c7 x.1).cells.length=P.cellsOf f.type:=by rw[f2,zy,ya,h1]; omega
  refine⟨⟨f1,g1⟩,by simp only[yg,xo,zu]; omega,λj y hy=>?_⟩;simp only[yg,xo] at hy;by_cases hj:j<(c7 x.1).cells.length
  ·rw[yh hj] at hy;have:=f3 j y hy;have e:((cs.drop f.offset).take (P.cellsOf f.type)).getD j undef=cs.getD (k+j) undef:=by
    simp only[xv];rw[vg o_,yf,h1]
   rw[e] at this;exact this
  ·rw[yl o_] at hy;have:=g3 _ y hy;rw[show k+P.cellsOf f.type+(j - (c7 x.1).cells.length)=k+j by omega] at this;exact this
theorem B6c(hl:l.all (B0A P l)=true):∀(n:Nat) (t:TypeId) (cs:List Value) (x:DataW H×List MemPlace),t∈l->DataW.trod enc P W 0 sp true n t cs=some x->A3V (x.1.weights P t)->A10 P n t (c7 x.1)/\A7l W (c7 x.1) cs
 | 0,t,cs,x,_,h,_=>by simp[DataW.trod] at h
 | n+1,t,cs,x,ht,h,hw=>by
  have hk:=xe.1 hl t ht;have ih:=B6c hl n;have one:∀(a:AV) (v:Value),a.cells=[a]->RV (G0 W) W a v->A7l W a [v]:=λa v ha hr=>by
   refine⟨by rw[ha]; rfl,λj y hy=>?_⟩;rw[ha] at hy;cases j with
   | zero=>simp at hy; subst hy; exact hr
   | succ j=>simp at hy
  unfold B0A at hk;unfold A10;cases hu:P.underlying t with
  | none=>rw[hu] at hk; cases hk
  | some d =>
   rw[hu] at hk;cases d with
   | bool =>
    obtain⟨b,rfl,rfl⟩:=DataW.trod_bool hu h;exact⟨⟨b,rfl⟩,one _ _ rfl (.bool b)⟩
   | int k =>
    obtain⟨m,rfl,rfl,hwf⟩:=DataW.trod_int hu h;exact⟨⟨m,rfl,hwf⟩,one _ _ rfl (.int k m)⟩
   | string =>
    obtain⟨s,rfl,rfl,hs⟩:=DataW.trod_string hu h;obtain⟨⟨d⟩⟩:=s;exact⟨⟨d,rfl,hw _ (by simp[DataW.weights])⟩,one _ _ rfl (.str d)⟩
   | struct fs =>
    simp only[yk] at hk;obtain⟨xs,m,hm,rfl,hcl,hxl,hf⟩:=DataW.trod_struct hu h;obtain rfl:m=n:=by omega
    simp only[DataW.weights,hu] at hw;obtain⟨g1,g2,g3⟩:=B0C (cs:=cs) ih fs.toList xs 0 (v_ hxl) (λf hf=>by simpa using xe.1 hk.1 f hf) (by rw[hcl]; exact hk.2) (λi f hf'=>hf i f (v_ hf')) hw;have e:c7 (DataW.agg (xs.map (·.1))) = .agg ((xs.map λx=>c7 x.1).flatMap AV.cells):=(by simp only[c7,A77,vm]; rfl);simp only[e];refine⟨⟨_,rfl,g1⟩,?_,λj y hy=>?_⟩
    ·simp only[AV.cells]; omega
    ·have:=g3 j y hy;rw[yy] at this;exact this
   | slice e =>
    simp only[yk,decide_eq_true_eq] at hk;have he:e∈l:=(v_ hk.1);rcases DataW.trod_slice hu h with⟨rfl,rfl⟩|⟨a,len,cap,elems,rest,m,hm,rfl,rfl,hb,hlc,hcm,hel,hE,-,-⟩
    ·refine⟨⟨[],rfl,s_,λy hy=>by cases hy⟩,one _ _ rfl ?_⟩;exact .sl [] none 0 0 (λ_ _=>undef) (zx _) (by simp[maxLen]) (λ_=>⟨rfl,rfl⟩) (λi x hi=>by simp at hi) (λa i x j y _ hi=>by simp at hi) (λa i x j y _ hi=>by simp at hi) (λi x j y hi=>by simp at hi)
    ·obtain rfl:m=n:=by omega
     simp only[DataW.weights,hu] at hw;have hlen0:(elems.length+rest.length)*P.bytesOf e<=reachBytes:=(by simpa using hw _ (za ..));have hlen1:elems.length<=reachBytes:=by
      have:elems.length*1<=(elems.length+rest.length)*P.bytesOf e:=Nat.mul_le_mul o_ hk.2;omega
     have hwe:A3V (DataW.weightsAll P e (elems.map (·.1))):=λn hn=>hw n (t_ hn);have HH:∀i x,elems[i]?=some x->∃cs,(A10 P m e (c7 x.1)/\A7l W (c7 x.1) cs)/\cs.length=P.cellsOf e/\∀j,j<P.cellsOf e->W.cell? ((a.add (i*P.cellsOf e)).add j)=cs[j]?:=λi x hx=>by
      have hi:i<elems.length:=(ze.1 hx).1;have:=hE i o_;rw[hx,uf] at this;obtain⟨cs,c1,c2⟩:=this;obtain⟨q1,q2⟩:=ih e cs x he c2 (B0B hwe x.1 (zw.2 ⟨x,zg hx,rfl⟩));obtain⟨-,k2,k3⟩:=World.cells?_some c1;exact⟨cs,⟨q1,q2⟩,k2,k3⟩
     have eav:c7 (DataW.slice (elems.map (·.1)) (rest.map (·.1))) = .sl (elems.map λx=>c7 x.1):=(by simp only[c7,B09,vm]; rfl);simp only[eav];have hget:∀(i:Nat) y,(elems.map λx=>c7 x.1)[i]?=some y->∃x,elems[i]?=some x/\y=c7 x.1:=λi y hy=>by
      rw[yj,zn] at hy;obtain⟨x,hx,rfl⟩:=hy;exact⟨x,hx,rfl⟩
     have hadd:∀i j,(a.add (i*P.cellsOf e)).add j=a.add (i*P.cellsOf e+j):=λi j=>by
      clear ih one HH hE h hw;unfold Addr.add;generalize i*P.cellsOf e=n;by_cases hj:j=0
      ·subst hj; simp
      ·by_cases hn:n=0
       ·subst hn; simp
       ·have:n+j≠0:=by omega
        simp[hj,hn,yv]
     have hcell:∀(i:Nat) y (j:Nat) z,(elems.map λx=>c7 x.1)[i]?=some y->y.cells[j]?=some z->∃u,W.cell? (a.add (i*P.cellsOf e+j))=some u/\RV (G0 W) W z u:=λi y j z hy hz=>by
      obtain⟨x,hx,rfl⟩:=hget i y hy;obtain⟨cs,⟨_,k1,k2⟩,k3,k4⟩:=HH i x hx;have hj:j<cs.length:=(by rw[←k1]; exact (ze.1 hz).1);have h5:=k4 j o_;rw[hadd,zc hj] at h5;have h6:=k2 j z hz;rw[xv,zc hj] at h6;exact⟨_,h5,h6⟩
     refine⟨⟨_,rfl,v_ hlen1,λy hy=>?_⟩,one _ _ rfl ?_⟩
     ·obtain⟨i,hi⟩:=uw hy;obtain⟨x,hx,rfl⟩:=hget i y hi;obtain⟨_,h,_⟩:=HH i x hx;exact h.1
     ·have hlen:(elems.map λx=>c7 x.1).length=len:=(v_ hel);have:=RV.sl (G:=G0 W) (w:=W) (elems.map λx=>c7 x.1) (some a) cap (P.cellsOf e) (λi j=>(W.cell? (a.add (i*P.cellsOf e+j))).getD undef) (by rw[hlen]; exact hlc) hcm (λh=>by cases h)
       (λi y hy=>by
        obtain⟨x,hx,rfl⟩:=hget i y hy;obtain⟨cs,⟨_,k1,k2⟩,k3,k4⟩:=HH i x hx;rw[k1,k3])
       (λa' i y j z ha hy hz=>by
        injection ha with ha; subst ha
        obtain⟨u,hu,hr⟩:=hcell i y j z hy hz;have h2:=A9s hu;rw[Y8,A1j] at h2;exact⟨_,h2⟩)
       (λa' i y j z ha hy hz=>by
        injection ha with ha; subst ha
        obtain⟨u,hu,hr⟩:=hcell i y j z hy hz;rw[hu]; rfl)
       (λi y j z hy hz=>by
        obtain⟨u,hu,hr⟩:=hcell i y j z hy hz;rw[hu]; exact hr)
      rw[hlen] at this;exact this
   | _=>cases hk
theorem C6G(hl:l.all (B0A P l)=true){r:Reach}{b0:Nat}{t:TypeId}(ht:t∈l){v:Value}{d:DataW H}{ps:List MemPlace}(hval:Value.okWide P W r b0 t v)(hd:DataW.Trod enc P W 0 sp true t v d ps)(hw:A3V (d.weights P t)):
  (∃n,A10 P n t (c7 d))/\RV (G0 W) W (c7 d) v:=by
 obtain⟨n,hn⟩:=hd;obtain⟨h1,h2,h3⟩:=B6c hl n t _ _ ht hn hw;refine⟨⟨n,h1⟩,?_⟩;have hk:=xe.1 hl t ht;simp only at h1 h2 h3;generalize c7 d=a at *;cases n with
 | zero=>exact h1.elim
 | succ n =>
  unfold B0A at hk;unfold A10 at h1;have one:v.cells = #[v]->a.cells=[a]->RV (G0 W) W a v:=λhv ha=>by
   have:=h3 0 a (by rw[ha]; rfl);rw[hv] at this;exact this
  cases hu:P.underlying t with
  | none=>rw[hu] at hk; cases hk
  | some q =>
   rw[hu] at hk h1;cases q with
   | bool=>obtain⟨b,rfl⟩:=WideShapes.okWide_bool hu hval; obtain⟨_,rfl⟩:=h1; exact one rfl rfl
   | int k=>obtain⟨b,rfl⟩:=WideShapes.okWide_int hu hval; obtain⟨_,rfl,_⟩:=h1; exact one rfl rfl
   | string=>obtain⟨b,rfl⟩:=WideShapes.okWide_string hu hval; obtain⟨_,rfl,_⟩:=h1; exact one rfl rfl
   | slice e=>obtain⟨a',len,cap,rfl⟩:=WideShapes.okWide_slice hu hval; obtain⟨_,rfl,_⟩:=h1; exact one rfl rfl
   | struct fs =>
    obtain⟨ys,rfl,_⟩:=h1;simp only[Value.okWide,hu] at hval;obtain⟨cs,rfl,_⟩:=hval;refine .agg _ cs (by simpa [AV.cells,Value.cells] using h2) λi y hy=>?_;have:=h3 i y hy;simpa [Value.cells,xv,zl] using this
   | _=>cases hk
end
def B6d(P:Program)(t:TypeId)(a:AV):Prop:=∃n,A10 P n t a
section
variable {H:Type} {enc:TypeId×Value->H} {P:Program} {W W':World} {l:List TypeId}
theorem B6e(hl:l.all (B0A P l)=true){sp:Nat->Bool}{r:Reach}{b0:Nat}:∀{ts:List TypeId} {vs:List Value} {ds:List (DataW H)} {ps:List MemPlace},(∀t∈ts,t∈l)->(∀(j:Nat) t v,ts[j]?=some t->vs[j]?=some v->Value.okWide P W r b0 t v) ->
  DataW.TrodAll enc P W 0 sp true ts vs ds ps->A3V (DataW.weightsEach P ts ds)->A5P (B6d P) ts (ds.map c7)/\ds.length=vs.length/\ds.length=ts.length/\∀(i:Nat) y,(ds.map c7)[i]?=some y->RV (G0 W) W y (vs.getD i undef)
 | [],[],[],ps,_,_,_,_=>⟨trivial,rfl,rfl,λi y hy=>by simp at hy⟩
 | t::ts,v::vs,d::ds,ps,hm,hv,h,hw=>by
  obtain⟨p,q,h1,h2,rfl⟩:=h;simp only[DataW.weightsEach] at hw;obtain⟨⟨n,f1⟩,f2⟩:=C6G hl (hm t s_) (hv 0 t v rfl rfl) h1 λn hn=>hw n (t_ hn);obtain⟨g1,g2,g3,g4⟩:=B6e hl (λt ht=>hm t (t_ ht)) (λj t v hj hj'=>hv (j+1) t v (v_ hj) (v_ hj')) h2 λn hn=>hw n (t_ hn);refine⟨⟨⟨n,f1⟩,g1⟩,t_ g2,t_ g3,λi y hy=>?_⟩;cases i with
  | zero=>simp at hy; subst hy; exact f2
  | succ i=>exact g4 i y (v_ hy)
 | [],[],_::_,_,_,_,h,_=>h.elim
 | [],_::_,_,_,_,_,h,_=>h.elim
 | _::_,[],_,_,_,_,h,_=>h.elim
 | _::_,_::_,[],_,_,_,h,_=>h.elim
theorem B0D(hlaid:laidOutB P=true):∀{ts:List TypeId} {vs:List Value} {ds:List (DataW H)} {ps:List MemPlace},(∀t∈ts,P.readableRec t=true/\t<P.types.size)->(∀x∈ps,x.block<W.heap.size)->Below W.heap.size W W' ->
  DataW.TrodAll enc P W 0 (λ_=>true) true ts vs ds ps->DataW.TrodAll enc P W' 0 (λb=>decide (b<W.heap.size)) true ts vs ds ps
 | [],[],[],ps,_,_,_,h=>h
 | t::ts,v::vs,d::ds,ps,hm,hlt,hb,h=>by
  obtain⟨p,q,h1,h2,rfl⟩:=h;exact⟨p,q,Below.trod hlaid (hm t s_).1 (hm t s_).2 h1 hb λx hx=>hlt x (t_ hx),B0D hlaid (λt ht=>hm t (t_ ht)) (λx hx=>hlt x (t_ hx)) hb h2,rfl⟩
 | [],[],_::_,_,_,_,_,h=>h.elim
 | [],_::_,_,_,_,_,_,h=>h.elim
 | _::_,[],_,_,_,_,_,h=>h.elim
 | _::_,_::_,[],_,_,_,_,h=>h.elim
theorem C0S{f:Nat}{fn:Func}{s:ChangeSpec}{apart fresh handsOn:Bool}{base:Nat}{args:Array Value}{ds gs:List (DataW H)}{before:List MemPlace}{tb:TypeId}
  (hl:l.all (B0A P l)=true) (hlaid:laidOutB P=true) (hts:fn.params.toList.all (λt=>l.contains t&&(P.readableRec t&&decide (t<P.types.size)))=true)
  (hrt:fn.resultTypes = #[tb]) (htb:P.underlying tb=some .bool) (hsv:s.vars=[])
  (hs:∀(ds:List (DataW H)),ds.length=fn.params.size->s.fn H ds={ results:=[.lit (.bool true)],args:=ds })
  (main:∀xs:List AV,A5P (B6d P) fn.params.toList xs->xs=ds.map c7->A2 P f xs [] 0 (.bool true) [])
  (hsz:(DataW.weightsEach P (fn.params.toList++s.plain.varTypes P) (ds++gs)).all (·<=reachBytes)=true)
  (hval:∀(j:Nat) t v,fn.params[j]?=some t->args[j]?=some v->Value.okWide P W .any base t v)
  (hW:DataW.Whole enc P fn.params.toList s.vars apart W args.toList ds gs before) (htab:A3L P W) :
  Calls P f args W λe W'=>∃v,e = .returned v/\s.post enc P fn apart fresh handsOn false W args v W':=by
 have hW':=hW;obtain⟨p,q,hA,hV,rfl,-,-⟩:=hW;rw[hsv] at hV;have hts':∀t∈fn.params.toList,t∈l/\P.readableRec t=true/\t<P.types.size:=λt ht=>by
  have:=xe.1 hts t ht;simpa using this
 have hgs:gs=[]/\q=[]:=by
  cases gs with
  | nil=>exact⟨rfl,hV⟩
  | cons g gs=>exact hV.elim
 obtain⟨rfl,rfl⟩:=hgs;have hvt:s.plain.varTypes P=[]:=by simp[DataSpec.varTypes,ChangeSpec.plain,hsv]
 rw[hvt,xr,xr] at hsz;obtain⟨f1,f2,f3,f4⟩:=B6e hl (λt ht=>(hts' t ht).1) (λj t v hj hj'=>hval j t v (v_ hj) (v_ hj')) hA (A3V.of hsz);refine ((main _ f1 rfl).2 (C0 W htab) (G0 W) (λ_=>none) W args 0 (RS.start W htab) ⟨v_ f2,λi y hy=>?_⟩ (λq hq=>by cases hq) (λ_ _ h=>h) (λ_ _ _ h=>h)).mono λe W' he=>?_
 ·have:=f4 i y hy;simpa [xv,zl] using this
 ·obtain⟨v,G',rfl,r1,r2,r3,r4⟩:=he;cases r3
  have hb:Below W.heap.size W W':=r1.below;have e1:s.fn H (ds++[])={ results:=[.lit (.bool true)],args:=ds }:=by rw[xr]; exact hs ds (v_ f3)
  refine⟨_,rfl,ds,[],p++[],[],p,[],hW',?_,?_,?_,hb.frame _,λh=>by cases h⟩
  ·rw[e1,hrt];exact⟨[],[],⟨1,by simp[DataW.trod,Value.cells,htb]⟩,rfl,rfl⟩
  ·rw[e1];exact B0D hlaid (λt ht=>(hts' t ht).2) (λx hx=>hW'.lt x (t_ hx)) hb hA
  ·rw[e1,hsv];rfl
end
section
variable {P:Program} {t:TypeId} {n:Nat} {x:AV}
theorem A8O{k:IntKind}(hu:P.underlying t=some (.int k))(h:A10 P n t x):∃m,x = .int k m/\(Lit.int k m).wf=true:=by
 cases n with
 | zero=>exact h.elim
 | succ n=>unfold A10 at h; rw[hu] at h; exact h
theorem A2N(hu:P.underlying t=some .string)(h:A10 P n t x):∃s:List UInt8,x = .str s/\s.length<=reachBytes:=by
 cases n with
 | zero=>exact h.elim
 | succ n=>unfold A10 at h; rw[hu] at h; exact h
theorem B1S{e:TypeId}(hu:P.underlying t=some (.slice e))(h:A10 P n t x):∃m xs,n=m+1/\x = .sl xs/\xs.length<=reachBytes/\∀y∈xs,A10 P m e y:=by
 cases n with
 | zero=>exact h.elim
 | succ n=>unfold A10 at h; rw[hu] at h; obtain⟨xs,h1,h2,h3⟩:=h; exact⟨n,xs,rfl,h1,h2,h3⟩
theorem B1T{fs:Array Field}(hu:P.underlying t=some (.struct fs))(h:A10 P n t x):∃m ys,n=m+1/\x = .agg (ys.flatMap AV.cells)/\A5P (A10 P m) (fs.toList.map (·.type)) ys:=by
 cases n with
 | zero=>exact h.elim
 | succ n=>unfold A10 at h; rw[hu] at h; obtain⟨ys,h1,h2⟩:=h; exact⟨n,ys,rfl,h1,h2⟩
theorem O4{p:TypeId->AV->Prop}{t:TypeId}{ts:List TypeId}{ys:List AV}(h:A5P p (t::ts) ys):∃y r,ys=y::r/\p t y/\A5P p ts r:=by
 cases ys with
 | nil=>exact h.elim
 | cons y r=>exact⟨y,r,rfl,h.1,h.2⟩
theorem A4D{p:TypeId->AV->Prop}{ys:List AV}(h:A5P p [] ys):ys=[]:=by
 cases ys with
 | nil=>rfl
 | cons y r=>exact h.elim
theorem A2n{α:Type}{f:α->AV}:∀{xs:List AV},(∀y∈xs,∃a,y=f a)->∃l:List α,xs=l.map f
 | [],_=>⟨[],rfl⟩
 | y::r,h=>by
  obtain⟨a,rfl⟩:=h y s_;obtain⟨l,rfl⟩:=A2n (xs:=r) λz hz=>h z (t_ hz);exact⟨a::l,rfl⟩
end
def C6H(P:Program)(t:TypeId):List TypeId:=match P.underlying t with
 | some (.slice e)=>[e]
 | some (.struct fs)=>fs.toList.map (·.type)
 | _=>[]
def C0T(P:Program):Nat->List TypeId->List TypeId
 | 0,l=>l
 | n+1,l=>C0T P n (l++(l.flatMap (C6H P)).eraseDups.filter λt=>!l.contains t)
def A11{E:O8}{σ:St}{k:List Itm}{dst:Option Nat}{g:Option (Nat×Bool)}{us:List Nat}{op:COp}{l:List CR}{j:Nat}{acc:List RR}{ps:List (Nat×Nat)}(v:AV)(hg:A3P (lk σ.fr) g)
  (h1:Z1 (lk σ.fr) g=true->Wk E (.ops (⟨dst,none,us,op⟩::l) j acc ps::k) σ)
  (h2:Z1 (lk σ.fr) g=false->Wk E (.ops l (j+1) (A1R ps ⟨false,v,[],[]⟩ acc) ps::k) (σ.app dst ⟨false,v,[],[]⟩)):Wk E (.ops (⟨dst,g,us,op⟩::l) j acc ps::k) σ:=by
 cases hc:Z1 (lk σ.fr) g with
 | true =>
  rcases h1 hc with⟨rs,r1,r2,r3⟩|⟨rs,pv,r1,r2,r3⟩
  ·cases rs with
   | nil=>exact r1.elim
   | cons r rs =>
    obtain⟨⟨o1,o2,o3,o4⟩,r1⟩:=r1;exact .inl ⟨r::rs,⟨⟨hg,o2.trans hc.symm,o3,o4⟩,r1⟩,r2,r3⟩
  ·cases rs with
   | nil=>exact .inr ⟨[],pv,r1,⟨hg,hc,r2.2.2⟩,r3⟩
   | cons r rs =>
    obtain⟨⟨o1,o2,o3,o4⟩,r2⟩:=r2;exact .inr ⟨r::rs,pv,r1,⟨⟨hg,o2.trans hc.symm,o3,o4⟩,r2⟩,r3⟩
 | false=>exact A7U (r:=⟨false,v,[],[]⟩) ⟨hg,hc.symm,(λh=>by cases h),λ_=>rfl⟩ (A0j (h2 hc))
section
variable {E:O8} {σ:St} {k:List Itm}
theorem D9.frz(n:Nat){x x':AV}{fz:List (Nat×Bx)}(hx:lk σ.fr n=some (true,x))(hp:(N0 (bk σ.bx) [x]).1)(h1:(N0 (bk σ.bx) [x]).2.1=[x'])(h2:(N0 (bk σ.bx) [x]).2.2=fz):D9 E σ ⟨(n,true,x')::σ.fr,t7 σ.bx (wrF fz),σ.k⟩:=λG a w hD=>by
 obtain⟨g1,g2⟩:=A0B (bx':=ov E.β σ.bx) hp;have ge:=g2 (g1.ov E.β);obtain⟨G1,q1,q2,q3,q4⟩:=A1C (N0 (bk σ.bx) [x]).2.2 hD.rs λq hq=>let ⟨z1,z2⟩:=A3O hp q hq; ⟨.inl (P5 E.β z1),z2⟩;have h1':(N0 (ov E.β σ.bx) [x]).1:=by rw[ge]; exact hp
 have q4':A4Z G G1 w (N0 (ov E.β σ.bx) [x]).2.2:=by rw[ge]; exact q4
 obtain⟨m1,m2⟩:=A5H q2 h1' q4';rw[ge] at m1 m2;have hxr:=(hD.fr n true x hx).1 rfl;have hxr':RV G1 w x' (a.tmps.getD n undef):=m2 (λ_=>a.tmps.getD n undef) (λi y hy=>by
  cases i with
  | zero=>simp at hy; subst hy; exact hxr
  | succ i=>simp at hy) 0 x' (by rw[h1]; rfl)
 subst h2;refine⟨G1,hD.ev.trans q2,?_,λid h=>hD.used id (q3 id h),λid hi h=>hD.old id hi (q3 id h),λm c v hm=>?_,hD.size,hD.defers⟩
 ·show RS E.C G1 (ov E.β (t7 σ.bx (wrF (N0 (bk σ.bx) [x]).2.2))) w;rw[A4B]; exact q1
 ·simp only[lk] at hm;split at hm
  ·rename_i he;subst he;simp only[zd,zh] at hm;obtain⟨rfl,rfl⟩:=hm;exact⟨λ_=>hxr',λh=>by cases h⟩
  ·exact⟨λhc=>((hD.fr m c v hm).1 hc).mono q2,(hD.fr m c v hm).2⟩
theorem C7s{X:Operand}{d:Nat}(h:opd X=some (.t d)):X = .tmp d:=by
 cases X<;>simp[opd] at h
 subst h; rfl
theorem C0U{X:Operand}(w:World)(h:opd X=some (.c .nils)):X = .const (.slice none 0 0):=by
 cases X with
 | const v =>
  simp only[opd,zn] at h;obtain⟨x,h1,h2⟩:=h;injection h2 with h2
  subst h2;have:=B4v (G:=⟨λ_ _=>False,λ_=>False,λ_=>none,λ_=>False⟩) (w:=w) h1;cases this
  rfl
 | _=>simp[opd] at h
theorem C0V{P:Program}{op:Op}{d:Nat}(w:World)(h:N5 P op=some (.bin .eql (some [8]) (.t d) (.c .nils))):∃t e t',op = .binOp .eql t (.tmp d) (.const (.slice none 0 0)) t'/\P.underlying t=some (.slice e):=by
 have hop:∃o t x y t',op = .binOp o t x y t':=by
  unfold N5 at h;split at h
  all_goals first|exact⟨_,_,_,_,_,rfl⟩|skip
  all_goals exfalso
  all_goals try simp only[U6,A0t,A0u,A1P,A0v,A0w] at h
  all_goals repeat' split at h
  all_goals first|cases h; done|(refine (A4k h ?_).elim; intro a h; cases h; done)
 obtain⟨o,t,x,y,t',rfl⟩:=hop;simp only[N5] at h;split at h
 ·rename_i x' y' hx hy;split at h
  ·cases h
  ·split at h
   ·rename_i ks hk;split at h
    ·injection h with h
     injection h with h1 h2 h3 h4
     injection h2 with h2
     have:=X5 hk 8 (by rw[h2]; simp);omega
    ·cases h
   ·cases h
  ·rename_i e ht;injection h with h
   injection h with h1 h2 h3 h4
   subst h1 h3 h4;rw[C7s hx,C0U w hy];exact⟨t,e,t',rfl,ht⟩
  ·split at h
   ·simp at h
   ·simp at h
  ·cases h
 ·cases h
theorem C0W{s d e:Nat}{xs:List AV}(hs:lk σ.fr s=some (true,.sl xs))(hd:d≠e)
  (h1:xs=[]->Wk E k ⟨(e,true,.bool true)::(d,true,.sl xs)::σ.fr,σ.bx,σ.k+2048⟩) (h2:Wk E k ⟨(e,true,.bool false)::(d,true,.sl xs)::σ.fr,σ.bx,σ.k+2048⟩) :
  Wk E (.code (.reg false [⟨some d,none,[s],.mv (.t s)⟩,⟨some e,none,[d],.bin .eql (some [8]) (.t d) (.c .nils)⟩] [])::k) σ:=λc hc G a w hD=>by
 obtain⟨id,ops,rfl,hg⟩:=A5M hc;unfold r9 at hg;split at hg
 ·cases hg
 ·rename_i cs hcs;simp only[CC.reg.injEq,true_and,and_true] at hg;subst hg;obtain⟨hlen,hget⟩:=A1E hcs;have hsz:ops.size=2:=by simpa using hlen.symm
  obtain⟨o0,ho0⟩:∃o,ops[0]?=some o:=⟨_,yb o_⟩;obtain⟨o1,ho1⟩:∃o,ops[1]?=some o:=⟨_,yb o_⟩;obtain⟨c0,hc0,hr0⟩:=hget 0 o0 (v_ ho0);obtain⟨c1,hc1,hr1⟩:=hget 1 o1 (v_ ho1);simp only[yn,zd] at hc0;simp only[xt,yn,zd] at hc1;subst hc0 hc1;refine wp_region ?_;rw[hsz,show List.range 2=[0,1] from rfl,wpOps_cons];refine B03 (id:=E.n0+σ.k) (nb:=E.n0+σ.k) (r:=⟨true,.sl xs,[],[]⟩) hD ho0 hr0 ⟨trivial,rfl,λ_=>?_,λh=>by cases h⟩ (λx hx _ h=>absurd (hD.used _ h) o_) o_ (λx hx h=>absurd (hD.used _ h) o_) λG1 u1 w1 hD1=>?_
  ·refine .sem true (.mv (.t s)) True (.sl xs) [] [] (by simp[ceF,hs]) ?_ trivial;simp[sem,M2,hs]
  ·rw[wpOps_cons];have hcr:=hr1;unfold A0n at hr1;split at hr1
   ·rename_i cc g hcomp hgd;split at hr1
    ·rename_i hdst;injection hr1 with hr1
     injection hr1 with e1 e2 e3 e4
     subst e2 e4;obtain⟨t,el,t',hop,ht⟩:=C0V w hcomp;have hval:=F9.opd hD1 (X:=.tmp d) (x:=.t d) rfl λn hn=>by
      injection hn with hn
      subst hn;simp[ceF,A24]
     have hv2:M2 (A24 (lk σ.fr) (some d) ⟨true,.sl xs,[],[]⟩) (.t d) = .sl xs:=(by simp[M2,A24]);rw[hv2] at hval;have hwant:=A8D hD1 (o:=o1) (g:=none) hgd trivial;refine A8E ho1 hwant ?_;have fin:∀b:Bool,(b=true->xs=[])->(execOp (a.put o0.dst u1).eval o1).run E.P w1 = .ok (.value (.bool b)) w1->o1.wp E.P (a.put o0.dst u1) w1 (λa w=>wpOps E.P ops (A9f E (WW E k).1 (WW E k).2) [] a w) (A9f E (WW E k).1 (WW E k).2):=λb hb hrun=>by
      unfold Oper.wp;rw[hrun,Oper.upon_value];show A9f E (WW E k).1 (WW E k).2 .normal _ _;have hdN:∀q,o1.dst=some q->q<E.N:=λq hq=>by
       simp only[yk] at hdst;have:=hdst.1;rw[hq] at this;simpa using this
      have hD2:=F9.put hD1 (dst:=o1.dst) (r:=⟨true,.bool b,[],[]⟩) (u:=.bool b) hdN (λ_=>.bool b) (λh=>by cases h);rw[e1] at hD2;have hF:A24 (A24 (lk σ.fr) (some d) ⟨true,.sl xs,[],[]⟩) (some e) ⟨true,.bool b,[],[]⟩=lk ((e,true,.bool b)::(d,true,.sl xs)::σ.fr):=by
       funext n; simp only[A24,T6,lk]
      rw[hF] at hD2;have hD3:Q5 E ⟨(e,true,.bool b)::(d,true,.sl xs)::σ.fr,σ.bx,σ.k+2048⟩ G1 ((a.put o0.dst u1).put o1.dst (.bool b)) w1:=by
       rw[e1];exact hD2.weak λi hi=>hi.elim (λh=>by have:=hD.used _ h; show i<E.n0+(σ.k+2048); omega) λh=>by show i<E.n0+(σ.k+2048); omega
      cases b with
      | true=>exact⟨_,G1,hD3,h1 (hb rfl)⟩
      | false=>exact⟨_,G1,hD3,h2⟩
     have hex:execOp (a.put o0.dst u1).eval o1=(do pure (.value (←(do eqGuard .eql t (.tmp d) (.const (.slice none 0 0)) ((a.put o0.dst u1).eval (.tmp d)) (.slice none 0 0); binOp .eql t ((a.put o0.dst u1).eval (.tmp d)) (.slice none 0 0):Sem Value)))):=by
      unfold execOp; simp only[hop,Act.eval]
     generalize (a.put o0.dst u1).eval (.tmp d)=v at *;cases hval with
     | sl _ A cp sz u q1 q2 q3 q4 q5 q6 q7 =>
      refine fin A.isNone (λh=>?_) ?_
      ·cases A with
       | none=>exact (q3 rfl).1
       | some _=>cases h
      ·rw[hex];simp only[eqGuard,Sem.run_bind,Sem.run_pure,run_eql_slice_nil _ t el A _ _ ht];rfl
    ·cases hr1
   ·cases hr1
end
section
variable {E:O8} {σ:St} {k:List Itm}
theorem A7m(i:Itm){k1 k2:List Itm}(h1:∀σ,Wk E k1 σ->Wk E k2 σ)(h2:∀id σ,Wx E id k1 σ->Wx E id k2 σ)(h:Wk E (i::k1) σ):Wk E (i::k2) σ:=by
 cases i with
 | blk id=>exact h1 σ h
 | post p=>exact h
 | code cc =>
  intro c hc G a w hD;refine wp_mono (h c hc G a w hD) λe a' w' hq=>?_;cases e with
  | normal=>obtain⟨σ',G',q1,q2⟩:=hq; exact⟨σ',G',q1,h1 _ q2⟩
  | exit id=>obtain⟨σ',G',q1,q2⟩:=hq; exact⟨σ',G',q1,h2 _ _ q2⟩
  | _=>exact hq
 | ops crs j acc ps =>
  rcases h with⟨rs,q1,q2,q3⟩|h
  ·exact .inl ⟨rs,q1,q2,h1 _ q3⟩
  ·exact .inr h
theorem C6I{i:Itm}{y z:CC}{X:Type}(inv:X->St)(ok:X->Prop)(h:∀p:St->Prop,(∀σ' x,ok x->D9 E σ' (inv x)->p σ')->Wk E (i::.code y::.post p::k) σ)
  (hk:∀x,ok x->Wk E (.code z::k) (inv x)):Wk E (i::.code (.seq y z)::k) σ:=by
 refine A7m i (k1:=.code y::.post (λσ'=>∃x,ok x/\D9 E σ' (inv x))::k) (λσ1 q=>?_) (λid σ1 q=>q) (h (λσ'=>∃x,ok x/\D9 E σ' (inv x)) (λσ' x h1 h2=>⟨x,h1,h2⟩));refine A3D (λc hc G a w hD=>?_);refine wp_mono (q c hc G a w hD) λe a' w' hq=>?_;cases e with
 | normal =>
  obtain⟨σ',G',h1,x,h2,h3⟩:=hq;obtain⟨G2,h4⟩:=h3 G' a' w' h1;exact⟨inv x,G2,h4,hk x h2⟩
 | _=>exact hq
end
mutual
def AV.nrm:AV->AV
 | .nils=>.sl []
 | .sl xs=>.sl (A3W xs)
 | .agg cs=>.agg (A3W cs)
 | .tup cs=>.tup (A3W cs)
 | .int k n=>.int k n
 | .bool b=>.bool b
 | .str s=>.str s
 | .nilp=>.nilp
 | .ptr a b c=>.ptr a b c
 | .cptr cs=>.cptr cs
 | .bsl a b c=>.bsl a b c
 | .fn f cs=>.fn f cs
 | .fnb f cs=>.fnb f cs
 | .nilf=>.nilf
 | .iface t v=>.iface t v
 | .nili=>.nili
def A3W:List AV->List AV
 | []=>[]
 | x::l=>x.nrm::A3W l
end
def A1S:∀l:List AV,A3W l=l.map AV.nrm
 | []=>rfl
 | x::l=>by simp[A3W,A1S l]
def A4E(x:AV):x.nrm.cells=x.cells.map AV.nrm:=by
 cases x<;>simp[AV.nrm,AV.cells,A1S]
def C6J{G:Gh}{w:World}:RV G w (.sl []) (.slice none 0 0) :=
 .sl [] none 0 0 (λ_ _=>undef) (zx _) (by simp[maxLen]) (λ_=>⟨rfl,rfl⟩) (λi x hi=>by simp at hi) (λa i x j y _ hi=>by simp at hi) (λa i x j y _ hi=>by simp at hi) (λi x j y hi=>by simp at hi)
def A0O{l:List AV}{i:Nat}{y:AV}(h:(l.map AV.nrm)[i]?=some y):∃x,l[i]?=some x/\y=x.nrm:=by
 rw[yj] at h;cases hx:l[i]? with
 | none=>rw[hx] at h; cases h
 | some x=>rw[hx] at h; exact⟨x,rfl,(wn h).symm⟩
def RV.nrm{G:Gh}{w:World}{x:AV}{v:Value}(h:RV G w x v):RV G w x.nrm v:=by
 induction h with
 | int k n=>exact .int k n
 | bool b=>exact .bool b
 | str s=>exact .str s
 | nilp=>exact .nilp
 | ptr id i off v ho hu hb=>exact .ptr id i off v ho hu hb
 | cptr cs a u h1 h2 h3 ih=>exact .cptr cs a u h1 h2 h3
 | nils=>exact C6J
 | sl xs A c s u hc hm hn hs h1 h2 h3 ih =>
  have e:xs.length=(xs.map AV.nrm).length:=by simp
  simp only[AV.nrm,A1S];rw[e];refine .sl (xs.map AV.nrm) A c s u (by rw[←e]; exact hc) hm (λha=>by rw[(hn ha).1]; exact⟨rfl,(hn ha).2⟩) (λi x hx=>?_) (λa i x j y ha hx hy=>?_) (λa i x j y ha hx hy=>?_) (λi x j y hx hy=>?_)
  ·obtain⟨x0,hx0,rfl⟩:=A0O hx;rw[A4E,xf]; exact hs i x0 hx0
  ·obtain⟨x0,hx0,rfl⟩:=A0O hx;rw[A4E] at hy;obtain⟨y0,hy0,rfl⟩:=A0O hy;exact h1 a i x0 j y0 ha hx0 hy0
  ·obtain⟨x0,hx0,rfl⟩:=A0O hx;rw[A4E] at hy;obtain⟨y0,hy0,rfl⟩:=A0O hy;exact h2 a i x0 j y0 ha hx0 hy0
  ·obtain⟨x0,hx0,rfl⟩:=A0O hx;rw[A4E] at hy;obtain⟨y0,hy0,rfl⟩:=A0O hy;exact ih i x0 j y0 hx0 hy0
 | bsl id off len v ho hu hb hn=>exact .bsl id off len v ho hu hb hn
 | fn f caps vs hl h ih=>exact .fn f caps vs hl h
 | fnb f caps vs hl h ih=>exact .fnb f caps vs hl h
 | nilf=>exact .nilf
 | iface t x v h ih=>exact .iface t x v h
 | nili=>exact .nili
 | agg cs vs hl h ih =>
  simp only[AV.nrm,A1S];refine .agg _ vs (by rw[xf]; exact hl) λi y hy=>?_;obtain⟨x0,hx0,rfl⟩:=A0O hy;exact ih i x0 hx0
 | tup cs vs hl h ih =>
  simp only[AV.nrm,A1S];refine .tup _ vs (by rw[xf]; exact hl) λi y hy=>?_;obtain⟨x0,hx0,rfl⟩:=A0O hy;exact ih i x0 hx0
def A2.nrm{P:Program}{f:Nat}{args:List AV}{rd:List (Nat×Bx)}{id:Nat}{res:AV}{wr:List (Nat×Option Bx)}(h:A2 P f args rd id res wr):A2 P f args rd id res.nrm wr :=
 ⟨h.1,λC G bx w vs nb hs hv hh hnb hid=>(h.2 C G bx w vs nb hs hv hh hnb hid).mono λe w' ⟨v,G',h1,h2,h3,h4,h5⟩=>⟨v,G',h1,h2,h3,h4.nrm,h5⟩⟩
def A2.nrmA{P:Program}{f:Nat}{args:List AV}{rd:List (Nat×Bx)}{id:Nat}{res:AV}{wr:List (Nat×Option Bx)}(h:A2 P f (A3W args) rd id res wr):A2 P f args rd id res wr:=by
 refine⟨h.1,λC G bx w vs nb hs hv hh hnb hid=>h.2 C G bx w vs nb hs ⟨by rw[A1S,xf]; exact hv.1,λi y hy=>?_⟩ hh hnb hid⟩;rw[A1S] at hy;obtain⟨x0,hx0,rfl⟩:=A0O hy;exact (hv.2 i x0 hx0).nrm
end Go.Am
