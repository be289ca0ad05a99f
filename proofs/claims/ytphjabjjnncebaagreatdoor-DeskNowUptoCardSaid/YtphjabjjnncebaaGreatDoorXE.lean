/- Parts of the proof: an abstract machine for Go functions, and what functions of the program give back (Am35, Am36, Am37, Am38, Am39, Am40, Am41, Am42, Am43, Am44, Am45, Am46). No condition. -/
import Derived.Test.YtphjabjjnncebaaGreatDoorXD
import Derived.IntWalk
import Derived.ProofKit
import Derived.WideShapes
import Derived.Carry
import Derived.SizedLaws
import Derived.Lib.LazyBuf
set_option maxRecDepth 100000
set_option linter.all false
namespace Go.Am
open Go Go.RowKit
inductive s8 where
 | tmp (t:Nat)
 | cell (a:Nat) (agg:Bool) (n:Nat)
def N9(P:Program):List ResultVar->Option (List s8)
 | []=>some []
 | .tmp t::l=>(N9 P l).map (.tmp t::·)
 | .cell a t::l=>match P.underlying t,A2v P t,N9 P l with
  | some _,some n,some r=>some (.cell a (A04 P t) n::r)
  | _,_,_=>none
def A1x(F:Fr)(B:Nat->Option Bx):List s8->Option (Prop×List AV)
 | []=>some (True,[])
 | .tmp t::l=>match A1x F B l with
  | some (p,vs)=>some (ceF F t=true/\p,M0 F (.t t)::vs)
  | none=>none
 | .cell a agg n::l=>match ldT agg n (A1H B (M0 F (.t a))),A1x F B l with
  | some (q,r),some (p,vs)=>some ((ceF F a=true/\q)/\p,r.v::vs)
  | _,_=>none
def tupOf:List AV->AV
 | [v]=>v
 | vs=>.tup vs
section
variable {P:Program} {C:Cx P} {G:Gh} {B:Nat->Option Bx} {w:World} {F:Fr} {tmps:Array Value}
def A2b(tmps:Array Value):ResultVar->Sem Value
 | .tmp t=>pure (tmps.getD t undef)
 | .cell a t=>do loadVar t (←asAddr (tmps.getD a undef))
def B11(hs:RS C G B w)(hF:∀n c v,F n=some (c,v)->c=true->RV G w v (tmps.getD n undef)):∀{l:List ResultVar} {crs:List s8} {p:Prop} {vs:List AV},N9 P l=some crs->A1x F B crs=some (p,vs)->p ->
  ∃us:List Value,(l.mapM (A2b tmps)).run P w = .ok us w/\vs.length=us.length/\∀(i:Nat) v u,vs[i]?=some v->us[i]?=some u->RV G w v u
 | [],crs,p,vs,h1,h2,_=>by
  simp only[N9,zd] at h1;subst h1;simp only[A1x,zd,zi] at h2;obtain⟨_,rfl⟩:=h2;exact⟨[],rfl,rfl,λi v u h=>by simp at h⟩
 | .tmp t::l,crs,p,vs,h1,h2,hp=>by
  simp only[N9,zn] at h1;obtain⟨r,hr,rfl⟩:=h1;simp only[A1x] at h2;cases hv:A1x F B r with
  | none=>rw[hv] at h2; cases h2
  | some q =>
   obtain⟨p',vs'⟩:=q;rw[hv] at h2;simp only[zd,zi] at h2;obtain⟨rfl,rfl⟩:=h2;obtain⟨us,k1,k2,k3⟩:=B11 hs hF hr hv hp.2;have h0:RV G w (M0 F (.t t)) (tmps.getD t undef):=by
    have:=hp.1;simp only[ceF] at this;simp only[M0];split at this
    ·rename_i c v hl; exact hF t c v hl this
    ·cases this
   refine⟨tmps.getD t undef::us,?_,t_ k2,λi v u hv hu=>?_⟩
   ·simp only[qg,A2b,Sem.run_bind,Sem.run_pure,Result.andThen_ok,k1]
   ·cases i with
    | zero=>simp only[yt,zd] at hv hu; subst hv hu; exact h0
    | succ i=>exact k3 i v u (v_ hv) (v_ hu)
 | .cell a t::l,crs,p,vs,h1,h2,hp=>by
  simp only[N9] at h1;split at h1
  ·rename_i d n r hd hn hr;injection h1 with h1
   subst h1;simp only[A1x] at h2;split at h2
   ·rename_i q rr p' vs' hq hv;simp only[zd,zi] at h2;obtain⟨rfl,rfl⟩:=h2;obtain⟨us,k1,k2,k3⟩:=B11 hs hF hr hv hp.2;have h0:RV G w (M0 F (.t a)) (tmps.getD a undef):=by
     have:=hp.1.1;simp only[ceF] at this;simp only[M0];split at this
     ·rename_i c v hl; exact hF a c v hl this
     ·cases this
    have hld:∃u,(A2b tmps (.cell a t)).run P w = .ok u w/\RV G w rr.v u:=by
     cases hl:A1H B (M0 F (.t a)) with
     | none=>rw[hl] at hq; simp[ldT] at hq
     | some z =>
      obtain⟨p0,cs,rd⟩:=z;rw[hl] at hq;cases hag:A04 P t with
      | true =>
       simp only[hag,ldT,zd,zi] at hq;obtain⟨rfl,rfl⟩:=hq;obtain⟨addr,hv1,hat⟩:=A7J hs h0 (A54 hl hp.1.2.1);obtain⟨v,e1,e2⟩:=(hat.take n).load_agg (P:=P) hag hn (by rw[zz]; have:=hp.1.2.2; omega);exact⟨v,by simp only[A2b,hv1,asAddr,Sem.run_bind,Sem.run_pure,Result.andThen_ok,e1],e2⟩
      | false =>
       simp only[hag,ldT] at hq;cases cs with
       | nil=>simp at hq
       | cons y l =>
        simp only[zd,zi] at hq;obtain⟨rfl,rfl⟩:=hq;obtain⟨addr,hv1,hat⟩:=A7J hs h0 (A54 hl hp.1.2);obtain⟨v,e1,e2⟩:=hat.load_one (P:=P) hd hag rfl;exact⟨v,by simp only[A2b,hv1,asAddr,Sem.run_bind,Sem.run_pure,Result.andThen_ok,e1],e2⟩
    obtain⟨u0,e1,e2⟩:=hld;refine⟨u0::us,?_,t_ k2,λi v u hv hu=>?_⟩
    ·simp only[qg,Sem.run_bind,Sem.run_pure,Result.andThen_ok,k1,e1]
    ·cases i with
     | zero=>simp at hv hu; subst hv hu; exact e2
     | succ i=>exact k3 i v u (v_ hv) (v_ hu)
   ·cases h2
  ·cases h1
def B2i{fn:Func}{us:List Value}(h:(fn.results.toList.mapM (A2b tmps)).run P w = .ok us w):(results fn tmps).run P w = .ok (if h:us.length=1 then us[0] else .tuple us.toArray) w:=by
 have e:results fn tmps=(do let vs←fn.results.mapM (A2b tmps); pure (if h:vs.size=1 then vs[0] else .tuple vs)):=by
  unfold results;congr 1
 rw[e,rk];simp only[Sem.run_bind,Sem.run_pure];rw[show (List.toArray <$> List.mapM (A2b tmps) fn.results.toList)=(do let r←List.mapM (A2b tmps) fn.results.toList; pure r.toArray) from rfl];simp[h]
end
/-! ### The end of a function -/
def C5:List (Nat×Bx)->List (Nat×Option Bx)
 | []=>[]
 | (i,b)::l=>(i,some b)::C5 l
def A2A(R:Rn)(S:Nat->Prop)(bx':List (Nat×Option Bx))(fin:Nat->Option Bx):List Nat->Prop
 | []=>True
 | y::l=>(match fin y with
  | none=>True
  | some b'=>∃x b,R.ρ y=some x/\bk bx' x=some b/\BxR R S b b')/\A2A R S bx' fin l
def A4Z(id:Nat)(rd:List (Nat×Option Bx)):List (Nat×Option Bx)->Prop
 | []=>True
 | (y,_)::l=>(J3 y rd\/(id<=y/\y<id+1024))/\A4Z id rd l
structure B12(n0 id:Nat)(S:Nat->Prop)(rd:List (Nat×Bx))(res:AV)(wr:List (Nat×Option Bx))(vs:List AV)(bx':List (Nat×Option Bx))(rn:List (Nat×Nat))(hrn:F3 rn):Prop where
 res:O9 (P0 n0 rn hrn) S (tupOf vs) res
 fin:A2A (P0 n0 rn hrn) S bx' (E9 (bk (C5 rd)) wr) (U8 rd++O4 wr)
 drop:H9 n0 (C5 rd) bx'
 wr:A4Z id (C5 rd) wr
 new:A4J id (id+1024) rn
 gone:A1w n0 (C5 rd) rn
def C85(n0 id:Nat)(S:Nat->Prop)(rd:List (Nat×Bx))(res:AV)(wr:List (Nat×Option Bx))(σ:St)(vs:List AV)(rn:List (Nat×Nat))(hrn:F3 rn):Bool->Prop
 | true=>(M8 (bk σ.bx) vs).1/\B12 n0 id S rd res wr (M8 (bk σ.bx) vs).2.1 (o5 σ.bx (wrF (M8 (bk σ.bx) vs).2.2)) rn hrn
 | false=>B12 n0 id S rd res wr vs σ.bx rn hrn
def C6i(n0 id:Nat)(S:Nat->Prop)(rd:List (Nat×Bx))(res:AV)(wr:List (Nat×Option Bx))(σ:St):Option (Prop×List AV)->Prop
 | none=>False
 | some (p,vs)=>p/\∃(b:Bool) (rn:List (Nat×Nat)) (hrn:F3 rn),C85 n0 id S rd res wr σ vs rn hrn b
def A1y(n0 id:Nat)(S:Nat->Prop)(crs:List s8)(rd:List (Nat×Bx))(res:AV)(wr:List (Nat×Option Bx))(σ:St):Prop:=C6i n0 id S rd res wr σ (A1x (lk σ.fr) (bk σ.bx) crs)
def A2A.get{R:Rn}{S:Nat->Prop}{bx':List (Nat×Option Bx)}{fin:Nat->Option Bx}:∀{l:List Nat},A2A R S bx' fin l->∀y∈l,∀b',fin y=some b'->∃x b,R.ρ y=some x/\bk bx' x=some b/\BxR R S b b'
 | [],_,y,hy,_,_=>by cases hy
 | z::l,h,y,hy,b',hf=>by
  rcases zh.1 hy with rfl|hy
  ·have:=h.1;rw[hf] at this;exact this
  ·exact A2A.get h.2 y hy b' hf
def B4V{id:Nat}{rd:List (Nat×Option Bx)}:∀{l:List (Nat×Option Bx)},A4Z id rd l->∀y∈O4 l,J3 y rd\/(id<=y/\y<id+1024)
 | [],_,y,hy=>by simp[O4] at hy
 | (z,b)::l,h,y,hy=>by
  simp only[O4,yj,zh] at hy;rcases hy with rfl|hy
  ·exact h.1
  ·exact B4V h.2 y hy
def R0{y:Nat}:∀{l:List (Nat×Bx)},J3 y (C5 l)↔y∈U8 l
 | []=>by simp[J3,C5,U8]
 | (i,b)::l=>by simp[J3,C5,U8,R0 (l:=l)]
def B2j{β:Nat->Option Bx}:∀{l:List (Nat×Bx)},J8 β l->∀y,y∈U8 l->bk (C5 l) y=β y
 | [],_,y,hy=>by simp[U8] at hy
 | (i,b)::l,h,y,hy=>by
  simp only[C5,bk];split
  ·rename_i e; subst e; exact (h (y,b) s_).symm
  ·rename_i e;simp only[U8,yj,zh] at hy;exact B2j (λq hq=>h q (t_ hq)) y (hy.resolve_left e)
def A2B{β:Nat->Option Bx}:∀{l:List (Nat×Bx)},J8 β l->ov β (C5 l)=β
 | [],_=>rfl
 | (i,b)::l,h=>by
  simp only[C5,ov];rw[A2B λq hq=>h q (t_ hq)];funext y
  by_cases e:y=i
  ·subst e; rw[C2]; exact (h (y,b) s_).symm
  ·exact B6 _ _ _ e
def A1Y:Nat->List AV->List (Nat×Bool×AV)
 | _,[]=>[]
 | i,a::l=>(i,true,a)::A1Y (i+1) l
def A3y:∀{l:List AV} {i n:Nat} {c:Bool} {v:AV},lk (A1Y i l) n=some (c,v)->c=true/\i<=n/\l[n - i]?=some v
 | [],_,_,_,_,h=>by cases h
 | a::l,i,n,c,v,h=>by
  simp only[A1Y,lk] at h;split at h
  ·rename_i e;subst e;simp only[zd,zi] at h;obtain⟨rfl,rfl⟩:=h;exact⟨rfl,zy _,s_⟩
  ·rename_i e;obtain⟨h1,h2,h3⟩:=A3y h;refine⟨h1,o_,?_⟩;rw[show n - i=(n - (i+1))+1 by omega];simpa using h3
def RV.tupOf{G:Gh}{w:World}{vs:List AV}{us:List Value}(hl:vs.length=us.length)(h:∀(i:Nat) v u,vs[i]?=some v->us[i]?=some u->RV G w v u):RV G w (Am.tupOf vs) (if h:us.length=1 then us[0] else .tuple us.toArray):=by
 match vs,us,hl,h with
 | [v],[u],_,h=>exact h 0 v u rfl rfl
 | [],[],_,_=>exact .tup [] _ rfl λi y hy=>by simp at hy
 | v::v'::vs,u::u'::us,hl,h =>
  simp only[zt,Nat.add_eq_right,Nat.add_eq_zero_iff,Nat.succ_ne_self,and_false,dite_false];refine .tup _ _ (v_ hl) λi y hy=>?_;obtain⟨z,hz⟩:∃z,(u::u'::us)[i]?=some z:=⟨_,zc (by rw[←hl]; exact (ze.1 hy).1)⟩;have:=h i y z hy hz;rw[zk];simpa [hz] using this
def A68{E:O8}{fn:Func}{crs:List s8}{rd:List (Nat×Bx)}{id:Nat}{res:AV}{wr:List (Nat×Option Bx)}{σ:St}{G':Gh}{a:Act}{w':World}(hrs:N9 E.P fn.results.toList=some crs)(hh:J8 E.β rd)(hid:∀x,id<=x->x<id+1024->¬E.G0.used x)
  (hD':Q3 E σ G' a w') (hR:A1y E.n0 id E.G0.used crs rd res wr σ) :
  ∃v,(results fn a.tmps).run E.P w' = .ok v w'/\∃G1,RS E.C G1 (E9 E.β wr) w'/\L0 E.G0 E.w0 G1 w'/\RV G1 w' res v/\∀x,G1.used x->E.G0.used x\/(id<=x/\x<id+1024):=by
 have hR':C6i E.n0 id E.G0.used rd res wr σ (A1x (lk σ.fr) (bk σ.bx) crs):=hR;cases hres:A1x (lk σ.fr) (bk σ.bx) crs with
 | none=>rw[hres] at hR'; exact hR'.elim
 | some q =>
  obtain⟨p,rvs⟩:=q;rw[hres] at hR';obtain⟨hp,b,rn,hrn,hend⟩:=hR';have hres':A1x (lk σ.fr) (ov E.β σ.bx) crs=some (p,rvs):=by
   have key:∀{l:List s8} {p:Prop} {vs:List AV},A1x (lk σ.fr) (bk σ.bx) l=some (p,vs)->A1x (lk σ.fr) (ov E.β σ.bx) l=some (p,vs):=λ{l}=>by
    induction l with
    | nil=>intro p vs h; exact h
    | cons x l ih =>
     intro p vs h;cases x with
     | tmp t =>
      simp only[A1x] at h ⊢;cases hl:A1x (lk σ.fr) (bk σ.bx) l with
      | none=>rw[hl] at h; cases h
      | some q=>obtain⟨p',vs'⟩:=q; rw[hl] at h; rw[ih hl]; exact h
     | cell a agg n =>
      simp only[A1x] at h ⊢;cases hld:ldT agg n (A1H (bk σ.bx) (M0 (lk σ.fr) (.t a))) with
      | none=>rw[hld] at h; cases h
      | some q0 =>
       obtain⟨q,r⟩:=q0;obtain⟨l1,l2⟩:=A9f (bx':=ov E.β σ.bx) hld;rw[l2 (l1.ov E.β)];rw[hld] at h;cases hl:A1x (lk σ.fr) (bk σ.bx) l with
       | none=>rw[hl] at h; cases h
       | some q=>obtain⟨p',vs'⟩:=q; rw[hl] at h; rw[ih hl]; exact h
   exact key hres
  obtain⟨us,k1,k2,k3⟩:=B11 hD'.rs (λn c v h1 h2=>(hD'.fr n c v h1).1 h2) hrs hres' hp;obtain⟨G1,vs1,bx1,s1,e1,u1,l1,r1,hE⟩:∃G1 vs1 bx1,RS E.C G1 (ov E.β bx1) w'/\L0 G' w' G1 w'/\(∀i,G1.used i->G'.used i)/\vs1.length=us.length/\(∀(i:Nat) v u,vs1[i]?=some v->us[i]?=some u->RV G1 w' v u)/\B12 E.n0 id E.G0.used rd res wr vs1 bx1 rn hrn:=by
   cases b with
   | false=>exact⟨G',rvs,σ.bx,hD'.rs,L0.refl _ _,λ_ h=>h,k2,k3,hend⟩
   | true =>
    obtain⟨h1,h2⟩:=hend;obtain⟨g1,g2⟩:=A06 (bx':=ov E.β σ.bx) h1;have ge:=g2 (g1.ov E.β);obtain⟨G1,q1,q2,q3,q4⟩:=A15 (M8 (bk σ.bx) rvs).2.2 hD'.rs λq hq=>let ⟨z1,z2⟩:=A3A h1 q hq; ⟨.inl (P3 E.β z1),z2⟩;have h1':(M8 (ov E.β σ.bx) rvs).1:=(by rw[ge]; exact h1);have q4':A4I G' G1 w' (M8 (ov E.β σ.bx) rvs).2.2:=(by rw[ge]; exact q4);obtain⟨m1,m2⟩:=A55 q2 h1' q4';rw[ge] at m1 m2;refine⟨G1,_,_,by rw[A3x]; exact q1,q2,q3,m1.trans k2,λi v u hv hu=>?_,h2⟩;have:=m2 (λi=>us.getD i undef) (λi y hy=>by
     obtain⟨z,hz⟩:∃z,us[i]?=some z:=⟨_,zc (by rw[←k2]; exact (ze.1 hy).1)⟩;simp only[xz,hz,vm];exact k3 i y z hy hz) i v hv
    simp only[xz,hu,vm] at this;exact this
  have hrv:=(RV.tupOf l1 r1).ren hE.res;have hlk:∀y,(¬(id<=y/\y<id+1024))->lkN rn y=none:=λy hf=>by
   cases hl:lkN rn y with
   | none=>rfl
   | some t=>exact (hf (A19 hE.new _ (A0w hl))).elim
  have hfix:∀x,E.G0.used x->(P0 E.n0 rn hrn).ρ x=some x\/(P0 E.n0 rn hrn).ρ x=none:=λx hx=>(A3w (hlk x λ⟨h1,h2⟩=>hid x h1 h2 hx)).symm;refine⟨_,B2i k1,G1.ren (P0 E.n0 rn hrn) E.G0.used,s1.ren λy b' hy=>?_,L0.ren (hD'.ev.trans e1) hfix,hrv,λy hy=>?_⟩
  ·by_cases hk:y∈U8 rd++O4 wr
   ·have hy':E9 (bk (C5 rd)) wr y=some b':=by
     by_cases hw:y∈O4 wr
     ·rw[B0y (B':=E.β) hw]; exact hy
     ·rw[P6 hw] at hy ⊢;rw[B2j hh y (by simpa [hw] using hk)]; exact hy
    obtain⟨x,b,z1,z2,z3⟩:=hE.fin.get y hk b' hy';exact⟨x,b,z1,P3 E.β z2,z3⟩
   ·simp only[zp,not_or] at hk;rw[P6 hk.2] at hy;have hub:=E.rs0.boxNames hy;have hkk:¬J3 y (C5 rd):=λh=>hk.1 (R0.1 h);have hlt:=E.old y hub.1;have hst:(P0 E.n0 rn hrn).ρ y=some y:=by
     show rnF E.n0 rn y=some y;unfold rnF;rw[hlk y λ⟨h1,h2⟩=>hid y h1 h2 hub.1];rw[A2a hE.gone y hlt hkk];simp[hlt]
    refine⟨y,b',hst,?_,BxR.same λi x hx=>L5 (λz hz=>(hfix z hz).imp _root_.id λh=>⟨h,hz⟩) x (hub.2 i x hx)⟩;rw[hE.drop.get y hlt hkk E.β];exact hy
  ·rcases hy with⟨x,hx,hu⟩|hy
   ·by_cases hf:id<=y/\y<id+1024
    ·exact .inr hf
    ·have hx':rnF E.n0 rn y=some x:=hx;rcases A3w (n0:=E.n0) (hlk y hf) with h|h
     ·rw[h] at hx'; cases hx'
     ·have hy:y<E.n0:=by
       unfold rnF at h;rw[hlk y hf] at h;simp only at h;split at h
       ·assumption
       ·cases h
      rw[h] at hx';injection hx' with hx'
      subst hx';exact .inl (hD'.old _ hy (u1 _ hu))
   ·exact .inl hy
def H9.mem{n0:Nat}{bx':List (Nat×Option Bx)}:∀{l:List (Nat×Option Bx)},H9 n0 bx' l->∀q∈l,n0<=q.1\/J3 q.1 bx'
 | [],_,q,hq=>by cases hq
 | (x,b)::l,h,q,hq=>by
  rcases zh.1 hq with rfl|hq
  ·exact h.1
  ·exact H9.mem h.2 q hq
def B2k{f:Nat->Option Bx}{y:Nat}{b:Bx}:∀{rd:List (Nat×Bx)},E9 f (goL rd) y=some b->y∉U8 rd/\f y=some b
 | [],h=>⟨by simp[U8],h⟩
 | (i,b')::l,h=>by
  simp only[goL,E9] at h;obtain⟨h1,h2⟩:=B2k h;have hy:y≠i:=λe=>by subst e; rw[C2] at h2; cases h2
  rw[B6 _ _ _ hy] at h2;exact⟨by simp[U8,hy] at h1 ⊢; exact h1,h2⟩
def C2k{E:O8}{rd:List (Nat×Bx)}{id:Nat}{pv:AV}{u:Value}{l:List (Nat×Option Bx)}{F:Fr}{B:Nat->Option Bx}{U:Nat->Prop}{G':Gh}{a:Act}{w':World}
  (hD':F2 E.C E.N E.D E.n0 E.G0 E.w0 F B U G' a w') (hB:B5q E.β l B) (hv:RV G' w' pv u) (hp:pv.pureB=true) (hd:H9 E.n0 (C5 rd) l) :
  ∃G1,RS E.C G1 (E9 E.β (goL rd)) w'/\L0 E.G0 E.w0 G1 w'/\RV G1 w' pv u/\∀x,G1.used x->E.G0.used x\/(id<=x/\x<id+1024):=by
 have hfix:∀x,E.G0.used x->(P0 E.n0 [] trivial).ρ x=some x\/(P0 E.n0 [] trivial).ρ x=none:=λx hx=>(A3w (show lkN [] x=none from rfl)).symm;refine⟨G'.ren (P0 E.n0 [] trivial) E.G0.used,hD'.rs.ren λy b' hy=>?_,L0.ren hD'.ev hfix,hv.ren (.same _ (I3 _ hp)),λy hy=>?_⟩
 ·obtain⟨h1,h2⟩:=B2k hy;have hub:=E.rs0.boxNames h2;have hlt:=E.old y hub.1;refine⟨y,b',?_,?_,BxR.same λi x hx=>L5 (λz hz=>(hfix z hz).imp _root_.id λh=>⟨h,hz⟩) x (hub.2 i x hx)⟩
  ·show rnF E.n0 [] y=some y;simp[rnF,lkN,T6,hlt]
  ·rcases hB y with h|h
   ·rw[h,h2]
   ·rcases hd.mem _ h with h|h
    ·simp only at h; omega
    ·exact (h1 (R0.1 h)).elim
 ·rcases hy with⟨x,hx,hu⟩|hy
  ·have hx':rnF E.n0 [] y=some x:=hx;simp only[rnF,lkN,T6] at hx';split at hx'
   ·rename_i hy;injection hx' with hx'
    subst hx';exact .inl (hD'.old _ (v_ hy) hu)
   ·cases hx'
  ·exact .inl hy
def B13{P:Program}{f:Nat}{fn:Func}{c:Code}{crs:List s8}{args:List AV}{rd:List (Nat×Bx)}{id:Nat}{o:Except AV (AV×List (Nat×Option Bx))}(Rt:Nat->(Nat->Prop)->St->Prop)(Pn:Nat->AV->St->Prop)
  (hf : P.funcs[f]? = some fn) (hb : fn.body = some c) (hnm : (fn.name == "runtime.NumGoroutine") = false) (hrs : N9 P fn.results.toList = some crs) (hN : args.length <= fn.ntmps)
  (hRt:∀n0 S σ,Rt n0 S σ->∃q,o = .ok q/\A1y n0 id S crs rd q.1 q.2 σ) (hPn:∀n0 pv σ,Pn n0 pv σ->o = .error pv/\pv.pureB=true/\H9 n0 (C5 rd) σ.bx)
  (h:∀E:O8,E.P=P->E.N=fn.ntmps->E.Rt=Rt E.n0 E.G0.used->E.Pn=Pn E.n0->(∀q∈rd,q.1<E.n0/\(q.1<id\/id+1024<=q.1))->id+1024<=E.n0->J8 E.β rd->(∀z,E.G0.used z->z<id\/id+1024<=z)->Wk E [.code (C8 P fn.ntmps c)] ⟨A1Y 0 args,C5 rd,0⟩):Y4 P f args rd id o:=by
 have pl:X1 P f:=⟨fn,hf,hnm,by rw[hb]; rfl⟩;have main:∀(C:Cx P) (G:Gh) (bx:Nat->Option Bx) (w:World) (vs:Array Value) (nb:Nat),RS C G bx w->RVs G w args vs->J8 bx rd->(∀x,nb<=x->¬G.used x)->(∀x,id<=x->x<id+1024->¬G.used x) ->
   Calls P f vs w λe w'=>(∃q,o = .ok q/\∃v G',e = .returned v/\RS C G' (E9 bx q.2) w'/\L0 G w G' w'/\RV G' w' q.1 v/\∀x,G'.used x->G.used x\/(id<=x/\x<id+1024)) \/
    ∃pv,o = .error pv/\∃v G',e = .panicked [{ v:=v,recovered:=false }]/\RS C G' (E9 bx (goL rd)) w'/\L0 G w G' w'/\RV G' w' pv v/\∀x,G'.used x->G.used x\/(id<=x/\x<id+1024):=λC G bx w vs nb hs hv hh hnb hid=>calls_of_wp hf hb<|by
  have own:∀i,max nb (id+1024)<=i->bx i=none:=λi hi=>by
   cases hbi:bx i with
   | none=>rfl
   | some b=>exact (hnb i o_ (hs.boxNames hbi).1).elim
  have old:∀i,G.used i->i<max nb (id+1024):=λi hi=>by
   rcases yi i nb with h|h
   ·omega
   ·exact (hnb i h hi).elim
  let E:O8:=⟨P,C,bx,fn.ntmps,max nb (id+1024),G,w,own,old,hs,[],Rt (max nb (id+1024)) G.used,Pn (max nb (id+1024))⟩
  have hW:=h E rfl rfl rfl rfl (λq hq=>⟨E.old _ (hs.boxNames (hh q hq)).1,by
   have:=(hs.boxNames (hh q hq)).1;rcases yi q.1 id with h|h
   ·exact .inl h
   ·rcases yi q.1 (id+1024) with h'|h'
    ·exact (hid _ h h' this).elim
    ·exact .inr h'⟩) (by show id+1024<=max nb (id+1024); omega) hh (λz hz=>by
   rcases yi z id with h|h
   ·exact .inl h
   ·rcases yi z (id+1024) with h'|h'
    ·exact (hid z h h' hz).elim
    ·exact .inr h')
  have hD:Q3 E ⟨A1Y 0 args,C5 rd,0⟩ G { tmps:=vs++Array.replicate (fn.ntmps - vs.size) undef,defers:=[] } w:=by
   refine⟨L0.refl G w,?_,λi hi=>?_,λi _ hi=>hi,λn c v hl=>?_,?_,rfl⟩
   ·show RS C G (ov bx (C5 rd)) w;rw[A2B hh]; exact hs
   ·have:=E.old i hi;show i<E.n0+0;omega
   ·obtain⟨rfl,_,h3⟩:=A3y hl;simp only[rj] at h3;refine⟨λ_=>?_,λh=>by cases h⟩;have:=hv.2 n v h3;rw[zk] at this ⊢;rw[xy (by rw[←hv.1]; exact (ze.1 h3).1)];exact this
   ·show (vs++Array.replicate (fn.ntmps - vs.size) undef).size=fn.ntmps;have:=hv.1;simp; omega
  refine wp_mono (hW c rfl G _ w hD) λe a w' hq=>?_;have fin:∀σ G',Q3 E σ G' a w'->E.Rt σ->a.defers=[]/\∃v,(results fn a.tmps).run P w' = .ok v w'/\((∃q,o = .ok q/\∃v_1 G',Ending.returned v = .returned v_1/\RS C G' (E9 bx q.2) w'/\L0 G w G' w'/\RV G' w' q.1 v_1/\∀x,G'.used x->G.used x\/(id<=x/\x<id+1024)) \/
    ∃pv,o = .error pv/\∃v_1 G',Ending.returned v = .panicked [{ v:=v_1,recovered:=false }]/\RS C G' (E9 bx (goL rd)) w'/\L0 G w G' w'/\RV G' w' pv v_1/\∀x,G'.used x->G.used x\/(id<=x/\x<id+1024)):=λσ G' hD' hR=>by
   obtain⟨q,ho,hR'⟩:=hRt _ _ _ hR;obtain⟨v,h1,G1,h2,h3,h4,h5⟩:=A68 (E:=E) hrs hh hid hD' hR';exact⟨hD'.defers,v,h1,.inl ⟨q,ho,v,G1,rfl,h2,h3,h4,h5⟩⟩
  cases e with
  | normal=>obtain⟨σ,G',h1,h2⟩:=hq; exact fin σ G' h1 h2
  | ret=>obtain⟨σ,G',h1,h2⟩:=hq; exact fin σ G' h1 h2
  | exit id=>obtain⟨σ,G',h1,h2⟩:=hq; exact h2
  | panic chain =>
   obtain⟨pv,u,σ,F,B,U,G',rfl,h1,h2,h3,h4⟩:=hq;obtain⟨ho,hp,hd⟩:=hPn _ _ _ h4;obtain⟨G1,k1,k2,k3,k4⟩:=C2k (E:=E) (id:=id) h1 h2 h3 hp hd;exact⟨h1.defers,.inr ⟨pv,ho,u,G1,rfl,k1,k2,k3,k4⟩⟩
  | _=>exact hq.elim
 cases o with
 | ok q =>
  refine⟨pl,λC G bx w vs nb hs hv hh hnb hid=>Calls.mono (main C G bx w vs nb hs hv hh hnb hid) λe w' he=>?_⟩;rcases he with⟨q',h1,h2⟩|⟨_,h1,_⟩
  ·injection h1 with h1; subst h1; exact h2
  ·cases h1
 | error pv =>
  refine⟨pl,λC G bx w vs nb hs hv hh hnb hid=>Calls.mono (main C G bx w vs nb hs hv hh hnb hid) λe w' he=>?_⟩;rcases he with⟨_,h1,_⟩|⟨q',h1,h2⟩
  ·cases h1
  ·injection h1 with h1; subst h1; exact h2
def C6j{P:Program}{f:Nat}{fn:Func}{c:Code}{crs:List s8}{args:List AV}{rd:List (Nat×Bx)}{id:Nat}{res:AV}{wr:List (Nat×Option Bx)}
  (hf : P.funcs[f]? = some fn) (hb : fn.body = some c) (hnm : (fn.name == "runtime.NumGoroutine") = false) (hrs : N9 P fn.results.toList = some crs) (hN : args.length <= fn.ntmps)
  (h:∀E:O8,E.P=P->E.N=fn.ntmps->E.Rt=A1y E.n0 id E.G0.used crs rd res wr->(∀q∈rd,q.1<E.n0/\(q.1<id\/id+1024<=q.1))->id+1024<=E.n0->Wk E [.code (C8 P fn.ntmps c)] ⟨A1Y 0 args,C5 rd,0⟩):A2 P f args rd id res wr :=
 B13 (o:=.ok (res,wr)) (λn0 S=>A1y n0 id S crs rd res wr) (λ_ _ _=>False) hf hb hnm hrs hN (λ_ _ _ h=>⟨_,rfl,h⟩) (λ_ _ _ h=>h.elim) λE h1 h2 h3 _ h5 h6 _ _=>h E h1 h2 h3 h5 h6
def A1K(ps:List (Nat×Nat))(r:RR)(acc:List RR):List RR:=match ps with
 | []=>[]
 | _::_=>r::acc
def A1z(F:Fr)(us:List Nat):Prop:=us.all (ceF F)=true
def C2l(acc:List RR)(j:Nat):List (Nat×Nat)->Prop
 | []=>True
 | q::l=>(q.1<j/\q.2<j)/\V5 (A1X acc (j - 1 - q.1)) (A1X acc (j - 1 - q.2))/\C2l acc j l
def C58(acc:List RR)(j:Nat)(ps:List (Nat×Nat)):Prop:=match ps with
 | []=>True
 | q::l=>acc.length=j/\C2l acc j (q::l)
def B2l{acc:List RR}{i:Nat}(h:i<acc.length):A1X acc.reverse i=A1X acc (acc.length - 1 - i):=by
 have h1:acc.reverse[i]?=acc[acc.length - 1 - i]?:=List.getElem?_reverse h;have h2:acc[acc.length - 1 - i]?=some acc[acc.length - 1 - i]:=zc o_;rw[p5 (h1.trans h2),p5 h2]
def B5s{acc:List RR}:∀{ps:List (Nat×Nat)},C2l acc acc.length ps->A86 acc.reverse ps
 | [],_=>trivial
 | q::l,h=>by
  obtain⟨⟨h1,h2⟩,h3,h4⟩:=h;exact⟨by rw[B2l h1,B2l h2]; exact h3,B5s h4⟩
def C2m{acc:List RR}{j:Nat}{ps:List (Nat×Nat)}(h:C58 acc j ps):A86 acc.reverse ps:=by
 cases ps with
 | nil=>trivial
 | cons q l=>obtain⟨rfl,h⟩:=h; exact B5s h
mutual
def go(E:O8):Nat->List Itm->St->Prop
 | 0,k,σ=>Wk E k σ
 | _+1,[],σ=>E.Rt σ
 | n+1,.blk _::k,σ=>go E n k σ
 | _+1,.post p::_,σ=>p σ
 | n+1,.code .skip::k,σ=>go E n k σ
 | n+1,.code (.seq x y)::k,σ=>go E n (.code x::.code y::k) σ
 | n+1,.code (.block id c)::k,σ=>go E n (.code c::.blk id::k) σ
 | n+1,.code (.exit id)::k,σ=>goX E n id k σ
 | _+1,.code .ret::_,σ=>E.Rt σ
 | n+1,.code (.cond o x y)::k,σ=>ceO (lk σ.fr) o=true/\goV E n (M0 (lk σ.fr) o) x y k σ
 | n+1,.code (.reg _ crs ps)::k,σ=>go E n (.ops crs 0 [] ps::k) σ
 | _+1,.code (.loop c)::k,σ=>Wk E (.code (.loop c)::k) σ
 | _+1,.code .bad::k,σ=>Wk E (.code .bad::k) σ
 | n+1,.ops [] j acc ps::k,σ=>C58 acc j ps/\go E n k (σ.bump (1024*j))
 | n+1,.ops (cr::l) j acc ps::k,σ=>A3B (lk σ.fr) cr.g/\goO E n cr.op cr l j acc ps k σ (Y5 (lk σ.fr) cr.g)
def goX(E:O8):Nat->Nat->List Itm->St->Prop
 | 0,id,k,σ=>Wx E id k σ
 | _+1,_,[],_=>False
 | n+1,id,.blk id'::k,σ=>goB E n (decide (id=id')) id k σ
 | n+1,id,.post _::k,σ=>goX E n id k σ
 | n+1,id,.code _::k,σ=>goX E n id k σ
 | n+1,id,.ops _ _ _ _::k,σ=>goX E n id k σ
def goB(E:O8):Nat->Bool->Nat->List Itm->St->Prop
 | 0,b,id,k,σ=>if b then Wk E k σ else Wx E id k σ
 | n+1,true,_,k,σ=>go E n k σ
 | n+1,false,id,k,σ=>goX E n id k σ
def goV(E:O8):Nat->AV->CC->CC->List Itm->St->Prop
 | 0,v,x,y,k,σ=>∃b,v = .bool b/\(b=true->Wk E (.code x::k) σ)/\(b=false->Wk E (.code y::k) σ)
 | n+1,.bool b,x,y,k,σ=>goC E n b x y k σ
 | _+1,_,_,_,_,_=>False
def goC(E:O8):Nat->Bool->CC->CC->List Itm->St->Prop
 | 0,b,x,y,k,σ=>(b=true->Wk E (.code x::k) σ)/\(b=false->Wk E (.code y::k) σ)
 | n+1,true,x,_,k,σ=>go E n (.code x::k) σ
 | n+1,false,_,y,k,σ=>go E n (.code y::k) σ
def goO(E:O8):Nat->COp->CR->List CR->Nat->List RR->List (Nat×Nat)->List Itm->St->Bool->Prop
 | 0,_,_,_,_,_,_,_,_,_=>False
 | n+1,.pick c a b,cr,l,j,acc,ps,k,σ,g =>
  (g=true->(ceO (lk σ.fr) c=true/\(M0 (lk σ.fr) c).isBoolB=true)/\((M0 (lk σ.fr) c).isT=true->ceO (lk σ.fr) a=true/\(M0 (lk σ.fr) a).isBoolB=true)/\((M0 (lk σ.fr) c).isT=false->ceO (lk σ.fr) b=true/\(M0 (lk σ.fr) b).isBoolB=true)) /\
  goR E n cr l j acc ps k σ g (.bool (A9h (M0 (lk σ.fr) c).isT (M0 (lk σ.fr) a).isT (M0 (lk σ.fr) b).isT)) [] []
 | _+1,.call f xs,cr,l,j,acc,ps,k,σ,_=>Wk E (.ops (⟨cr.dst,cr.g,cr.us,.call f xs⟩::l) j acc ps::k) σ
 | _+1,.callv x xs,cr,l,j,acc,ps,k,σ,_=>Wk E (.ops (⟨cr.dst,cr.g,cr.us,.callv x xs⟩::l) j acc ps::k) σ
 | _+1,.cpy x y,cr,l,j,acc,ps,k,σ,_=>Wk E (.ops (⟨cr.dst,cr.g,cr.us,.cpy x y⟩::l) j acc ps::k) σ
 | _+1,.inv m x xs,cr,l,j,acc,ps,k,σ,_=>Wk E (.ops (⟨cr.dst,cr.g,cr.us,.inv m x xs⟩::l) j acc ps::k) σ
 | n+1,op,cr,l,j,acc,ps,k,σ,g=>goS E n cr l j acc ps k σ g (sem (M0 (lk σ.fr)) (bk σ.bx) (E.n0+(σ.k+1024*j)) op)
def goS(E:O8):Nat->CR->List CR->Nat->List RR->List (Nat×Nat)->List Itm->St->Bool->Option (Prop×Rs)->Prop
 | 0,_,_,_,_,_,_,_,_,_=>False
 | _+1,_,_,_,_,_,_,_,_,none=>False
 | n+1,cr,l,j,acc,ps,k,σ,g,some (p,⟨v,rd,wr⟩)=>(g=true->A1z (lk σ.fr) cr.us/\p)/\goR E n cr l j acc ps k σ g v rd wr
def goR(E:O8):Nat->CR->List CR->Nat->List RR->List (Nat×Nat)->List Itm->St->Bool->AV->List (Nat×Bx)->List (Nat×Option Bx)->Prop
 | 0,_,_,_,_,_,_,_,_,_,_,_=>False
 | n+1,cr,l,j,acc,ps,k,σ,g,v,rd,[]=>go E n (.ops l (j+1) (A1K ps ⟨g,v,rd,[]⟩ acc) ps::k) (σ.app cr.dst ⟨g,v,rd,[]⟩)
 | n+1,cr,l,j,acc,ps,k,σ,g,v,rd,q::wr=>goG E n cr l j acc ps k σ g v rd (q::wr)
def goG(E:O8):Nat->CR->List CR->Nat->List RR->List (Nat×Nat)->List Itm->St->Bool->AV->List (Nat×Bx)->List (Nat×Option Bx)->Prop
 | 0,_,_,_,_,_,_,_,_,_,_,_=>False
 | n+1,cr,l,j,acc,ps,k,σ,true,v,rd,wr=>go E n (.ops l (j+1) (A1K ps ⟨true,v,rd,wr⟩ acc) ps::k) (σ.app cr.dst ⟨true,v,rd,wr⟩)
 | n+1,cr,l,j,acc,ps,k,σ,false,_,_,_=>go E n (.ops l (j+1) (A1K ps ⟨false,.nili,[],[]⟩ acc) ps::k) (σ.app cr.dst ⟨false,.nili,[],[]⟩)
end
section
variable {E:O8}
def C6k{l:List CR}{j:Nat}{acc acc':List RR}{k:List Itm}{σ:St}(h:Wk E (.ops l j acc []::k) σ):Wk E (.ops l j acc' []::k) σ:=by
 rcases h with⟨rs,h1,h2,h3⟩|⟨rs,pv,r,h1,h2,h3⟩
 ·exact .inl ⟨rs,h1,trivial,h3⟩
 ·exact .inr ⟨rs,pv,r,h1,trivial,h3⟩
def A0g{l:List CR}{j:Nat}{acc:List RR}{ps:List (Nat×Nat)}{r:RR}{k:List Itm}{σ:St}(h:Wk E (.ops l j (A1K ps r acc) ps::k) σ):Wk E (.ops l j (r::acc) ps::k) σ:=by
 cases ps with
 | nil=>exact C6k h
 | cons p ps=>exact h
def C59:∀n:Nat,(∀k σ,go E n k σ->Wk E k σ)/\(∀id k σ,goX E n id k σ->Wx E id k σ)/\(∀b id k σ,goB E n b id k σ->if b then Wk E k σ else Wx E id k σ) /\
  (∀v x y k σ,goV E n v x y k σ->∃b,v = .bool b/\(b=true->Wk E (.code x::k) σ)/\(b=false->Wk E (.code y::k) σ)) /\
  (∀b x y k σ,goC E n b x y k σ->(b=true->Wk E (.code x::k) σ)/\(b=false->Wk E (.code y::k) σ)) /\
  (∀cr l j acc ps k σ,A3B (lk σ.fr) cr.g->goO E n cr.op cr l j acc ps k σ (Y5 (lk σ.fr) cr.g)->Wk E (.ops (cr::l) j acc ps::k) σ) /\
  (∀cr l j acc ps k σ op p v rd wr,cr.op=op->A3B (lk σ.fr) cr.g->sem (M0 (lk σ.fr)) (bk σ.bx) (E.n0+(σ.k+1024*j)) op=some (p,⟨v,rd,wr⟩)->goS E n cr l j acc ps k σ (Y5 (lk σ.fr) cr.g) (some (p,⟨v,rd,wr⟩))->Wk E (.ops (cr::l) j acc ps::k) σ) /\
  (∀cr l j acc ps k σ v rd wr,A3B (lk σ.fr) cr.g->(Y5 (lk σ.fr) cr.g=true->ExR E.P cr.us (E.n0+σ.k+1024*j) (lk σ.fr) (bk σ.bx) cr.op ⟨true,v,rd,wr⟩)->goR E n cr l j acc ps k σ (Y5 (lk σ.fr) cr.g) v rd wr->Wk E (.ops (cr::l) j acc ps::k) σ) /\
  (∀cr l j acc ps k σ v rd wr,A3B (lk σ.fr) cr.g->(Y5 (lk σ.fr) cr.g=true->ExR E.P cr.us (E.n0+σ.k+1024*j) (lk σ.fr) (bk σ.bx) cr.op ⟨true,v,rd,wr⟩)->goG E n cr l j acc ps k σ (Y5 (lk σ.fr) cr.g) v rd wr->Wk E (.ops (cr::l) j acc ps::k) σ):=by
 intro n;induction n with
 | zero =>
  refine⟨λk σ h=>by simpa only[go] using h,λid k σ h=>by simpa only[goX] using h,λb id k σ h=>by simpa only[goB] using h,λv x y k σ h=>by simpa only[goV] using h,λb x y k σ h=>by simpa only[goC] using h,
   λcr l j acc ps k σ hg h=>by simp only[goO] at h,λcr l j acc ps k σ op p v rd wr hop hg hs h=>by simp only[goS] at h,λcr l j acc ps k σ v rd wr hg hx h=>by simp only[goR] at h,λcr l j acc ps k σ v rd wr hg hx h=>by simp only[goG] at h⟩
 | succ n ih =>
  obtain⟨i1,i2,i3,i4,i5,i6,i7,i8,i9⟩:=ih;refine⟨λk σ h=>?_,λid k σ h=>?_,λb id k σ h=>?_,λv x y k σ h=>?_,λb x y k σ h=>?_,λcr l j acc ps k σ hg h=>?_,λcr l j acc ps k σ op p v rd wr hop hg hs h=>?_,λcr l j acc ps k σ v rd wr hg hx h=>?_,λcr l j acc ps k σ v rd wr hg hx h=>?_⟩
  ·cases k with
   | nil=>simp only[go] at h; exact h
   | cons x k =>
    cases x with
    | blk id=>simp only[go] at h; exact i1 k σ h
    | post p=>simp only[go] at h; exact h
    | code c =>
     cases c with
     | skip=>simp only[go] at h; exact C56 (i1 k σ h)
     | seq x y=>simp only[go] at h; exact A2w (i1 _ σ h)
     | block id c=>simp only[go] at h; exact B5r (i1 _ σ h)
     | exit id=>simp only[go] at h; exact C57 (i2 id k σ h)
     | ret=>simp only[go] at h; exact C6f h
     | cond o x y =>
      simp only[go] at h;obtain⟨b,e,h1,h2⟩:=i4 _ x y k σ h.2;exact B4U h.1 e h1 h2
     | reg d crs ps=>simp only[go] at h; exact C6g (i1 _ σ h)
     | loop c=>simpa only[go] using h
     | bad=>simpa only[go] using h
    | ops l j acc ps =>
     cases l with
     | nil=>simp only[go] at h; exact C6h (C2m h.1) (i1 k _ h.2)
     | cons cr l=>simp only[go] at h; exact i6 cr l j acc ps k σ h.1 h.2
  ·cases k with
   | nil=>simp only[goX] at h
   | cons x k =>
    cases x with
    | blk id' =>
     simp only[goX] at h;have:=i3 _ id k σ h;show (if id=id' then Wk E k σ else Wx E id k σ);simpa only[decide_eq_true_eq] using this
    | post p=>simp only[goX] at h; exact i2 id k σ h
    | code c=>simp only[goX] at h; exact i2 id k σ h
    | ops=>simp only[goX] at h; exact i2 id k σ h
  ·cases b with
   | true=>simp only[goB] at h; simpa using i1 k σ h
   | false=>simp only[goB] at h; simpa using i2 id k σ h
  ·cases v with
   | bool b=>simp only[goV] at h; exact⟨b,rfl,i5 b x y k σ h⟩
   | _=>simp only[goV] at h
  ·cases b with
   | true=>simp only[goC] at h; exact⟨λ_=>i1 _ σ h,λh=>by cases h⟩
   | false=>simp only[goC] at h; exact⟨(λh=>by cases h),λ_=>i1 _ σ h⟩
  ·have other:∀op,cr.op=op->goS E n cr l j acc ps k σ (Y5 (lk σ.fr) cr.g) (sem (M0 (lk σ.fr)) (bk σ.bx) (E.n0+(σ.k+1024*j)) op)->Wk E (.ops (cr::l) j acc ps::k) σ:=λop hop h=>by
    cases hs:sem (M0 (lk σ.fr)) (bk σ.bx) (E.n0+(σ.k+1024*j)) op with
    | none=>rw[hs] at h; cases n<;>simp only[goS] at h
    | some q =>
     obtain⟨p,v,rd,wr⟩:=q;rw[hs] at h;exact i7 cr l j acc ps k σ op p v rd wr hop hg hs h
   obtain⟨dst,g,us,op⟩:=cr;cases op with
   | pick c a b =>
    simp only[goO] at h;refine i8 _ l j acc ps k σ _ [] [] hg (λhc=>?_) h.2;obtain⟨⟨q1,q2⟩,q3,q4⟩:=h.1 hc;exact .pick true c a b q1 q2 q3 q4
   | call f xs=>simpa only[goO] using h
   | callv x xs=>simpa only[goO] using h
   | cpy x y=>simpa only[goO] using h
   | inv m x xs=>simpa only[goO] using h
   | _=>simp only[goO] at h; exact other _ rfl h
  ·subst hop;simp only[goS] at h;refine i8 cr l j acc ps k σ v rd wr hg (λhc=>?_) h.2;obtain⟨q1,q2⟩:=h.1 hc;exact .sem true cr.op p v rd wr q1 (by rw[yq]; exact hs) q2
  ·have ex:∀b,Y5 (lk σ.fr) cr.g=b->(b=true->ExR E.P cr.us (E.n0+σ.k+1024*j) (lk σ.fr) (bk σ.bx) cr.op ⟨b,v,rd,wr⟩):=λb hb hb'=>by subst hb'; exact hx hb
   cases wr with
   | nil =>
    simp only[goR] at h;exact A7E (r:=⟨Y5 (lk σ.fr) cr.g,v,rd,[]⟩) ⟨hg,rfl,λhc=>ex _ rfl hc,λ_=>rfl⟩ (A0g (i1 _ _ h))
   | cons q wr=>simp only[goR] at h; exact i9 cr l j acc ps k σ v rd (q::wr) hg hx h
  ·cases hc:Y5 (lk σ.fr) cr.g with
   | true =>
    rw[hc] at h;simp only[goG] at h;exact A7E (r:=⟨true,v,rd,wr⟩) ⟨hg,hc.symm,λ_=>hx hc,λh=>by cases h⟩ (A0g (i1 _ _ h))
   | false =>
    rw[hc] at h;simp only[goG] at h;exact A7E (r:=⟨false,.nili,[],[]⟩) ⟨hg,hc.symm,(λh=>by cases h),λ_=>rfl⟩ (A0g (i1 _ _ h))
def A3(n:Nat){k:List Itm}{σ:St}(h:go E n k σ):Wk E k σ:=(C59 n).1 k σ h
end
def s9(B:Nat->Option Bx):List (Nat×Bx)->Prop
 | []=>True
 | (i,b)::l=>B i=some b/\s9 B l
def s9.has{B:Nat->Option Bx}:∀{l:List (Nat×Bx)},s9 B l->J8 B l
 | [],_=>J8.nil
 | (i,b)::l,h=>λq hq=>by
  rcases zh.1 hq with rfl|hq
  ·exact h.1
  ·exact h.2.has q hq
section
variable {E:O8} {σ:St} {k:List Itm} {P:Program}
def D9(hP:E.P=P){dst:Option Nat}{us:List Nat}{f:Nat}{xs:List L3}{l:List CR}{j:Nat}{acc:List RR}{ps:List (Nat×Nat)}{args:List AV}{rd:List (Nat×Bx)}{v:AV}{wr:List (Nat×Option Bx)}
  (ha:xs.map (M0 (lk σ.fr))=args) (hc:A2 P f args rd (E.n0+(σ.k+1024*j)) v wr) (hu:A1z (lk σ.fr) us) (hh:s9 (bk σ.bx) rd) (h:Wk E (.ops l (j+1) (A1K ps ⟨true,v,rd,wr⟩ acc) ps::k) (σ.app dst ⟨true,v,rd,wr⟩)) :
  Wk E (.ops (⟨dst,none,us,.call f xs⟩::l) j acc ps::k) σ:=by
 subst hP ha;refine A7E (r:=⟨true,v,rd,wr⟩) ⟨trivial,rfl,λ_=>.call f xs _ hu (.inl ⟨?_,hh.has⟩),λh=>by cases h⟩ (A0g h);rw[yq]; exact hc
def C2n(hP:E.P=P){dst:Option Nat}{us:List Nat}{f:Nat}{xs:List L3}{l:List CR}{j:Nat}{acc:List RR}{ps:List (Nat×Nat)}{args args':List AV}{p:Prop}{fz rd:List (Nat×Bx)}{v:AV}{wr:List (Nat×Option Bx)}
  (ha:xs.map (M0 (lk σ.fr))=args) (hr:M8 (bk σ.bx) args=(p,args',fz)) (hp:p) (hc:A2 P f args' rd (E.n0+(σ.k+1024*j)) v wr) (hu:A1z (lk σ.fr) us) (hh:s9 (bk σ.bx) rd) (hd:n9 (U8 rd) (U8 fz))
  (h:Wk E (.ops l (j+1) (A1K ps ⟨true,v,fz++rd,wrF fz++wr⟩ acc) ps::k) (σ.app dst ⟨true,v,fz++rd,wrF fz++wr⟩)) :
  Wk E (.ops (⟨dst,none,us,.call f xs⟩::l) j acc ps::k) σ:=by
 subst hP ha;refine A7E (r:=⟨true,v,fz++rd,wrF fz++wr⟩) ⟨trivial,rfl,λ_=>.call f xs _ hu (.inr ⟨rd,wr,?_⟩),λh=>by cases h⟩ (A0g h);rw[hr,yq];exact⟨hp,hc,hh.has,λq hq q1 hq1 e=>U2.1 hd q.1 (zw.2 ⟨q,hq,rfl⟩) (zw.2 ⟨q1,hq1,e.symm⟩),rfl,rfl⟩
def H8(hP:E.P=P){dst:Option Nat}{g:Option (Nat×Bool)}{us:List Nat}{f:Nat}{xs:List L3}{l:List CR}{j:Nat}{acc:List RR}{ps:List (Nat×Nat)}{args:List AV}{rd:List (Nat×Bx)}{v:AV}
  (hg:A3B (lk σ.fr) g) (ha:xs.map (M0 (lk σ.fr))=args) (hc:Y5 (lk σ.fr) g=true->A2 P f args rd (E.n0+(σ.k+1024*j)) v []/\A1z (lk σ.fr) us/\s9 (bk σ.bx) rd)
  (h:Wk E (.ops l (j+1) (A1K ps ⟨Y5 (lk σ.fr) g,v,rd,[]⟩ acc) ps::k) (σ.app dst ⟨Y5 (lk σ.fr) g,v,rd,[]⟩)) :
  Wk E (.ops (⟨dst,g,us,.call f xs⟩::l) j acc ps::k) σ:=by
 subst hP ha;refine A7E (r:=⟨Y5 (lk σ.fr) g,v,rd,[]⟩) ⟨hg,rfl,λhcc=>?_,λ_=>rfl⟩ (A0g h);obtain⟨h1,h2,h3⟩:=hc hcc;refine .call f xs _ h2 (.inl ⟨?_,h3.has⟩);rw[yq]; exact h1
def F9(hP:E.P=P){dst:Option Nat}{us:List Nat}{f:Nat}{caps:List AV}{x:L3}{xs:List L3}{l:List CR}{j:Nat}{acc:List RR}{ps:List (Nat×Nat)}{args:List AV}{rd:List (Nat×Bx)}{v:AV}{wr:List (Nat×Option Bx)}
  (hx:M0 (lk σ.fr) x = .fn f caps) (ha:xs.map (M0 (lk σ.fr))=args) (hc:A2 P f (args++caps) rd (E.n0+(σ.k+1024*j)) v wr) (hu:A1z (lk σ.fr) us) (hh:s9 (bk σ.bx) rd) (h:Wk E (.ops l (j+1) (A1K ps ⟨true,v,rd,wr⟩ acc) ps::k) (σ.app dst ⟨true,v,rd,wr⟩)) :
  Wk E (.ops (⟨dst,none,us,.callv x xs⟩::l) j acc ps::k) σ:=by
 subst hP ha;refine A7E (r:=⟨true,v,rd,wr⟩) ⟨trivial,rfl,λ_=>.callv x xs f caps _ hu hx (.inl ⟨?_,hh.has⟩),λh=>by cases h⟩ (A0g h);rw[yq]; exact hc
def B5t(hP:E.P=P){dst:Option Nat}{us:List Nat}{f:Nat}{caps:List AV}{x:L3}{xs:List L3}{l:List CR}{j:Nat}{acc:List RR}{ps:List (Nat×Nat)}{args:List AV}{rd:List (Nat×Bx)}{v:AV}{wr:List (Nat×Option Bx)}
  (hx:M0 (lk σ.fr) x = .fnb f caps) (ha:xs.map (M0 (lk σ.fr))=args) (hc:A2 P f (caps++args) rd (E.n0+(σ.k+1024*j)) v wr) (hu:A1z (lk σ.fr) us) (hh:s9 (bk σ.bx) rd) (h:Wk E (.ops l (j+1) (A1K ps ⟨true,v,rd,wr⟩ acc) ps::k) (σ.app dst ⟨true,v,rd,wr⟩)) :
  Wk E (.ops (⟨dst,none,us,.callv x xs⟩::l) j acc ps::k) σ:=by
 subst hP ha;refine A7E (r:=⟨true,v,rd,wr⟩) ⟨trivial,rfl,λ_=>.callb x xs f caps _ hu hx (.inl ⟨?_,hh.has⟩),λh=>by cases h⟩ (A0g h);rw[yq]; exact hc
def D4{b:Bool}{n:Nat}{x y:CC}(h1:b=true->go E n (.code x::k) σ)(h2:b=false->go E n (.code y::k) σ):goC E (n+1) b x y k σ:=by
 cases b with
 | true=>simpa only[goC] using h1 rfl
 | false=>simpa only[goC] using h2 rfl
def A7{b:Bool}{n:Nat}{x y:CC}(hb:b=true)(h1:go E n (.code x::k) σ):goC E (n+1) b x y k σ:=by subst hb; simpa only[goC] using h1
def A0{b:Bool}{n:Nat}{x y:CC}(hb:b=false)(h1:go E n (.code y::k) σ):goC E (n+1) b x y k σ:=by subst hb; simpa only[goC] using h1
def S4{n0 id:Nat}{S:Nat->Prop}{res:AV}{vs:List AV}{bx':List (Nat×Option Bx)}(h:tupOf vs=res)(hp:res.pureB=true)(hd:H9 n0 [] bx'):B12 n0 id S [] res [] vs bx' [] trivial :=
 ⟨by rw[h]; exact .same _ (I3 _ hp),trivial,hd,trivial,trivial,trivial⟩
end
section
variable {R:Rn} {S:Nat->Prop}
def B9X{k k':IntKind}{a b:Int}:O9 R S (.int k a) (.int k' b)↔k=k'/\a=b :=
 ⟨λh=>by cases h; exact⟨rfl,rfl⟩,λ⟨h1,h2⟩=>by subst h1 h2; exact .same _ trivial⟩
def B7W{a b:Bool}:O9 R S (.bool a) (.bool b)↔a=b :=
 ⟨λh=>by cases h; rfl,λh=>by subst h; exact .same _ trivial⟩
def B9Y{a b:List UInt8}:O9 R S (.str a) (.str b)↔a=b :=
 ⟨λh=>by cases h; rfl,λh=>by subst h; exact .same _ trivial⟩
def B7X:O9 R S .nilp .nilp↔True:=⟨λ_=>trivial,λ_=>.same _ trivial⟩
def B7Y:O9 R S .nilf .nilf↔True:=⟨λ_=>trivial,λ_=>.same _ trivial⟩
def B7Z:O9 R S .nili .nili↔True:=⟨λ_=>trivial,λ_=>.same _ trivial⟩
def B7a:O9 R S .nils .nils↔True:=⟨λ_=>trivial,λ_=>.same _ trivial⟩
def B4W{ys:List AV}:O9 R S .nils (.sl ys)↔ys=[] :=
 ⟨λh=>by cases h; rfl,λh=>by subst h; exact .nils⟩
def C2o{xs ys:List AV}:O9 R S (.sl xs) (.sl ys)↔xs=ys/\E8 (R.fix S) xs :=
 ⟨λh=>by cases h with|same _ h=>exact⟨rfl,h⟩,λ⟨h1,h2⟩=>by subst h1; exact .same _ h2⟩
def B7b{xs ys:List AV}:O9 R S (.cptr xs) (.cptr ys)↔xs=ys/\E8 (R.fix S) xs :=
 ⟨λh=>by cases h with|same _ h=>exact⟨rfl,h⟩,λ⟨h1,h2⟩=>by subst h1; exact .same _ h2⟩
def B9Z{a b i i' o o':Nat}:O9 R S (.ptr a i o) (.ptr b i' o')↔i=i'/\o=o'/\(R.ρ b=some a\/(a=b/\R.ρ a=none/\S a)):=by
 constructor
 ·intro h;cases h with
  | same _ h=>exact⟨rfl,rfl,h.imp _root_.id λh=>⟨rfl,h⟩⟩
  | ptr _ _ _ _ h=>exact⟨rfl,rfl,.inl h⟩
 ·rintro⟨rfl,rfl,h|⟨rfl,h⟩⟩
  ·exact .ptr _ _ _ _ h
  ·exact .same _ (.inr h)
def B9a{a b i i' o o':Nat}:O9 R S (.bsl a i o) (.bsl b i' o')↔i=i'/\o=o'/\(R.ρ b=some a\/(a=b/\R.ρ a=none/\S a)):=by
 constructor
 ·intro h;cases h with
  | same _ h=>exact⟨rfl,rfl,h.imp _root_.id λh=>⟨rfl,h⟩⟩
  | bsl _ _ _ _ h=>exact⟨rfl,rfl,.inl h⟩
 ·rintro⟨rfl,rfl,h|⟨rfl,h⟩⟩
  ·exact .bsl _ _ _ _ h
  ·exact .same _ (.inr h)
def B9b{cs ds:List AV}:O9 R S (.agg cs) (.agg ds)↔N8 R S cs ds :=
 ⟨λh=>by
  cases h with
  | same _ h=>exact N8.same h
  | agg _ _ h=>exact h,.agg _ _⟩
def B9c{cs ds:List AV}:O9 R S (.tup cs) (.tup ds)↔N8 R S cs ds :=
 ⟨λh=>by
  cases h with
  | same _ h=>exact N8.same h
  | tup _ _ h=>exact h,.tup _ _⟩
def C2p{f g:Nat}{cs ds:List AV}:O9 R S (.fn f cs) (.fn g ds)↔f=g/\N8 R S cs ds :=
 ⟨λh=>by
  cases h with
  | same _ h=>exact⟨rfl,N8.same h⟩
  | fn _ _ _ h=>exact⟨rfl,h⟩,λ⟨h1,h2⟩=>by subst h1; exact .fn _ _ _ h2⟩
def B9d{f g:Nat}{cs ds:List AV}:O9 R S (.fnb f cs) (.fnb g ds)↔f=g/\N8 R S cs ds :=
 ⟨λh=>by
  cases h with
  | same _ h=>exact⟨rfl,N8.same h⟩
  | fnb _ _ _ h=>exact⟨rfl,h⟩,λ⟨h1,h2⟩=>by subst h1; exact .fnb _ _ _ h2⟩
def B4X{t u:Nat}{x y:AV}:O9 R S (.iface t x) (.iface u y)↔t=u/\O9 R S x y :=
 ⟨λh=>by
  cases h with
  | same _ h=>exact⟨rfl,.same _ h⟩
  | iface _ _ _ h=>exact⟨rfl,h⟩,λ⟨h1,h2⟩=>by subst h1; exact .iface _ _ _ h2⟩
def B9e:N8 R S [] []↔True:=⟨λ_=>trivial,λ_=>.nil⟩
def B7c{x y:AV}{l r:List AV}:N8 R S (x::l) (y::r)↔O9 R S x y/\N8 R S l r :=
 ⟨λh=>by cases h with|cons _ _ _ _ h hl=>exact⟨h,hl⟩,λ⟨h,hl⟩=>.cons _ _ _ _ h hl⟩
def B4{xs ys:List AV}(h:xs=ys)(hp:F1 xs=true):N8 R S xs ys:=by subst h; exact N8.same (A5 _ hp)
def L2{x y:AV}(h:x=y)(hp:x.pureB=true):O9 R S x y:=by subst h; exact .same _ (I3 _ hp)
def C2q{xs xs':List AV}{d d':AV}{ro ro' frz frz':Bool}:BxR R S ⟨xs,d,ro,frz⟩ ⟨xs',d',ro',frz'⟩↔N8 R S xs xs'/\d.cells.length=d'.cells.length/\ro=ro'/\frz=frz' :=
 ⟨λ⟨h1,h2,h3,h4⟩=>⟨h1,h2,h3,h4⟩,λ⟨h1,h2,h3,h4⟩=>⟨h1,h2,h3,h4⟩⟩
theorem C5A(n0:Nat)(l:List (Nat×Nat))(h:F3 l)(y:Nat):(P0 n0 l h).ρ y=rnF n0 l y:=rfl
def E4{α:Type}{f:α->AV}(h:∀x,(f x).pureB=true):∀l:List α,F1 (l.map f)=true
 | []=>rfl
 | x::l=>by simp only[yj,F1,h x,E4 h l,Bool.and_self]
def B3{a b:List AV}(h1:F1 a=true)(h2:F1 b=true):F1 (a++b)=true:=by
 induction a with
 | nil=>exact h2
 | cons x l ih =>
  simp only[F1,yn,yz] at h1 ⊢;exact⟨h1.1,ih h1.2⟩
end
def wrap64{x:Int}(h : -9223372036854775808<=x/\x<=9223372036854775807):IntKind.i64.wrap x=x:=IntWalk.i64_in _ h
def S5{i n0:Nat}(h:i<n0)(t:Nat):(i=n0+t)=False:=by simp; omega
def O0{i n0:Nat}(h:i<n0)(t:Nat):(n0+t=i)=False:=by simp; omega
def O1{i n0:Nat}(h:i<n0):(i=n0)=False:=by simp; omega
def L6{i n0:Nat}(h:i<n0):(n0=i)=False:=by simp; omega
def A2x{i id:Nat}(h:i<id\/id+1024<=i):(i=id)=False:=by simp; omega
def A0h{i id:Nat}(h:i<id\/id+1024<=i):(id=i)=False:=by simp; omega
def C6l{id n0:Nat}(h:id+1024<=n0):(id<n0)=True:=by simp; omega
def C5B{id n0:Nat}(h:id+1024<=n0)(t:Nat):(id=n0+t)=False:=by simp; omega
def C2r{id n0:Nat}(h:id+1024<=n0)(t:Nat):(n0+t=id)=False:=by simp; omega
def C2s{id n0:Nat}(h:id+1024<=n0):(id=n0)=False:=by simp; omega
def B9f{id n0:Nat}(h:id+1024<=n0):(n0=id)=False:=by simp; omega
def lf{i n0 id:Nat}(h:i<n0/\(i<id\/id+1024<=i)):(∀t,(i=n0+t)=False)/\(∀t,(n0+t=i)=False)/\(i=n0)=False/\(n0=i)=False/\i<n0/\(i=id)=False/\(id=i)=False :=
 ⟨S5 h.1,O0 h.1,O1 h.1,L6 h.1,h.1,A2x h.2,A0h h.2⟩
def A4{id n0:Nat}(h:id+1024<=n0):(id<n0)=True/\(∀t,(id=n0+t)=False)/\(∀t,(n0+t=id)=False)/\(id=n0)=False/\(n0=id)=False:=⟨C6l h,C5B h,C2r h,C2s h,B9f h⟩
def B2m(c a:Bool):A9h c a false=(c&&a):=by cases c<;>cases a<;>rfl
def B4Y(c b:Bool):A9h c true b=(c||b):=by cases c<;>cases b<;>rfl
attribute [simp] B0n go goX goB goV goC goO goS goR goG mmT mmI St.app St.bump B0z o5 lk bk M0 ceF ceO Y5 A3B A1K A1z sem A1Y C5 A1H A1s A2Z B0o hiT loT A0f C50 U6 C51 rsv t7 A0P A1t M8 wrF B2H Bx.el Bx.sz ldT stT unT W9 B2K C2c AV.isAgg AV.isStr AV.isBoolB AV.isT AV.cells AV.one B2m B4Y B9A U8 O4 C58 C2l V5 n9 A9m A1X s9 A0e A38 n8 A4H
attribute [simp] B10 A67 H9 A1w A4J F3 T6 J3 lkN rnF C5A B9X B7W B9Y B7X B7Y B7Z B7a B4W C2o B7b B9Z B9a B9b B9c C2p B9d B4X B9e B7c C2q tupOf A2A A4Z E9 T4 AV.pureB F1
def A4a{P:Program}{f:Nat}{fn:Func}{cc:CC}{crs:List s8}{args:List AV}{rd:List (Nat×Bx)}{id:Nat}{res:AV}{wr:List (Nat×Option Bx)}
  (hf : P.funcs[f]? = some fn) (hcc : fn.body.map (C8 P fn.ntmps) = some cc) (hnm : (fn.name == "runtime.NumGoroutine") = false) (hrs : N9 P fn.results.toList = some crs) (hN : args.length <= fn.ntmps)
  (h:∀E:O8,E.P=P->E.Rt=A1y E.n0 id E.G0.used crs rd res wr->(∀q∈rd,q.1<E.n0/\(q.1<id\/id+1024<=q.1))->id+1024<=E.n0->Wk E [.code cc] ⟨A1Y 0 args,C5 rd,0⟩):A2 P f args rd id res wr:=by
 obtain⟨c,hb,rfl⟩:=zn.1 hcc;exact C6j hf hb hnm hrs hN λE h1 _ h3 h4 h5=>h E h1 h3 h4 h5
def A5C(F:Fr)(B:Nat->Option Bx)(crs:List s8)(vs:List AV):Prop:=match A1x F B crs with
 | some (p,us)=>p/\us=vs
 | none=>False
def E6{n0 id:Nat}{S:Nat->Prop}{crs:List s8}{rd:List (Nat×Bx)}{res:AV}{wr:List (Nat×Option Bx)}{σ:St}{vs:List AV}(h:A5C (lk σ.fr) (bk σ.bx) crs vs)(rn:List (Nat×Nat))(hrn:F3 rn)(he:B12 n0 id S rd res wr vs σ.bx rn hrn):A1y n0 id S crs rd res wr σ:=by
 unfold A5C at h;unfold A1y;cases hr:A1x (lk σ.fr) (bk σ.bx) crs with
 | none=>rw[hr] at h; exact h.elim
 | some q =>
  obtain⟨p,us⟩:=q;rw[hr] at h;obtain⟨hp,rfl⟩:=h;exact⟨hp,false,rn,hrn,he⟩
def C2t{n0 id:Nat}{S:Nat->Prop}{crs:List s8}{rd:List (Nat×Bx)}{res:AV}{wr:List (Nat×Option Bx)}{σ:St}{vs vs':List AV}{q:Prop}{fz:List (Nat×Bx)}(h:A5C (lk σ.fr) (bk σ.bx) crs vs)(hr:M8 (bk σ.bx) vs=(q,vs',fz))(hq:q)
  (rn:List (Nat×Nat)) (hrn:F3 rn) (he:B12 n0 id S rd res wr vs' (o5 σ.bx (wrF fz)) rn hrn):A1y n0 id S crs rd res wr σ:=by
 unfold A5C at h;unfold A1y;cases hv:A1x (lk σ.fr) (bk σ.bx) crs with
 | none=>rw[hv] at h; exact h.elim
 | some z =>
  obtain⟨p,us⟩:=z;rw[hv] at h;obtain⟨hp,rfl⟩:=h;refine⟨hp,true,rn,hrn,?_⟩;show (M8 (bk σ.bx) us).1/\_;rw[hr];exact⟨hq,he⟩
def A89(B:Nat->Option Bx)(vs vs':List AV)(fz:List (Nat×Bx)):Prop:=(M8 B vs).1/\(M8 B vs).2.1=vs'/\(M8 B vs).2.2=fz
def A89.eq{B:Nat->Option Bx}{vs vs':List AV}{fz:List (Nat×Bx)}(h:A89 B vs vs' fz):M8 B vs=((M8 B vs).1,vs',fz):=by
 obtain⟨_,h2,h3⟩:=h;rw[←h2,←h3]
def A0x{E:O8}{σ:St}{k:List Itm}{P:Program}(hP:E.P=P){dst:Option Nat}{us:List Nat}{f:Nat}{xs:List L3}{l:List CR}{j:Nat}{acc:List RR}{ps:List (Nat×Nat)}{args args':List AV}{fz rd:List (Nat×Bx)}{v:AV}{wr:List (Nat×Option Bx)}
  (ha:xs.map (M0 (lk σ.fr))=args) (hc:A2 P f args' rd (E.n0+(σ.k+1024*j)) v wr) (hr:A89 (bk σ.bx) args args' fz) (hu:A1z (lk σ.fr) us) (hh:s9 (bk σ.bx) rd) (hd:n9 (U8 rd) (U8 fz))
  (h:Wk E (.ops l (j+1) (A1K ps ⟨true,v,fz++rd,wrF fz++wr⟩ acc) ps::k) (σ.app dst ⟨true,v,fz++rd,wrF fz++wr⟩)) :
  Wk E (.ops (⟨dst,none,us,.call f xs⟩::l) j acc ps::k) σ:=C2n hP ha hr.eq hr.1 hc hu hh hd h
def I6{n0 id:Nat}{S:Nat->Prop}{crs:List s8}{rd:List (Nat×Bx)}{res:AV}{wr:List (Nat×Option Bx)}{σ:St}{vs vs':List AV}{fz:List (Nat×Bx)}(h:A5C (lk σ.fr) (bk σ.bx) crs vs)(hr:A89 (bk σ.bx) vs vs' fz)
  (rn:List (Nat×Nat)) (hrn:F3 rn) (he:B12 n0 id S rd res wr vs' (o5 σ.bx (wrF fz)) rn hrn):A1y n0 id S crs rd res wr σ:=C2t h hr.eq hr.1 rn hrn he
@[simp] theorem C2u {α:Type} (f:α->AV) (l:List α):List.take l.length (l.map f)=l.map f:=zm s_
attribute [simp] A1x A5C A89
def G0(W:World):Gh:={ fz:=λb o=>∃u,W.cell? ⟨b,o,none⟩=some u,used:=λ_=>False,bm:=λ_=>none,nl:=λ_=>False }
def C0{P:Program}(W:World)(ht:A37 P W):Cx P:=⟨W.heap.size,W,(G0 W).fz,λ_ hb=>ht.below hb⟩
def RS.start{P:Program}(W:World)(ht:A37 P W):RS (C0 W ht) (G0 W) (λ_=>none) W :=
 ⟨Below.refl _ _,zy _,λ_ _ h=>h,λ_ _ h _=>h,λ_ _ h=>by (cases h),λ_ _ h=>by (cases h),λ_ h=>h.elim,λ_ _ _ h=>by (cases h),λ_ _ _ _ _ h=>by (cases h),λ_ _ _ h=>by (cases h)⟩
def A5D(p:TypeId->AV->Prop):List TypeId->List AV->Prop
 | [],[]=>True
 | t::ts,y::ys=>p t y/\A5D p ts ys
 | _,_=>False
def A0y(P:Program):Nat->TypeId->AV->Prop
 | 0,_,_=>False
 | n+1,t,x=>match P.underlying t with
  | some .bool=>∃b,x = .bool b
  | some (.int k)=>∃m,x = .int k m/\(Lit.int k m).wf=true
  | some .string=>∃s:List UInt8,x = .str s/\s.length<=reachBytes
  | some (.slice e)=>∃xs:List AV,x = .sl xs/\xs.length<=reachBytes/\∀y∈xs,A0y P n e y
  | some (.struct fs)=>∃ys:List AV,x = .agg (ys.flatMap AV.cells)/\A5D (A0y P n) (fs.toList.map (·.type)) ys
  | _=>False
mutual
def Z8{H:Type}:DataW H->AV
 | .lit (.int k n)=>.int k n
 | .lit (.bool b)=>.bool b
 | .lit (.string s)=>.str s
 | .nil=>.sl []
 | .slice elems _=>.sl (B5u elems)
 | .agg parts=>.agg (A7S parts)
 | _=>.nili
def B5u{H:Type}:List (DataW H)->List AV
 | []=>[]
 | d::r=>Z8 d::B5u r
def A7S{H:Type}:List (DataW H)->List AV
 | []=>[]
 | d::r=>(Z8 d).cells++A7S r
end
def A9q{H:Type}:∀l:List (DataW H),B5u l=l.map Z8
 | []=>rfl
 | d::r=>by simp only[B5u,yj,A9q r]
def A6s{H:Type}:∀l:List (DataW H),A7S l=(l.map Z8).flatMap AV.cells
 | []=>rfl
 | d::r=>by simp only[A7S,yj,xx,A6s r]
def A6t(P:Program):List Field->Nat->Nat->Bool
 | [],k,n=>k==n
 | f::r,k,n=>f.offset==k&&A6t P r (k+P.cellsOf f.type) n
def A9r(P:Program)(l:List TypeId)(t:TypeId):Bool:=match P.underlying t with
 | some .bool=>true
 | some (.int _)=>true
 | some .string=>true
 | some (.slice e)=>l.contains e&&decide (0<P.bytesOf e)
 | some (.struct fs)=>fs.toList.all (λf=>l.contains f.type)&&A6t P fs.toList 0 (P.cellsOf t)
 | _=>false
def B2n{P:Program}:∀{l:List Field} {k n:Nat},A6t P l k n=true->k<=n
 | [],k,n,h=>by simp[A6t] at h; omega
 | f::r,k,n,h=>by
  simp only[A6t,yn] at h;have:=B2n h.2;omega
def A7T(W:World)(a:AV)(cs:List Value):Prop:=a.cells.length=cs.length/\∀(j:Nat) y,a.cells[j]?=some y->RV (G0 W) W y (cs.getD j undef)
def A3G(l:List Nat):Prop:=∀n∈l,n<=reachBytes
def A3G.of{l:List Nat}(h:l.all (·<=reachBytes)=true):A3G l:=λn hn=>by simpa using xi.1 h n hn
def A9s{H:Type}{P:Program}{e:TypeId}:∀{l:List (DataW H)},A3G (DataW.weightsAll P e l)->∀d∈l,A3G (d.weights P e)
 | [],_,d,hd=>by cases hd
 | x::l,h,d,hd=>by
  simp only[DataW.weightsAll] at h;rcases zh.1 hd with rfl|hd
  ·exactλn hn=>h n (t_ hn)
  ·exact A9s (l:=l) (λn hn=>h n (t_ hn)) d hd
section
variable {H:Type} {enc:TypeId×Value->H} {P:Program} {W:World} {sp:Nat->Bool} {l:List TypeId}
def A9t{n:Nat}(ih:∀t cs (x:DataW H×List MemPlace),t∈l->DataW.trod enc P W 0 sp true n t cs=some x->A3G (x.1.weights P t)->A0y P n t (Z8 x.1)/\A7T W (Z8 x.1) cs){cs:List Value}:
  ∀(fl:List Field) (xs:List (DataW H×List MemPlace)) (k:Nat),xs.length=fl.length->(∀f∈fl,f.type∈l)->A6t P fl k cs.length=true->(∀(i:Nat) f,fl[i]?=some f->DataW.trod enc P W 0 sp true n f.type ((cs.drop f.offset).take (P.cellsOf f.type))=xs[i]?) ->
  A3G (DataW.weightsEach P (fl.map (·.type)) (xs.map (·.1))) ->
  A5D (A0y P n) (fl.map (·.type)) (xs.map λx=>Z8 x.1)/\k+((xs.map λx=>Z8 x.1).flatMap AV.cells).length=cs.length/\∀(j:Nat) y,((xs.map λx=>Z8 x.1).flatMap AV.cells)[j]?=some y->RV (G0 W) W y (cs.getD (k+j) undef)
 | [],[],k,_,_,hl,_,_=>by
  simp[A6t] at hl;exact⟨trivial,v_ hl,λj y hy=>by simp at hy⟩
 | [],_::_,_,hx,_,_,_,_=>by simp at hx
 | _::_,[],_,hx,_,_,_,_=>by simp at hx
 | f::r,x::xs,k,hlen,hm,hl,ht,hw=>by
  simp only[A6t,yn,beq_iff_eq] at hl;obtain⟨h1,h2⟩:=hl;have hx:=ht 0 f rfl;simp only[yj,DataW.weightsEach] at hw;obtain⟨f1,f2,f3⟩:=ih _ _ _ (hm f s_) hx λn hn=>hw n (t_ hn);obtain⟨g1,g2,g3⟩:=A9t ih r xs (k+P.cellsOf f.type) (v_ hlen) (λf' hf'=>hm f' (t_ hf')) h2 (λi f' hf'=>by simpa using ht (i+1) f' (v_ hf')) λn hn=>hw n (t_ hn);have hle:=B2n h2;have hal:(Z8 x.1).cells.length=P.cellsOf f.type:=by rw[f2,zz,ye,h1]; omega
  refine⟨⟨f1,g1⟩,by simp only[yj,xx,zx]; omega,λj y hy=>?_⟩;simp only[yj,xx] at hy;by_cases hj:j<(Z8 x.1).cells.length
  ·rw[yo hj] at hy;have:=f3 j y hy;have e:((cs.drop f.offset).take (P.cellsOf f.type)).getD j undef=cs.getD (k+j) undef:=by
    simp only[xz];rw[vk o_,yh,h1]
   rw[e] at this;exact this
  ·rw[yr o_] at hy;have:=g3 _ y hy;rw[show k+P.cellsOf f.type+(j - (Z8 x.1).cells.length)=k+j by omega] at this;exact this
def B5v(hl:l.all (A9r P l)=true):∀(n:Nat) (t:TypeId) (cs:List Value) (x:DataW H×List MemPlace),t∈l->DataW.trod enc P W 0 sp true n t cs=some x->A3G (x.1.weights P t)->A0y P n t (Z8 x.1)/\A7T W (Z8 x.1) cs
 | 0,t,cs,x,_,h,_=>by simp[DataW.trod] at h
 | n+1,t,cs,x,ht,h,hw=>by
  have hk:=xi.1 hl t ht;have ih:=B5v hl n;have one:∀(a:AV) (v:Value),a.cells=[a]->RV (G0 W) W a v->A7T W a [v]:=λa v ha hr=>by
   refine⟨by rw[ha]; rfl,λj y hy=>?_⟩;rw[ha] at hy;cases j with
   | zero=>simp at hy; subst hy; exact hr
   | succ j=>simp at hy
  unfold A9r at hk;unfold A0y;cases hu:P.underlying t with
  | none=>rw[hu] at hk; cases hk
  | some d =>
   rw[hu] at hk;cases d with
   | bool =>
    obtain⟨b,rfl,rfl⟩:=DataW.trod_bool hu h;exact⟨⟨b,rfl⟩,one _ _ rfl (.bool b)⟩
   | int k =>
    obtain⟨m,rfl,rfl,hwf⟩:=DataW.trod_int hu h;exact⟨⟨m,rfl,hwf⟩,one _ _ rfl (.int k m)⟩
   | string =>
    obtain⟨s,rfl,rfl,hs⟩:=DataW.trod_string hu h;obtain⟨⟨d⟩⟩:=s;exact⟨⟨d,rfl,hw _ (by simp[DataW.weights])⟩,one _ _ rfl (.str d)⟩
   | struct fs =>
    simp only[yn] at hk;obtain⟨xs,m,hm,rfl,hcl,hxl,hf⟩:=DataW.trod_struct hu h;obtain rfl:m=n:=by omega
    simp only[DataW.weights,hu] at hw;obtain⟨g1,g2,g3⟩:=A9t (cs:=cs) ih fs.toList xs 0 (v_ hxl) (λf hf=>by simpa using xi.1 hk.1 f hf) (by rw[hcl]; exact hk.2) (λi f hf'=>hf i f (v_ hf')) hw;have e:Z8 (DataW.agg (xs.map (·.1))) = .agg ((xs.map λx=>Z8 x.1).flatMap AV.cells):=(by simp only[Z8,A6s,vq]; rfl);simp only[e];refine⟨⟨_,rfl,g1⟩,?_,λj y hy=>?_⟩
    ·simp only[AV.cells]; omega
    ·have:=g3 j y hy;rw[xe] at this;exact this
   | slice e =>
    simp only[yn,decide_eq_true_eq] at hk;have he:e∈l:=(v_ hk.1);rcases DataW.trod_slice hu h with⟨rfl,rfl⟩|⟨a,len,cap,elems,rest,m,hm,rfl,rfl,hb,hlc,hcm,hel,hE,-,-⟩
    ·refine⟨⟨[],rfl,s_,λy hy=>by cases hy⟩,one _ _ rfl ?_⟩;exact .sl [] none 0 0 (λ_ _=>undef) (zy _) (by simp[maxLen]) (λ_=>⟨rfl,rfl⟩) (λi x hi=>by simp at hi) (λa i x j y _ hi=>by simp at hi) (λa i x j y _ hi=>by simp at hi) (λi x j y hi=>by simp at hi)
    ·obtain rfl:m=n:=by omega
     simp only[DataW.weights,hu] at hw;have hlen0:(elems.length+rest.length)*P.bytesOf e<=reachBytes:=(by simpa using hw _ (za ..));have hlen1:elems.length<=reachBytes:=by
      have:elems.length*1<=(elems.length+rest.length)*P.bytesOf e:=Nat.mul_le_mul o_ hk.2;omega
     have hwe:A3G (DataW.weightsAll P e (elems.map (·.1))):=λn hn=>hw n (t_ hn);have HH:∀i x,elems[i]?=some x->∃cs,(A0y P m e (Z8 x.1)/\A7T W (Z8 x.1) cs)/\cs.length=P.cellsOf e/\∀j,j<P.cellsOf e->W.cell? ((a.add (i*P.cellsOf e)).add j)=cs[j]?:=λi x hx=>by
      have hi:i<elems.length:=(ze.1 hx).1;have:=hE i o_;rw[hx,uh] at this;obtain⟨cs,c1,c2⟩:=this;obtain⟨q1,q2⟩:=ih e cs x he c2 (A9s hwe x.1 (zw.2 ⟨x,zg hx,rfl⟩));obtain⟨-,k2,k3⟩:=World.cells?_some c1;exact⟨cs,⟨q1,q2⟩,k2,k3⟩
     have eav:Z8 (DataW.slice (elems.map (·.1)) (rest.map (·.1))) = .sl (elems.map λx=>Z8 x.1):=(by simp only[Z8,A9q,vq]; rfl);simp only[eav];have hget:∀(i:Nat) y,(elems.map λx=>Z8 x.1)[i]?=some y->∃x,elems[i]?=some x/\y=Z8 x.1:=λi y hy=>by
      rw[ym,zn] at hy;obtain⟨x,hx,rfl⟩:=hy;exact⟨x,hx,rfl⟩
     have hadd:∀i j,(a.add (i*P.cellsOf e)).add j=a.add (i*P.cellsOf e+j):=λi j=>by
      clear ih one HH hE h hw;unfold Addr.add;generalize i*P.cellsOf e=n;by_cases hj:j=0
      ·subst hj; simp
      ·by_cases hn:n=0
       ·subst hn; simp
       ·have:n+j≠0:=by omega
        simp[hj,hn,yq]
     have hcell:∀(i:Nat) y (j:Nat) z,(elems.map λx=>Z8 x.1)[i]?=some y->y.cells[j]?=some z->∃u,W.cell? (a.add (i*P.cellsOf e+j))=some u/\RV (G0 W) W z u:=λi y j z hy hz=>by
      obtain⟨x,hx,rfl⟩:=hget i y hy;obtain⟨cs,⟨_,k1,k2⟩,k3,k4⟩:=HH i x hx;have hj:j<cs.length:=(by rw[←k1]; exact (ze.1 hz).1);have h5:=k4 j o_;rw[hadd,zc hj] at h5;have h6:=k2 j z hz;rw[xz,zc hj] at h6;exact⟨_,h5,h6⟩
     refine⟨⟨_,rfl,v_ hlen1,λy hy=>?_⟩,one _ _ rfl ?_⟩
     ·obtain⟨i,hi⟩:=List.getElem?_of_mem hy;obtain⟨x,hx,rfl⟩:=hget i y hi;obtain⟨_,h,_⟩:=HH i x hx;exact h.1
     ·have hlen:(elems.map λx=>Z8 x.1).length=len:=(v_ hel);have:=RV.sl (G:=G0 W) (w:=W) (elems.map λx=>Z8 x.1) (some a) cap (P.cellsOf e) (λi j=>(W.cell? (a.add (i*P.cellsOf e+j))).getD undef) (by rw[hlen]; exact hlc) hcm (λh=>by cases h)
       (λi y hy=>by
        obtain⟨x,hx,rfl⟩:=hget i y hy;obtain⟨cs,⟨_,k1,k2⟩,k3,k4⟩:=HH i x hx;rw[k1,k3])
       (λa' i y j z ha hy hz=>by
        injection ha with ha; subst ha
        obtain⟨u,hu,hr⟩:=hcell i y j z hy hz;have h2:=A9Z hu;rw[Y2,A1b] at h2;exact⟨_,h2⟩)
       (λa' i y j z ha hy hz=>by
        injection ha with ha; subst ha
        obtain⟨u,hu,hr⟩:=hcell i y j z hy hz;rw[hu]; rfl)
       (λi y j z hy hz=>by
        obtain⟨u,hu,hr⟩:=hcell i y j z hy hz;rw[hu]; exact hr)
      rw[hlen] at this;exact this
   | _=>cases hk
def C5C(hl:l.all (A9r P l)=true){r:Reach}{b0:Nat}{t:TypeId}(ht:t∈l){v:Value}{d:DataW H}{ps:List MemPlace}(hval:Value.okWide P W r b0 t v)(hd:DataW.Trod enc P W 0 sp true t v d ps)(hw:A3G (d.weights P t)):
  (∃n,A0y P n t (Z8 d))/\RV (G0 W) W (Z8 d) v:=by
 obtain⟨n,hn⟩:=hd;obtain⟨h1,h2,h3⟩:=B5v hl n t _ _ ht hn hw;refine⟨⟨n,h1⟩,?_⟩;have hk:=xi.1 hl t ht;simp only at h1 h2 h3;generalize Z8 d=a at *;cases n with
 | zero=>exact h1.elim
 | succ n =>
  unfold A9r at hk;unfold A0y at h1;have one:v.cells = #[v]->a.cells=[a]->RV (G0 W) W a v:=λhv ha=>by
   have:=h3 0 a (by rw[ha]; rfl);rw[hv] at this;exact this
  cases hu:P.underlying t with
  | none=>rw[hu] at hk; cases hk
  | some q =>
   rw[hu] at hk h1;cases q with
   | bool=>obtain⟨b,rfl⟩:=WideShapes.okWide_bool hu hval; obtain⟨_,rfl⟩:=h1; exact one rfl rfl
   | int k=>obtain⟨b,rfl⟩:=WideShapes.okWide_int hu hval; obtain⟨_,rfl,_⟩:=h1; exact one rfl rfl
   | string=>obtain⟨b,rfl⟩:=WideShapes.okWide_string hu hval; obtain⟨_,rfl,_⟩:=h1; exact one rfl rfl
   | slice e=>obtain⟨a',len,cap,rfl⟩:=WideShapes.okWide_slice hu hval; obtain⟨_,rfl,_⟩:=h1; exact one rfl rfl
   | struct fs =>
    obtain⟨ys,rfl,_⟩:=h1;simp only[Value.okWide,hu] at hval;obtain⟨cs,rfl,_⟩:=hval;refine .agg _ cs (by simpa [AV.cells,Value.cells] using h2) λi y hy=>?_;have:=h3 i y hy;simpa [Value.cells,xz,zk] using this
   | _=>cases hk
end
def B5w(P:Program)(t:TypeId)(a:AV):Prop:=∃n,A0y P n t a
section
variable {H:Type} {enc:TypeId×Value->H} {P:Program} {W W':World} {l:List TypeId}
def B5x(hl:l.all (A9r P l)=true){sp:Nat->Bool}{r:Reach}{b0:Nat}:∀{ts:List TypeId} {vs:List Value} {ds:List (DataW H)} {ps:List MemPlace},(∀t∈ts,t∈l)->(∀(j:Nat) t v,ts[j]?=some t->vs[j]?=some v->Value.okWide P W r b0 t v) ->
  DataW.TrodAll enc P W 0 sp true ts vs ds ps->A3G (DataW.weightsEach P ts ds)->A5D (B5w P) ts (ds.map Z8)/\ds.length=vs.length/\ds.length=ts.length/\∀(i:Nat) y,(ds.map Z8)[i]?=some y->RV (G0 W) W y (vs.getD i undef)
 | [],[],[],ps,_,_,_,_=>⟨trivial,rfl,rfl,λi y hy=>by simp at hy⟩
 | t::ts,v::vs,d::ds,ps,hm,hv,h,hw=>by
  obtain⟨p,q,h1,h2,rfl⟩:=h;simp only[DataW.weightsEach] at hw;obtain⟨⟨n,f1⟩,f2⟩:=C5C hl (hm t s_) (hv 0 t v rfl rfl) h1 λn hn=>hw n (t_ hn);obtain⟨g1,g2,g3,g4⟩:=B5x hl (λt ht=>hm t (t_ ht)) (λj t v hj hj'=>hv (j+1) t v (v_ hj) (v_ hj')) h2 λn hn=>hw n (t_ hn);refine⟨⟨⟨n,f1⟩,g1⟩,t_ g2,t_ g3,λi y hy=>?_⟩;cases i with
  | zero=>simp at hy; subst hy; exact f2
  | succ i=>exact g4 i y (v_ hy)
 | [],[],_::_,_,_,_,h,_=>h.elim
 | [],_::_,_,_,_,_,h,_=>h.elim
 | _::_,[],_,_,_,_,h,_=>h.elim
 | _::_,_::_,[],_,_,_,h,_=>h.elim
def A9u(hlaid:laidOutB P=true):∀{ts:List TypeId} {vs:List Value} {ds:List (DataW H)} {ps:List MemPlace},(∀t∈ts,P.readableRec t=true/\t<P.types.size)->(∀x∈ps,x.block<W.heap.size)->Below W.heap.size W W' ->
  DataW.TrodAll enc P W 0 (λ_=>true) true ts vs ds ps->DataW.TrodAll enc P W' 0 (λb=>decide (b<W.heap.size)) true ts vs ds ps
 | [],[],[],ps,_,_,_,h=>h
 | t::ts,v::vs,d::ds,ps,hm,hlt,hb,h=>by
  obtain⟨p,q,h1,h2,rfl⟩:=h;exact⟨p,q,Below.trod hlaid (hm t s_).1 (hm t s_).2 h1 hb λx hx=>hlt x (t_ hx),A9u hlaid (λt ht=>hm t (t_ ht)) (λx hx=>hlt x (t_ hx)) hb h2,rfl⟩
 | [],[],_::_,_,_,_,_,h=>h.elim
 | [],_::_,_,_,_,_,_,h=>h.elim
 | _::_,[],_,_,_,_,_,h=>h.elim
 | _::_,_::_,[],_,_,_,_,h=>h.elim
def B9g{f:Nat}{fn:Func}{s:ChangeSpec}{apart fresh handsOn:Bool}{base:Nat}{args:Array Value}{ds gs:List (DataW H)}{before:List MemPlace}{tb:TypeId}
  (hl:l.all (A9r P l)=true) (hlaid:laidOutB P=true) (hts:fn.params.toList.all (λt=>l.contains t&&(P.readableRec t&&decide (t<P.types.size)))=true)
  (hrt:fn.resultTypes = #[tb]) (htb:P.underlying tb=some .bool) (hsv:s.vars=[])
  (hs:∀(ds:List (DataW H)),ds.length=fn.params.size->s.fn H ds={ results:=[.lit (.bool true)],args:=ds })
  (main:∀xs:List AV,A5D (B5w P) fn.params.toList xs->xs=ds.map Z8->A2 P f xs [] 0 (.bool true) [])
  (hsz:(DataW.weightsEach P (fn.params.toList++s.plain.varTypes P) (ds++gs)).all (·<=reachBytes)=true)
  (hval:∀(j:Nat) t v,fn.params[j]?=some t->args[j]?=some v->Value.okWide P W .any base t v)
  (hW:DataW.Whole enc P fn.params.toList s.vars apart W args.toList ds gs before) (htab:A37 P W) :
  Calls P f args W λe W'=>∃v,e = .returned v/\s.post enc P fn apart fresh handsOn false W args v W':=by
 have hW':=hW;obtain⟨p,q,hA,hV,rfl,-,-⟩:=hW;rw[hsv] at hV;have hts':∀t∈fn.params.toList,t∈l/\P.readableRec t=true/\t<P.types.size:=λt ht=>by
  have:=xi.1 hts t ht;simpa using this
 have hgs:gs=[]/\q=[]:=by
  cases gs with
  | nil=>exact⟨rfl,hV⟩
  | cons g gs=>exact hV.elim
 obtain⟨rfl,rfl⟩:=hgs;have hvt:s.plain.varTypes P=[]:=by simp[DataSpec.varTypes,ChangeSpec.plain,hsv]
 rw[hvt,wg,wg] at hsz;obtain⟨f1,f2,f3,f4⟩:=B5x hl (λt ht=>(hts' t ht).1) (λj t v hj hj'=>hval j t v (v_ hj) (v_ hj')) hA (A3G.of hsz);refine ((main _ f1 rfl).2 (C0 W htab) (G0 W) (λ_=>none) W args 0 (RS.start W htab) ⟨v_ f2,λi y hy=>?_⟩ (λq hq=>by cases hq) (λ_ _ h=>h) (λ_ _ _ h=>h)).mono λe W' he=>?_
 ·have:=f4 i y hy;simpa [xz,zk] using this
 ·obtain⟨v,G',rfl,r1,r2,r3,r4⟩:=he;cases r3
  have hb:Below W.heap.size W W':=r1.below;have e1:s.fn H (ds++[])={ results:=[.lit (.bool true)],args:=ds }:=by rw[wg]; exact hs ds (v_ f3)
  refine⟨_,rfl,ds,[],p++[],[],p,[],hW',?_,?_,?_,hb.frame _,λh=>by cases h⟩
  ·rw[e1,hrt];exact⟨[],[],⟨1,by simp[DataW.trod,Value.cells,htb]⟩,rfl,rfl⟩
  ·rw[e1];exact A9u hlaid (λt ht=>(hts' t ht).2) (λx hx=>hW'.lt x (t_ hx)) hb hA
  ·rw[e1,hsv];rfl
end
section
variable {P:Program} {t:TypeId} {n:Nat} {x:AV}
def B2o{k:IntKind}(hu:P.underlying t=some (.int k))(h:A0y P n t x):∃m,x = .int k m/\(Lit.int k m).wf=true:=by
 cases n with
 | zero=>exact h.elim
 | succ n=>unfold A0y at h; rw[hu] at h; exact h
def A3H(hu:P.underlying t=some .string)(h:A0y P n t x):∃s:List UInt8,x = .str s/\s.length<=reachBytes:=by
 cases n with
 | zero=>exact h.elim
 | succ n=>unfold A0y at h; rw[hu] at h; exact h
def B14{e:TypeId}(hu:P.underlying t=some (.slice e))(h:A0y P n t x):∃m xs,n=m+1/\x = .sl xs/\xs.length<=reachBytes/\∀y∈xs,A0y P m e y:=by
 cases n with
 | zero=>exact h.elim
 | succ n=>unfold A0y at h; rw[hu] at h; obtain⟨xs,h1,h2,h3⟩:=h; exact⟨n,xs,rfl,h1,h2,h3⟩
def B15{fs:Array Field}(hu:P.underlying t=some (.struct fs))(h:A0y P n t x):∃m ys,n=m+1/\x = .agg (ys.flatMap AV.cells)/\A5D (A0y P m) (fs.toList.map (·.type)) ys:=by
 cases n with
 | zero=>exact h.elim
 | succ n=>unfold A0y at h; rw[hu] at h; obtain⟨ys,h1,h2⟩:=h; exact⟨n,ys,rfl,h1,h2⟩
def R7{p:TypeId->AV->Prop}{t:TypeId}{ts:List TypeId}{ys:List AV}(h:A5D p (t::ts) ys):∃y r,ys=y::r/\p t y/\A5D p ts r:=by
 cases ys with
 | nil=>exact h.elim
 | cons y r=>exact⟨y,r,rfl,h.1,h.2⟩
def A3z{p:TypeId->AV->Prop}{ys:List AV}(h:A5D p [] ys):ys=[]:=by
 cases ys with
 | nil=>rfl
 | cons y r=>exact h.elim
def A2c{α:Type}{f:α->AV}:∀{xs:List AV},(∀y∈xs,∃a,y=f a)->∃l:List α,xs=l.map f
 | [],_=>⟨[],rfl⟩
 | y::r,h=>by
  obtain⟨a,rfl⟩:=h y s_;obtain⟨l,rfl⟩:=A2c (xs:=r) λz hz=>h z (t_ hz);exact⟨a::l,rfl⟩
end
def C5D(P:Program)(t:TypeId):List TypeId:=match P.underlying t with
 | some (.slice e)=>[e]
 | some (.struct fs)=>fs.toList.map (·.type)
 | _=>[]
def B9h(P:Program):Nat->List TypeId->List TypeId
 | 0,l=>l
 | n+1,l=>B9h P n (l++(l.flatMap (C5D P)).eraseDups.filter λt=>!l.contains t)
def A1e{E:O8}{σ:St}{k:List Itm}{dst:Option Nat}{g:Option (Nat×Bool)}{us:List Nat}{op:COp}{l:List CR}{j:Nat}{acc:List RR}{ps:List (Nat×Nat)}(v:AV)(hg:A3B (lk σ.fr) g)
  (h1:Y5 (lk σ.fr) g=true->Wk E (.ops (⟨dst,none,us,op⟩::l) j acc ps::k) σ)
  (h2:Y5 (lk σ.fr) g=false->Wk E (.ops l (j+1) (A1K ps ⟨false,v,[],[]⟩ acc) ps::k) (σ.app dst ⟨false,v,[],[]⟩)):Wk E (.ops (⟨dst,g,us,op⟩::l) j acc ps::k) σ:=by
 cases hc:Y5 (lk σ.fr) g with
 | true =>
  rcases h1 hc with⟨rs,r1,r2,r3⟩|⟨rs,pv,r1,r2,r3⟩
  ·cases rs with
   | nil=>exact r1.elim
   | cons r rs =>
    obtain⟨⟨o1,o2,o3,o4⟩,r1⟩:=r1;exact .inl ⟨r::rs,⟨⟨hg,o2.trans hc.symm,o3,o4⟩,r1⟩,r2,r3⟩
  ·cases rs with
   | nil=>exact .inr ⟨[],pv,r1,⟨hg,hc,r2.2.2⟩,r3⟩
   | cons r rs =>
    obtain⟨⟨o1,o2,o3,o4⟩,r2⟩:=r2;exact .inr ⟨r::rs,pv,r1,⟨⟨hg,o2.trans hc.symm,o3,o4⟩,r2⟩,r3⟩
 | false=>exact A7E (r:=⟨false,v,[],[]⟩) ⟨hg,hc.symm,(λh=>by cases h),λ_=>rfl⟩ (A0g (h2 hc))
section
variable {E:O8} {σ:St} {k:List Itm}
def D5.frz(n:Nat){x x':AV}{fz:List (Nat×Bx)}(hx:lk σ.fr n=some (true,x))(hp:(M8 (bk σ.bx) [x]).1)(h1:(M8 (bk σ.bx) [x]).2.1=[x'])(h2:(M8 (bk σ.bx) [x]).2.2=fz):D5 E σ ⟨(n,true,x')::σ.fr,o5 σ.bx (wrF fz),σ.k⟩:=λG a w hD=>by
 obtain⟨g1,g2⟩:=A06 (bx':=ov E.β σ.bx) hp;have ge:=g2 (g1.ov E.β);obtain⟨G1,q1,q2,q3,q4⟩:=A15 (M8 (bk σ.bx) [x]).2.2 hD.rs λq hq=>let ⟨z1,z2⟩:=A3A hp q hq; ⟨.inl (P3 E.β z1),z2⟩;have h1':(M8 (ov E.β σ.bx) [x]).1:=by rw[ge]; exact hp
 have q4':A4I G G1 w (M8 (ov E.β σ.bx) [x]).2.2:=by rw[ge]; exact q4
 obtain⟨m1,m2⟩:=A55 q2 h1' q4';rw[ge] at m1 m2;have hxr:=(hD.fr n true x hx).1 rfl;have hxr':RV G1 w x' (a.tmps.getD n undef):=m2 (λ_=>a.tmps.getD n undef) (λi y hy=>by
  cases i with
  | zero=>simp at hy; subst hy; exact hxr
  | succ i=>simp at hy) 0 x' (by rw[h1]; rfl)
 subst h2;refine⟨G1,hD.ev.trans q2,?_,λid h=>hD.used id (q3 id h),λid hi h=>hD.old id hi (q3 id h),λm c v hm=>?_,hD.size,hD.defers⟩
 ·show RS E.C G1 (ov E.β (o5 σ.bx (wrF (M8 (bk σ.bx) [x]).2.2))) w;rw[A3x]; exact q1
 ·simp only[lk] at hm;split at hm
  ·rename_i he;subst he;simp only[zd,zi] at hm;obtain⟨rfl,rfl⟩:=hm;exact⟨λ_=>hxr',λh=>by cases h⟩
  ·exact⟨λhc=>((hD.fr m c v hm).1 hc).mono q2,(hD.fr m c v hm).2⟩
def C6m{X:Operand}{d:Nat}(h:opd X=some (.t d)):X = .tmp d:=by
 cases X<;>simp[opd] at h
 subst h; rfl
def B9i{X:Operand}(w:World)(h:opd X=some (.c .nils)):X = .const (.slice none 0 0):=by
 cases X with
 | const v =>
  simp only[opd,zn] at h;obtain⟨x,h1,h2⟩:=h;injection h2 with h2
  subst h2;have:=B4E (G:=⟨λ_ _=>False,λ_=>False,λ_=>none,λ_=>False⟩) (w:=w) h1;cases this
  rfl
 | _=>simp[opd] at h
def B9j{P:Program}{op:Op}{d:Nat}(w:World)(h:N0 P op=some (.bin .eql (some [8]) (.t d) (.c .nils))):∃t e t',op = .binOp .eql t (.tmp d) (.const (.slice none 0 0)) t'/\P.underlying t=some (.slice e):=by
 have hop:∃o t x y t',op = .binOp o t x y t':=by
  unfold N0 at h;split at h
  all_goals first|exact⟨_,_,_,_,_,rfl⟩|skip
  all_goals exfalso
  all_goals try simp only[U7,A0r,A0s,A1I,A0t,A0u,A05] at h
  all_goals repeat' split at h
  all_goals first|cases h; done|(refine (A4U h ?_).elim; intro a h; cases h; done)
 obtain⟨o,t,x,y,t',rfl⟩:=hop;simp only[N0] at h;split at h
 ·rename_i x' y' hx hy;split at h
  ·cases h
  ·split at h
   ·rename_i ks hk;split at h
    ·injection h with h
     injection h with h1 h2 h3 h4
     injection h2 with h2
     have:=X0 hk 8 (by rw[h2]; simp);omega
    ·cases h
   ·cases h
  ·rename_i e ht;injection h with h
   injection h with h1 h2 h3 h4
   subst h1 h3 h4;rw[C6m hx,B9i w hy];exact⟨t,e,t',rfl,ht⟩
  ·split at h
   ·simp at h
   ·simp at h
  ·cases h
 ·cases h
def B9k{s d e:Nat}{xs:List AV}(hs:lk σ.fr s=some (true,.sl xs))(hd:d≠e)
  (h1:xs=[]->Wk E k ⟨(e,true,.bool true)::(d,true,.sl xs)::σ.fr,σ.bx,σ.k+2048⟩) (h2:Wk E k ⟨(e,true,.bool false)::(d,true,.sl xs)::σ.fr,σ.bx,σ.k+2048⟩) :
  Wk E (.code (.reg false [⟨some d,none,[s],.mv (.t s)⟩,⟨some e,none,[d],.bin .eql (some [8]) (.t d) (.c .nils)⟩] [])::k) σ:=λc hc G a w hD=>by
 obtain⟨id,ops,rfl,hg⟩:=A5A hc;unfold p7 at hg;split at hg
 ·cases hg
 ·rename_i cs hcs;simp only[CC.reg.injEq,true_and,and_true] at hg;subst hg;obtain⟨hlen,hget⟩:=A17 hcs;have hsz:ops.size=2:=by simpa using hlen.symm
  obtain⟨o0,ho0⟩:∃o,ops[0]?=some o:=⟨_,yf o_⟩;obtain⟨o1,ho1⟩:∃o,ops[1]?=some o:=⟨_,yf o_⟩;obtain⟨c0,hc0,hr0⟩:=hget 0 o0 (v_ ho0);obtain⟨c1,hc1,hr1⟩:=hget 1 o1 (v_ ho1);simp only[yt,zd] at hc0;simp only[xw,yt,zd] at hc1;subst hc0 hc1;refine wp_region ?_;rw[hsz,show List.range 2=[0,1] from rfl,wpOps_cons];refine A9k (id:=E.n0+σ.k) (nb:=E.n0+σ.k) (r:=⟨true,.sl xs,[],[]⟩) hD ho0 hr0 ⟨trivial,rfl,λ_=>?_,λh=>by cases h⟩ (λx hx _ h=>absurd (hD.used _ h) o_) o_ (λx hx h=>absurd (hD.used _ h) o_) λG1 u1 w1 hD1=>?_
  ·refine .sem true (.mv (.t s)) True (.sl xs) [] [] (by simp[ceF,hs]) ?_ trivial;simp[sem,M0,hs]
  ·rw[wpOps_cons];have hcr:=hr1;unfold A0l at hr1;split at hr1
   ·rename_i cc g hcomp hgd;split at hr1
    ·rename_i hdst;injection hr1 with hr1
     injection hr1 with e1 e2 e3 e4
     subst e2 e4;obtain⟨t,el,t',hop,ht⟩:=B9j w hcomp;have hval:=F2.opd hD1 (X:=.tmp d) (x:=.t d) rfl λn hn=>by
      injection hn with hn
      subst hn;simp[ceF,A1v,C2]
     have hv2:M0 (A1v (lk σ.fr) (some d) ⟨true,.sl xs,[],[]⟩) (.t d) = .sl xs:=(by simp[M0,A1v,C2]);rw[hv2] at hval;have hwant:=A7z hD1 (o:=o1) (g:=none) hgd trivial;refine A80 ho1 hwant ?_;have fin:∀b:Bool,(b=true->xs=[])->(execOp (a.put o0.dst u1).eval o1).run E.P w1 = .ok (.value (.bool b)) w1->o1.wp E.P (a.put o0.dst u1) w1 (λa w=>wpOps E.P ops (A9M E (WW E k).1 (WW E k).2) [] a w) (A9M E (WW E k).1 (WW E k).2):=λb hb hrun=>by
      unfold Oper.wp;rw[hrun,Oper.upon_value];show A9M E (WW E k).1 (WW E k).2 .normal _ _;have hdN:∀q,o1.dst=some q->q<E.N:=λq hq=>by
       simp only[yn] at hdst;have:=hdst.1;rw[hq] at this;simpa using this
      have hD2:=F2.put hD1 (dst:=o1.dst) (r:=⟨true,.bool b,[],[]⟩) (u:=.bool b) hdN (λ_=>.bool b) (λh=>by cases h);rw[e1] at hD2;have hF:A1v (A1v (lk σ.fr) (some d) ⟨true,.sl xs,[],[]⟩) (some e) ⟨true,.bool b,[],[]⟩=lk ((e,true,.bool b)::(d,true,.sl xs)::σ.fr):=by
       funext n; simp only[A1v,T4,lk]
      rw[hF] at hD2;have hD3:Q3 E ⟨(e,true,.bool b)::(d,true,.sl xs)::σ.fr,σ.bx,σ.k+2048⟩ G1 ((a.put o0.dst u1).put o1.dst (.bool b)) w1:=by
       rw[e1];exact hD2.weak λi hi=>hi.elim (λh=>by have:=hD.used _ h; show i<E.n0+(σ.k+2048); omega) λh=>by show i<E.n0+(σ.k+2048); omega
      cases b with
      | true=>exact⟨_,G1,hD3,h1 (hb rfl)⟩
      | false=>exact⟨_,G1,hD3,h2⟩
     have hex:execOp (a.put o0.dst u1).eval o1=(do pure (.value (←(do eqGuard .eql t (.tmp d) (.const (.slice none 0 0)) ((a.put o0.dst u1).eval (.tmp d)) (.slice none 0 0); binOp .eql t ((a.put o0.dst u1).eval (.tmp d)) (.slice none 0 0):Sem Value)))):=by
      unfold execOp; simp only[hop,Act.eval]
     generalize (a.put o0.dst u1).eval (.tmp d)=v at *;cases hval with
     | sl _ A cp sz u q1 q2 q3 q4 q5 q6 q7 =>
      refine fin A.isNone (λh=>?_) ?_
      ·cases A with
       | none=>exact (q3 rfl).1
       | some _=>cases h
      ·rw[hex];simp only[eqGuard,Sem.run_bind,Sem.run_pure,Result.andThen_ok,run_eql_slice_nil _ t el A _ _ ht];rfl
    ·cases hr1
   ·cases hr1
end
section
variable {E:O8} {σ:St} {k:List Itm}
def A7U(i:Itm){k1 k2:List Itm}(h1:∀σ,Wk E k1 σ->Wk E k2 σ)(h2:∀id σ,Wx E id k1 σ->Wx E id k2 σ)(h:Wk E (i::k1) σ):Wk E (i::k2) σ:=by
 cases i with
 | blk id=>exact h1 σ h
 | post p=>exact h
 | code cc =>
  intro c hc G a w hD;refine wp_mono (h c hc G a w hD) λe a' w' hq=>?_;cases e with
  | normal=>obtain⟨σ',G',q1,q2⟩:=hq; exact⟨σ',G',q1,h1 _ q2⟩
  | exit id=>obtain⟨σ',G',q1,q2⟩:=hq; exact⟨σ',G',q1,h2 _ _ q2⟩
  | _=>exact hq
 | ops crs j acc ps =>
  rcases h with⟨rs,q1,q2,q3⟩|h
  ·exact .inl ⟨rs,q1,q2,h1 _ q3⟩
  ·exact .inr h
def C5E{i:Itm}{y z:CC}{X:Type}(inv:X->St)(ok:X->Prop)(h:∀p:St->Prop,(∀σ' x,ok x->D5 E σ' (inv x)->p σ')->Wk E (i::.code y::.post p::k) σ)
  (hk:∀x,ok x->Wk E (.code z::k) (inv x)):Wk E (i::.code (.seq y z)::k) σ:=by
 refine A7U i (k1:=.code y::.post (λσ'=>∃x,ok x/\D5 E σ' (inv x))::k) (λσ1 q=>?_) (λid σ1 q=>q) (h (λσ'=>∃x,ok x/\D5 E σ' (inv x)) (λσ' x h1 h2=>⟨x,h1,h2⟩));refine A2w (λc hc G a w hD=>?_);refine wp_mono (q c hc G a w hD) λe a' w' hq=>?_;cases e with
 | normal =>
  obtain⟨σ',G',h1,x,h2,h3⟩:=hq;obtain⟨G2,h4⟩:=h3 G' a' w' h1;exact⟨inv x,G2,h4,hk x h2⟩
 | _=>exact hq
end
mutual
def AV.nrm:AV->AV
 | .nils=>.sl []
 | .sl xs=>.sl (A3I xs)
 | .agg cs=>.agg (A3I cs)
 | .tup cs=>.tup (A3I cs)
 | .int k n=>.int k n
 | .bool b=>.bool b
 | .str s=>.str s
 | .nilp=>.nilp
 | .ptr a b c=>.ptr a b c
 | .cptr cs=>.cptr cs
 | .bsl a b c=>.bsl a b c
 | .fn f cs=>.fn f cs
 | .fnb f cs=>.fnb f cs
 | .nilf=>.nilf
 | .iface t v=>.iface t v
 | .nili=>.nili
def A3I:List AV->List AV
 | []=>[]
 | x::l=>x.nrm::A3I l
end
def A1L:∀l:List AV,A3I l=l.map AV.nrm
 | []=>rfl
 | x::l=>by simp[A3I,A1L l]
def A40(x:AV):x.nrm.cells=x.cells.map AV.nrm:=by
 cases x<;>simp[AV.nrm,AV.cells,A1L]
def C5F{G:Gh}{w:World}:RV G w (.sl []) (.slice none 0 0) :=
 .sl [] none 0 0 (λ_ _=>undef) (zy _) (by simp[maxLen]) (λ_=>⟨rfl,rfl⟩) (λi x hi=>by simp at hi) (λa i x j y _ hi=>by simp at hi) (λa i x j y _ hi=>by simp at hi) (λi x j y hi=>by simp at hi)
def A0M{l:List AV}{i:Nat}{y:AV}(h:(l.map AV.nrm)[i]?=some y):∃x,l[i]?=some x/\y=x.nrm:=by
 rw[ym] at h;cases hx:l[i]? with
 | none=>rw[hx] at h; cases h
 | some x=>rw[hx] at h; exact⟨x,rfl,(ws h).symm⟩
def RV.nrm{G:Gh}{w:World}{x:AV}{v:Value}(h:RV G w x v):RV G w x.nrm v:=by
 induction h with
 | int k n=>exact .int k n
 | bool b=>exact .bool b
 | str s=>exact .str s
 | nilp=>exact .nilp
 | ptr id i off v ho hu hb=>exact .ptr id i off v ho hu hb
 | cptr cs a u h1 h2 h3 ih=>exact .cptr cs a u h1 h2 h3
 | nils=>exact C5F
 | sl xs A c s u hc hm hn hs h1 h2 h3 ih =>
  have e:xs.length=(xs.map AV.nrm).length:=by simp
  simp only[AV.nrm,A1L];rw[e];refine .sl (xs.map AV.nrm) A c s u (by rw[←e]; exact hc) hm (λha=>by rw[(hn ha).1]; exact⟨rfl,(hn ha).2⟩) (λi x hx=>?_) (λa i x j y ha hx hy=>?_) (λa i x j y ha hx hy=>?_) (λi x j y hx hy=>?_)
  ·obtain⟨x0,hx0,rfl⟩:=A0M hx;rw[A40,xj]; exact hs i x0 hx0
  ·obtain⟨x0,hx0,rfl⟩:=A0M hx;rw[A40] at hy;obtain⟨y0,hy0,rfl⟩:=A0M hy;exact h1 a i x0 j y0 ha hx0 hy0
  ·obtain⟨x0,hx0,rfl⟩:=A0M hx;rw[A40] at hy;obtain⟨y0,hy0,rfl⟩:=A0M hy;exact h2 a i x0 j y0 ha hx0 hy0
  ·obtain⟨x0,hx0,rfl⟩:=A0M hx;rw[A40] at hy;obtain⟨y0,hy0,rfl⟩:=A0M hy;exact ih i x0 j y0 hx0 hy0
 | bsl id off len v ho hu hb hn=>exact .bsl id off len v ho hu hb hn
 | fn f caps vs hl h ih=>exact .fn f caps vs hl h
 | fnb f caps vs hl h ih=>exact .fnb f caps vs hl h
 | nilf=>exact .nilf
 | iface t x v h ih=>exact .iface t x v h
 | nili=>exact .nili
 | agg cs vs hl h ih =>
  simp only[AV.nrm,A1L];refine .agg _ vs (by rw[xj]; exact hl) λi y hy=>?_;obtain⟨x0,hx0,rfl⟩:=A0M hy;exact ih i x0 hx0
 | tup cs vs hl h ih =>
  simp only[AV.nrm,A1L];refine .tup _ vs (by rw[xj]; exact hl) λi y hy=>?_;obtain⟨x0,hx0,rfl⟩:=A0M hy;exact ih i x0 hx0
def A2.nrm{P:Program}{f:Nat}{args:List AV}{rd:List (Nat×Bx)}{id:Nat}{res:AV}{wr:List (Nat×Option Bx)}(h:A2 P f args rd id res wr):A2 P f args rd id res.nrm wr :=
 ⟨h.1,λC G bx w vs nb hs hv hh hnb hid=>(h.2 C G bx w vs nb hs hv hh hnb hid).mono λe w' ⟨v,G',h1,h2,h3,h4,h5⟩=>⟨v,G',h1,h2,h3,h4.nrm,h5⟩⟩
def A2.nrmA{P:Program}{f:Nat}{args:List AV}{rd:List (Nat×Bx)}{id:Nat}{res:AV}{wr:List (Nat×Option Bx)}(h:A2 P f (A3I args) rd id res wr):A2 P f args rd id res wr:=by
 refine⟨h.1,λC G bx w vs nb hs hv hh hnb hid=>h.2 C G bx w vs nb hs ⟨by rw[A1L,xj]; exact hv.1,λi y hy=>?_⟩ hh hnb hid⟩;rw[A1L] at hy;obtain⟨x0,hx0,rfl⟩:=A0M hy;exact (hv.2 i x0 hx0).nrm
end Go.Am
