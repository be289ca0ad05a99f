/- Parts of the proof: an abstract machine for Go functions, and what functions of the program give back (Am35, Am36, Am37, Am38, Am39, Am40, Am41, Am42, Am43, Am44, Am45, Am46). No condition. -/
import Derived.Test.YtphjabjjnncebaaGreatDoorXD
import Derived.IntWalk
import Derived.ProofKit
import Derived.WideShapes
import Derived.Carry
import Derived.SizedLaws
import Derived.Lib.LazyBuf
set_option maxRecDepth 100000
set_option linter.all false
namespace Go.Am
open Go Go.RowKit
inductive X1 where
 | tmp (t:Nat)
 | cell (a:Nat) (agg:Bool) (n:Nat)
def L2(P:Program):List ResultVar->Option (List X1)
 | []=>some []
 | .tmp t::l=>(L2 P l).map (.tmp t::·)
 | .cell a t::l=>match P.underlying t,u5 P t,L2 P l with
  | some _,some n,some r=>some (.cell a (U5 P t) n::r)
  | _,_,_=>none
def s6(F:Fr)(B:Nat->Option Bx):List X1->Option (Prop×List AV)
 | []=>some (True,[])
 | .tmp t::l=>match s6 F B l with
  | some (p,vs)=>some (ceF F t=true/\p,H9 F (.t t)::vs)
  | none=>none
 | .cell a agg n::l=>match ldT agg n (e9 B (H9 F (.t a))),s6 F B l with
  | some (q,r),some (p,vs)=>some ((ceF F a=true/\q)/\p,r.v::vs)
  | _,_=>none
def tupOf:List AV->AV
 | [v]=>v
 | vs=>.tup vs
section
variable {P:Program} {C:Cx P} {G:Gh} {B:Nat->Option Bx} {w:World} {F:Fr} {tmps:Array Value}
def A02(tmps:Array Value):ResultVar->Sem Value
 | .tmp t=>pure (tmps.getD t undef)
 | .cell a t=>do loadVar t (←asAddr (tmps.getD a undef))
theorem A64(hs:RS C G B w)(hF:∀n c v,F n=some (c,v)->c=true->RV G w v (tmps.getD n undef)):∀{l:List ResultVar} {crs:List X1} {p:Prop} {vs:List AV},L2 P l=some crs->s6 F B crs=some (p,vs)->p ->
  ∃us:List Value,(l.mapM (A02 tmps)).run P w = .ok us w/\vs.length=us.length/\∀(i:Nat) v u,vs[i]?=some v->us[i]?=some u->RV G w v u
 | [],crs,p,vs,h1,h2,_=>by
  simp only[L2,zc] at h1;subst h1;simp only[s6,zc,zg] at h2;obtain⟨_,rfl⟩:=h2;exact⟨[],rfl,rfl,fun i v u h=>by simp at h⟩
 | .tmp t::l,crs,p,vs,h1,h2,hp=>by
  simp only[L2,zj] at h1;obtain⟨r,hr,rfl⟩:=h1;simp only[s6] at h2;cases hv:s6 F B r with
  | none=>rw[hv] at h2; cases h2
  | some q =>
   obtain⟨p',vs'⟩:=q;rw[hv] at h2;simp only[zc,zg] at h2;obtain⟨rfl,rfl⟩:=h2;obtain⟨us,k1,k2,k3⟩:=A64 hs hF hr hv hp.2;have h0:RV G w (H9 F (.t t)) (tmps.getD t undef):=by
    have:=hp.1;simp only[ceF] at this;simp only[H9];split at this
    ·rename_i c v hl; exact hF t c v hl this
    ·cases this
   refine⟨tmps.getD t undef::us,?_,by simp[k2],fun i v u hv hu=>?_⟩
   ·simp only[td,A02,Sem.run_bind,Sem.run_pure,Result.andThen_ok,k1]
   ·cases i with
    | zero=>simp only[yb,zc] at hv hu; subst hv hu; exact h0
    | succ i=>exact k3 i v u (by simpa using hv) (by simpa using hu)
 | .cell a t::l,crs,p,vs,h1,h2,hp=>by
  simp only[L2] at h1;split at h1
  ·rename_i d n r hd hn hr;injection h1 with h1
   subst h1;simp only[s6] at h2;split at h2
   ·rename_i q rr p' vs' hq hv;simp only[zc,zg] at h2;obtain⟨rfl,rfl⟩:=h2;obtain⟨us,k1,k2,k3⟩:=A64 hs hF hr hv hp.2;have h0:RV G w (H9 F (.t a)) (tmps.getD a undef):=by
     have:=hp.1.1;simp only[ceF] at this;simp only[H9];split at this
     ·rename_i c v hl; exact hF a c v hl this
     ·cases this
    have hld:∃u,(A02 tmps (.cell a t)).run P w = .ok u w/\RV G w rr.v u:=by
     cases hl:e9 B (H9 F (.t a)) with
     | none=>rw[hl] at hq; simp[ldT] at hq
     | some z =>
      obtain⟨p0,cs,rd⟩:=z;rw[hl] at hq;cases hag:U5 P t with
      | true =>
       simp only[hag,ldT,zc,zg] at hq;obtain⟨rfl,rfl⟩:=hq;obtain⟨addr,hv1,hat⟩:=A33 hs h0 (A1U hl hp.1.2.1);obtain⟨v,e1,e2⟩:=(hat.take n).load_agg (P:=P) hag hn (by rw[zu]; have:=hp.1.2.2; omega);exact⟨v,by simp only[A02,hv1,asAddr,Sem.run_bind,Sem.run_pure,Result.andThen_ok,e1],e2⟩
      | false =>
       simp only[hag,ldT] at hq;cases cs with
       | nil=>simp at hq
       | cons y l =>
        simp only[zc,zg] at hq;obtain⟨rfl,rfl⟩:=hq;obtain⟨addr,hv1,hat⟩:=A33 hs h0 (A1U hl hp.1.2);obtain⟨v,e1,e2⟩:=hat.load_one (P:=P) hd hag rfl;exact⟨v,by simp only[A02,hv1,asAddr,Sem.run_bind,Sem.run_pure,Result.andThen_ok,e1],e2⟩
    obtain⟨u0,e1,e2⟩:=hld;refine⟨u0::us,?_,by simp[k2],fun i v u hv hu=>?_⟩
    ·simp only[td,Sem.run_bind,Sem.run_pure,Result.andThen_ok,k1,e1]
    ·cases i with
     | zero=>simp at hv hu; subst hv hu; exact e2
     | succ i=>exact k3 i v u (by simpa using hv) (by simpa using hu)
   ·cases h2
  ·cases h1
theorem A7B{fn:Func}{us:List Value}(h:(fn.results.toList.mapM (A02 tmps)).run P w = .ok us w):(results fn tmps).run P w = .ok (if h:us.length=1 then us[0] else .tuple us.toArray) w:=by
 have e:results fn tmps=(do let vs←fn.results.mapM (A02 tmps); pure (if h:vs.size=1 then vs[0] else .tuple vs)):=by
  unfold results;congr 1
 rw[e,uj];simp only[Sem.run_bind,Sem.run_pure];rw[show (List.toArray <$> List.mapM (A02 tmps) fn.results.toList)=(do let r←List.mapM (A02 tmps) fn.results.toList; pure r.toArray) from rfl];simp[h]
end
/-! ### The end of a function -/
def C4:List (Nat×Bx)->List (Nat×Option Bx)
 | []=>[]
 | (i,b)::l=>(i,some b)::C4 l
def A0J(R:Rn)(S:Nat->Prop)(bx':List (Nat×Option Bx))(fin:Nat->Option Bx):List Nat->Prop
 | []=>True
 | y::l=>(match fin y with
  | none=>True
  | some b'=>∃x b,R.ρ y=some x/\bk bx' x=some b/\BxR R S b b')/\A0J R S bx' fin l
def A3g(id:Nat)(rd:List (Nat×Option Bx)):List (Nat×Option Bx)->Prop
 | []=>True
 | (y,_)::l=>(H5 y rd\/(id<=y/\y<id+1024))/\A3g id rd l
structure A7C(n0 id:Nat)(S:Nat->Prop)(rd:List (Nat×Bx))(res:AV)(wr:List (Nat×Option Bx))(vs:List AV)(bx':List (Nat×Option Bx))(rn:List (Nat×Nat))(hrn:I0 rn):Prop where
 res:J8 (L9 n0 rn hrn) S (tupOf vs) res
 fin:A0J (L9 n0 rn hrn) S bx' (D8 (bk (C4 rd)) wr) (O2 rd++K8 wr)
 drop:G6 n0 (C4 rd) bx'
 wr:A3g id (C4 rd) wr
 new:A2e id (id+1024) rn
 gone:A0T n0 (C4 rd) rn
def B6T(n0 id:Nat)(S:Nat->Prop)(rd:List (Nat×Bx))(res:AV)(wr:List (Nat×Option Bx))(σ:St)(vs:List AV)(rn:List (Nat×Nat))(hrn:I0 rn):Bool->Prop
 | true=>(K1 (bk σ.bx) vs).1/\A7C n0 id S rd res wr (K1 (bk σ.bx) vs).2.1 (f8 σ.bx (wrF (K1 (bk σ.bx) vs).2.2)) rn hrn
 | false=>A7C n0 id S rd res wr vs σ.bx rn hrn
def B5q(n0 id:Nat)(S:Nat->Prop)(rd:List (Nat×Bx))(res:AV)(wr:List (Nat×Option Bx))(σ:St):Option (Prop×List AV)->Prop
 | none=>False
 | some (p,vs)=>p/\∃(b:Bool) (rn:List (Nat×Nat)) (hrn:I0 rn),B6T n0 id S rd res wr σ vs rn hrn b
def v8(n0 id:Nat)(S:Nat->Prop)(crs:List X1)(rd:List (Nat×Bx))(res:AV)(wr:List (Nat×Option Bx))(σ:St):Prop:=B5q n0 id S rd res wr σ (s6 (lk σ.fr) (bk σ.bx) crs)
theorem A0J.get{R:Rn}{S:Nat->Prop}{bx':List (Nat×Option Bx)}{fin:Nat->Option Bx}:∀{l:List Nat},A0J R S bx' fin l->∀y∈l,∀b',fin y=some b'->∃x b,R.ρ y=some x/\bk bx' x=some b/\BxR R S b b'
 | [],_,y,hy,_,_=>by cases hy
 | z::l,h,y,hy,b',hf=>by
  rcases zi.1 hy with rfl|hy
  ·have:=h.1;rw[hf] at this;exact this
  ·exact A0J.get h.2 y hy b' hf
theorem A8K{id:Nat}{rd:List (Nat×Option Bx)}:∀{l:List (Nat×Option Bx)},A3g id rd l->∀y∈K8 l,H5 y rd\/(id<=y/\y<id+1024)
 | [],_,y,hy=>by simp[K8] at hy
 | (z,b)::l,h,y,hy=>by
  simp only[K8,yd,zi] at hy;rcases hy with rfl|hy
  ·exact h.1
  ·exact A8K h.2 y hy
theorem M9{y:Nat}:∀{l:List (Nat×Bx)},H5 y (C4 l)↔y∈O2 l
 | []=>by simp[H5,C4,O2]
 | (i,b)::l=>by simp[H5,C4,O2,M9 (l:=l)]
theorem A7D{β:Nat->Option Bx}:∀{l:List (Nat×Bx)},G8 β l->∀y,y∈O2 l->bk (C4 l) y=β y
 | [],_,y,hy=>by simp[O2] at hy
 | (i,b)::l,h,y,hy=>by
  simp only[C4,bk];split
  ·rename_i e; subst e; exact (h (y,b) (by simp)).symm
  ·rename_i e;simp only[O2,yd,zi] at hy;exact A7D (fun q hq=>h q (by simp[hq])) y (hy.resolve_left e)
theorem A3h{β:Nat->Option Bx}:∀{l:List (Nat×Bx)},G8 β l->ov β (C4 l)=β
 | [],_=>rfl
 | (i,b)::l,h=>by
  simp only[C4,ov];rw[A3h fun q hq=>h q (by simp[hq])];funext y
  by_cases e:y=i
  ·subst e; rw[B5]; exact (h (y,b) (by simp)).symm
  ·exact A7 _ _ _ e
def A0K:Nat->List AV->List (Nat×Bool×AV)
 | _,[]=>[]
 | i,a::l=>(i,true,a)::A0K (i+1) l
theorem A3B:∀{l:List AV} {i n:Nat} {c:Bool} {v:AV},lk (A0K i l) n=some (c,v)->c=true/\i<=n/\l[n - i]?=some v
 | [],_,_,_,_,h=>by cases h
 | a::l,i,n,c,v,h=>by
  simp only[A0K,lk] at h;split at h
  ·rename_i e;subst e;simp only[zc,zg] at h;obtain⟨rfl,rfl⟩:=h;exact⟨rfl,yg _,by simp⟩
  ·rename_i e;obtain⟨h1,h2,h3⟩:=A3B h;refine⟨h1,by omega,?_⟩;rw[show n - i=(n - (i+1))+1 by omega];simpa using h3
theorem RV.tupOf{G:Gh}{w:World}{vs:List AV}{us:List Value}(hl:vs.length=us.length)(h:∀(i:Nat) v u,vs[i]?=some v->us[i]?=some u->RV G w v u):RV G w (Am.tupOf vs) (if h:us.length=1 then us[0] else .tuple us.toArray):=by
 match vs,us,hl,h with
 | [v],[u],_,h=>exact h 0 v u rfl rfl
 | [],[],_,_=>exact .tup [] _ rfl fun i y hy=>by simp at hy
 | v::v'::vs,u::u'::us,hl,h =>
  simp only[yz,Nat.add_eq_right,Nat.add_eq_zero_iff,Nat.succ_ne_self,and_false,dite_false];refine .tup _ _ (by simpa using hl) fun i y hy=>?_;obtain⟨z,hz⟩:∃z,(u::u'::us)[i]?=some z:=⟨_,zd (by rw[←hl]; exact (ze.1 hy).1)⟩;have:=h i y z hy hz;rw[zl];simpa [hz] using this
theorem B1O{E:R9}{fn:Func}{crs:List X1}{rd:List (Nat×Bx)}{id:Nat}{res:AV}{wr:List (Nat×Option Bx)}{σ:St}{G':Gh}{a:Act}{w':World}(hrs:L2 E.P fn.results.toList=some crs)(hh:G8 E.β rd)(hid:∀x,id<=x->x<id+1024->¬E.G0.used x)
  (hD':Y4 E σ G' a w') (hR:v8 E.n0 id E.G0.used crs rd res wr σ) :
  ∃v,(results fn a.tmps).run E.P w' = .ok v w'/\∃G1,RS E.C G1 (D8 E.β wr) w'/\I9 E.G0 E.w0 G1 w'/\RV G1 w' res v/\∀x,G1.used x->E.G0.used x\/(id<=x/\x<id+1024):=by
 have hR':B5q E.n0 id E.G0.used rd res wr σ (s6 (lk σ.fr) (bk σ.bx) crs):=hR;cases hres:s6 (lk σ.fr) (bk σ.bx) crs with
 | none=>rw[hres] at hR'; exact hR'.elim
 | some q =>
  obtain⟨p,rvs⟩:=q;rw[hres] at hR';obtain⟨hp,b,rn,hrn,hend⟩:=hR';have hres':s6 (lk σ.fr) (ov E.β σ.bx) crs=some (p,rvs):=by
   have key:∀{l:List X1} {p:Prop} {vs:List AV},s6 (lk σ.fr) (bk σ.bx) l=some (p,vs)->s6 (lk σ.fr) (ov E.β σ.bx) l=some (p,vs):=fun {l}=>by
    induction l with
    | nil=>intro p vs h; exact h
    | cons x l ih =>
     intro p vs h;cases x with
     | tmp t =>
      simp only[s6] at h ⊢;cases hl:s6 (lk σ.fr) (bk σ.bx) l with
      | none=>rw[hl] at h; cases h
      | some q=>obtain⟨p',vs'⟩:=q; rw[hl] at h; rw[ih hl]; exact h
     | cell a agg n =>
      simp only[s6] at h ⊢;cases hld:ldT agg n (e9 (bk σ.bx) (H9 (lk σ.fr) (.t a))) with
      | none=>rw[hld] at h; cases h
      | some q0 =>
       obtain⟨q,r⟩:=q0;obtain⟨l1,l2⟩:=A4t (bx':=ov E.β σ.bx) hld;rw[l2 (l1.ov E.β)];rw[hld] at h;cases hl:s6 (lk σ.fr) (bk σ.bx) l with
       | none=>rw[hl] at h; cases h
       | some q=>obtain⟨p',vs'⟩:=q; rw[hl] at h; rw[ih hl]; exact h
   exact key hres
  obtain⟨us,k1,k2,k3⟩:=A64 hD'.rs (fun n c v h1 h2=>(hD'.fr n c v h1).1 h2) hrs hres' hp;obtain⟨G1,vs1,bx1,s1,e1,u1,l1,r1,hE⟩:∃G1 vs1 bx1,RS E.C G1 (ov E.β bx1) w'/\I9 G' w' G1 w'/\(∀i,G1.used i->G'.used i)/\vs1.length=us.length/\(∀(i:Nat) v u,vs1[i]?=some v->us[i]?=some u->RV G1 w' v u)/\A7C E.n0 id E.G0.used rd res wr vs1 bx1 rn hrn:=by
   cases b with
   | false=>exact⟨G',rvs,σ.bx,hD'.rs,I9.refl _ _,fun _ h=>h,k2,k3,hend⟩
   | true =>
    obtain⟨h1,h2⟩:=hend;obtain⟨g1,g2⟩:=f6 (bx':=ov E.β σ.bx) h1;have ge:=g2 (g1.ov E.β);obtain⟨G1,q1,q2,q3,q4⟩:=u4 (K1 (bk σ.bx) rvs).2.2 hD'.rs fun q hq=>let ⟨z1,z2⟩:=A1W h1 q hq; ⟨.inl (U1 E.β z1),z2⟩;have h1':(K1 (ov E.β σ.bx) rvs).1:=(by rw[ge]; exact h1);have q4':A1V G' G1 w' (K1 (ov E.β σ.bx) rvs).2.2:=(by rw[ge]; exact q4);obtain⟨m1,m2⟩:=A36 q2 h1' q4';rw[ge] at m1 m2;refine⟨G1,_,_,by rw[A1b]; exact q1,q2,q3,m1.trans k2,fun i v u hv hu=>?_,h2⟩;have:=m2 (fun i=>us.getD i undef) (fun i y hy=>by
     obtain⟨z,hz⟩:∃z,us[i]?=some z:=⟨_,zd (by rw[←k2]; exact (ze.1 hy).1)⟩;simp only[xf,hz,wg];exact k3 i y z hy hz) i v hv
    simp only[xf,hu,wg] at this;exact this
  have hrv:=(RV.tupOf l1 r1).ren hE.res;have hlk:∀y,(¬(id<=y/\y<id+1024))->Y3 rn y=none:=fun y hf=>by
   cases hl:Y3 rn y with
   | none=>rfl
   | some t=>exact (hf (c5 hE.new _ (Z4 hl))).elim
  have hfix:∀x,E.G0.used x->(L9 E.n0 rn hrn).ρ x=some x\/(L9 E.n0 rn hrn).ρ x=none:=fun x hx=>(A0p (hlk x fun⟨h1,h2⟩=>hid x h1 h2 hx)).symm;refine⟨_,A7B k1,G1.ren (L9 E.n0 rn hrn) E.G0.used,s1.ren fun y b' hy=>?_,I9.ren (hD'.ev.trans e1) hfix,hrv,fun y hy=>?_⟩
  ·by_cases hk:y∈O2 rd++K8 wr
   ·have hy':D8 (bk (C4 rd)) wr y=some b':=by
     by_cases hw:y∈K8 wr
     ·rw[A61 (B':=E.β) hw]; exact hy
     ·rw[K9 hw] at hy ⊢;rw[A7D hh y (by simpa [hw] using hk)]; exact hy
    obtain⟨x,b,z1,z2,z3⟩:=hE.fin.get y hk b' hy';exact⟨x,b,z1,U1 E.β z2,z3⟩
   ·simp only[zo,not_or] at hk;rw[K9 hk.2] at hy;have hub:=E.rs0.boxNames hy;have hkk:¬H5 y (C4 rd):=fun h=>hk.1 (M9.1 h);have hlt:=E.old y hub.1;have hst:(L9 E.n0 rn hrn).ρ y=some y:=by
     show z6 E.n0 rn y=some y;unfold z6;rw[hlk y fun⟨h1,h2⟩=>hid y h1 h2 hub.1];rw[A01 hE.gone y hlt hkk];simp[hlt]
    refine⟨y,b',hst,?_,BxR.same fun i x hx=>G9 (fun z hz=>(hfix z hz).imp _root_.id fun h=>⟨h,hz⟩) x (hub.2 i x hx)⟩;rw[hE.drop.get y hlt hkk E.β];exact hy
  ·rcases hy with⟨x,hx,hu⟩|hy
   ·by_cases hf:id<=y/\y<id+1024
    ·exact .inr hf
    ·have hx':z6 E.n0 rn y=some x:=hx;rcases A0p (n0:=E.n0) (hlk y hf) with h|h
     ·rw[h] at hx'; cases hx'
     ·have hy:y<E.n0:=by
       unfold z6 at h;rw[hlk y hf] at h;simp only at h;split at h
       ·assumption
       ·cases h
      rw[h] at hx';injection hx' with hx'
      subst hx';exact .inl (hD'.old _ hy (u1 _ hu))
   ·exact .inl hy
theorem G6.mem{n0:Nat}{bx':List (Nat×Option Bx)}:∀{l:List (Nat×Option Bx)},G6 n0 bx' l->∀q∈l,n0<=q.1\/H5 q.1 bx'
 | [],_,q,hq=>by cases hq
 | (x,b)::l,h,q,hq=>by
  rcases zi.1 hq with rfl|hq
  ·exact h.1
  ·exact G6.mem h.2 q hq
theorem A7E{f:Nat->Option Bx}{y:Nat}{b:Bx}:∀{rd:List (Nat×Bx)},D8 f (goL rd) y=some b->y∉O2 rd/\f y=some b
 | [],h=>⟨by simp[O2],h⟩
 | (i,b')::l,h=>by
  simp only[goL,D8] at h;obtain⟨h1,h2⟩:=A7E h;have hy:y≠i:=fun e=>by subst e; rw[B5] at h2; cases h2
  rw[A7 _ _ _ hy] at h2;exact⟨by simp[O2,hy] at h1 ⊢; exact h1,h2⟩
theorem B3Q{E:R9}{rd:List (Nat×Bx)}{id:Nat}{pv:AV}{u:Value}{l:List (Nat×Option Bx)}{F:Fr}{B:Nat->Option Bx}{U:Nat->Prop}{G':Gh}{a:Act}{w':World}
  (hD':E0 E.C E.N E.D E.n0 E.G0 E.w0 F B U G' a w') (hB:B4R E.β l B) (hv:RV G' w' pv u) (hp:pv.pureB=true) (hd:G6 E.n0 (C4 rd) l) :
  ∃G1,RS E.C G1 (D8 E.β (goL rd)) w'/\I9 E.G0 E.w0 G1 w'/\RV G1 w' pv u/\∀x,G1.used x->E.G0.used x\/(id<=x/\x<id+1024):=by
 have hfix:∀x,E.G0.used x->(L9 E.n0 [] trivial).ρ x=some x\/(L9 E.n0 [] trivial).ρ x=none:=fun x hx=>(A0p (show Y3 [] x=none from rfl)).symm;refine⟨G'.ren (L9 E.n0 [] trivial) E.G0.used,hD'.rs.ren fun y b' hy=>?_,I9.ren hD'.ev hfix,hv.ren (.same _ (L0 _ hp)),fun y hy=>?_⟩
 ·obtain⟨h1,h2⟩:=A7E hy;have hub:=E.rs0.boxNames h2;have hlt:=E.old y hub.1;refine⟨y,b',?_,?_,BxR.same fun i x hx=>G9 (fun z hz=>(hfix z hz).imp _root_.id fun h=>⟨h,hz⟩) x (hub.2 i x hx)⟩
  ·show z6 E.n0 [] y=some y;simp[z6,Y3,M6,hlt]
  ·rcases hB y with h|h
   ·rw[h,h2]
   ·rcases hd.mem _ h with h|h
    ·simp only at h; omega
    ·exact (h1 (M9.1 h)).elim
 ·rcases hy with⟨x,hx,hu⟩|hy
  ·have hx':z6 E.n0 [] y=some x:=hx;simp only[z6,Y3,M6] at hx';split at hx'
   ·rename_i hy;injection hx' with hx'
    subst hx';exact .inl (hD'.old _ (by simpa using hy) hu)
   ·cases hx'
  ·exact .inl hy
theorem A65{P:Program}{f:Nat}{fn:Func}{c:Code}{crs:List X1}{args:List AV}{rd:List (Nat×Bx)}{id:Nat}{o:Except AV (AV×List (Nat×Option Bx))}(Rt:Nat->(Nat->Prop)->St->Prop)(Pn:Nat->AV->St->Prop)
  (hf : P.funcs[f]? = some fn) (hb : fn.body = some c) (hnm : (fn.name == "runtime.NumGoroutine") = false) (hrs : L2 P fn.results.toList = some crs) (hN : args.length <= fn.ntmps)
  (hRt:∀n0 S σ,Rt n0 S σ->∃q,o = .ok q/\v8 n0 id S crs rd q.1 q.2 σ) (hPn:∀n0 pv σ,Pn n0 pv σ->o = .error pv/\pv.pureB=true/\G6 n0 (C4 rd) σ.bx)
  (h:∀E:R9,E.P=P->E.N=fn.ntmps->E.Rt=Rt E.n0 E.G0.used->E.Pn=Pn E.n0->(∀q∈rd,q.1<E.n0/\(q.1<id\/id+1024<=q.1))->id+1024<=E.n0->G8 E.β rd->(∀z,E.G0.used z->z<id\/id+1024<=z)->Wk E [.code (D4 P fn.ntmps c)] ⟨A0K 0 args,C4 rd,0⟩):u9 P f args rd id o:=by
 have pl:Q7 P f:=⟨fn,hf,hnm,by rw[hb]; rfl⟩;have main:∀(C:Cx P) (G:Gh) (bx:Nat->Option Bx) (w:World) (vs:Array Value) (nb:Nat),RS C G bx w->j8 G w args vs->G8 bx rd->(∀x,nb<=x->¬G.used x)->(∀x,id<=x->x<id+1024->¬G.used x) ->
   Calls P f vs w fun e w'=>(∃q,o = .ok q/\∃v G',e = .returned v/\RS C G' (D8 bx q.2) w'/\I9 G w G' w'/\RV G' w' q.1 v/\∀x,G'.used x->G.used x\/(id<=x/\x<id+1024)) \/
    ∃pv,o = .error pv/\∃v G',e = .panicked [{ v:=v,recovered:=false }]/\RS C G' (D8 bx (goL rd)) w'/\I9 G w G' w'/\RV G' w' pv v/\∀x,G'.used x->G.used x\/(id<=x/\x<id+1024):=fun C G bx w vs nb hs hv hh hnb hid=>calls_of_wp hf hb<|by
  have own:∀i,max nb (id+1024)<=i->bx i=none:=fun i hi=>by
   cases hbi:bx i with
   | none=>rfl
   | some b=>exact (hnb i (by omega) (hs.boxNames hbi).1).elim
  have old:∀i,G.used i->i<max nb (id+1024):=fun i hi=>by
   rcases yt i nb with h|h
   ·omega
   ·exact (hnb i h hi).elim
  let E:R9:=⟨P,C,bx,fn.ntmps,max nb (id+1024),G,w,own,old,hs,[],Rt (max nb (id+1024)) G.used,Pn (max nb (id+1024))⟩
  have hW:=h E rfl rfl rfl rfl (fun q hq=>⟨E.old _ (hs.boxNames (hh q hq)).1,by
   have:=(hs.boxNames (hh q hq)).1;rcases yt q.1 id with h|h
   ·exact .inl h
   ·rcases yt q.1 (id+1024) with h'|h'
    ·exact (hid _ h h' this).elim
    ·exact .inr h'⟩) (by show id+1024<=max nb (id+1024); omega) hh (fun z hz=>by
   rcases yt z id with h|h
   ·exact .inl h
   ·rcases yt z (id+1024) with h'|h'
    ·exact (hid z h h' hz).elim
    ·exact .inr h')
  have hD:Y4 E ⟨A0K 0 args,C4 rd,0⟩ G { tmps:=vs++Array.replicate (fn.ntmps - vs.size) undef,defers:=[] } w:=by
   refine⟨I9.refl G w,?_,fun i hi=>?_,fun i _ hi=>hi,fun n c v hl=>?_,?_,rfl⟩
   ·show RS C G (ov bx (C4 rd)) w;rw[A3h hh]; exact hs
   ·have:=E.old i hi;show i<E.n0+0;omega
   ·obtain⟨rfl,_,h3⟩:=A3B hl;simp only[tp] at h3;refine⟨fun _=>?_,fun h=>by cases h⟩;have:=hv.2 n v h3;rw[zl] at this ⊢;rw[xn (by rw[←hv.1]; exact (ze.1 h3).1)];exact this
   ·show (vs++Array.replicate (fn.ntmps - vs.size) undef).size=fn.ntmps;have:=hv.1;simp; omega
  refine wp_mono (hW c rfl G _ w hD) fun e a w' hq=>?_;have fin:∀σ G',Y4 E σ G' a w'->E.Rt σ->a.defers=[]/\∃v,(results fn a.tmps).run P w' = .ok v w'/\((∃q,o = .ok q/\∃v_1 G',Ending.returned v = .returned v_1/\RS C G' (D8 bx q.2) w'/\I9 G w G' w'/\RV G' w' q.1 v_1/\∀x,G'.used x->G.used x\/(id<=x/\x<id+1024)) \/
    ∃pv,o = .error pv/\∃v_1 G',Ending.returned v = .panicked [{ v:=v_1,recovered:=false }]/\RS C G' (D8 bx (goL rd)) w'/\I9 G w G' w'/\RV G' w' pv v_1/\∀x,G'.used x->G.used x\/(id<=x/\x<id+1024)):=fun σ G' hD' hR=>by
   obtain⟨q,ho,hR'⟩:=hRt _ _ _ hR;obtain⟨v,h1,G1,h2,h3,h4,h5⟩:=B1O (E:=E) hrs hh hid hD' hR';exact⟨hD'.defers,v,h1,.inl ⟨q,ho,v,G1,rfl,h2,h3,h4,h5⟩⟩
  cases e with
  | normal=>obtain⟨σ,G',h1,h2⟩:=hq; exact fin σ G' h1 h2
  | ret=>obtain⟨σ,G',h1,h2⟩:=hq; exact fin σ G' h1 h2
  | exit id=>obtain⟨σ,G',h1,h2⟩:=hq; exact h2
  | panic chain =>
   obtain⟨pv,u,σ,F,B,U,G',rfl,h1,h2,h3,h4⟩:=hq;obtain⟨ho,hp,hd⟩:=hPn _ _ _ h4;obtain⟨G1,k1,k2,k3,k4⟩:=B3Q (E:=E) (id:=id) h1 h2 h3 hp hd;exact⟨h1.defers,.inr ⟨pv,ho,u,G1,rfl,k1,k2,k3,k4⟩⟩
  | _=>exact hq.elim
 cases o with
 | ok q =>
  refine⟨pl,fun C G bx w vs nb hs hv hh hnb hid=>Calls.mono (main C G bx w vs nb hs hv hh hnb hid) fun e w' he=>?_⟩;rcases he with⟨q',h1,h2⟩|⟨_,h1,_⟩
  ·injection h1 with h1; subst h1; exact h2
  ·cases h1
 | error pv =>
  refine⟨pl,fun C G bx w vs nb hs hv hh hnb hid=>Calls.mono (main C G bx w vs nb hs hv hh hnb hid) fun e w' he=>?_⟩;rcases he with⟨_,h1,_⟩|⟨q',h1,h2⟩
  ·cases h1
  ·injection h1 with h1; subst h1; exact h2
theorem B5r{P:Program}{f:Nat}{fn:Func}{c:Code}{crs:List X1}{args:List AV}{rd:List (Nat×Bx)}{id:Nat}{res:AV}{wr:List (Nat×Option Bx)}
  (hf : P.funcs[f]? = some fn) (hb : fn.body = some c) (hnm : (fn.name == "runtime.NumGoroutine") = false) (hrs : L2 P fn.results.toList = some crs) (hN : args.length <= fn.ntmps)
  (h:∀E:R9,E.P=P->E.N=fn.ntmps->E.Rt=v8 E.n0 id E.G0.used crs rd res wr->(∀q∈rd,q.1<E.n0/\(q.1<id\/id+1024<=q.1))->id+1024<=E.n0->Wk E [.code (D4 P fn.ntmps c)] ⟨A0K 0 args,C4 rd,0⟩):A2 P f args rd id res wr :=
 A65 (o:=.ok (res,wr)) (fun n0 S=>v8 n0 id S crs rd res wr) (fun _ _ _=>False) hf hb hnm hrs hN (fun _ _ _ h=>⟨_,rfl,h⟩) (fun _ _ _ h=>h.elim) fun E h1 h2 h3 _ h5 h6 _ _=>h E h1 h2 h3 h5 h6
def j0(ps:List (Nat×Nat))(r:RR)(acc:List RR):List RR:=match ps with
 | []=>[]
 | _::_=>r::acc
def A03(F:Fr)(us:List Nat):Prop:=us.all (ceF F)=true
def B3R(acc:List RR)(j:Nat):List (Nat×Nat)->Prop
 | []=>True
 | q::l=>(q.1<j/\q.2<j)/\f7 (A10 acc (j - 1 - q.1)) (A10 acc (j - 1 - q.2))/\B3R acc j l
def B4x(acc:List RR)(j:Nat)(ps:List (Nat×Nat)):Prop:=match ps with
 | []=>True
 | q::l=>acc.length=j/\B3R acc j (q::l)
theorem A7F{acc:List RR}{i:Nat}(h:i<acc.length):A10 acc.reverse i=A10 acc (acc.length - 1 - i):=by
 have h1:acc.reverse[i]?=acc[acc.length - 1 - i]?:=List.getElem?_reverse h;have h2:acc[acc.length - 1 - i]?=some acc[acc.length - 1 - i]:=zd (by omega);rw[c4 (h1.trans h2),c4 h2]
theorem A99{acc:List RR}:∀{ps:List (Nat×Nat)},B3R acc acc.length ps->A3a acc.reverse ps
 | [],_=>trivial
 | q::l,h=>by
  obtain⟨⟨h1,h2⟩,h3,h4⟩:=h;exact⟨by rw[A7F h1,A7F h2]; exact h3,A99 h4⟩
theorem B3S{acc:List RR}{j:Nat}{ps:List (Nat×Nat)}(h:B4x acc j ps):A3a acc.reverse ps:=by
 cases ps with
 | nil=>trivial
 | cons q l=>obtain⟨rfl,h⟩:=h; exact A99 h
mutual
def go(E:R9):Nat->List Itm->St->Prop
 | 0,k,σ=>Wk E k σ
 | _+1,[],σ=>E.Rt σ
 | n+1,.blk _::k,σ=>go E n k σ
 | _+1,.post p::_,σ=>p σ
 | n+1,.code .skip::k,σ=>go E n k σ
 | n+1,.code (.seq x y)::k,σ=>go E n (.code x::.code y::k) σ
 | n+1,.code (.block id c)::k,σ=>go E n (.code c::.blk id::k) σ
 | n+1,.code (.exit id)::k,σ=>goX E n id k σ
 | _+1,.code .ret::_,σ=>E.Rt σ
 | n+1,.code (.cond o x y)::k,σ=>ceO (lk σ.fr) o=true/\goV E n (H9 (lk σ.fr) o) x y k σ
 | n+1,.code (.reg _ crs ps)::k,σ=>go E n (.ops crs 0 [] ps::k) σ
 | _+1,.code (.loop c)::k,σ=>Wk E (.code (.loop c)::k) σ
 | _+1,.code .bad::k,σ=>Wk E (.code .bad::k) σ
 | n+1,.ops [] j acc ps::k,σ=>B4x acc j ps/\go E n k (σ.bump (1024*j))
 | n+1,.ops (cr::l) j acc ps::k,σ=>A0Q (lk σ.fr) cr.g/\goO E n cr.op cr l j acc ps k σ (Q8 (lk σ.fr) cr.g)
def goX(E:R9):Nat->Nat->List Itm->St->Prop
 | 0,id,k,σ=>Wx E id k σ
 | _+1,_,[],_=>False
 | n+1,id,.blk id'::k,σ=>goB E n (decide (id=id')) id k σ
 | n+1,id,.post _::k,σ=>goX E n id k σ
 | n+1,id,.code _::k,σ=>goX E n id k σ
 | n+1,id,.ops _ _ _ _::k,σ=>goX E n id k σ
def goB(E:R9):Nat->Bool->Nat->List Itm->St->Prop
 | 0,b,id,k,σ=>if b then Wk E k σ else Wx E id k σ
 | n+1,true,_,k,σ=>go E n k σ
 | n+1,false,id,k,σ=>goX E n id k σ
def goV(E:R9):Nat->AV->CC->CC->List Itm->St->Prop
 | 0,v,x,y,k,σ=>∃b,v = .bool b/\(b=true->Wk E (.code x::k) σ)/\(b=false->Wk E (.code y::k) σ)
 | n+1,.bool b,x,y,k,σ=>goC E n b x y k σ
 | _+1,_,_,_,_,_=>False
def goC(E:R9):Nat->Bool->CC->CC->List Itm->St->Prop
 | 0,b,x,y,k,σ=>(b=true->Wk E (.code x::k) σ)/\(b=false->Wk E (.code y::k) σ)
 | n+1,true,x,_,k,σ=>go E n (.code x::k) σ
 | n+1,false,_,y,k,σ=>go E n (.code y::k) σ
def goO(E:R9):Nat->W6->CR->List CR->Nat->List RR->List (Nat×Nat)->List Itm->St->Bool->Prop
 | 0,_,_,_,_,_,_,_,_,_=>False
 | n+1,.pick c a b,cr,l,j,acc,ps,k,σ,g =>
  (g=true->(ceO (lk σ.fr) c=true/\(H9 (lk σ.fr) c).isBoolB=true)/\((H9 (lk σ.fr) c).isT=true->ceO (lk σ.fr) a=true/\(H9 (lk σ.fr) a).isBoolB=true)/\((H9 (lk σ.fr) c).isT=false->ceO (lk σ.fr) b=true/\(H9 (lk σ.fr) b).isBoolB=true)) /\
  goR E n cr l j acc ps k σ g (.bool (A4v (H9 (lk σ.fr) c).isT (H9 (lk σ.fr) a).isT (H9 (lk σ.fr) b).isT)) [] []
 | _+1,.call f xs,cr,l,j,acc,ps,k,σ,_=>Wk E (.ops (⟨cr.dst,cr.g,cr.us,.call f xs⟩::l) j acc ps::k) σ
 | _+1,.callv x xs,cr,l,j,acc,ps,k,σ,_=>Wk E (.ops (⟨cr.dst,cr.g,cr.us,.callv x xs⟩::l) j acc ps::k) σ
 | _+1,.cpy x y,cr,l,j,acc,ps,k,σ,_=>Wk E (.ops (⟨cr.dst,cr.g,cr.us,.cpy x y⟩::l) j acc ps::k) σ
 | _+1,.inv m x xs,cr,l,j,acc,ps,k,σ,_=>Wk E (.ops (⟨cr.dst,cr.g,cr.us,.inv m x xs⟩::l) j acc ps::k) σ
 | n+1,op,cr,l,j,acc,ps,k,σ,g=>goS E n cr l j acc ps k σ g (sem (H9 (lk σ.fr)) (bk σ.bx) (E.n0+(σ.k+1024*j)) op)
def goS(E:R9):Nat->CR->List CR->Nat->List RR->List (Nat×Nat)->List Itm->St->Bool->Option (Prop×Rs)->Prop
 | 0,_,_,_,_,_,_,_,_,_=>False
 | _+1,_,_,_,_,_,_,_,_,none=>False
 | n+1,cr,l,j,acc,ps,k,σ,g,some (p,⟨v,rd,wr⟩)=>(g=true->A03 (lk σ.fr) cr.us/\p)/\goR E n cr l j acc ps k σ g v rd wr
def goR(E:R9):Nat->CR->List CR->Nat->List RR->List (Nat×Nat)->List Itm->St->Bool->AV->List (Nat×Bx)->List (Nat×Option Bx)->Prop
 | 0,_,_,_,_,_,_,_,_,_,_,_=>False
 | n+1,cr,l,j,acc,ps,k,σ,g,v,rd,[]=>go E n (.ops l (j+1) (j0 ps ⟨g,v,rd,[]⟩ acc) ps::k) (σ.app cr.dst ⟨g,v,rd,[]⟩)
 | n+1,cr,l,j,acc,ps,k,σ,g,v,rd,q::wr=>goG E n cr l j acc ps k σ g v rd (q::wr)
def goG(E:R9):Nat->CR->List CR->Nat->List RR->List (Nat×Nat)->List Itm->St->Bool->AV->List (Nat×Bx)->List (Nat×Option Bx)->Prop
 | 0,_,_,_,_,_,_,_,_,_,_,_=>False
 | n+1,cr,l,j,acc,ps,k,σ,true,v,rd,wr=>go E n (.ops l (j+1) (j0 ps ⟨true,v,rd,wr⟩ acc) ps::k) (σ.app cr.dst ⟨true,v,rd,wr⟩)
 | n+1,cr,l,j,acc,ps,k,σ,false,_,_,_=>go E n (.ops l (j+1) (j0 ps ⟨false,.nili,[],[]⟩ acc) ps::k) (σ.app cr.dst ⟨false,.nili,[],[]⟩)
end
section
variable {E:R9}
theorem B5s{l:List CR}{j:Nat}{acc acc':List RR}{k:List Itm}{σ:St}(h:Wk E (.ops l j acc []::k) σ):Wk E (.ops l j acc' []::k) σ:=by
 rcases h with⟨rs,h1,h2,h3⟩|⟨rs,pv,r,h1,h2,h3⟩
 ·exact .inl ⟨rs,h1,trivial,h3⟩
 ·exact .inr ⟨rs,pv,r,h1,trivial,h3⟩
theorem Y5{l:List CR}{j:Nat}{acc:List RR}{ps:List (Nat×Nat)}{r:RR}{k:List Itm}{σ:St}(h:Wk E (.ops l j (j0 ps r acc) ps::k) σ):Wk E (.ops l j (r::acc) ps::k) σ:=by
 cases ps with
 | nil=>exact B5s h
 | cons p ps=>exact h
theorem B4y:∀n:Nat,(∀k σ,go E n k σ->Wk E k σ)/\(∀id k σ,goX E n id k σ->Wx E id k σ)/\(∀b id k σ,goB E n b id k σ->if b then Wk E k σ else Wx E id k σ) /\
  (∀v x y k σ,goV E n v x y k σ->∃b,v = .bool b/\(b=true->Wk E (.code x::k) σ)/\(b=false->Wk E (.code y::k) σ)) /\
  (∀b x y k σ,goC E n b x y k σ->(b=true->Wk E (.code x::k) σ)/\(b=false->Wk E (.code y::k) σ)) /\
  (∀cr l j acc ps k σ,A0Q (lk σ.fr) cr.g->goO E n cr.op cr l j acc ps k σ (Q8 (lk σ.fr) cr.g)->Wk E (.ops (cr::l) j acc ps::k) σ) /\
  (∀cr l j acc ps k σ op p v rd wr,cr.op=op->A0Q (lk σ.fr) cr.g->sem (H9 (lk σ.fr)) (bk σ.bx) (E.n0+(σ.k+1024*j)) op=some (p,⟨v,rd,wr⟩)->goS E n cr l j acc ps k σ (Q8 (lk σ.fr) cr.g) (some (p,⟨v,rd,wr⟩))->Wk E (.ops (cr::l) j acc ps::k) σ) /\
  (∀cr l j acc ps k σ v rd wr,A0Q (lk σ.fr) cr.g->(Q8 (lk σ.fr) cr.g=true->ExR E.P cr.us (E.n0+σ.k+1024*j) (lk σ.fr) (bk σ.bx) cr.op ⟨true,v,rd,wr⟩)->goR E n cr l j acc ps k σ (Q8 (lk σ.fr) cr.g) v rd wr->Wk E (.ops (cr::l) j acc ps::k) σ) /\
  (∀cr l j acc ps k σ v rd wr,A0Q (lk σ.fr) cr.g->(Q8 (lk σ.fr) cr.g=true->ExR E.P cr.us (E.n0+σ.k+1024*j) (lk σ.fr) (bk σ.bx) cr.op ⟨true,v,rd,wr⟩)->goG E n cr l j acc ps k σ (Q8 (lk σ.fr) cr.g) v rd wr->Wk E (.ops (cr::l) j acc ps::k) σ):=by
 intro n;induction n with
 | zero =>
  refine⟨fun k σ h=>by simpa only[go] using h,fun id k σ h=>by simpa only[goX] using h,fun b id k σ h=>by simpa only[goB] using h,fun v x y k σ h=>by simpa only[goV] using h,fun b x y k σ h=>by simpa only[goC] using h,
   fun cr l j acc ps k σ hg h=>by simp only[goO] at h,fun cr l j acc ps k σ op p v rd wr hop hg hs h=>by simp only[goS] at h,fun cr l j acc ps k σ v rd wr hg hx h=>by simp only[goR] at h,fun cr l j acc ps k σ v rd wr hg hx h=>by simp only[goG] at h⟩
 | succ n ih =>
  obtain⟨i1,i2,i3,i4,i5,i6,i7,i8,i9⟩:=ih;refine⟨fun k σ h=>?_,fun id k σ h=>?_,fun b id k σ h=>?_,fun v x y k σ h=>?_,fun b x y k σ h=>?_,fun cr l j acc ps k σ hg h=>?_,fun cr l j acc ps k σ op p v rd wr hop hg hs h=>?_,fun cr l j acc ps k σ v rd wr hg hx h=>?_,fun cr l j acc ps k σ v rd wr hg hx h=>?_⟩
  ·cases k with
   | nil=>simp only[go] at h; exact h
   | cons x k =>
    cases x with
    | blk id=>simp only[go] at h; exact i1 k σ h
    | post p=>simp only[go] at h; exact h
    | code c =>
     cases c with
     | skip=>simp only[go] at h; exact B4u (i1 k σ h)
     | seq x y=>simp only[go] at h; exact B4S (i1 _ σ h)
     | block id c=>simp only[go] at h; exact B3P (i1 _ σ h)
     | exit id=>simp only[go] at h; exact B4v (i2 id k σ h)
     | ret=>simp only[go] at h; exact B5n h
     | cond o x y =>
      simp only[go] at h;obtain⟨b,e,h1,h2⟩:=i4 _ x y k σ h.2;exact B4w h.1 e h1 h2
     | reg d crs ps=>simp only[go] at h; exact B5o (i1 _ σ h)
     | loop c=>simpa only[go] using h
     | bad=>simpa only[go] using h
    | ops l j acc ps =>
     cases l with
     | nil=>simp only[go] at h; exact B5p (B3S h.1) (i1 k _ h.2)
     | cons cr l=>simp only[go] at h; exact i6 cr l j acc ps k σ h.1 h.2
  ·cases k with
   | nil=>simp only[goX] at h
   | cons x k =>
    cases x with
    | blk id' =>
     simp only[goX] at h;have:=i3 _ id k σ h;show (if id=id' then Wk E k σ else Wx E id k σ);simpa only[decide_eq_true_eq] using this
    | post p=>simp only[goX] at h; exact i2 id k σ h
    | code c=>simp only[goX] at h; exact i2 id k σ h
    | ops=>simp only[goX] at h; exact i2 id k σ h
  ·cases b with
   | true=>simp only[goB] at h; simpa using i1 k σ h
   | false=>simp only[goB] at h; simpa using i2 id k σ h
  ·cases v with
   | bool b=>simp only[goV] at h; exact⟨b,rfl,i5 b x y k σ h⟩
   | _=>simp only[goV] at h
  ·cases b with
   | true=>simp only[goC] at h; exact⟨fun _=>i1 _ σ h,fun h=>by cases h⟩
   | false=>simp only[goC] at h; exact⟨(fun h=>by cases h),fun _=>i1 _ σ h⟩
  ·have other:∀op,cr.op=op->goS E n cr l j acc ps k σ (Q8 (lk σ.fr) cr.g) (sem (H9 (lk σ.fr)) (bk σ.bx) (E.n0+(σ.k+1024*j)) op)->Wk E (.ops (cr::l) j acc ps::k) σ:=fun op hop h=>by
    cases hs:sem (H9 (lk σ.fr)) (bk σ.bx) (E.n0+(σ.k+1024*j)) op with
    | none=>rw[hs] at h; cases n<;>simp only[goS] at h
    | some q =>
     obtain⟨p,v,rd,wr⟩:=q;rw[hs] at h;exact i7 cr l j acc ps k σ op p v rd wr hop hg hs h
   obtain⟨dst,g,us,op⟩:=cr;cases op with
   | pick c a b =>
    simp only[goO] at h;refine i8 _ l j acc ps k σ _ [] [] hg (fun hc=>?_) h.2;obtain⟨⟨q1,q2⟩,q3,q4⟩:=h.1 hc;exact .pick true c a b q1 q2 q3 q4
   | call f xs=>simpa only[goO] using h
   | callv x xs=>simpa only[goO] using h
   | cpy x y=>simpa only[goO] using h
   | inv m x xs=>simpa only[goO] using h
   | _=>simp only[goO] at h; exact other _ rfl h
  ·subst hop;simp only[goS] at h;refine i8 cr l j acc ps k σ v rd wr hg (fun hc=>?_) h.2;obtain⟨q1,q2⟩:=h.1 hc;exact .sem true cr.op p v rd wr q1 (by rw[yx]; exact hs) q2
  ·have ex:∀b,Q8 (lk σ.fr) cr.g=b->(b=true->ExR E.P cr.us (E.n0+σ.k+1024*j) (lk σ.fr) (bk σ.bx) cr.op ⟨b,v,rd,wr⟩):=fun b hb hb'=>by subst hb'; exact hx hb
   cases wr with
   | nil =>
    simp only[goR] at h;exact A2x (r:=⟨Q8 (lk σ.fr) cr.g,v,rd,[]⟩) ⟨hg,rfl,fun hc=>ex _ rfl hc,fun _=>rfl⟩ (Y5 (i1 _ _ h))
   | cons q wr=>simp only[goR] at h; exact i9 cr l j acc ps k σ v rd (q::wr) hg hx h
  ·cases hc:Q8 (lk σ.fr) cr.g with
   | true =>
    rw[hc] at h;simp only[goG] at h;exact A2x (r:=⟨true,v,rd,wr⟩) ⟨hg,hc.symm,fun _=>hx hc,fun h=>by cases h⟩ (Y5 (i1 _ _ h))
   | false =>
    rw[hc] at h;simp only[goG] at h;exact A2x (r:=⟨false,.nili,[],[]⟩) ⟨hg,hc.symm,(fun h=>by cases h),fun _=>rfl⟩ (Y5 (i1 _ _ h))
theorem A6(n:Nat){k:List Itm}{σ:St}(h:go E n k σ):Wk E k σ:=(B4y n).1 k σ h
end
def X2(B:Nat->Option Bx):List (Nat×Bx)->Prop
 | []=>True
 | (i,b)::l=>B i=some b/\X2 B l
theorem X2.has{B:Nat->Option Bx}:∀{l:List (Nat×Bx)},X2 B l->G8 B l
 | [],_=>G8.nil
 | (i,b)::l,h=>fun q hq=>by
  rcases zi.1 hq with rfl|hq
  ·exact h.1
  ·exact h.2.has q hq
section
variable {E:R9} {σ:St} {k:List Itm} {P:Program}
theorem C6(hP:E.P=P){dst:Option Nat}{us:List Nat}{f:Nat}{xs:List G7}{l:List CR}{j:Nat}{acc:List RR}{ps:List (Nat×Nat)}{args:List AV}{rd:List (Nat×Bx)}{v:AV}{wr:List (Nat×Option Bx)}
  (ha:xs.map (H9 (lk σ.fr))=args) (hc:A2 P f args rd (E.n0+(σ.k+1024*j)) v wr) (hu:A03 (lk σ.fr) us) (hh:X2 (bk σ.bx) rd) (h:Wk E (.ops l (j+1) (j0 ps ⟨true,v,rd,wr⟩ acc) ps::k) (σ.app dst ⟨true,v,rd,wr⟩)) :
  Wk E (.ops (⟨dst,none,us,.call f xs⟩::l) j acc ps::k) σ:=by
 subst hP ha;refine A2x (r:=⟨true,v,rd,wr⟩) ⟨trivial,rfl,fun _=>.call f xs _ hu (.inl ⟨?_,hh.has⟩),fun h=>by cases h⟩ (Y5 h);rw[yx]; exact hc
theorem B3T(hP:E.P=P){dst:Option Nat}{us:List Nat}{f:Nat}{xs:List G7}{l:List CR}{j:Nat}{acc:List RR}{ps:List (Nat×Nat)}{args args':List AV}{p:Prop}{fz rd:List (Nat×Bx)}{v:AV}{wr:List (Nat×Option Bx)}
  (ha:xs.map (H9 (lk σ.fr))=args) (hr:K1 (bk σ.bx) args=(p,args',fz)) (hp:p) (hc:A2 P f args' rd (E.n0+(σ.k+1024*j)) v wr) (hu:A03 (lk σ.fr) us) (hh:X2 (bk σ.bx) rd) (hd:R0 (O2 rd) (O2 fz))
  (h:Wk E (.ops l (j+1) (j0 ps ⟨true,v,fz++rd,wrF fz++wr⟩ acc) ps::k) (σ.app dst ⟨true,v,fz++rd,wrF fz++wr⟩)) :
  Wk E (.ops (⟨dst,none,us,.call f xs⟩::l) j acc ps::k) σ:=by
 subst hP ha;refine A2x (r:=⟨true,v,fz++rd,wrF fz++wr⟩) ⟨trivial,rfl,fun _=>.call f xs _ hu (.inr ⟨rd,wr,?_⟩),fun h=>by cases h⟩ (Y5 h);rw[hr,yx];exact⟨hp,hc,hh.has,fun q hq q1 hq1 e=>R3.1 hd q.1 (yi.2 ⟨q,hq,rfl⟩) (yi.2 ⟨q1,hq1,e.symm⟩),rfl,rfl⟩
theorem K3(hP:E.P=P){dst:Option Nat}{g:Option (Nat×Bool)}{us:List Nat}{f:Nat}{xs:List G7}{l:List CR}{j:Nat}{acc:List RR}{ps:List (Nat×Nat)}{args:List AV}{rd:List (Nat×Bx)}{v:AV}
  (hg:A0Q (lk σ.fr) g) (ha:xs.map (H9 (lk σ.fr))=args) (hc:Q8 (lk σ.fr) g=true->A2 P f args rd (E.n0+(σ.k+1024*j)) v []/\A03 (lk σ.fr) us/\X2 (bk σ.bx) rd)
  (h:Wk E (.ops l (j+1) (j0 ps ⟨Q8 (lk σ.fr) g,v,rd,[]⟩ acc) ps::k) (σ.app dst ⟨Q8 (lk σ.fr) g,v,rd,[]⟩)) :
  Wk E (.ops (⟨dst,g,us,.call f xs⟩::l) j acc ps::k) σ:=by
 subst hP ha;refine A2x (r:=⟨Q8 (lk σ.fr) g,v,rd,[]⟩) ⟨hg,rfl,fun hcc=>?_,fun _=>rfl⟩ (Y5 h);obtain⟨h1,h2,h3⟩:=hc hcc;refine .call f xs _ h2 (.inl ⟨?_,h3.has⟩);rw[yx]; exact h1
theorem P2(hP:E.P=P){dst:Option Nat}{us:List Nat}{f:Nat}{caps:List AV}{x:G7}{xs:List G7}{l:List CR}{j:Nat}{acc:List RR}{ps:List (Nat×Nat)}{args:List AV}{rd:List (Nat×Bx)}{v:AV}{wr:List (Nat×Option Bx)}
  (hx:H9 (lk σ.fr) x = .fn f caps) (ha:xs.map (H9 (lk σ.fr))=args) (hc:A2 P f (args++caps) rd (E.n0+(σ.k+1024*j)) v wr) (hu:A03 (lk σ.fr) us) (hh:X2 (bk σ.bx) rd) (h:Wk E (.ops l (j+1) (j0 ps ⟨true,v,rd,wr⟩ acc) ps::k) (σ.app dst ⟨true,v,rd,wr⟩)) :
  Wk E (.ops (⟨dst,none,us,.callv x xs⟩::l) j acc ps::k) σ:=by
 subst hP ha;refine A2x (r:=⟨true,v,rd,wr⟩) ⟨trivial,rfl,fun _=>.callv x xs f caps _ hu hx (.inl ⟨?_,hh.has⟩),fun h=>by cases h⟩ (Y5 h);rw[yx]; exact hc
theorem A66(hP:E.P=P){dst:Option Nat}{us:List Nat}{f:Nat}{caps:List AV}{x:G7}{xs:List G7}{l:List CR}{j:Nat}{acc:List RR}{ps:List (Nat×Nat)}{args:List AV}{rd:List (Nat×Bx)}{v:AV}{wr:List (Nat×Option Bx)}
  (hx:H9 (lk σ.fr) x = .fnb f caps) (ha:xs.map (H9 (lk σ.fr))=args) (hc:A2 P f (caps++args) rd (E.n0+(σ.k+1024*j)) v wr) (hu:A03 (lk σ.fr) us) (hh:X2 (bk σ.bx) rd) (h:Wk E (.ops l (j+1) (j0 ps ⟨true,v,rd,wr⟩ acc) ps::k) (σ.app dst ⟨true,v,rd,wr⟩)) :
  Wk E (.ops (⟨dst,none,us,.callv x xs⟩::l) j acc ps::k) σ:=by
 subst hP ha;refine A2x (r:=⟨true,v,rd,wr⟩) ⟨trivial,rfl,fun _=>.callb x xs f caps _ hu hx (.inl ⟨?_,hh.has⟩),fun h=>by cases h⟩ (Y5 h);rw[yx]; exact hc
theorem C9{b:Bool}{n:Nat}{x y:CC}(h1:b=true->go E n (.code x::k) σ)(h2:b=false->go E n (.code y::k) σ):goC E (n+1) b x y k σ:=by
 cases b with
 | true=>simpa only[goC] using h1 rfl
 | false=>simpa only[goC] using h2 rfl
theorem D5{b:Bool}{n:Nat}{x y:CC}(hb:b=true)(h1:go E n (.code x::k) σ):goC E (n+1) b x y k σ:=by subst hb; simpa only[goC] using h1
theorem A0{b:Bool}{n:Nat}{x y:CC}(hb:b=false)(h1:go E n (.code y::k) σ):goC E (n+1) b x y k σ:=by subst hb; simpa only[goC] using h1
theorem X3{n0 id:Nat}{S:Nat->Prop}{res:AV}{vs:List AV}{bx':List (Nat×Option Bx)}(h:tupOf vs=res)(hp:res.pureB=true)(hd:G6 n0 [] bx'):A7C n0 id S [] res [] vs bx' [] trivial :=
 ⟨by rw[h]; exact .same _ (L0 _ hp),trivial,hd,trivial,trivial,trivial⟩
end
section
variable {R:Rn} {S:Nat->Prop}
theorem B1P{k k':IntKind}{a b:Int}:J8 R S (.int k a) (.int k' b)↔k=k'/\a=b :=
 ⟨fun h=>by cases h; exact⟨rfl,rfl⟩,fun⟨h1,h2⟩=>by subst h1 h2; exact .same _ trivial⟩
theorem B02{a b:Bool}:J8 R S (.bool a) (.bool b)↔a=b :=
 ⟨fun h=>by cases h; rfl,fun h=>by subst h; exact .same _ trivial⟩
theorem B1Q{a b:List UInt8}:J8 R S (.str a) (.str b)↔a=b :=
 ⟨fun h=>by cases h; rfl,fun h=>by subst h; exact .same _ trivial⟩
theorem B03:J8 R S .nilp .nilp↔True:=⟨fun _=>trivial,fun _=>.same _ trivial⟩
theorem B04:J8 R S .nilf .nilf↔True:=⟨fun _=>trivial,fun _=>.same _ trivial⟩
theorem B05:J8 R S .nili .nili↔True:=⟨fun _=>trivial,fun _=>.same _ trivial⟩
theorem B06:J8 R S .nils .nils↔True:=⟨fun _=>trivial,fun _=>.same _ trivial⟩
theorem A8L{ys:List AV}:J8 R S .nils (.sl ys)↔ys=[] :=
 ⟨fun h=>by cases h; rfl,fun h=>by subst h; exact .nils⟩
theorem B3U{xs ys:List AV}:J8 R S (.sl xs) (.sl ys)↔xs=ys/\D9 (R.fix S) xs :=
 ⟨fun h=>by cases h with|same _ h=>exact⟨rfl,h⟩,fun⟨h1,h2⟩=>by subst h1; exact .same _ h2⟩
theorem B07{xs ys:List AV}:J8 R S (.cptr xs) (.cptr ys)↔xs=ys/\D9 (R.fix S) xs :=
 ⟨fun h=>by cases h with|same _ h=>exact⟨rfl,h⟩,fun⟨h1,h2⟩=>by subst h1; exact .same _ h2⟩
theorem B1R{a b i i' o o':Nat}:J8 R S (.ptr a i o) (.ptr b i' o')↔i=i'/\o=o'/\(R.ρ b=some a\/(a=b/\R.ρ a=none/\S a)):=by
 constructor
 ·intro h;cases h with
  | same _ h=>exact⟨rfl,rfl,h.imp _root_.id fun h=>⟨rfl,h⟩⟩
  | ptr _ _ _ _ h=>exact⟨rfl,rfl,.inl h⟩
 ·rintro⟨rfl,rfl,h|⟨rfl,h⟩⟩
  ·exact .ptr _ _ _ _ h
  ·exact .same _ (.inr h)
theorem B1S{a b i i' o o':Nat}:J8 R S (.bsl a i o) (.bsl b i' o')↔i=i'/\o=o'/\(R.ρ b=some a\/(a=b/\R.ρ a=none/\S a)):=by
 constructor
 ·intro h;cases h with
  | same _ h=>exact⟨rfl,rfl,h.imp _root_.id fun h=>⟨rfl,h⟩⟩
  | bsl _ _ _ _ h=>exact⟨rfl,rfl,.inl h⟩
 ·rintro⟨rfl,rfl,h|⟨rfl,h⟩⟩
  ·exact .bsl _ _ _ _ h
  ·exact .same _ (.inr h)
theorem B1T{cs ds:List AV}:J8 R S (.agg cs) (.agg ds)↔K2 R S cs ds :=
 ⟨fun h=>by
  cases h with
  | same _ h=>exact K2.same h
  | agg _ _ h=>exact h,.agg _ _⟩
theorem B1U{cs ds:List AV}:J8 R S (.tup cs) (.tup ds)↔K2 R S cs ds :=
 ⟨fun h=>by
  cases h with
  | same _ h=>exact K2.same h
  | tup _ _ h=>exact h,.tup _ _⟩
theorem B3V{f g:Nat}{cs ds:List AV}:J8 R S (.fn f cs) (.fn g ds)↔f=g/\K2 R S cs ds :=
 ⟨fun h=>by
  cases h with
  | same _ h=>exact⟨rfl,K2.same h⟩
  | fn _ _ _ h=>exact⟨rfl,h⟩,fun⟨h1,h2⟩=>by subst h1; exact .fn _ _ _ h2⟩
theorem B1V{f g:Nat}{cs ds:List AV}:J8 R S (.fnb f cs) (.fnb g ds)↔f=g/\K2 R S cs ds :=
 ⟨fun h=>by
  cases h with
  | same _ h=>exact⟨rfl,K2.same h⟩
  | fnb _ _ _ h=>exact⟨rfl,h⟩,fun⟨h1,h2⟩=>by subst h1; exact .fnb _ _ _ h2⟩
theorem A8M{t u:Nat}{x y:AV}:J8 R S (.iface t x) (.iface u y)↔t=u/\J8 R S x y :=
 ⟨fun h=>by
  cases h with
  | same _ h=>exact⟨rfl,.same _ h⟩
  | iface _ _ _ h=>exact⟨rfl,h⟩,fun⟨h1,h2⟩=>by subst h1; exact .iface _ _ _ h2⟩
theorem B1W:K2 R S [] []↔True:=⟨fun _=>trivial,fun _=>.nil⟩
theorem B08{x y:AV}{l r:List AV}:K2 R S (x::l) (y::r)↔J8 R S x y/\K2 R S l r :=
 ⟨fun h=>by cases h with|cons _ _ _ _ h hl=>exact⟨h,hl⟩,fun⟨h,hl⟩=>.cons _ _ _ _ h hl⟩
theorem F7{xs ys:List AV}(h:xs=ys)(hp:E7 xs=true):K2 R S xs ys:=by subst h; exact K2.same (A5 _ hp)
theorem U7{x y:AV}(h:x=y)(hp:x.pureB=true):J8 R S x y:=by subst h; exact .same _ (L0 _ hp)
theorem B3W{xs xs':List AV}{d d':AV}{ro ro' frz frz':Bool}:BxR R S ⟨xs,d,ro,frz⟩ ⟨xs',d',ro',frz'⟩↔K2 R S xs xs'/\d.cells.length=d'.cells.length/\ro=ro'/\frz=frz' :=
 ⟨fun⟨h1,h2,h3,h4⟩=>⟨h1,h2,h3,h4⟩,fun⟨h1,h2,h3,h4⟩=>⟨h1,h2,h3,h4⟩⟩
theorem B4z(n0:Nat)(l:List (Nat×Nat))(h:I0 l)(y:Nat):(L9 n0 l h).ρ y=z6 n0 l y:=rfl
theorem D6{α:Type}{f:α->AV}(h:∀x,(f x).pureB=true):∀l:List α,E7 (l.map f)=true
 | []=>rfl
 | x::l=>by simp only[yd,E7,h x,D6 h l,Bool.and_self]
theorem I5{a b:List AV}(h1:E7 a=true)(h2:E7 b=true):E7 (a++b)=true:=by
 induction a with
 | nil=>exact h2
 | cons x l ih =>
  simp only[E7,yh,yo] at h1 ⊢;exact⟨h1.1,ih h1.2⟩
end
theorem wrap64{x:Int}(h : -9223372036854775808<=x/\x<=9223372036854775807):IntKind.i64.wrap x=x:=IntWalk.i64_in _ h
theorem B50{i n0:Nat}(h:i<n0)(t:Nat):(i=n0+t)=False:=by simp; omega
theorem B3X{i n0:Nat}(h:i<n0)(t:Nat):(n0+t=i)=False:=by simp; omega
theorem B3Y{i n0:Nat}(h:i<n0):(i=n0)=False:=by simp; omega
theorem B1X{i n0:Nat}(h:i<n0):(n0=i)=False:=by simp; omega
theorem B5t{i id:Nat}(h:i<id\/id+1024<=i):(i=id)=False:=by simp; omega
theorem B51{i id:Nat}(h:i<id\/id+1024<=i):(id=i)=False:=by simp; omega
theorem B5u{id n0:Nat}(h:id+1024<=n0):(id<n0)=True:=by simp; omega
theorem B52{id n0:Nat}(h:id+1024<=n0)(t:Nat):(id=n0+t)=False:=by simp; omega
theorem B3Z{id n0:Nat}(h:id+1024<=n0)(t:Nat):(n0+t=id)=False:=by simp; omega
theorem B3a{id n0:Nat}(h:id+1024<=n0):(id=n0)=False:=by simp; omega
theorem B1Y{id n0:Nat}(h:id+1024<=n0):(n0=id)=False:=by simp; omega
theorem lf{i n0 id:Nat}(h:i<n0/\(i<id\/id+1024<=i)):(∀t,(i=n0+t)=False)/\(∀t,(n0+t=i)=False)/\(i=n0)=False/\(n0=i)=False/\i<n0/\(i=id)=False/\(id=i)=False :=
 ⟨B50 h.1,B3X h.1,B3Y h.1,B1X h.1,h.1,B5t h.2,B51 h.2⟩
theorem B2{id n0:Nat}(h:id+1024<=n0):(id<n0)=True/\(∀t,(id=n0+t)=False)/\(∀t,(n0+t=id)=False)/\(id=n0)=False/\(n0=id)=False:=⟨B5u h,B52 h,B3Z h,B3a h,B1Y h⟩
theorem A7G(c a:Bool):A4v c a false=(c&&a):=by cases c<;>cases a<;>rfl
theorem A8N(c b:Bool):A4v c true b=(c||b):=by cases c<;>cases b<;>rfl
attribute [simp] A5n go goX goB goV goC goO goS goR goG mmT mmI St.app St.bump B3O f8 lk bk H9 ceF ceO Q8 A0Q j0 A03 sem A0K C4 e9 q9 z7 A5o hiT loT Y1 B4o N1 B4p rsv S6 W7 r8 K1 wrF A6g Bx.el Bx.sz ldT stT unT N9 A6j B3K AV.isAgg AV.isStr AV.isBoolB AV.isT AV.cells AV.one A7G A8N B10 O2 K8 B4x B3R f7 R0 A50 A10 X2 Y0 A0O Q6 A13
attribute [simp] A7A A2y G6 A0T A2e I0 M6 H5 Y3 z6 B4z B1P B02 B1Q B03 B04 B05 B06 A8L B3U B07 B1R B1S B1T B1U B3V B1V A8M B1W B08 B3W tupOf A0J A3g D8 P9 AV.pureB E7
theorem A8O{P:Program}{f:Nat}{fn:Func}{cc:CC}{crs:List X1}{args:List AV}{rd:List (Nat×Bx)}{id:Nat}{res:AV}{wr:List (Nat×Option Bx)}
  (hf : P.funcs[f]? = some fn) (hcc : fn.body.map (D4 P fn.ntmps) = some cc) (hnm : (fn.name == "runtime.NumGoroutine") = false) (hrs : L2 P fn.results.toList = some crs) (hN : args.length <= fn.ntmps)
  (h:∀E:R9,E.P=P->E.Rt=v8 E.n0 id E.G0.used crs rd res wr->(∀q∈rd,q.1<E.n0/\(q.1<id\/id+1024<=q.1))->id+1024<=E.n0->Wk E [.code cc] ⟨A0K 0 args,C4 rd,0⟩):A2 P f args rd id res wr:=by
 obtain⟨c,hb,rfl⟩:=zj.1 hcc;exact B5r hf hb hnm hrs hN fun E h1 _ h3 h4 h5=>h E h1 h3 h4 h5
def A2g(F:Fr)(B:Nat->Option Bx)(crs:List X1)(vs:List AV):Prop:=match s6 F B crs with
 | some (p,us)=>p/\us=vs
 | none=>False
theorem H2{n0 id:Nat}{S:Nat->Prop}{crs:List X1}{rd:List (Nat×Bx)}{res:AV}{wr:List (Nat×Option Bx)}{σ:St}{vs:List AV}(h:A2g (lk σ.fr) (bk σ.bx) crs vs)(rn:List (Nat×Nat))(hrn:I0 rn)(he:A7C n0 id S rd res wr vs σ.bx rn hrn):v8 n0 id S crs rd res wr σ:=by
 unfold A2g at h;unfold v8;cases hr:s6 (lk σ.fr) (bk σ.bx) crs with
 | none=>rw[hr] at h; exact h.elim
 | some q =>
  obtain⟨p,us⟩:=q;rw[hr] at h;obtain⟨hp,rfl⟩:=h;exact⟨hp,false,rn,hrn,he⟩
theorem B3b{n0 id:Nat}{S:Nat->Prop}{crs:List X1}{rd:List (Nat×Bx)}{res:AV}{wr:List (Nat×Option Bx)}{σ:St}{vs vs':List AV}{q:Prop}{fz:List (Nat×Bx)}(h:A2g (lk σ.fr) (bk σ.bx) crs vs)(hr:K1 (bk σ.bx) vs=(q,vs',fz))(hq:q)
  (rn:List (Nat×Nat)) (hrn:I0 rn) (he:A7C n0 id S rd res wr vs' (f8 σ.bx (wrF fz)) rn hrn):v8 n0 id S crs rd res wr σ:=by
 unfold A2g at h;unfold v8;cases hv:s6 (lk σ.fr) (bk σ.bx) crs with
 | none=>rw[hv] at h; exact h.elim
 | some z =>
  obtain⟨p,us⟩:=z;rw[hv] at h;obtain⟨hp,rfl⟩:=h;refine⟨hp,true,rn,hrn,?_⟩;show (K1 (bk σ.bx) us).1/\_;rw[hr];exact⟨hq,he⟩
def A3i(B:Nat->Option Bx)(vs vs':List AV)(fz:List (Nat×Bx)):Prop:=(K1 B vs).1/\(K1 B vs).2.1=vs'/\(K1 B vs).2.2=fz
theorem A3i.eq{B:Nat->Option Bx}{vs vs':List AV}{fz:List (Nat×Bx)}(h:A3i B vs vs' fz):K1 B vs=((K1 B vs).1,vs',fz):=by
 obtain⟨_,h2,h3⟩:=h;rw[←h2,←h3]
theorem A1c{E:R9}{σ:St}{k:List Itm}{P:Program}(hP:E.P=P){dst:Option Nat}{us:List Nat}{f:Nat}{xs:List G7}{l:List CR}{j:Nat}{acc:List RR}{ps:List (Nat×Nat)}{args args':List AV}{fz rd:List (Nat×Bx)}{v:AV}{wr:List (Nat×Option Bx)}
  (ha:xs.map (H9 (lk σ.fr))=args) (hc:A2 P f args' rd (E.n0+(σ.k+1024*j)) v wr) (hr:A3i (bk σ.bx) args args' fz) (hu:A03 (lk σ.fr) us) (hh:X2 (bk σ.bx) rd) (hd:R0 (O2 rd) (O2 fz))
  (h:Wk E (.ops l (j+1) (j0 ps ⟨true,v,fz++rd,wrF fz++wr⟩ acc) ps::k) (σ.app dst ⟨true,v,fz++rd,wrF fz++wr⟩)) :
  Wk E (.ops (⟨dst,none,us,.call f xs⟩::l) j acc ps::k) σ:=B3T hP ha hr.eq hr.1 hc hu hh hd h
theorem n9{n0 id:Nat}{S:Nat->Prop}{crs:List X1}{rd:List (Nat×Bx)}{res:AV}{wr:List (Nat×Option Bx)}{σ:St}{vs vs':List AV}{fz:List (Nat×Bx)}(h:A2g (lk σ.fr) (bk σ.bx) crs vs)(hr:A3i (bk σ.bx) vs vs' fz)
  (rn:List (Nat×Nat)) (hrn:I0 rn) (he:A7C n0 id S rd res wr vs' (f8 σ.bx (wrF fz)) rn hrn):v8 n0 id S crs rd res wr σ:=B3b h hr.eq hr.1 rn hrn he
@[simp] theorem B3c {α:Type} (f:α->AV) (l:List α):List.take l.length (l.map f)=l.map f:=zn (by simp)
attribute [simp] s6 A2g A3i
def G0(W:World):Gh:={ fz:=fun b o=>∃u,W.cell? ⟨b,o,none⟩=some u,used:=fun _=>False,bm:=fun _=>none,nl:=fun _=>False }
def C0{P:Program}(W:World)(ht:A16 P W):Cx P:=⟨W.heap.size,W,(G0 W).fz,fun _ hb=>ht.below hb⟩
theorem RS.start{P:Program}(W:World)(ht:A16 P W):RS (C0 W ht) (G0 W) (fun _=>none) W :=
 ⟨Below.refl _ _,yg _,fun _ _ h=>h,fun _ _ h _=>h,fun _ _ h=>by (cases h),fun _ _ h=>by (cases h),fun _ h=>h.elim,fun _ _ _ h=>by (cases h),fun _ _ _ _ _ h=>by (cases h),fun _ _ _ h=>by (cases h)⟩
def A1d(p:TypeId->AV->Prop):List TypeId->List AV->Prop
 | [],[]=>True
 | t::ts,y::ys=>p t y/\A1d p ts ys
 | _,_=>False
def U8(P:Program):Nat->TypeId->AV->Prop
 | 0,_,_=>False
 | n+1,t,x=>match P.underlying t with
  | some .bool=>∃b,x = .bool b
  | some (.int k)=>∃m,x = .int k m/\(Lit.int k m).wf=true
  | some .string=>∃s:List UInt8,x = .str s/\s.length<=reachBytes
  | some (.slice e)=>∃xs:List AV,x = .sl xs/\xs.length<=reachBytes/\∀y∈xs,U8 P n e y
  | some (.struct fs)=>∃ys:List AV,x = .agg (ys.flatMap AV.cells)/\A1d (U8 P n) (fs.toList.map (·.type)) ys
  | _=>False
mutual
def P6{H:Type}:DataW H->AV
 | .lit (.int k n)=>.int k n
 | .lit (.bool b)=>.bool b
 | .lit (.string s)=>.str s
 | .nil=>.sl []
 | .slice elems _=>.sl (A9A elems)
 | .agg parts=>.agg (A3C parts)
 | _=>.nili
def A9A{H:Type}:List (DataW H)->List AV
 | []=>[]
 | d::r=>P6 d::A9A r
def A3C{H:Type}:List (DataW H)->List AV
 | []=>[]
 | d::r=>(P6 d).cells++A3C r
end
theorem A57{H:Type}:∀l:List (DataW H),A9A l=l.map P6
 | []=>rfl
 | d::r=>by simp only[A9A,yd,A57 r]
theorem A2h{H:Type}:∀l:List (DataW H),A3C l=(l.map P6).flatMap AV.cells
 | []=>rfl
 | d::r=>by simp only[A3C,yd,xr,A2h r]
def A2i(P:Program):List Field->Nat->Nat->Bool
 | [],k,n=>k==n
 | f::r,k,n=>f.offset==k&&A2i P r (k+P.cellsOf f.type) n
def A58(P:Program)(l:List TypeId)(t:TypeId):Bool:=match P.underlying t with
 | some .bool=>true
 | some (.int _)=>true
 | some .string=>true
 | some (.slice e)=>l.contains e&&decide (0<P.bytesOf e)
 | some (.struct fs)=>fs.toList.all (fun f=>l.contains f.type)&&A2i P fs.toList 0 (P.cellsOf t)
 | _=>false
theorem A7H{P:Program}:∀{l:List Field} {k n:Nat},A2i P l k n=true->k<=n
 | [],k,n,h=>by simp[A2i] at h; omega
 | f::r,k,n,h=>by
  simp only[A2i,yh] at h;have:=A7H h.2;omega
def A3D(W:World)(a:AV)(cs:List Value):Prop:=a.cells.length=cs.length/\∀(j:Nat) y,a.cells[j]?=some y->RV (G0 W) W y (cs.getD j undef)
def A0U(l:List Nat):Prop:=∀n∈l,n<=reachBytes
theorem A0U.of{l:List Nat}(h:l.all (·<=reachBytes)=true):A0U l:=fun n hn=>by simpa using yq.1 h n hn
theorem A59{H:Type}{P:Program}{e:TypeId}:∀{l:List (DataW H)},A0U (DataW.weightsAll P e l)->∀d∈l,A0U (d.weights P e)
 | [],_,d,hd=>by cases hd
 | x::l,h,d,hd=>by
  simp only[DataW.weightsAll] at h;rcases zi.1 hd with rfl|hd
  ·exact fun n hn=>h n (by simp[hn])
  ·exact A59 (l:=l) (fun n hn=>h n (by simp[hn])) d hd
section
variable {H:Type} {enc:TypeId×Value->H} {P:Program} {W:World} {sp:Nat->Bool} {l:List TypeId}
theorem A5A{n:Nat}(ih:∀t cs (x:DataW H×List MemPlace),t∈l->DataW.trod enc P W 0 sp true n t cs=some x->A0U (x.1.weights P t)->U8 P n t (P6 x.1)/\A3D W (P6 x.1) cs){cs:List Value}:
  ∀(fl:List Field) (xs:List (DataW H×List MemPlace)) (k:Nat),xs.length=fl.length->(∀f∈fl,f.type∈l)->A2i P fl k cs.length=true->(∀(i:Nat) f,fl[i]?=some f->DataW.trod enc P W 0 sp true n f.type ((cs.drop f.offset).take (P.cellsOf f.type))=xs[i]?) ->
  A0U (DataW.weightsEach P (fl.map (·.type)) (xs.map (·.1))) ->
  A1d (U8 P n) (fl.map (·.type)) (xs.map fun x=>P6 x.1)/\k+((xs.map fun x=>P6 x.1).flatMap AV.cells).length=cs.length/\∀(j:Nat) y,((xs.map fun x=>P6 x.1).flatMap AV.cells)[j]?=some y->RV (G0 W) W y (cs.getD (k+j) undef)
 | [],[],k,_,_,hl,_,_=>by
  simp[A2i] at hl;exact⟨trivial,by simpa using hl,fun j y hy=>by simp at hy⟩
 | [],_::_,_,hx,_,_,_,_=>by simp at hx
 | _::_,[],_,hx,_,_,_,_=>by simp at hx
 | f::r,x::xs,k,hlen,hm,hl,ht,hw=>by
  simp only[A2i,yh,beq_iff_eq] at hl;obtain⟨h1,h2⟩:=hl;have hx:=ht 0 f rfl;simp only[yd,DataW.weightsEach] at hw;obtain⟨f1,f2,f3⟩:=ih _ _ _ (hm f (by simp)) hx fun n hn=>hw n (by simp[hn]);obtain⟨g1,g2,g3⟩:=A5A ih r xs (k+P.cellsOf f.type) (by simpa using hlen) (fun f' hf'=>hm f' (by simp[hf'])) h2 (fun i f' hf'=>by simpa using ht (i+1) f' (by simpa using hf')) fun n hn=>hw n (by simp[hn]);have hle:=A7H h2;have hal:(P6 x.1).cells.length=P.cellsOf f.type:=by rw[f2,zu,xc,h1]; omega
  refine⟨⟨f1,g1⟩,by simp only[yd,xr,yy]; omega,fun j y hy=>?_⟩;simp only[yd,xr] at hy;by_cases hj:j<(P6 x.1).cells.length
  ·rw[zz hj] at hy;have:=f3 j y hy;have e:((cs.drop f.offset).take (P.cellsOf f.type)).getD j undef=cs.getD (k+j) undef:=by
    simp only[xf];rw[xy (by omega),zw,h1]
   rw[e] at this;exact this
  ·rw[ya (by omega)] at hy;have:=g3 _ y hy;rw[show k+P.cellsOf f.type+(j - (P6 x.1).cells.length)=k+j by omega] at this;exact this
theorem A9B(hl:l.all (A58 P l)=true):∀(n:Nat) (t:TypeId) (cs:List Value) (x:DataW H×List MemPlace),t∈l->DataW.trod enc P W 0 sp true n t cs=some x->A0U (x.1.weights P t)->U8 P n t (P6 x.1)/\A3D W (P6 x.1) cs
 | 0,t,cs,x,_,h,_=>by simp[DataW.trod] at h
 | n+1,t,cs,x,ht,h,hw=>by
  have hk:=yq.1 hl t ht;have ih:=A9B hl n;have one:∀(a:AV) (v:Value),a.cells=[a]->RV (G0 W) W a v->A3D W a [v]:=fun a v ha hr=>by
   refine⟨by rw[ha]; rfl,fun j y hy=>?_⟩;rw[ha] at hy;cases j with
   | zero=>simp at hy; subst hy; exact hr
   | succ j=>simp at hy
  unfold A58 at hk;unfold U8;cases hu:P.underlying t with
  | none=>rw[hu] at hk; cases hk
  | some d =>
   rw[hu] at hk;cases d with
   | bool =>
    obtain⟨b,rfl,rfl⟩:=DataW.trod_bool hu h;exact⟨⟨b,rfl⟩,one _ _ rfl (.bool b)⟩
   | int k =>
    obtain⟨m,rfl,rfl,hwf⟩:=DataW.trod_int hu h;exact⟨⟨m,rfl,hwf⟩,one _ _ rfl (.int k m)⟩
   | string =>
    obtain⟨s,rfl,rfl,hs⟩:=DataW.trod_string hu h;obtain⟨⟨d⟩⟩:=s;exact⟨⟨d,rfl,hw _ (by simp[DataW.weights])⟩,one _ _ rfl (.str d)⟩
   | struct fs =>
    simp only[yh] at hk;obtain⟨xs,m,hm,rfl,hcl,hxl,hf⟩:=DataW.trod_struct hu h;obtain rfl:m=n:=by omega
    simp only[DataW.weights,hu] at hw;obtain⟨g1,g2,g3⟩:=A5A (cs:=cs) ih fs.toList xs 0 (by simpa using hxl) (fun f hf=>by simpa using yq.1 hk.1 f hf) (by rw[hcl]; exact hk.2) (fun i f hf'=>hf i f (by simpa using hf')) hw;have e:P6 (DataW.agg (xs.map (·.1))) = .agg ((xs.map fun x=>P6 x.1).flatMap AV.cells):=(by simp only[P6,A2h,xv]; rfl);simp only[e];refine⟨⟨_,rfl,g1⟩,?_,fun j y hy=>?_⟩
    ·simp only[AV.cells]; omega
    ·have:=g3 j y hy;rw[yu] at this;exact this
   | slice e =>
    simp only[yh,decide_eq_true_eq] at hk;have he:e∈l:=(by simpa using hk.1);rcases DataW.trod_slice hu h with⟨rfl,rfl⟩|⟨a,len,cap,elems,rest,m,hm,rfl,rfl,hb,hlc,hcm,hel,hE,-,-⟩
    ·refine⟨⟨[],rfl,by simp,fun y hy=>by cases hy⟩,one _ _ rfl ?_⟩;exact .sl [] none 0 0 (fun _ _=>undef) (yg _) (by simp[maxLen]) (fun _=>⟨rfl,rfl⟩) (fun i x hi=>by simp at hi) (fun a i x j y _ hi=>by simp at hi) (fun a i x j y _ hi=>by simp at hi) (fun i x j y hi=>by simp at hi)
    ·obtain rfl:m=n:=by omega
     simp only[DataW.weights,hu] at hw;have hlen0:(elems.length+rest.length)*P.bytesOf e<=reachBytes:=(by simpa using hw _ (zb ..));have hlen1:elems.length<=reachBytes:=by
      have:elems.length*1<=(elems.length+rest.length)*P.bytesOf e:=Nat.mul_le_mul (by omega) hk.2;omega
     have hwe:A0U (DataW.weightsAll P e (elems.map (·.1))):=fun n hn=>hw n (by simp[hn]);have HH:∀i x,elems[i]?=some x->∃cs,(U8 P m e (P6 x.1)/\A3D W (P6 x.1) cs)/\cs.length=P.cellsOf e/\∀j,j<P.cellsOf e->W.cell? ((a.add (i*P.cellsOf e)).add j)=cs[j]?:=fun i x hx=>by
      have hi:i<elems.length:=(ze.1 hx).1;have:=hE i (by omega);rw[hx,wo] at this;obtain⟨cs,c1,c2⟩:=this;obtain⟨q1,q2⟩:=ih e cs x he c2 (A59 hwe x.1 (yi.2 ⟨x,zf hx,rfl⟩));obtain⟨-,k2,k3⟩:=World.cells?_some c1;exact⟨cs,⟨q1,q2⟩,k2,k3⟩
     have eav:P6 (DataW.slice (elems.map (·.1)) (rest.map (·.1))) = .sl (elems.map fun x=>P6 x.1):=(by simp only[P6,A57,xv]; rfl);simp only[eav];have hget:∀(i:Nat) y,(elems.map fun x=>P6 x.1)[i]?=some y->∃x,elems[i]?=some x/\y=P6 x.1:=fun i y hy=>by
      rw[ye,zj] at hy;obtain⟨x,hx,rfl⟩:=hy;exact⟨x,hx,rfl⟩
     have hadd:∀i j,(a.add (i*P.cellsOf e)).add j=a.add (i*P.cellsOf e+j):=fun i j=>by
      clear ih one HH hE h hw;unfold Addr.add;generalize i*P.cellsOf e=n;by_cases hj:j=0
      ·subst hj; simp
      ·by_cases hn:n=0
       ·subst hn; simp
       ·have:n+j≠0:=by omega
        simp[hj,hn,yx]
     have hcell:∀(i:Nat) y (j:Nat) z,(elems.map fun x=>P6 x.1)[i]?=some y->y.cells[j]?=some z->∃u,W.cell? (a.add (i*P.cellsOf e+j))=some u/\RV (G0 W) W z u:=fun i y j z hy hz=>by
      obtain⟨x,hx,rfl⟩:=hget i y hy;obtain⟨cs,⟨_,k1,k2⟩,k3,k4⟩:=HH i x hx;have hj:j<cs.length:=(by rw[←k1]; exact (ze.1 hz).1);have h5:=k4 j (by omega);rw[hadd,zd hj] at h5;have h6:=k2 j z hz;rw[xf,zd hj] at h6;exact⟨_,h5,h6⟩
     refine⟨⟨_,rfl,by simpa using hlen1,fun y hy=>?_⟩,one _ _ rfl ?_⟩
     ·obtain⟨i,hi⟩:=List.getElem?_of_mem hy;obtain⟨x,hx,rfl⟩:=hget i y hi;obtain⟨_,h,_⟩:=HH i x hx;exact h.1
     ·have hlen:(elems.map fun x=>P6 x.1).length=len:=(by simpa using hel);have:=RV.sl (G:=G0 W) (w:=W) (elems.map fun x=>P6 x.1) (some a) cap (P.cellsOf e) (fun i j=>(W.cell? (a.add (i*P.cellsOf e+j))).getD undef) (by rw[hlen]; exact hlc) hcm (fun h=>by cases h)
       (fun i y hy=>by
        obtain⟨x,hx,rfl⟩:=hget i y hy;obtain⟨cs,⟨_,k1,k2⟩,k3,k4⟩:=HH i x hx;rw[k1,k3])
       (fun a' i y j z ha hy hz=>by
        injection ha with ha; subst ha
        obtain⟨u,hu,hr⟩:=hcell i y j z hy hz;have h2:=A4n hu;rw[O9,l6] at h2;exact⟨_,h2⟩)
       (fun a' i y j z ha hy hz=>by
        injection ha with ha; subst ha
        obtain⟨u,hu,hr⟩:=hcell i y j z hy hz;rw[hu]; rfl)
       (fun i y j z hy hz=>by
        obtain⟨u,hu,hr⟩:=hcell i y j z hy hz;rw[hu]; exact hr)
      rw[hlen] at this;exact this
   | _=>cases hk
theorem B53(hl:l.all (A58 P l)=true){r:Reach}{b0:Nat}{t:TypeId}(ht:t∈l){v:Value}{d:DataW H}{ps:List MemPlace}(hval:Value.okWide P W r b0 t v)(hd:DataW.Trod enc P W 0 sp true t v d ps)(hw:A0U (d.weights P t)):
  (∃n,U8 P n t (P6 d))/\RV (G0 W) W (P6 d) v:=by
 obtain⟨n,hn⟩:=hd;obtain⟨h1,h2,h3⟩:=A9B hl n t _ _ ht hn hw;refine⟨⟨n,h1⟩,?_⟩;have hk:=yq.1 hl t ht;simp only at h1 h2 h3;generalize P6 d=a at *;cases n with
 | zero=>exact h1.elim
 | succ n =>
  unfold A58 at hk;unfold U8 at h1;have one:v.cells = #[v]->a.cells=[a]->RV (G0 W) W a v:=fun hv ha=>by
   have:=h3 0 a (by rw[ha]; rfl);rw[hv] at this;exact this
  cases hu:P.underlying t with
  | none=>rw[hu] at hk; cases hk
  | some q =>
   rw[hu] at hk h1;cases q with
   | bool=>obtain⟨b,rfl⟩:=WideShapes.okWide_bool hu hval; obtain⟨_,rfl⟩:=h1; exact one rfl rfl
   | int k=>obtain⟨b,rfl⟩:=WideShapes.okWide_int hu hval; obtain⟨_,rfl,_⟩:=h1; exact one rfl rfl
   | string=>obtain⟨b,rfl⟩:=WideShapes.okWide_string hu hval; obtain⟨_,rfl,_⟩:=h1; exact one rfl rfl
   | slice e=>obtain⟨a',len,cap,rfl⟩:=WideShapes.okWide_slice hu hval; obtain⟨_,rfl,_⟩:=h1; exact one rfl rfl
   | struct fs =>
    obtain⟨ys,rfl,_⟩:=h1;simp only[Value.okWide,hu] at hval;obtain⟨cs,rfl,_⟩:=hval;refine .agg _ cs (by simpa [AV.cells,Value.cells] using h2) fun i y hy=>?_;have:=h3 i y hy;simpa [Value.cells,xf,zl] using this
   | _=>cases hk
end
def A9C(P:Program)(t:TypeId)(a:AV):Prop:=∃n,U8 P n t a
section
variable {H:Type} {enc:TypeId×Value->H} {P:Program} {W W':World} {l:List TypeId}
theorem A9D(hl:l.all (A58 P l)=true){sp:Nat->Bool}{r:Reach}{b0:Nat}:∀{ts:List TypeId} {vs:List Value} {ds:List (DataW H)} {ps:List MemPlace},(∀t∈ts,t∈l)->(∀(j:Nat) t v,ts[j]?=some t->vs[j]?=some v->Value.okWide P W r b0 t v) ->
  DataW.TrodAll enc P W 0 sp true ts vs ds ps->A0U (DataW.weightsEach P ts ds)->A1d (A9C P) ts (ds.map P6)/\ds.length=vs.length/\ds.length=ts.length/\∀(i:Nat) y,(ds.map P6)[i]?=some y->RV (G0 W) W y (vs.getD i undef)
 | [],[],[],ps,_,_,_,_=>⟨trivial,rfl,rfl,fun i y hy=>by simp at hy⟩
 | t::ts,v::vs,d::ds,ps,hm,hv,h,hw=>by
  obtain⟨p,q,h1,h2,rfl⟩:=h;simp only[DataW.weightsEach] at hw;obtain⟨⟨n,f1⟩,f2⟩:=B53 hl (hm t (by simp)) (hv 0 t v rfl rfl) h1 fun n hn=>hw n (by simp[hn]);obtain⟨g1,g2,g3,g4⟩:=A9D hl (fun t ht=>hm t (by simp[ht])) (fun j t v hj hj'=>hv (j+1) t v (by simpa using hj) (by simpa using hj')) h2 fun n hn=>hw n (by simp[hn]);refine⟨⟨⟨n,f1⟩,g1⟩,by simp[g2],by simp[g3],fun i y hy=>?_⟩;cases i with
  | zero=>simp at hy; subst hy; exact f2
  | succ i=>exact g4 i y (by simpa using hy)
 | [],[],_::_,_,_,_,h,_=>h.elim
 | [],_::_,_,_,_,_,h,_=>h.elim
 | _::_,[],_,_,_,_,h,_=>h.elim
 | _::_,_::_,[],_,_,_,h,_=>h.elim
theorem A5B(hlaid:laidOutB P=true):∀{ts:List TypeId} {vs:List Value} {ds:List (DataW H)} {ps:List MemPlace},(∀t∈ts,P.readableRec t=true/\t<P.types.size)->(∀x∈ps,x.block<W.heap.size)->Below W.heap.size W W' ->
  DataW.TrodAll enc P W 0 (fun _=>true) true ts vs ds ps->DataW.TrodAll enc P W' 0 (fun b=>decide (b<W.heap.size)) true ts vs ds ps
 | [],[],[],ps,_,_,_,h=>h
 | t::ts,v::vs,d::ds,ps,hm,hlt,hb,h=>by
  obtain⟨p,q,h1,h2,rfl⟩:=h;exact⟨p,q,Below.trod hlaid (hm t (by simp)).1 (hm t (by simp)).2 h1 hb fun x hx=>hlt x (by simp[hx]),A5B hlaid (fun t ht=>hm t (by simp[ht])) (fun x hx=>hlt x (by simp[hx])) hb h2,rfl⟩
 | [],[],_::_,_,_,_,_,h=>h.elim
 | [],_::_,_,_,_,_,_,h=>h.elim
 | _::_,[],_,_,_,_,_,h=>h.elim
 | _::_,_::_,[],_,_,_,_,h=>h.elim
theorem B1Z{f:Nat}{fn:Func}{s:ChangeSpec}{apart fresh handsOn:Bool}{base:Nat}{args:Array Value}{ds gs:List (DataW H)}{before:List MemPlace}{tb:TypeId}
  (hl:l.all (A58 P l)=true) (hlaid:laidOutB P=true) (hts:fn.params.toList.all (fun t=>l.contains t&&(P.readableRec t&&decide (t<P.types.size)))=true)
  (hrt:fn.resultTypes = #[tb]) (htb:P.underlying tb=some .bool) (hsv:s.vars=[])
  (hs:∀(ds:List (DataW H)),ds.length=fn.params.size->s.fn H ds={ results:=[.lit (.bool true)],args:=ds })
  (main:∀xs:List AV,A1d (A9C P) fn.params.toList xs->xs=ds.map P6->A2 P f xs [] 0 (.bool true) [])
  (hsz:(DataW.weightsEach P (fn.params.toList++s.plain.varTypes P) (ds++gs)).all (·<=reachBytes)=true)
  (hval:∀(j:Nat) t v,fn.params[j]?=some t->args[j]?=some v->Value.okWide P W .any base t v)
  (hW:DataW.Whole enc P fn.params.toList s.vars apart W args.toList ds gs before) (htab:A16 P W) :
  Calls P f args W fun e W'=>∃v,e = .returned v/\s.post enc P fn apart fresh handsOn false W args v W':=by
 have hW':=hW;obtain⟨p,q,hA,hV,rfl,-,-⟩:=hW;rw[hsv] at hV;have hts':∀t∈fn.params.toList,t∈l/\P.readableRec t=true/\t<P.types.size:=fun t ht=>by
  have:=yq.1 hts t ht;simpa using this
 have hgs:gs=[]/\q=[]:=by
  cases gs with
  | nil=>exact⟨rfl,hV⟩
  | cons g gs=>exact hV.elim
 obtain⟨rfl,rfl⟩:=hgs;have hvt:s.plain.varTypes P=[]:=by simp[DataSpec.varTypes,ChangeSpec.plain,hsv]
 rw[hvt,uy,uy] at hsz;obtain⟨f1,f2,f3,f4⟩:=A9D hl (fun t ht=>(hts' t ht).1) (fun j t v hj hj'=>hval j t v (by simpa using hj) (by simpa using hj')) hA (A0U.of hsz);refine ((main _ f1 rfl).2 (C0 W htab) (G0 W) (fun _=>none) W args 0 (RS.start W htab) ⟨by simpa using f2,fun i y hy=>?_⟩ (fun q hq=>by cases hq) (fun _ _ h=>h) (fun _ _ _ h=>h)).mono fun e W' he=>?_
 ·have:=f4 i y hy;simpa [xf,zl] using this
 ·obtain⟨v,G',rfl,r1,r2,r3,r4⟩:=he;cases r3
  have hb:Below W.heap.size W W':=r1.below;have e1:s.fn H (ds++[])={ results:=[.lit (.bool true)],args:=ds }:=by rw[uy]; exact hs ds (by simpa using f3)
  refine⟨_,rfl,ds,[],p++[],[],p,[],hW',?_,?_,?_,hb.frame _,fun h=>by cases h⟩
  ·rw[e1,hrt];exact⟨[],[],⟨1,by simp[DataW.trod,Value.cells,htb]⟩,rfl,rfl⟩
  ·rw[e1];exact A5B hlaid (fun t ht=>(hts' t ht).2) (fun x hx=>hW'.lt x (by simp[hx])) hb hA
  ·rw[e1,hsv];rfl
end
section
variable {P:Program} {t:TypeId} {n:Nat} {x:AV}
theorem A3j{k:IntKind}(hu:P.underlying t=some (.int k))(h:U8 P n t x):∃m,x = .int k m/\(Lit.int k m).wf=true:=by
 cases n with
 | zero=>exact h.elim
 | succ n=>unfold U8 at h; rw[hu] at h; exact h
theorem A1e(hu:P.underlying t=some .string)(h:U8 P n t x):∃s:List UInt8,x = .str s/\s.length<=reachBytes:=by
 cases n with
 | zero=>exact h.elim
 | succ n=>unfold U8 at h; rw[hu] at h; exact h
theorem A1f{e:TypeId}(hu:P.underlying t=some (.slice e))(h:U8 P n t x):∃m xs,n=m+1/\x = .sl xs/\xs.length<=reachBytes/\∀y∈xs,U8 P m e y:=by
 cases n with
 | zero=>exact h.elim
 | succ n=>unfold U8 at h; rw[hu] at h; obtain⟨xs,h1,h2,h3⟩:=h; exact⟨n,xs,rfl,h1,h2,h3⟩
theorem A1g{fs:Array Field}(hu:P.underlying t=some (.struct fs))(h:U8 P n t x):∃m ys,n=m+1/\x = .agg (ys.flatMap AV.cells)/\A1d (U8 P m) (fs.toList.map (·.type)) ys:=by
 cases n with
 | zero=>exact h.elim
 | succ n=>unfold U8 at h; rw[hu] at h; obtain⟨ys,h1,h2⟩:=h; exact⟨n,ys,rfl,h1,h2⟩
theorem H1{p:TypeId->AV->Prop}{t:TypeId}{ts:List TypeId}{ys:List AV}(h:A1d p (t::ts) ys):∃y r,ys=y::r/\p t y/\A1d p ts r:=by
 cases ys with
 | nil=>exact h.elim
 | cons y r=>exact⟨y,r,rfl,h.1,h.2⟩
theorem c6{p:TypeId->AV->Prop}{ys:List AV}(h:A1d p [] ys):ys=[]:=by
 cases ys with
 | nil=>rfl
 | cons y r=>exact h.elim
theorem A1D{α:Type}{f:α->AV}:∀{xs:List AV},(∀y∈xs,∃a,y=f a)->∃l:List α,xs=l.map f
 | [],_=>⟨[],rfl⟩
 | y::r,h=>by
  obtain⟨a,rfl⟩:=h y (by simp);obtain⟨l,rfl⟩:=A1D (xs:=r) fun z hz=>h z (by simp[hz]);exact⟨a::l,rfl⟩
theorem B09{m:Int}(h:(Lit.int .i64 m).wf=true): -9223372036854775808<=m/\m<=9223372036854775807:=by
 simp only[Lit.wf,yh,decide_eq_true_eq] at h;have h1:IntKind.i64.min = -9223372036854775808:=rfl;have h2:IntKind.i64.max=9223372036854775807:=rfl;omega
end
def B54(P:Program)(t:TypeId):List TypeId:=match P.underlying t with
 | some (.slice e)=>[e]
 | some (.struct fs)=>fs.toList.map (·.type)
 | _=>[]
def B1a(P:Program):Nat->List TypeId->List TypeId
 | 0,l=>l
 | n+1,l=>B1a P n (l++(l.flatMap (B54 P)).eraseDups.filter fun t=>!l.contains t)
theorem o5{E:R9}{σ:St}{k:List Itm}{dst:Option Nat}{g:Option (Nat×Bool)}{us:List Nat}{op:W6}{l:List CR}{j:Nat}{acc:List RR}{ps:List (Nat×Nat)}(v:AV)(hg:A0Q (lk σ.fr) g)
  (h1:Q8 (lk σ.fr) g=true->Wk E (.ops (⟨dst,none,us,op⟩::l) j acc ps::k) σ)
  (h2:Q8 (lk σ.fr) g=false->Wk E (.ops l (j+1) (j0 ps ⟨false,v,[],[]⟩ acc) ps::k) (σ.app dst ⟨false,v,[],[]⟩)):Wk E (.ops (⟨dst,g,us,op⟩::l) j acc ps::k) σ:=by
 cases hc:Q8 (lk σ.fr) g with
 | true =>
  rcases h1 hc with⟨rs,r1,r2,r3⟩|⟨rs,pv,r1,r2,r3⟩
  ·cases rs with
   | nil=>exact r1.elim
   | cons r rs =>
    obtain⟨⟨o1,o2,o3,o4⟩,r1⟩:=r1;exact .inl ⟨r::rs,⟨⟨hg,o2.trans hc.symm,o3,o4⟩,r1⟩,r2,r3⟩
  ·cases rs with
   | nil=>exact .inr ⟨[],pv,r1,⟨hg,hc,r2.2.2⟩,r3⟩
   | cons r rs =>
    obtain⟨⟨o1,o2,o3,o4⟩,r2⟩:=r2;exact .inr ⟨r::rs,pv,r1,⟨⟨hg,o2.trans hc.symm,o3,o4⟩,r2⟩,r3⟩
 | false=>exact A2x (r:=⟨false,v,[],[]⟩) ⟨hg,hc.symm,(fun h=>by cases h),fun _=>rfl⟩ (Y5 (h2 hc))
section
variable {E:R9} {σ:St} {k:List Itm}
theorem B5v{X:Operand}{d:Nat}(h:opd X=some (.t d)):X = .tmp d:=by
 cases X<;>simp[opd] at h
 subst h; rfl
theorem B1b{X:Operand}(w:World)(h:opd X=some (.c .nils)):X = .const (.slice none 0 0):=by
 cases X with
 | const v =>
  simp only[opd,zj] at h;obtain⟨x,h1,h2⟩:=h;injection h2 with h2
  subst h2;have:=A83 (G:=⟨fun _ _=>False,fun _=>False,fun _=>none,fun _=>False⟩) (w:=w) h1;cases this
  rfl
 | _=>simp[opd] at h
theorem B1c{P:Program}{op:Op}{d:Nat}(w:World)(h:I3 P op=some (.bin .eql (some [8]) (.t d) (.c .nils))):∃t e t',op = .binOp .eql t (.tmp d) (.const (.slice none 0 0)) t'/\P.underlying t=some (.slice e):=by
 have hop:∃o t x y t',op = .binOp o t x y t':=by
  unfold I3 at h;split at h
  all_goals first|exact⟨_,_,_,_,_,rfl⟩|skip
  all_goals exfalso
  all_goals try simp only[L8,V7,V8,Y2,V9,W3,U6] at h
  all_goals repeat' split at h
  all_goals first|cases h; done|(refine (A0R h ?_).elim; intro a h; cases h; done)
 obtain⟨o,t,x,y,t',rfl⟩:=hop;simp only[I3] at h;split at h
 ·rename_i x' y' hx hy;split at h
  ·cases h
  ·split at h
   ·rename_i ks hk;split at h
    ·injection h with h
     injection h with h1 h2 h3 h4
     injection h2 with h2
     have:=O0 hk 8 (by rw[h2]; simp);omega
    ·cases h
   ·cases h
  ·rename_i e ht;injection h with h
   injection h with h1 h2 h3 h4
   subst h1 h3 h4;rw[B5v hx,B1b w hy];exact⟨t,e,t',rfl,ht⟩
  ·split at h
   ·simp at h
   ·simp at h
  ·cases h
 ·cases h
theorem B4T{s d e:Nat}{xs:List AV}(hs:lk σ.fr s=some (true,.sl xs))(hd:d≠e)
  (h1:xs=[]->Wk E k ⟨(e,true,.bool true)::(d,true,.sl xs)::σ.fr,σ.bx,σ.k+2048⟩) (h2:Wk E k ⟨(e,true,.bool false)::(d,true,.sl xs)::σ.fr,σ.bx,σ.k+2048⟩) :
  Wk E (.code (.reg false [⟨some d,none,[s],.mv (.t s)⟩,⟨some e,none,[d],.bin .eql (some [8]) (.t d) (.c .nils)⟩] [])::k) σ:=fun c hc G a w hD=>by
 obtain⟨id,ops,rfl,hg⟩:=A79 hc;unfold X0 at hg;split at hg
 ·cases hg
 ·rename_i cs hcs;simp only[CC.reg.injEq,true_and,and_true] at hg;subst hg;obtain⟨hlen,hget⟩:=v6 hcs;have hsz:ops.size=2:=by simpa using hlen.symm
  obtain⟨o0,ho0⟩:∃o,ops[0]?=some o:=⟨_,zy (by omega)⟩;obtain⟨o1,ho1⟩:∃o,ops[1]?=some o:=⟨_,zy (by omega)⟩;obtain⟨c0,hc0,hr0⟩:=hget 0 o0 (by simpa using ho0);obtain⟨c1,hc1,hr1⟩:=hget 1 o1 (by simpa using ho1);simp only[yb,zc] at hc0;simp only[xe,yb,zc] at hc1;subst hc0 hc1;refine wp_region ?_;rw[hsz,show List.range 2=[0,1] from rfl,wpOps_cons];refine A75 (id:=E.n0+σ.k) (nb:=E.n0+σ.k) (r:=⟨true,.sl xs,[],[]⟩) hD ho0 hr0 ⟨trivial,rfl,fun _=>?_,fun h=>by cases h⟩ (fun x hx _ h=>absurd (hD.used _ h) (by omega)) (by omega) (fun x hx h=>absurd (hD.used _ h) (by omega)) fun G1 u1 w1 hD1=>?_
  ·refine .sem true (.mv (.t s)) True (.sl xs) [] [] (by simp[ceF,hs]) ?_ trivial;simp[sem,H9,hs]
  ·rw[wpOps_cons];have hcr:=hr1;unfold l9 at hr1;split at hr1
   ·rename_i cc g hcomp hgd;split at hr1
    ·rename_i hdst;injection hr1 with hr1
     injection hr1 with e1 e2 e3 e4
     subst e2 e4;obtain⟨t,el,t',hop,ht⟩:=B1c w hcomp;have hval:=E0.opd hD1 (X:=.tmp d) (x:=.t d) rfl fun n hn=>by
      injection hn with hn
      subst hn;simp[ceF,z8,B5]
     have hv2:H9 (z8 (lk σ.fr) (some d) ⟨true,.sl xs,[],[]⟩) (.t d) = .sl xs:=(by simp[H9,z8,B5]);rw[hv2] at hval;have hwant:=A3U hD1 (o:=o1) (g:=none) hgd trivial;refine A3V ho1 hwant ?_;have fin:∀b:Bool,(b=true->xs=[])->(execOp (a.put o0.dst u1).eval o1).run E.P w1 = .ok (.value (.bool b)) w1->o1.wp E.P (a.put o0.dst u1) w1 (fun a w=>wpOps E.P ops (A62 E (WW E k).1 (WW E k).2) [] a w) (A62 E (WW E k).1 (WW E k).2):=fun b hb hrun=>by
      unfold Oper.wp;rw[hrun,Oper.upon_value];show A62 E (WW E k).1 (WW E k).2 .normal _ _;have hdN:∀q,o1.dst=some q->q<E.N:=fun q hq=>by
       simp only[yh] at hdst;have:=hdst.1;rw[hq] at this;simpa using this
      have hD2:=E0.put hD1 (dst:=o1.dst) (r:=⟨true,.bool b,[],[]⟩) (u:=.bool b) hdN (fun _=>.bool b) (fun h=>by cases h);rw[e1] at hD2;have hF:z8 (z8 (lk σ.fr) (some d) ⟨true,.sl xs,[],[]⟩) (some e) ⟨true,.bool b,[],[]⟩=lk ((e,true,.bool b)::(d,true,.sl xs)::σ.fr):=by
       funext n; simp only[z8,P9,lk]
      rw[hF] at hD2;have hD3:Y4 E ⟨(e,true,.bool b)::(d,true,.sl xs)::σ.fr,σ.bx,σ.k+2048⟩ G1 ((a.put o0.dst u1).put o1.dst (.bool b)) w1:=by
       rw[e1];exact hD2.weak fun i hi=>hi.elim (fun h=>by have:=hD.used _ h; show i<E.n0+(σ.k+2048); omega) fun h=>by show i<E.n0+(σ.k+2048); omega
      cases b with
      | true=>exact⟨_,G1,hD3,h1 (hb rfl)⟩
      | false=>exact⟨_,G1,hD3,h2⟩
     have hex:execOp (a.put o0.dst u1).eval o1=(do pure (.value (←(do eqGuard .eql t (.tmp d) (.const (.slice none 0 0)) ((a.put o0.dst u1).eval (.tmp d)) (.slice none 0 0); binOp .eql t ((a.put o0.dst u1).eval (.tmp d)) (.slice none 0 0):Sem Value)))):=by
      unfold execOp; simp only[hop,Act.eval]
     generalize (a.put o0.dst u1).eval (.tmp d)=v at *;cases hval with
     | sl _ A cp sz u q1 q2 q3 q4 q5 q6 q7 =>
      refine fin A.isNone (fun h=>?_) ?_
      ·cases A with
       | none=>exact (q3 rfl).1
       | some _=>cases h
      ·rw[hex];simp only[eqGuard,Sem.run_bind,Sem.run_pure,Result.andThen_ok,run_eql_slice_nil _ t el A _ _ ht];rfl
    ·cases hr1
   ·cases hr1
end
section
variable {E:R9} {σ:St} {k:List Itm}
theorem B3d(i:Itm){k1 k2:List Itm}(h1:∀σ,Wk E k1 σ->Wk E k2 σ)(h2:∀id σ,Wx E id k1 σ->Wx E id k2 σ)(h:Wk E (i::k1) σ):Wk E (i::k2) σ:=by
 cases i with
 | blk id=>exact h1 σ h
 | post p=>exact h
 | code cc =>
  intro c hc G a w hD;refine wp_mono (h c hc G a w hD) fun e a' w' hq=>?_;cases e with
  | normal=>obtain⟨σ',G',q1,q2⟩:=hq; exact⟨σ',G',q1,h1 _ q2⟩
  | exit id=>obtain⟨σ',G',q1,q2⟩:=hq; exact⟨σ',G',q1,h2 _ _ q2⟩
  | _=>exact hq
 | ops crs j acc ps =>
  rcases h with⟨rs,q1,q2,q3⟩|h
  ·exact .inl ⟨rs,q1,q2,h1 _ q3⟩
  ·exact .inr h
theorem B1d{i:Itm}{y z:CC}{X:Type}(inv:X->St)(ok:X->Prop)(h:∀p:St->Prop,(∀σ' x,ok x->H0 E σ' (inv x)->p σ')->Wk E (i::.code y::.post p::k) σ)
  (hk:∀x,ok x->Wk E (.code z::k) (inv x)):Wk E (i::.code (.seq y z)::k) σ:=by
 refine B3d i (k1:=.code y::.post (fun σ'=>∃x,ok x/\H0 E σ' (inv x))::k) (fun σ1 q=>?_) (fun id σ1 q=>q) (h (fun σ'=>∃x,ok x/\H0 E σ' (inv x)) (fun σ' x h1 h2=>⟨x,h1,h2⟩));refine B4S (fun c hc G a w hD=>?_);refine wp_mono (q c hc G a w hD) fun e a' w' hq=>?_;cases e with
 | normal =>
  obtain⟨σ',G',h1,x,h2,h3⟩:=hq;obtain⟨G2,h4⟩:=h3 G' a' w' h1;exact⟨inv x,G2,h4,hk x h2⟩
 | _=>exact hq
end
mutual
def AV.nrm:AV->AV
 | .nils=>.sl []
 | .sl xs=>.sl (A1h xs)
 | .agg cs=>.agg (A1h cs)
 | .tup cs=>.tup (A1h cs)
 | .int k n=>.int k n
 | .bool b=>.bool b
 | .str s=>.str s
 | .nilp=>.nilp
 | .ptr a b c=>.ptr a b c
 | .cptr cs=>.cptr cs
 | .bsl a b c=>.bsl a b c
 | .fn f cs=>.fn f cs
 | .fnb f cs=>.fnb f cs
 | .nilf=>.nilf
 | .iface t v=>.iface t v
 | .nili=>.nili
def A1h:List AV->List AV
 | []=>[]
 | x::l=>x.nrm::A1h l
end
theorem A0V:∀l:List AV,A1h l=l.map AV.nrm
 | []=>rfl
 | x::l=>by simp[A1h,A0V l]
theorem w6(x:AV):x.nrm.cells=x.cells.map AV.nrm:=by
 cases x<;>simp[AV.nrm,AV.cells,A0V]
theorem B55{G:Gh}{w:World}:RV G w (.sl []) (.slice none 0 0) :=
 .sl [] none 0 0 (fun _ _=>undef) (yg _) (by simp[maxLen]) (fun _=>⟨rfl,rfl⟩) (fun i x hi=>by simp at hi) (fun a i x j y _ hi=>by simp at hi) (fun a i x j y _ hi=>by simp at hi) (fun i x j y hi=>by simp at hi)
theorem S7{l:List AV}{i:Nat}{y:AV}(h:(l.map AV.nrm)[i]?=some y):∃x,l[i]?=some x/\y=x.nrm:=by
 rw[ye] at h;cases hx:l[i]? with
 | none=>rw[hx] at h; cases h
 | some x=>rw[hx] at h; exact⟨x,rfl,(vj h).symm⟩
theorem RV.nrm{G:Gh}{w:World}{x:AV}{v:Value}(h:RV G w x v):RV G w x.nrm v:=by
 induction h with
 | int k n=>exact .int k n
 | bool b=>exact .bool b
 | str s=>exact .str s
 | nilp=>exact .nilp
 | ptr id i off v ho hu hb=>exact .ptr id i off v ho hu hb
 | cptr cs a u h1 h2 h3 ih=>exact .cptr cs a u h1 h2 h3
 | nils=>exact B55
 | sl xs A c s u hc hm hn hs h1 h2 h3 ih =>
  have e:xs.length=(xs.map AV.nrm).length:=by simp
  simp only[AV.nrm,A0V];rw[e];refine .sl (xs.map AV.nrm) A c s u (by rw[←e]; exact hc) hm (fun ha=>by rw[(hn ha).1]; exact⟨rfl,(hn ha).2⟩) (fun i x hx=>?_) (fun a i x j y ha hx hy=>?_) (fun a i x j y ha hx hy=>?_) (fun i x j y hx hy=>?_)
  ·obtain⟨x0,hx0,rfl⟩:=S7 hx;rw[w6,xd]; exact hs i x0 hx0
  ·obtain⟨x0,hx0,rfl⟩:=S7 hx;rw[w6] at hy;obtain⟨y0,hy0,rfl⟩:=S7 hy;exact h1 a i x0 j y0 ha hx0 hy0
  ·obtain⟨x0,hx0,rfl⟩:=S7 hx;rw[w6] at hy;obtain⟨y0,hy0,rfl⟩:=S7 hy;exact h2 a i x0 j y0 ha hx0 hy0
  ·obtain⟨x0,hx0,rfl⟩:=S7 hx;rw[w6] at hy;obtain⟨y0,hy0,rfl⟩:=S7 hy;exact ih i x0 j y0 hx0 hy0
 | bsl id off len v ho hu hb hn=>exact .bsl id off len v ho hu hb hn
 | fn f caps vs hl h ih=>exact .fn f caps vs hl h
 | fnb f caps vs hl h ih=>exact .fnb f caps vs hl h
 | nilf=>exact .nilf
 | iface t x v h ih=>exact .iface t x v h
 | nili=>exact .nili
 | agg cs vs hl h ih =>
  simp only[AV.nrm,A0V];refine .agg _ vs (by rw[xd]; exact hl) fun i y hy=>?_;obtain⟨x0,hx0,rfl⟩:=S7 hy;exact ih i x0 hx0
 | tup cs vs hl h ih =>
  simp only[AV.nrm,A0V];refine .tup _ vs (by rw[xd]; exact hl) fun i y hy=>?_;obtain⟨x0,hx0,rfl⟩:=S7 hy;exact ih i x0 hx0
theorem A2.nrm{P:Program}{f:Nat}{args:List AV}{rd:List (Nat×Bx)}{id:Nat}{res:AV}{wr:List (Nat×Option Bx)}(h:A2 P f args rd id res wr):A2 P f args rd id res.nrm wr :=
 ⟨h.1,fun C G bx w vs nb hs hv hh hnb hid=>(h.2 C G bx w vs nb hs hv hh hnb hid).mono fun e w' ⟨v,G',h1,h2,h3,h4,h5⟩=>⟨v,G',h1,h2,h3,h4.nrm,h5⟩⟩
end Go.Am
