/- Parts of the proof: an abstract machine for Go functions, and what functions of the program give back (Am35, Am36, Am37, Am38, Am39, Ck, CcY, Lb1, Am40, Am41, Am42, Am43, Am44). No condition. -/
import Derived.Test.YtgfmjhmjnnpcgaaGreatDoorXD
import Derived.IntWalk
import Derived.Test.YtgfmjhmjnnpcgaaGreatDoorProg
import Derived.KernelRfl
import Derived.Shelf.Strconv.Itoa3
import Derived.Shelf.Strings.OnBuilder
import Derived.ProofKit
import Derived.WideShapes
import Derived.Carry
import Derived.SizedLaws
import Derived.Lib.LazyBuf
namespace Go.Am
set_option linter.all false
open Go Go.RowKit
inductive CRes where
 | tmp (t:Nat)
 | cell (a:Nat) (agg:Bool) (n:Nat)
def compRes(P:Program):List ResultVar→Option (List CRes)
 | []=>some []
 | .tmp t::l=>(compRes P l).map (.tmp t::·)
 | .cell a t::l=>match P.underlying t,sizeB P t,compRes P l with
  | some _,some n,some r=>some (.cell a (isAggB P t) n::r)
  | _,_,_=>none
def resV(F:Fr)(B:Nat→Option Bx):List CRes→Option (Prop×List AV)
 | []=>some (True,[])
 | .tmp t::l=>match resV F B l with
  | some (p,vs)=>some (ceF F t=true∧p,veF F (.t t)::vs)
  | none=>none
 | .cell a agg n::l=>match ldT agg n (lookT B (veF F (.t a))),resV F B l with
  | some (q,r),some (p,vs)=>some ((ceF F a=true∧q)∧p,r.v::vs)
  | _,_=>none
def tupOf:List AV→AV
 | [v]=>v
 | vs=>.tup vs
section
variable {P:Program} {C:Cx P} {G:Gh} {B:Nat→Option Bx} {w:World} {F:Fr} {tmps:Array Value}
def resOne(tmps:Array Value):ResultVar→Sem Value
 | .tmp t=>pure (tmps.getD t undef)
 | .cell a t=>do loadVar t (←asAddr (tmps.getD a undef))
theorem resV_ok(hs:RS C G B w)(hF:∀n c v,F n=some (c,v)→c=true→RV G w v (tmps.getD n undef)):∀{l:List ResultVar} {crs:List CRes} {p:Prop} {vs:List AV},compRes P l=some crs→resV F B crs=some (p,vs)→p →
  ∃us:List Value,(l.mapM (resOne tmps)).run P w = .ok us w∧vs.length=us.length∧∀(i:Nat) v u,vs[i]?=some v→us[i]?=some u→RV G w v u
 | [],crs,p,vs,h1,h2,_=>by
  simp only[compRes,Option.some.injEq] at h1
  subst h1
  simp only[resV,Option.some.injEq,Prod.mk.injEq] at h2
  obtain⟨_,rfl⟩:=h2
  exact⟨[],rfl,rfl,fun i v u h=>by simp at h⟩
 | .tmp t::l,crs,p,vs,h1,h2,hp=>by
  simp only[compRes,Option.map_eq_some_iff] at h1
  obtain⟨r,hr,rfl⟩:=h1
  simp only[resV] at h2
  cases hv:resV F B r with
  | none=>rw[hv] at h2; cases h2
  | some q =>
   obtain⟨p',vs'⟩:=q
   rw[hv] at h2
   simp only[Option.some.injEq,Prod.mk.injEq] at h2
   obtain⟨rfl,rfl⟩:=h2
   obtain⟨us,k1,k2,k3⟩:=resV_ok hs hF hr hv hp.2
   have h0:RV G w (veF F (.t t)) (tmps.getD t undef):=by
    have:=hp.1
    simp only[ceF] at this
    simp only[veF]
    split at this
    ·rename_i c v hl; exact hF t c v hl this
    ·cases this
   refine⟨tmps.getD t undef::us,?_,by simp[k2],fun i v u hv hu=>?_⟩
   ·simp only[List.mapM_cons,resOne,Sem.run_bind,Sem.run_pure,Result.andThen_ok,k1]
   ·cases i with
    | zero=>simp only[List.getElem?_cons_zero,Option.some.injEq] at hv hu; subst hv hu; exact h0
    | succ i=>exact k3 i v u (by simpa using hv) (by simpa using hu)
 | .cell a t::l,crs,p,vs,h1,h2,hp=>by
  simp only[compRes] at h1
  split at h1
  ·rename_i d n r hd hn hr
   injection h1 with h1
   subst h1
   simp only[resV] at h2
   split at h2
   ·rename_i q rr p' vs' hq hv
    simp only[Option.some.injEq,Prod.mk.injEq] at h2
    obtain⟨rfl,rfl⟩:=h2
    obtain⟨us,k1,k2,k3⟩:=resV_ok hs hF hr hv hp.2
    have h0:RV G w (veF F (.t a)) (tmps.getD a undef):=by
     have:=hp.1.1
     simp only[ceF] at this
     simp only[veF]
     split at this
     ·rename_i c v hl; exact hF a c v hl this
     ·cases this
    have hld:∃u,(resOne tmps (.cell a t)).run P w = .ok u w∧RV G w rr.v u:=by
     cases hl:lookT B (veF F (.t a)) with
     | none=>rw[hl] at hq; simp[ldT] at hq
     | some z =>
      obtain⟨p0,cs,rd⟩:=z
      rw[hl] at hq
      cases hag:isAggB P t with
      | true =>
       simp only[hag,ldT,Option.some.injEq,Prod.mk.injEq] at hq
       obtain⟨rfl,rfl⟩:=hq
       obtain⟨addr,hv1,hat⟩:=look_at hs h0 (lookT_ok hl hp.1.2.1)
       obtain⟨v,e1,e2⟩:=(hat.take n).load_agg (P:=P) hag hn (by rw[List.length_take]; have:=hp.1.2.2; omega)
       exact⟨v,by simp only[resOne,hv1,asAddr,Sem.run_bind,Sem.run_pure,Result.andThen_ok,e1],e2⟩
      | false =>
       simp only[hag,ldT] at hq
       cases cs with
       | nil=>simp at hq
       | cons y l =>
        simp only[Option.some.injEq,Prod.mk.injEq] at hq
        obtain⟨rfl,rfl⟩:=hq
        obtain⟨addr,hv1,hat⟩:=look_at hs h0 (lookT_ok hl hp.1.2)
        obtain⟨v,e1,e2⟩:=hat.load_one (P:=P) hd hag rfl
        exact⟨v,by simp only[resOne,hv1,asAddr,Sem.run_bind,Sem.run_pure,Result.andThen_ok,e1],e2⟩
    obtain⟨u0,e1,e2⟩:=hld
    refine⟨u0::us,?_,by simp[k2],fun i v u hv hu=>?_⟩
    ·simp only[List.mapM_cons,Sem.run_bind,Sem.run_pure,Result.andThen_ok,k1,e1]
    ·cases i with
     | zero=>simp at hv hu; subst hv hu; exact e2
     | succ i=>exact k3 i v u (by simpa using hv) (by simpa using hu)
   ·cases h2
  ·cases h1
theorem results_run{fn:Func}{us:List Value}(h:(fn.results.toList.mapM (resOne tmps)).run P w = .ok us w):(results fn tmps).run P w = .ok (if h:us.length=1 then us[0] else .tuple us.toArray) w:=by
 have e:results fn tmps=(do let vs←fn.results.mapM (resOne tmps); pure (if h:vs.size=1 then vs[0] else .tuple vs)):=by
  unfold results
  congr 1
 rw[e,Array.mapM_eq_mapM_toList]
 simp only[Sem.run_bind,Sem.run_pure]
 rw[show (List.toArray <$> List.mapM (resOne tmps) fn.results.toList)=(do let r←List.mapM (resOne tmps) fn.results.toList; pure r.toArray) from rfl]
 simp[h]
end
/-! ### The end of a function -/
def someL:List (Nat×Bx)→List (Nat×Option Bx)
 | []=>[]
 | (i,b)::l=>(i,some b)::someL l
def FinB(R:Rn)(S:Nat→Prop)(bx':List (Nat×Option Bx))(fin:Nat→Option Bx):List Nat→Prop
 | []=>True
 | y::l=>(match fin y with
  | none=>True
  | some b'=>∃x b,R.ρ y=some x∧bk bx' x=some b∧BxR R S b b')∧FinB R S bx' fin l
def freshL(id:Nat)(rd:List (Nat×Option Bx)):List (Nat×Option Bx)→Prop
 | []=>True
 | (y,_)::l=>(hasKey y rd∨(id≤y∧y<id+1024))∧freshL id rd l
structure EndP(n0 id:Nat)(S:Nat→Prop)(rd:List (Nat×Bx))(res:AV)(wr:List (Nat×Option Bx))(vs:List AV)(bx':List (Nat×Option Bx))(rn:List (Nat×Nat))(hrn:rnOk rn):Prop where
 res:RenR (mkRn n0 rn hrn) S (tupOf vs) res
 fin:FinB (mkRn n0 rn hrn) S bx' (appl (bk (someL rd)) wr) (keysR rd++keysW wr)
 drop:DropOk n0 (someL rd) bx'
 wr:freshL id (someL rd) wr
 new:newIn id (id+1024) rn
 gone:goneOk n0 (someL rd) rn
def EndV(n0 id:Nat)(S:Nat→Prop)(rd:List (Nat×Bx))(res:AV)(wr:List (Nat×Option Bx))(σ:St)(vs:List AV)(rn:List (Nat×Nat))(hrn:rnOk rn):Bool→Prop
 | true=>(rsvs (bk σ.bx) vs).1∧EndP n0 id S rd res wr (rsvs (bk σ.bx) vs).2.1 (addW σ.bx (wrF (rsvs (bk σ.bx) vs).2.2)) rn hrn
 | false=>EndP n0 id S rd res wr vs σ.bx rn hrn
def EndR(n0 id:Nat)(S:Nat→Prop)(rd:List (Nat×Bx))(res:AV)(wr:List (Nat×Option Bx))(σ:St):Option (Prop×List AV)→Prop
 | none=>False
 | some (p,vs)=>p∧∃(b:Bool) (rn:List (Nat×Nat)) (hrn:rnOk rn),EndV n0 id S rd res wr σ vs rn hrn b
def RtOk(n0 id:Nat)(S:Nat→Prop)(crs:List CRes)(rd:List (Nat×Bx))(res:AV)(wr:List (Nat×Option Bx))(σ:St):Prop:=EndR n0 id S rd res wr σ (resV (lk σ.fr) (bk σ.bx) crs)
theorem FinB.get{R:Rn}{S:Nat→Prop}{bx':List (Nat×Option Bx)}{fin:Nat→Option Bx}:∀{l:List Nat},FinB R S bx' fin l→∀y∈l,∀b',fin y=some b'→∃x b,R.ρ y=some x∧bk bx' x=some b∧BxR R S b b'
 | [],_,y,hy,_,_=>by cases hy
 | z::l,h,y,hy,b',hf=>by
  rcases List.mem_cons.1 hy with rfl|hy
  ·have:=h.1
   rw[hf] at this
   exact this
  ·exact FinB.get h.2 y hy b' hf
theorem freshL_mem{id:Nat}{rd:List (Nat×Option Bx)}:∀{l:List (Nat×Option Bx)},freshL id rd l→∀y∈keysW l,hasKey y rd∨(id≤y∧y<id+1024)
 | [],_,y,hy=>by simp[keysW] at hy
 | (z,b)::l,h,y,hy=>by
  simp only[keysW,List.map_cons,List.mem_cons] at hy
  rcases hy with rfl|hy
  ·exact h.1
  ·exact freshL_mem h.2 y hy
theorem hasKey_someL{y:Nat}:∀{l:List (Nat×Bx)},hasKey y (someL l)↔y∈keysR l
 | []=>by simp[hasKey,someL,keysR]
 | (i,b)::l=>by simp[hasKey,someL,keysR,hasKey_someL (l:=l)]
theorem bk_someL{β:Nat→Option Bx}:∀{l:List (Nat×Bx)},Has β l→∀y,y∈keysR l→bk (someL l) y=β y
 | [],_,y,hy=>by simp[keysR] at hy
 | (i,b)::l,h,y,hy=>by
  simp only[someL,bk]
  split
  ·rename_i e; subst e; exact (h (y,b) (by simp)).symm
  ·rename_i e
   simp only[keysR,List.map_cons,List.mem_cons] at hy
   exact bk_someL (fun q hq=>h q (by simp[hq])) y (hy.resolve_left e)
theorem ov_someL{β:Nat→Option Bx}:∀{l:List (Nat×Bx)},Has β l→ov β (someL l)=β
 | [],_=>rfl
 | (i,b)::l,h=>by
  simp only[someL,ov]
  rw[ov_someL fun q hq=>h q (by simp[hq])]
  funext y
  by_cases e:y=i
  ·subst e; rw[upd_eq]; exact (h (y,b) (by simp)).symm
  ·exact upd_ne _ _ _ e
def frOf:Nat→List AV→List (Nat×Bool×AV)
 | _,[]=>[]
 | i,a::l=>(i,true,a)::frOf (i+1) l
theorem lk_frOf:∀{l:List AV} {i n:Nat} {c:Bool} {v:AV},lk (frOf i l) n=some (c,v)→c=true∧i≤n∧l[n - i]?=some v
 | [],_,_,_,_,h=>by cases h
 | a::l,i,n,c,v,h=>by
  simp only[frOf,lk] at h
  split at h
  ·rename_i e
   subst e
   simp only[Option.some.injEq,Prod.mk.injEq] at h
   obtain⟨rfl,rfl⟩:=h
   exact⟨rfl,Nat.le_refl _,by simp⟩
  ·rename_i e
   obtain⟨h1,h2,h3⟩:=lk_frOf h
   refine⟨h1,by omega,?_⟩
   rw[show n - i=(n - (i+1))+1 by omega]
   simpa using h3
theorem RV.tupOf{G:Gh}{w:World}{vs:List AV}{us:List Value}(hl:vs.length=us.length)(h:∀(i:Nat) v u,vs[i]?=some v→us[i]?=some u→RV G w v u):RV G w (Am.tupOf vs) (if h:us.length=1 then us[0] else .tuple us.toArray):=by
 match vs,us,hl,h with
 | [v],[u],_,h=>exact h 0 v u rfl rfl
 | [],[],_,_=>exact .tup [] _ rfl fun i y hy=>by simp at hy
 | v::v'::vs,u::u'::us,hl,h =>
  simp only[List.length_cons,Nat.add_eq_right,Nat.add_eq_zero_iff,Nat.succ_ne_self,and_false,dite_false]
  refine .tup _ _ (by simpa using hl) fun i y hy=>?_
  obtain⟨z,hz⟩:∃z,(u::u'::us)[i]?=some z:=⟨_,List.getElem?_eq_getElem (by rw[←hl]; exact (List.getElem?_eq_some_iff.1 hy).1)⟩
  have:=h i y z hy hz
  rw[Array.getD_eq_getD_getElem?]
  simpa [hz] using this
theorem end_ok{E:Env}{fn:Func}{crs:List CRes}{rd:List (Nat×Bx)}{id:Nat}{res:AV}{wr:List (Nat×Option Bx)}{σ:St}{G':Gh}{a:Act}{w':World}(hrs:compRes E.P fn.results.toList=some crs)(hh:Has E.β rd)(hid:∀x,id≤x→x<id+1024→¬E.G0.used x)
  (hD':Desc E σ G' a w') (hR:RtOk E.n0 id E.G0.used crs rd res wr σ) :
  ∃v,(results fn a.tmps).run E.P w' = .ok v w'∧∃G1,RS E.C G1 (appl E.β wr) w'∧Evo E.G0 E.w0 G1 w'∧RV G1 w' res v∧∀x,G1.used x→E.G0.used x∨(id≤x∧x<id+1024):=by
 have hR':EndR E.n0 id E.G0.used rd res wr σ (resV (lk σ.fr) (bk σ.bx) crs):=hR
 cases hres:resV (lk σ.fr) (bk σ.bx) crs with
 | none=>rw[hres] at hR'; exact hR'.elim
 | some q =>
  obtain⟨p,rvs⟩:=q
  rw[hres] at hR'
  obtain⟨hp,b,rn,hrn,hend⟩:=hR'
  have hres':resV (lk σ.fr) (ov E.β σ.bx) crs=some (p,rvs):=by
   have key:∀{l:List CRes} {p:Prop} {vs:List AV},resV (lk σ.fr) (bk σ.bx) l=some (p,vs)→resV (lk σ.fr) (ov E.β σ.bx) l=some (p,vs):=fun {l}=>by
    induction l with
    | nil=>intro p vs h; exact h
    | cons x l ih =>
     intro p vs h
     cases x with
     | tmp t =>
      simp only[resV] at h ⊢
      cases hl:resV (lk σ.fr) (bk σ.bx) l with
      | none=>rw[hl] at h; cases h
      | some q=>obtain⟨p',vs'⟩:=q; rw[hl] at h; rw[ih hl]; exact h
     | cell a agg n =>
      simp only[resV] at h ⊢
      cases hld:ldT agg n (lookT (bk σ.bx) (veF (lk σ.fr) (.t a))) with
      | none=>rw[hld] at h; cases h
      | some q0 =>
       obtain⟨q,r⟩:=q0
       obtain⟨l1,l2⟩:=ldT_local (bx':=ov E.β σ.bx) hld
       rw[l2 (l1.ov E.β)]
       rw[hld] at h
       cases hl:resV (lk σ.fr) (bk σ.bx) l with
       | none=>rw[hl] at h; cases h
       | some q=>obtain⟨p',vs'⟩:=q; rw[hl] at h; rw[ih hl]; exact h
   exact key hres
  obtain⟨us,k1,k2,k3⟩:=resV_ok hD'.rs (fun n c v h1 h2=>(hD'.fr n c v h1).1 h2) hrs hres' hp
  obtain⟨G1,vs1,bx1,s1,e1,u1,l1,r1,hE⟩:∃G1 vs1 bx1,RS E.C G1 (ov E.β bx1) w'∧Evo G' w' G1 w'∧(∀i,G1.used i→G'.used i)∧vs1.length=us.length∧(∀(i:Nat) v u,vs1[i]?=some v→us[i]?=some u→RV G1 w' v u)∧EndP E.n0 id E.G0.used rd res wr vs1 bx1 rn hrn:=by
   cases b with
   | false=>exact⟨G',rvs,σ.bx,hD'.rs,Evo.refl _ _,fun _ h=>h,k2,k3,hend⟩
   | true =>
    obtain⟨h1,h2⟩:=hend
    obtain⟨g1,g2⟩:=rsvs_local (bx':=ov E.β σ.bx) h1
    have ge:=g2 (g1.ov E.β)
    obtain⟨G1,q1,q2,q3,q4⟩:=freezeAll (rsvs (bk σ.bx) rvs).2.2 hD'.rs fun q hq=>let ⟨z1,z2⟩:=rsvs_mem h1 q hq; ⟨.inl (ov_bk E.β z1),z2⟩
    have h1':(rsvs (ov E.β σ.bx) rvs).1:=by rw[ge]; exact h1
    have q4':Stays G' G1 w' (rsvs (ov E.β σ.bx) rvs).2.2:=by rw[ge]; exact q4
    obtain⟨m1,m2⟩:=rsvs_rv q2 h1' q4'
    rw[ge] at m1 m2
    refine⟨G1,_,_,by rw[ov_addW]; exact q1,q2,q3,m1.trans k2,fun i v u hv hu=>?_,h2⟩
    have:=m2 (fun i=>us.getD i undef) (fun i y hy=>by
     obtain⟨z,hz⟩:∃z,us[i]?=some z:=⟨_,List.getElem?_eq_getElem (by rw[←k2]; exact (List.getElem?_eq_some_iff.1 hy).1)⟩
     simp only[List.getD_eq_getElem?_getD,hz,Option.getD_some]
     exact k3 i y z hy hz) i v hv
    simp only[List.getD_eq_getElem?_getD,hu,Option.getD_some] at this
    exact this
  have hrv:=(RV.tupOf l1 r1).ren hE.res
  have hlk:∀y,(¬(id≤y∧y<id+1024))→lkN rn y=none:=fun y hf=>by
   cases hl:lkN rn y with
   | none=>rfl
   | some t=>exact (hf (newIn_mem hE.new _ (lkN_mem hl))).elim
  have hfix:∀x,E.G0.used x→(mkRn E.n0 rn hrn).ρ x=some x∨(mkRn E.n0 rn hrn).ρ x=none:=fun x hx=>(rnF_old (hlk x fun⟨h1,h2⟩=>hid x h1 h2 hx)).symm
  refine⟨_,results_run k1,G1.ren (mkRn E.n0 rn hrn) E.G0.used,s1.ren fun y b' hy=>?_,Evo.ren (hD'.ev.trans e1) hfix,hrv,fun y hy=>?_⟩
  ·by_cases hk:y∈keysR rd++keysW wr
   ·have hy':appl (bk (someL rd)) wr y=some b':=by
     by_cases hw:y∈keysW wr
     ·rw[appl_in (B':=E.β) hw]; exact hy
     ·rw[appl_out hw] at hy ⊢
      rw[bk_someL hh y (by simpa [hw] using hk)]; exact hy
    obtain⟨x,b,z1,z2,z3⟩:=hE.fin.get y hk b' hy'
    exact⟨x,b,z1,ov_bk E.β z2,z3⟩
   ·simp only[List.mem_append,not_or] at hk
    rw[appl_out hk.2] at hy
    have hub:=E.rs0.boxNames hy
    have hkk:¬hasKey y (someL rd):=fun h=>hk.1 (hasKey_someL.1 h)
    have hlt:=E.old y hub.1
    have hst:(mkRn E.n0 rn hrn).ρ y=some y:=by
     show rnF E.n0 rn y=some y
     unfold rnF
     rw[hlk y fun⟨h1,h2⟩=>hid y h1 h2 hub.1]
     rw[goneOk_get hE.gone y hlt hkk]
     simp[hlt]
    refine⟨y,b',hst,?_,BxR.same fun i x hx=>namesIn_mono (fun z hz=>(hfix z hz).imp _root_.id fun h=>⟨h,hz⟩) x (hub.2 i x hx)⟩
    rw[hE.drop.get y hlt hkk E.β]
    exact hy
  ·rcases hy with⟨x,hx,hu⟩|hy
   ·by_cases hf:id≤y∧y<id+1024
    ·exact .inr hf
    ·have hx':rnF E.n0 rn y=some x:=hx
     rcases rnF_old (n0:=E.n0) (hlk y hf) with h|h
     ·rw[h] at hx'; cases hx'
     ·have hy:y<E.n0:=by
       unfold rnF at h
       rw[hlk y hf] at h
       simp only at h
       split at h
       ·assumption
       ·cases h
      rw[h] at hx'
      injection hx' with hx'
      subst hx'
      exact .inl (hD'.old _ hy (u1 _ hu))
   ·exact .inl hy
theorem DropOk.mem{n0:Nat}{bx':List (Nat×Option Bx)}:∀{l:List (Nat×Option Bx)},DropOk n0 bx' l→∀q∈l,n0≤q.1∨hasKey q.1 bx'
 | [],_,q,hq=>by cases hq
 | (x,b)::l,h,q,hq=>by
  rcases List.mem_cons.1 hq with rfl|hq
  ·exact h.1
  ·exact DropOk.mem h.2 q hq
theorem appl_goL{f:Nat→Option Bx}{y:Nat}{b:Bx}:∀{rd:List (Nat×Bx)},appl f (goL rd) y=some b→y∉keysR rd∧f y=some b
 | [],h=>⟨by simp[keysR],h⟩
 | (i,b')::l,h=>by
  simp only[goL,appl] at h
  obtain⟨h1,h2⟩:=appl_goL h
  have hy:y≠i:=fun e=>by subst e; rw[upd_eq] at h2; cases h2
  rw[upd_ne _ _ _ hy] at h2
  exact⟨by simp[keysR,hy] at h1 ⊢; exact h1,h2⟩
theorem pend_ok{E:Env}{rd:List (Nat×Bx)}{id:Nat}{pv:AV}{u:Value}{l:List (Nat×Option Bx)}{F:Fr}{B:Nat→Option Bx}{U:Nat→Prop}{G':Gh}{a:Act}{w':World}
  (hD':DescF E.C E.N E.D E.n0 E.G0 E.w0 F B U G' a w') (hB:HistB E.β l B) (hv:RV G' w' pv u) (hp:pv.pureB=true) (hd:DropOk E.n0 (someL rd) l) :
  ∃G1,RS E.C G1 (appl E.β (goL rd)) w'∧Evo E.G0 E.w0 G1 w'∧RV G1 w' pv u∧∀x,G1.used x→E.G0.used x∨(id≤x∧x<id+1024):=by
 have hfix:∀x,E.G0.used x→(mkRn E.n0 [] trivial).ρ x=some x∨(mkRn E.n0 [] trivial).ρ x=none:=fun x hx=>(rnF_old (show lkN [] x=none from rfl)).symm
 refine⟨G'.ren (mkRn E.n0 [] trivial) E.G0.used,hD'.rs.ren fun y b' hy=>?_,Evo.ren hD'.ev hfix,hv.ren (.same _ (namesIn_pure _ hp)),fun y hy=>?_⟩
 ·obtain⟨h1,h2⟩:=appl_goL hy
  have hub:=E.rs0.boxNames h2
  have hlt:=E.old y hub.1
  refine⟨y,b',?_,?_,BxR.same fun i x hx=>namesIn_mono (fun z hz=>(hfix z hz).imp _root_.id fun h=>⟨h,hz⟩) x (hub.2 i x hx)⟩
  ·show rnF E.n0 [] y=some y
   simp[rnF,lkN,goneN,hlt]
  ·rcases hB y with h|h
   ·rw[h,h2]
   ·rcases hd.mem _ h with h|h
    ·simp only at h; omega
    ·exact (h1 (hasKey_someL.1 h)).elim
 ·rcases hy with⟨x,hx,hu⟩|hy
  ·have hx':rnF E.n0 [] y=some x:=hx
   simp only[rnF,lkN,goneN] at hx'
   split at hx'
   ·rename_i hy
    injection hx' with hx'
    subst hx'
    exact .inl (hD'.old _ (by simpa using hy) hu)
   ·cases hx'
  ·exact .inl hy
theorem fn_core{P:Program}{f:Nat}{fn:Func}{c:Code}{crs:List CRes}{args:List AV}{rd:List (Nat×Bx)}{id:Nat}{o:Except AV (AV×List (Nat×Option Bx))}(Rt:Nat→(Nat→Prop)→St→Prop)(Pn:Nat→AV→St→Prop)
  (hf : P.funcs[f]? = some fn) (hb : fn.body = some c) (hnm : (fn.name == "runtime.NumGoroutine") = false) (hrs : compRes P fn.results.toList = some crs) (hN : args.length ≤ fn.ntmps)
  (hRt:∀n0 S σ,Rt n0 S σ→∃q,o = .ok q∧RtOk n0 id S crs rd q.1 q.2 σ) (hPn:∀n0 pv σ,Pn n0 pv σ→o = .error pv∧pv.pureB=true∧DropOk n0 (someL rd) σ.bx)
  (h:∀E:Env,E.P=P→E.N=fn.ntmps→E.Rt=Rt E.n0 E.G0.used→E.Pn=Pn E.n0→(∀q∈rd,q.1<E.n0∧(q.1<id∨id+1024≤q.1))→id+1024≤E.n0→Has E.β rd→(∀z,E.G0.used z→z<id∨id+1024≤z)→Wk E [.code (compC P fn.ntmps c)] ⟨frOf 0 args,someL rd,0⟩):FnE P f args rd id o:=by
 have pl:PlainF P f:=⟨fn,hf,hnm,by rw[hb]; rfl⟩
 have main:∀(C:Cx P) (G:Gh) (bx:Nat→Option Bx) (w:World) (vs:Array Value) (nb:Nat),RS C G bx w→RVs G w args vs→Has bx rd→(∀x,nb≤x→¬G.used x)→(∀x,id≤x→x<id+1024→¬G.used x) →
   Calls P f vs w fun e w'=>(∃q,o = .ok q∧∃v G',e = .returned v∧RS C G' (appl bx q.2) w'∧Evo G w G' w'∧RV G' w' q.1 v∧∀x,G'.used x→G.used x∨(id≤x∧x<id+1024)) ∨
    ∃pv,o = .error pv∧∃v G',e = .panicked [{ v:=v,recovered:=false }]∧RS C G' (appl bx (goL rd)) w'∧Evo G w G' w'∧RV G' w' pv v∧∀x,G'.used x→G.used x∨(id≤x∧x<id+1024):=fun C G bx w vs nb hs hv hh hnb hid=>calls_of_wp hf hb<|by
  have own:∀i,max nb (id+1024)≤i→bx i=none:=fun i hi=>by
   cases hbi:bx i with
   | none=>rfl
   | some b=>exact (hnb i (by omega) (hs.boxNames hbi).1).elim
  have old:∀i,G.used i→i<max nb (id+1024):=fun i hi=>by
   rcases Nat.lt_or_ge i nb with h|h
   ·omega
   ·exact (hnb i h hi).elim
  let E:Env:=⟨P,C,bx,fn.ntmps,max nb (id+1024),G,w,own,old,hs,[],Rt (max nb (id+1024)) G.used,Pn (max nb (id+1024))⟩
  have hW:=h E rfl rfl rfl rfl (fun q hq=>⟨E.old _ (hs.boxNames (hh q hq)).1,by
   have:=(hs.boxNames (hh q hq)).1
   rcases Nat.lt_or_ge q.1 id with h|h
   ·exact .inl h
   ·rcases Nat.lt_or_ge q.1 (id+1024) with h'|h'
    ·exact (hid _ h h' this).elim
    ·exact .inr h'⟩) (by show id+1024≤max nb (id+1024); omega) hh (fun z hz=>by
   rcases Nat.lt_or_ge z id with h|h
   ·exact .inl h
   ·rcases Nat.lt_or_ge z (id+1024) with h'|h'
    ·exact (hid z h h' hz).elim
    ·exact .inr h')
  have hD:Desc E ⟨frOf 0 args,someL rd,0⟩ G { tmps:=vs++Array.replicate (fn.ntmps - vs.size) undef,defers:=[] } w:=by
   refine⟨Evo.refl G w,?_,fun i hi=>?_,fun i _ hi=>hi,fun n c v hl=>?_,?_,rfl⟩
   ·show RS C G (ov bx (someL rd)) w
    rw[ov_someL hh]; exact hs
   ·have:=E.old i hi
    show i<E.n0+0
    omega
   ·obtain⟨rfl,_,h3⟩:=lk_frOf hl
    simp only[Nat.sub_zero] at h3
    refine⟨fun _=>?_,fun h=>by cases h⟩
    have:=hv.2 n v h3
    rw[Array.getD_eq_getD_getElem?] at this ⊢
    rw[Array.getElem?_append_left (by rw[←hv.1]; exact (List.getElem?_eq_some_iff.1 h3).1)]
    exact this
   ·show (vs++Array.replicate (fn.ntmps - vs.size) undef).size=fn.ntmps
    have:=hv.1
    simp; omega
  refine wp_mono (hW c rfl G _ w hD) fun e a w' hq=>?_
  have fin:∀σ G',Desc E σ G' a w'→E.Rt σ→a.defers=[]∧∃v,(results fn a.tmps).run P w' = .ok v w'∧((∃q,o = .ok q∧∃v_1 G',Ending.returned v = .returned v_1∧RS C G' (appl bx q.2) w'∧Evo G w G' w'∧RV G' w' q.1 v_1∧∀x,G'.used x→G.used x∨(id≤x∧x<id+1024)) ∨
    ∃pv,o = .error pv∧∃v_1 G',Ending.returned v = .panicked [{ v:=v_1,recovered:=false }]∧RS C G' (appl bx (goL rd)) w'∧Evo G w G' w'∧RV G' w' pv v_1∧∀x,G'.used x→G.used x∨(id≤x∧x<id+1024)):=fun σ G' hD' hR=>by
   obtain⟨q,ho,hR'⟩:=hRt _ _ _ hR
   obtain⟨v,h1,G1,h2,h3,h4,h5⟩:=end_ok (E:=E) hrs hh hid hD' hR'
   exact⟨hD'.defers,v,h1,.inl ⟨q,ho,v,G1,rfl,h2,h3,h4,h5⟩⟩
  cases e with
  | normal=>obtain⟨σ,G',h1,h2⟩:=hq; exact fin σ G' h1 h2
  | ret=>obtain⟨σ,G',h1,h2⟩:=hq; exact fin σ G' h1 h2
  | exit id=>obtain⟨σ,G',h1,h2⟩:=hq; exact h2
  | panic chain =>
   obtain⟨pv,u,σ,F,B,U,G',rfl,h1,h2,h3,h4⟩:=hq
   obtain⟨ho,hp,hd⟩:=hPn _ _ _ h4
   obtain⟨G1,k1,k2,k3,k4⟩:=pend_ok (E:=E) (id:=id) h1 h2 h3 hp hd
   exact⟨h1.defers,.inr ⟨pv,ho,u,G1,rfl,k1,k2,k3,k4⟩⟩
  | _=>exact hq.elim
 cases o with
 | ok q =>
  refine⟨pl,fun C G bx w vs nb hs hv hh hnb hid=>Calls.mono (main C G bx w vs nb hs hv hh hnb hid) fun e w' he=>?_⟩
  rcases he with⟨q',h1,h2⟩|⟨_,h1,_⟩
  ·injection h1 with h1; subst h1; exact h2
  ·cases h1
 | error pv =>
  refine⟨pl,fun C G bx w vs nb hs hv hh hnb hid=>Calls.mono (main C G bx w vs nb hs hv hh hnb hid) fun e w' he=>?_⟩
  rcases he with⟨_,h1,_⟩|⟨q',h1,h2⟩
  ·cases h1
  ·injection h1 with h1; subst h1; exact h2
theorem fn_ok{P:Program}{f:Nat}{fn:Func}{c:Code}{crs:List CRes}{args:List AV}{rd:List (Nat×Bx)}{id:Nat}{res:AV}{wr:List (Nat×Option Bx)}
  (hf : P.funcs[f]? = some fn) (hb : fn.body = some c) (hnm : (fn.name == "runtime.NumGoroutine") = false) (hrs : compRes P fn.results.toList = some crs) (hN : args.length ≤ fn.ntmps)
  (h:∀E:Env,E.P=P→E.N=fn.ntmps→E.Rt=RtOk E.n0 id E.G0.used crs rd res wr→(∀q∈rd,q.1<E.n0∧(q.1<id∨id+1024≤q.1))→id+1024≤E.n0→Wk E [.code (compC P fn.ntmps c)] ⟨frOf 0 args,someL rd,0⟩):FnOk P f args rd id res wr :=
 fn_core (o:=.ok (res,wr)) (fun n0 S=>RtOk n0 id S crs rd res wr) (fun _ _ _=>False) hf hb hnm hrs hN (fun _ _ _ h=>⟨_,rfl,h⟩) (fun _ _ _ h=>h.elim) fun E h1 h2 h3 _ h5 h6 _ _=>h E h1 h2 h3 h5 h6
end Go.Am
namespace Go.Am
set_option linter.all false
open Go Go.RowKit
def accN(ps:List (Nat×Nat))(r:RR)(acc:List RR):List RR:=match ps with
 | []=>[]
 | _::_=>r::acc
def uses(F:Fr)(us:List Nat):Prop:=us.all (ceF F)=true
def dynL(acc:List RR)(j:Nat):List (Nat×Nat)→Prop
 | []=>True
 | q::l=>(q.1<j∧q.2<j)∧apartR (getR acc (j - 1 - q.1)) (getR acc (j - 1 - q.2))∧dynL acc j l
def dynR(acc:List RR)(j:Nat)(ps:List (Nat×Nat)):Prop:=match ps with
 | []=>True
 | q::l=>acc.length=j∧dynL acc j (q::l)
theorem getR_rev{acc:List RR}{i:Nat}(h:i<acc.length):getR acc.reverse i=getR acc (acc.length - 1 - i):=by
 have h1:acc.reverse[i]?=acc[acc.length - 1 - i]?:=List.getElem?_reverse h
 have h2:acc[acc.length - 1 - i]?=some acc[acc.length - 1 - i]:=List.getElem?_eq_getElem (by omega)
 rw[getR_some (h1.trans h2),getR_some h2]
theorem dynL_ok{acc:List RR}:∀{ps:List (Nat×Nat)},dynL acc acc.length ps→dynOk acc.reverse ps
 | [],_=>trivial
 | q::l,h=>by
  obtain⟨⟨h1,h2⟩,h3,h4⟩:=h
  exact⟨by rw[getR_rev h1,getR_rev h2]; exact h3,dynL_ok h4⟩
theorem dynR_ok{acc:List RR}{j:Nat}{ps:List (Nat×Nat)}(h:dynR acc j ps):dynOk acc.reverse ps:=by
 cases ps with
 | nil=>trivial
 | cons q l=>obtain⟨rfl,h⟩:=h; exact dynL_ok h
mutual
def go(E:Env):Nat→List Itm→St→Prop
 | 0,k,σ=>Wk E k σ
 | _+1,[],σ=>E.Rt σ
 | n+1,.blk _::k,σ=>go E n k σ
 | _+1,.post p::_,σ=>p σ
 | n+1,.code .skip::k,σ=>go E n k σ
 | n+1,.code (.seq x y)::k,σ=>go E n (.code x::.code y::k) σ
 | n+1,.code (.block id c)::k,σ=>go E n (.code c::.blk id::k) σ
 | n+1,.code (.exit id)::k,σ=>goX E n id k σ
 | _+1,.code .ret::_,σ=>E.Rt σ
 | n+1,.code (.cond o x y)::k,σ=>ceO (lk σ.fr) o=true∧goV E n (veF (lk σ.fr) o) x y k σ
 | n+1,.code (.reg _ crs ps)::k,σ=>go E n (.ops crs 0 [] ps::k) σ
 | _+1,.code (.loop c)::k,σ=>Wk E (.code (.loop c)::k) σ
 | _+1,.code .bad::k,σ=>Wk E (.code .bad::k) σ
 | n+1,.ops [] j acc ps::k,σ=>dynR acc j ps∧go E n k (σ.bump (1024*j))
 | n+1,.ops (cr::l) j acc ps::k,σ=>gokF (lk σ.fr) cr.g∧goO E n cr.op cr l j acc ps k σ (cndF (lk σ.fr) cr.g)
def goX(E:Env):Nat→Nat→List Itm→St→Prop
 | 0,id,k,σ=>Wx E id k σ
 | _+1,_,[],_=>False
 | n+1,id,.blk id'::k,σ=>goB E n (decide (id=id')) id k σ
 | n+1,id,.post _::k,σ=>goX E n id k σ
 | n+1,id,.code _::k,σ=>goX E n id k σ
 | n+1,id,.ops _ _ _ _::k,σ=>goX E n id k σ
def goB(E:Env):Nat→Bool→Nat→List Itm→St→Prop
 | 0,b,id,k,σ=>if b then Wk E k σ else Wx E id k σ
 | n+1,true,_,k,σ=>go E n k σ
 | n+1,false,id,k,σ=>goX E n id k σ
def goV(E:Env):Nat→AV→CC→CC→List Itm→St→Prop
 | 0,v,x,y,k,σ=>∃b,v = .bool b∧(b=true→Wk E (.code x::k) σ)∧(b=false→Wk E (.code y::k) σ)
 | n+1,.bool b,x,y,k,σ=>goC E n b x y k σ
 | _+1,_,_,_,_,_=>False
def goC(E:Env):Nat→Bool→CC→CC→List Itm→St→Prop
 | 0,b,x,y,k,σ=>(b=true→Wk E (.code x::k) σ)∧(b=false→Wk E (.code y::k) σ)
 | n+1,true,x,_,k,σ=>go E n (.code x::k) σ
 | n+1,false,_,y,k,σ=>go E n (.code y::k) σ
def goO(E:Env):Nat→COp→CR→List CR→Nat→List RR→List (Nat×Nat)→List Itm→St→Bool→Prop
 | 0,_,_,_,_,_,_,_,_,_=>False
 | n+1,.pick c a b,cr,l,j,acc,ps,k,σ,g =>
  (g=true→(ceO (lk σ.fr) c=true∧(veF (lk σ.fr) c).isBoolB=true)∧((veF (lk σ.fr) c).isT=true→ceO (lk σ.fr) a=true∧(veF (lk σ.fr) a).isBoolB=true)∧((veF (lk σ.fr) c).isT=false→ceO (lk σ.fr) b=true∧(veF (lk σ.fr) b).isBoolB=true)) ∧
  goR E n cr l j acc ps k σ g (.bool (pickB (veF (lk σ.fr) c).isT (veF (lk σ.fr) a).isT (veF (lk σ.fr) b).isT)) [] []
 | _+1,.call f xs,cr,l,j,acc,ps,k,σ,_=>Wk E (.ops (⟨cr.dst,cr.g,cr.us,.call f xs⟩::l) j acc ps::k) σ
 | _+1,.callv x xs,cr,l,j,acc,ps,k,σ,_=>Wk E (.ops (⟨cr.dst,cr.g,cr.us,.callv x xs⟩::l) j acc ps::k) σ
 | _+1,.cpy x y,cr,l,j,acc,ps,k,σ,_=>Wk E (.ops (⟨cr.dst,cr.g,cr.us,.cpy x y⟩::l) j acc ps::k) σ
 | _+1,.inv m x xs,cr,l,j,acc,ps,k,σ,_=>Wk E (.ops (⟨cr.dst,cr.g,cr.us,.inv m x xs⟩::l) j acc ps::k) σ
 | n+1,op,cr,l,j,acc,ps,k,σ,g=>goS E n cr l j acc ps k σ g (sem (veF (lk σ.fr)) (bk σ.bx) (E.n0+(σ.k+1024*j)) op)
def goS(E:Env):Nat→CR→List CR→Nat→List RR→List (Nat×Nat)→List Itm→St→Bool→Option (Prop×Rs)→Prop
 | 0,_,_,_,_,_,_,_,_,_=>False
 | _+1,_,_,_,_,_,_,_,_,none=>False
 | n+1,cr,l,j,acc,ps,k,σ,g,some (p,⟨v,rd,wr⟩)=>(g=true→uses (lk σ.fr) cr.us∧p)∧goR E n cr l j acc ps k σ g v rd wr
def goR(E:Env):Nat→CR→List CR→Nat→List RR→List (Nat×Nat)→List Itm→St→Bool→AV→List (Nat×Bx)→List (Nat×Option Bx)→Prop
 | 0,_,_,_,_,_,_,_,_,_,_,_=>False
 | n+1,cr,l,j,acc,ps,k,σ,g,v,rd,[]=>go E n (.ops l (j+1) (accN ps ⟨g,v,rd,[]⟩ acc) ps::k) (σ.app cr.dst ⟨g,v,rd,[]⟩)
 | n+1,cr,l,j,acc,ps,k,σ,g,v,rd,q::wr=>goG E n cr l j acc ps k σ g v rd (q::wr)
def goG(E:Env):Nat→CR→List CR→Nat→List RR→List (Nat×Nat)→List Itm→St→Bool→AV→List (Nat×Bx)→List (Nat×Option Bx)→Prop
 | 0,_,_,_,_,_,_,_,_,_,_,_=>False
 | n+1,cr,l,j,acc,ps,k,σ,true,v,rd,wr=>go E n (.ops l (j+1) (accN ps ⟨true,v,rd,wr⟩ acc) ps::k) (σ.app cr.dst ⟨true,v,rd,wr⟩)
 | n+1,cr,l,j,acc,ps,k,σ,false,_,_,_=>go E n (.ops l (j+1) (accN ps ⟨false,.nili,[],[]⟩ acc) ps::k) (σ.app cr.dst ⟨false,.nili,[],[]⟩)
end
section
variable {E:Env}
theorem w_acc{l:List CR}{j:Nat}{acc acc':List RR}{k:List Itm}{σ:St}(h:Wk E (.ops l j acc []::k) σ):Wk E (.ops l j acc' []::k) σ:=by
 rcases h with⟨rs,h1,h2,h3⟩|⟨rs,pv,r,h1,h2,h3⟩
 ·exact .inl ⟨rs,h1,trivial,h3⟩
 ·exact .inr ⟨rs,pv,r,h1,trivial,h3⟩
theorem w_accN{l:List CR}{j:Nat}{acc:List RR}{ps:List (Nat×Nat)}{r:RR}{k:List Itm}{σ:St}(h:Wk E (.ops l j (accN ps r acc) ps::k) σ):Wk E (.ops l j (r::acc) ps::k) σ:=by
 cases ps with
 | nil=>exact w_acc h
 | cons p ps=>exact h
theorem go_all:∀n:Nat,(∀k σ,go E n k σ→Wk E k σ)∧(∀id k σ,goX E n id k σ→Wx E id k σ)∧(∀b id k σ,goB E n b id k σ→if b then Wk E k σ else Wx E id k σ) ∧
  (∀v x y k σ,goV E n v x y k σ→∃b,v = .bool b∧(b=true→Wk E (.code x::k) σ)∧(b=false→Wk E (.code y::k) σ)) ∧
  (∀b x y k σ,goC E n b x y k σ→(b=true→Wk E (.code x::k) σ)∧(b=false→Wk E (.code y::k) σ)) ∧
  (∀cr l j acc ps k σ,gokF (lk σ.fr) cr.g→goO E n cr.op cr l j acc ps k σ (cndF (lk σ.fr) cr.g)→Wk E (.ops (cr::l) j acc ps::k) σ) ∧
  (∀cr l j acc ps k σ op p v rd wr,cr.op=op→gokF (lk σ.fr) cr.g→sem (veF (lk σ.fr)) (bk σ.bx) (E.n0+(σ.k+1024*j)) op=some (p,⟨v,rd,wr⟩)→goS E n cr l j acc ps k σ (cndF (lk σ.fr) cr.g) (some (p,⟨v,rd,wr⟩))→Wk E (.ops (cr::l) j acc ps::k) σ) ∧
  (∀cr l j acc ps k σ v rd wr,gokF (lk σ.fr) cr.g→(cndF (lk σ.fr) cr.g=true→ExR E.P cr.us (E.n0+σ.k+1024*j) (lk σ.fr) (bk σ.bx) cr.op ⟨true,v,rd,wr⟩)→goR E n cr l j acc ps k σ (cndF (lk σ.fr) cr.g) v rd wr→Wk E (.ops (cr::l) j acc ps::k) σ) ∧
  (∀cr l j acc ps k σ v rd wr,gokF (lk σ.fr) cr.g→(cndF (lk σ.fr) cr.g=true→ExR E.P cr.us (E.n0+σ.k+1024*j) (lk σ.fr) (bk σ.bx) cr.op ⟨true,v,rd,wr⟩)→goG E n cr l j acc ps k σ (cndF (lk σ.fr) cr.g) v rd wr→Wk E (.ops (cr::l) j acc ps::k) σ):=by
 intro n
 induction n with
 | zero =>
  refine⟨fun k σ h=>by simpa only[go] using h,fun id k σ h=>by simpa only[goX] using h,fun b id k σ h=>by simpa only[goB] using h,fun v x y k σ h=>by simpa only[goV] using h,fun b x y k σ h=>by simpa only[goC] using h,
   fun cr l j acc ps k σ hg h=>by simp only[goO] at h,fun cr l j acc ps k σ op p v rd wr hop hg hs h=>by simp only[goS] at h,fun cr l j acc ps k σ v rd wr hg hx h=>by simp only[goR] at h,fun cr l j acc ps k σ v rd wr hg hx h=>by simp only[goG] at h⟩
 | succ n ih =>
  obtain⟨i1,i2,i3,i4,i5,i6,i7,i8,i9⟩:=ih
  refine⟨fun k σ h=>?_,fun id k σ h=>?_,fun b id k σ h=>?_,fun v x y k σ h=>?_,fun b x y k σ h=>?_,fun cr l j acc ps k σ hg h=>?_,fun cr l j acc ps k σ op p v rd wr hop hg hs h=>?_,fun cr l j acc ps k σ v rd wr hg hx h=>?_,fun cr l j acc ps k σ v rd wr hg hx h=>?_⟩
  ·cases k with
   | nil=>simp only[go] at h; exact h
   | cons x k =>
    cases x with
    | blk id=>simp only[go] at h; exact i1 k σ h
    | post p=>simp only[go] at h; exact h
    | code c =>
     cases c with
     | skip=>simp only[go] at h; exact w_skip (i1 k σ h)
     | seq x y=>simp only[go] at h; exact w_seq (i1 _ σ h)
     | block id c=>simp only[go] at h; exact w_block (i1 _ σ h)
     | exit id=>simp only[go] at h; exact w_exit (i2 id k σ h)
     | ret=>simp only[go] at h; exact w_ret h
     | cond o x y =>
      simp only[go] at h
      obtain⟨b,e,h1,h2⟩:=i4 _ x y k σ h.2
      exact w_cond h.1 e h1 h2
     | reg d crs ps=>simp only[go] at h; exact w_reg (i1 _ σ h)
     | loop c=>simpa only[go] using h
     | bad=>simpa only[go] using h
    | ops l j acc ps =>
     cases l with
     | nil=>simp only[go] at h; exact w_ops (dynR_ok h.1) (i1 k _ h.2)
     | cons cr l=>simp only[go] at h; exact i6 cr l j acc ps k σ h.1 h.2
  ·cases k with
   | nil=>simp only[goX] at h
   | cons x k =>
    cases x with
    | blk id' =>
     simp only[goX] at h
     have:=i3 _ id k σ h
     show (if id=id' then Wk E k σ else Wx E id k σ)
     simpa only[decide_eq_true_eq] using this
    | post p=>simp only[goX] at h; exact i2 id k σ h
    | code c=>simp only[goX] at h; exact i2 id k σ h
    | ops=>simp only[goX] at h; exact i2 id k σ h
  ·cases b with
   | true=>simp only[goB] at h; simpa using i1 k σ h
   | false=>simp only[goB] at h; simpa using i2 id k σ h
  ·cases v with
   | bool b=>simp only[goV] at h; exact⟨b,rfl,i5 b x y k σ h⟩
   | _=>simp only[goV] at h
  ·cases b with
   | true=>simp only[goC] at h; exact⟨fun _=>i1 _ σ h,fun h=>by cases h⟩
   | false=>simp only[goC] at h; exact⟨(fun h=>by cases h),fun _=>i1 _ σ h⟩
  ·have other:∀op,cr.op=op→goS E n cr l j acc ps k σ (cndF (lk σ.fr) cr.g) (sem (veF (lk σ.fr)) (bk σ.bx) (E.n0+(σ.k+1024*j)) op)→Wk E (.ops (cr::l) j acc ps::k) σ:=fun op hop h=>by
    cases hs:sem (veF (lk σ.fr)) (bk σ.bx) (E.n0+(σ.k+1024*j)) op with
    | none=>rw[hs] at h; cases n<;>simp only[goS] at h
    | some q =>
     obtain⟨p,v,rd,wr⟩:=q
     rw[hs] at h
     exact i7 cr l j acc ps k σ op p v rd wr hop hg hs h
   obtain⟨dst,g,us,op⟩:=cr
   cases op with
   | pick c a b =>
    simp only[goO] at h
    refine i8 _ l j acc ps k σ _ [] [] hg (fun hc=>?_) h.2
    obtain⟨⟨q1,q2⟩,q3,q4⟩:=h.1 hc
    exact .pick true c a b q1 q2 q3 q4
   | call f xs=>simpa only[goO] using h
   | callv x xs=>simpa only[goO] using h
   | cpy x y=>simpa only[goO] using h
   | inv m x xs=>simpa only[goO] using h
   | _=>simp only[goO] at h; exact other _ rfl h
  ·subst hop
   simp only[goS] at h
   refine i8 cr l j acc ps k σ v rd wr hg (fun hc=>?_) h.2
   obtain⟨q1,q2⟩:=h.1 hc
   exact .sem true cr.op p v rd wr q1 (by rw[Nat.add_assoc]; exact hs) q2
  ·have ex:∀b,cndF (lk σ.fr) cr.g=b→(b=true→ExR E.P cr.us (E.n0+σ.k+1024*j) (lk σ.fr) (bk σ.bx) cr.op ⟨b,v,rd,wr⟩):=fun b hb hb'=>by subst hb'; exact hx hb
   cases wr with
   | nil =>
    simp only[goR] at h
    exact w_op (r:=⟨cndF (lk σ.fr) cr.g,v,rd,[]⟩) ⟨hg,rfl,fun hc=>ex _ rfl hc,fun _=>rfl⟩ (w_accN (i1 _ _ h))
   | cons q wr=>simp only[goR] at h; exact i9 cr l j acc ps k σ v rd (q::wr) hg hx h
  ·cases hc:cndF (lk σ.fr) cr.g with
   | true =>
    rw[hc] at h
    simp only[goG] at h
    exact w_op (r:=⟨true,v,rd,wr⟩) ⟨hg,hc.symm,fun _=>hx hc,fun h=>by cases h⟩ (w_accN (i1 _ _ h))
   | false =>
    rw[hc] at h
    simp only[goG] at h
    exact w_op (r:=⟨false,.nili,[],[]⟩) ⟨hg,hc.symm,(fun h=>by cases h),fun _=>rfl⟩ (w_accN (i1 _ _ h))
theorem w_go(n:Nat){k:List Itm}{σ:St}(h:go E n k σ):Wk E k σ:=(go_all n).1 k σ h
end
end Go.Am
namespace Go.Am
set_option linter.all false
open Go Go.RowKit
def HasL(B:Nat→Option Bx):List (Nat×Bx)→Prop
 | []=>True
 | (i,b)::l=>B i=some b∧HasL B l
theorem HasL.has{B:Nat→Option Bx}:∀{l:List (Nat×Bx)},HasL B l→Has B l
 | [],_=>Has.nil
 | (i,b)::l,h=>fun q hq=>by
  rcases List.mem_cons.1 hq with rfl|hq
  ·exact h.1
  ·exact h.2.has q hq
section
variable {E:Env} {σ:St} {k:List Itm} {P:Program}
theorem w_call(hP:E.P=P){dst:Option Nat}{us:List Nat}{f:Nat}{xs:List Opd}{l:List CR}{j:Nat}{acc:List RR}{ps:List (Nat×Nat)}{args:List AV}{rd:List (Nat×Bx)}{v:AV}{wr:List (Nat×Option Bx)}
  (ha:xs.map (veF (lk σ.fr))=args) (hc:FnOk P f args rd (E.n0+(σ.k+1024*j)) v wr) (hu:uses (lk σ.fr) us) (hh:HasL (bk σ.bx) rd) (h:Wk E (.ops l (j+1) (accN ps ⟨true,v,rd,wr⟩ acc) ps::k) (σ.app dst ⟨true,v,rd,wr⟩)) :
  Wk E (.ops (⟨dst,none,us,.call f xs⟩::l) j acc ps::k) σ:=by
 subst hP ha
 refine w_op (r:=⟨true,v,rd,wr⟩) ⟨trivial,rfl,fun _=>.call f xs _ hu (.inl ⟨?_,hh.has⟩),fun h=>by cases h⟩ (w_accN h)
 rw[Nat.add_assoc]; exact hc
theorem w_callF(hP:E.P=P){dst:Option Nat}{us:List Nat}{f:Nat}{xs:List Opd}{l:List CR}{j:Nat}{acc:List RR}{ps:List (Nat×Nat)}{args args':List AV}{p:Prop}{fz rd:List (Nat×Bx)}{v:AV}{wr:List (Nat×Option Bx)}
  (ha:xs.map (veF (lk σ.fr))=args) (hr:rsvs (bk σ.bx) args=(p,args',fz)) (hp:p) (hc:FnOk P f args' rd (E.n0+(σ.k+1024*j)) v wr) (hu:uses (lk σ.fr) us) (hh:HasL (bk σ.bx) rd) (hd:apartL (keysR rd) (keysR fz))
  (h:Wk E (.ops l (j+1) (accN ps ⟨true,v,fz++rd,wrF fz++wr⟩ acc) ps::k) (σ.app dst ⟨true,v,fz++rd,wrF fz++wr⟩)) :
  Wk E (.ops (⟨dst,none,us,.call f xs⟩::l) j acc ps::k) σ:=by
 subst hP ha
 refine w_op (r:=⟨true,v,fz++rd,wrF fz++wr⟩) ⟨trivial,rfl,fun _=>.call f xs _ hu (.inr ⟨rd,wr,?_⟩),fun h=>by cases h⟩ (w_accN h)
 rw[hr,Nat.add_assoc]
 exact⟨hp,hc,hh.has,fun q hq q1 hq1 e=>apartL_iff.1 hd q.1 (List.mem_map.2 ⟨q,hq,rfl⟩) (List.mem_map.2 ⟨q1,hq1,e.symm⟩),rfl,rfl⟩
theorem w_callg(hP:E.P=P){dst:Option Nat}{g:Option (Nat×Bool)}{us:List Nat}{f:Nat}{xs:List Opd}{l:List CR}{j:Nat}{acc:List RR}{ps:List (Nat×Nat)}{args:List AV}{rd:List (Nat×Bx)}{v:AV}
  (hg:gokF (lk σ.fr) g) (ha:xs.map (veF (lk σ.fr))=args) (hc:cndF (lk σ.fr) g=true→FnOk P f args rd (E.n0+(σ.k+1024*j)) v []∧uses (lk σ.fr) us∧HasL (bk σ.bx) rd)
  (h:Wk E (.ops l (j+1) (accN ps ⟨cndF (lk σ.fr) g,v,rd,[]⟩ acc) ps::k) (σ.app dst ⟨cndF (lk σ.fr) g,v,rd,[]⟩)) :
  Wk E (.ops (⟨dst,g,us,.call f xs⟩::l) j acc ps::k) σ:=by
 subst hP ha
 refine w_op (r:=⟨cndF (lk σ.fr) g,v,rd,[]⟩) ⟨hg,rfl,fun hcc=>?_,fun _=>rfl⟩ (w_accN h)
 obtain⟨h1,h2,h3⟩:=hc hcc
 refine .call f xs _ h2 (.inl ⟨?_,h3.has⟩)
 rw[Nat.add_assoc]; exact h1
theorem w_callv(hP:E.P=P){dst:Option Nat}{us:List Nat}{f:Nat}{caps:List AV}{x:Opd}{xs:List Opd}{l:List CR}{j:Nat}{acc:List RR}{ps:List (Nat×Nat)}{args:List AV}{rd:List (Nat×Bx)}{v:AV}{wr:List (Nat×Option Bx)}
  (hx:veF (lk σ.fr) x = .fn f caps) (ha:xs.map (veF (lk σ.fr))=args) (hc:FnOk P f (args++caps) rd (E.n0+(σ.k+1024*j)) v wr) (hu:uses (lk σ.fr) us) (hh:HasL (bk σ.bx) rd) (h:Wk E (.ops l (j+1) (accN ps ⟨true,v,rd,wr⟩ acc) ps::k) (σ.app dst ⟨true,v,rd,wr⟩)) :
  Wk E (.ops (⟨dst,none,us,.callv x xs⟩::l) j acc ps::k) σ:=by
 subst hP ha
 refine w_op (r:=⟨true,v,rd,wr⟩) ⟨trivial,rfl,fun _=>.callv x xs f caps _ hu hx (.inl ⟨?_,hh.has⟩),fun h=>by cases h⟩ (w_accN h)
 rw[Nat.add_assoc]; exact hc
theorem goc{b:Bool}{n:Nat}{x y:CC}(h1:b=true→go E n (.code x::k) σ)(h2:b=false→go E n (.code y::k) σ):goC E (n+1) b x y k σ:=by
 cases b with
 | true=>simpa only[goC] using h1 rfl
 | false=>simpa only[goC] using h2 rfl
theorem goc_true{b:Bool}{n:Nat}{x y:CC}(hb:b=true)(h1:go E n (.code x::k) σ):goC E (n+1) b x y k σ:=by subst hb; simpa only[goC] using h1
theorem goc_false{b:Bool}{n:Nat}{x y:CC}(hb:b=false)(h1:go E n (.code y::k) σ):goC E (n+1) b x y k σ:=by subst hb; simpa only[goC] using h1
theorem end_pure{n0 id:Nat}{S:Nat→Prop}{res:AV}{vs:List AV}{bx':List (Nat×Option Bx)}(h:tupOf vs=res)(hp:res.pureB=true)(hd:DropOk n0 [] bx'):EndP n0 id S [] res [] vs bx' [] trivial :=
 ⟨by rw[h]; exact .same _ (namesIn_pure _ hp),trivial,hd,trivial,trivial,trivial⟩
end
end Go.Am
namespace Go.Am
set_option linter.all false
open Go Go.RowKit
section
variable {R:Rn} {S:Nat→Prop}
theorem renR_int{k k':IntKind}{a b:Int}:RenR R S (.int k a) (.int k' b)↔k=k'∧a=b :=
 ⟨fun h=>by cases h; exact⟨rfl,rfl⟩,fun⟨h1,h2⟩=>by subst h1 h2; exact .same _ trivial⟩
theorem renR_bool{a b:Bool}:RenR R S (.bool a) (.bool b)↔a=b :=
 ⟨fun h=>by cases h; rfl,fun h=>by subst h; exact .same _ trivial⟩
theorem renR_str{a b:List UInt8}:RenR R S (.str a) (.str b)↔a=b :=
 ⟨fun h=>by cases h; rfl,fun h=>by subst h; exact .same _ trivial⟩
theorem renR_nilp:RenR R S .nilp .nilp↔True:=⟨fun _=>trivial,fun _=>.same _ trivial⟩
theorem renR_nilf:RenR R S .nilf .nilf↔True:=⟨fun _=>trivial,fun _=>.same _ trivial⟩
theorem renR_nili:RenR R S .nili .nili↔True:=⟨fun _=>trivial,fun _=>.same _ trivial⟩
theorem renR_nils:RenR R S .nils .nils↔True:=⟨fun _=>trivial,fun _=>.same _ trivial⟩
theorem renR_nilsl{ys:List AV}:RenR R S .nils (.sl ys)↔ys=[] :=
 ⟨fun h=>by cases h; rfl,fun h=>by subst h; exact .nils⟩
theorem renR_sl{xs ys:List AV}:RenR R S (.sl xs) (.sl ys)↔xs=ys∧namesL (R.fix S) xs :=
 ⟨fun h=>by cases h with|same _ h=>exact⟨rfl,h⟩,fun⟨h1,h2⟩=>by subst h1; exact .same _ h2⟩
theorem renR_cptr{xs ys:List AV}:RenR R S (.cptr xs) (.cptr ys)↔xs=ys∧namesL (R.fix S) xs :=
 ⟨fun h=>by cases h with|same _ h=>exact⟨rfl,h⟩,fun⟨h1,h2⟩=>by subst h1; exact .same _ h2⟩
theorem renR_ptr{a b i i' o o':Nat}:RenR R S (.ptr a i o) (.ptr b i' o')↔i=i'∧o=o'∧(R.ρ b=some a∨(a=b∧R.ρ a=none∧S a)):=by
 constructor
 ·intro h
  cases h with
  | same _ h=>exact⟨rfl,rfl,h.imp _root_.id fun h=>⟨rfl,h⟩⟩
  | ptr _ _ _ _ h=>exact⟨rfl,rfl,.inl h⟩
 ·rintro⟨rfl,rfl,h|⟨rfl,h⟩⟩
  ·exact .ptr _ _ _ _ h
  ·exact .same _ (.inr h)
theorem renR_bsl{a b i i' o o':Nat}:RenR R S (.bsl a i o) (.bsl b i' o')↔i=i'∧o=o'∧(R.ρ b=some a∨(a=b∧R.ρ a=none∧S a)):=by
 constructor
 ·intro h
  cases h with
  | same _ h=>exact⟨rfl,rfl,h.imp _root_.id fun h=>⟨rfl,h⟩⟩
  | bsl _ _ _ _ h=>exact⟨rfl,rfl,.inl h⟩
 ·rintro⟨rfl,rfl,h|⟨rfl,h⟩⟩
  ·exact .bsl _ _ _ _ h
  ·exact .same _ (.inr h)
theorem renR_agg{cs ds:List AV}:RenR R S (.agg cs) (.agg ds)↔RenL R S cs ds :=
 ⟨fun h=>by
  cases h with
  | same _ h=>exact RenL.same h
  | agg _ _ h=>exact h,.agg _ _⟩
theorem renR_tup{cs ds:List AV}:RenR R S (.tup cs) (.tup ds)↔RenL R S cs ds :=
 ⟨fun h=>by
  cases h with
  | same _ h=>exact RenL.same h
  | tup _ _ h=>exact h,.tup _ _⟩
theorem renR_fn{f g:Nat}{cs ds:List AV}:RenR R S (.fn f cs) (.fn g ds)↔f=g∧RenL R S cs ds :=
 ⟨fun h=>by
  cases h with
  | same _ h=>exact⟨rfl,RenL.same h⟩
  | fn _ _ _ h=>exact⟨rfl,h⟩,fun⟨h1,h2⟩=>by subst h1; exact .fn _ _ _ h2⟩
theorem renR_fnb{f g:Nat}{cs ds:List AV}:RenR R S (.fnb f cs) (.fnb g ds)↔f=g∧RenL R S cs ds :=
 ⟨fun h=>by
  cases h with
  | same _ h=>exact⟨rfl,RenL.same h⟩
  | fnb _ _ _ h=>exact⟨rfl,h⟩,fun⟨h1,h2⟩=>by subst h1; exact .fnb _ _ _ h2⟩
theorem renR_iface{t u:Nat}{x y:AV}:RenR R S (.iface t x) (.iface u y)↔t=u∧RenR R S x y :=
 ⟨fun h=>by
  cases h with
  | same _ h=>exact⟨rfl,.same _ h⟩
  | iface _ _ _ h=>exact⟨rfl,h⟩,fun⟨h1,h2⟩=>by subst h1; exact .iface _ _ _ h2⟩
theorem renL_nil:RenL R S [] []↔True:=⟨fun _=>trivial,fun _=>.nil⟩
theorem renL_cons{x y:AV}{l r:List AV}:RenL R S (x::l) (y::r)↔RenR R S x y∧RenL R S l r :=
 ⟨fun h=>by cases h with|cons _ _ _ _ h hl=>exact⟨h,hl⟩,fun⟨h,hl⟩=>.cons _ _ _ _ h hl⟩
theorem renL_pure{xs ys:List AV}(h:xs=ys)(hp:pureL xs=true):RenL R S xs ys:=by subst h; exact RenL.same (namesL_pure _ hp)
theorem renR_pure{x y:AV}(h:x=y)(hp:x.pureB=true):RenR R S x y:=by subst h; exact .same _ (namesIn_pure _ hp)
theorem bxR_iff{xs xs':List AV}{d d':AV}{ro ro' frz frz':Bool}:BxR R S ⟨xs,d,ro,frz⟩ ⟨xs',d',ro',frz'⟩↔RenL R S xs xs'∧d.cells.length=d'.cells.length∧ro=ro'∧frz=frz' :=
 ⟨fun⟨h1,h2,h3,h4⟩=>⟨h1,h2,h3,h4⟩,fun⟨h1,h2,h3,h4⟩=>⟨h1,h2,h3,h4⟩⟩
theorem mkRn_ρ(n0:Nat)(l:List (Nat×Nat))(h:rnOk l)(y:Nat):(mkRn n0 l h).ρ y=rnF n0 l y:=rfl
theorem pureL_map{α:Type}{f:α→AV}(h:∀x,(f x).pureB=true):∀l:List α,pureL (l.map f)=true
 | []=>rfl
 | x::l=>by simp only[List.map_cons,pureL,h x,pureL_map h l,Bool.and_self]
theorem pureL_append{a b:List AV}(h1:pureL a=true)(h2:pureL b=true):pureL (a++b)=true:=by
 induction a with
 | nil=>exact h2
 | cons x l ih =>
  simp only[pureL,Bool.and_eq_true,List.cons_append] at h1 ⊢
  exact⟨h1.1,ih h1.2⟩
end
theorem wrap64{x:Int}(h : -9223372036854775808≤x∧x≤9223372036854775807):IntKind.i64.wrap x=x:=IntWalk.i64_in _ h
theorem ne_own{i n0:Nat}(h:i<n0)(t:Nat):(i=n0+t)=False:=by simp; omega
theorem ne_own'{i n0:Nat}(h:i<n0)(t:Nat):(n0+t=i)=False:=by simp; omega
theorem ne_own0{i n0:Nat}(h:i<n0):(i=n0)=False:=by simp; omega
theorem ne_own0'{i n0:Nat}(h:i<n0):(n0=i)=False:=by simp; omega
end Go.Am
namespace Go.Am
set_option linter.all false
open Go Go.RowKit
theorem id_ne{i id:Nat}(h:i<id∨id+1024≤i):(i=id)=False:=by simp; omega
theorem id_ne'{i id:Nat}(h:i<id∨id+1024≤i):(id=i)=False:=by simp; omega
theorem id_lt{id n0:Nat}(h:id+1024≤n0):(id<n0)=True:=by simp; omega
theorem id_own{id n0:Nat}(h:id+1024≤n0)(t:Nat):(id=n0+t)=False:=by simp; omega
theorem id_own'{id n0:Nat}(h:id+1024≤n0)(t:Nat):(n0+t=id)=False:=by simp; omega
theorem id_own0{id n0:Nat}(h:id+1024≤n0):(id=n0)=False:=by simp; omega
theorem id_own0'{id n0:Nat}(h:id+1024≤n0):(n0=id)=False:=by simp; omega
theorem lf{i n0 id:Nat}(h:i<n0∧(i<id∨id+1024≤i)):(∀t,(i=n0+t)=False)∧(∀t,(n0+t=i)=False)∧(i=n0)=False∧(n0=i)=False∧i<n0∧(i=id)=False∧(id=i)=False :=
 ⟨ne_own h.1,ne_own' h.1,ne_own0 h.1,ne_own0' h.1,h.1,id_ne h.2,id_ne' h.2⟩
theorem idO{id n0:Nat}(h:id+1024≤n0):(id<n0)=True∧(∀t,(id=n0+t)=False)∧(∀t,(n0+t=id)=False)∧(id=n0)=False∧(n0=id)=False:=⟨id_lt h,id_own h,id_own' h,id_own0 h,id_own0' h⟩
theorem pickB_false(c a:Bool):pickB c a false=(c&&a):=by cases c<;>cases a<;>rfl
theorem pickB_true(c b:Bool):pickB c true b=(c||b):=by cases c<;>cases b<;>rfl
attribute [simp] arrT go goX goB goV goC goO goS goR goG mmT mmI St.app St.bump putF addW lk bk veF ceF ceO cndF gokF accN uses sem frOf someL lookT fieldT indexT lenT hiT loT elemsT cmpT binT rsv1 rsv rsv1T rsvL rsvT rsvs wrF appT Bx.el Bx.sz ldT stT unT convT slisT sliT AV.isAgg AV.isStr AV.isBoolB AV.isT AV.cells AV.one pickB_false pickB_true mend keysR keysW dynR dynL apartR apartL outOf getR HasL splice fillAV setAll setOk
attribute [simp] SubF SubB DropOk goneOk newIn rnOk goneN hasKey lkN rnF mkRn_ρ renR_int renR_bool renR_str renR_nilp renR_nilf renR_nili renR_nils renR_nilsl renR_sl renR_cptr renR_ptr renR_bsl renR_agg renR_tup renR_fn renR_fnb renR_iface renL_nil renL_cons bxR_iff tupOf FinB freshL appl upd AV.pureB pureL
theorem fn_okc{P:Program}{f:Nat}{fn:Func}{cc:CC}{crs:List CRes}{args:List AV}{rd:List (Nat×Bx)}{id:Nat}{res:AV}{wr:List (Nat×Option Bx)}
  (hf : P.funcs[f]? = some fn) (hcc : fn.body.map (compC P fn.ntmps) = some cc) (hnm : (fn.name == "runtime.NumGoroutine") = false) (hrs : compRes P fn.results.toList = some crs) (hN : args.length ≤ fn.ntmps)
  (h:∀E:Env,E.P=P→E.Rt=RtOk E.n0 id E.G0.used crs rd res wr→(∀q∈rd,q.1<E.n0∧(q.1<id∨id+1024≤q.1))→id+1024≤E.n0→Wk E [.code cc] ⟨frOf 0 args,someL rd,0⟩):FnOk P f args rd id res wr:=by
 obtain⟨c,hb,rfl⟩:=Option.map_eq_some_iff.1 hcc
 exact fn_ok hf hb hnm hrs hN fun E h1 _ h3 h4 h5=>h E h1 h3 h4 h5
def ResIs(F:Fr)(B:Nat→Option Bx)(crs:List CRes)(vs:List AV):Prop:=match resV F B crs with
 | some (p,us)=>p∧us=vs
 | none=>False
theorem rt_end{n0 id:Nat}{S:Nat→Prop}{crs:List CRes}{rd:List (Nat×Bx)}{res:AV}{wr:List (Nat×Option Bx)}{σ:St}{vs:List AV}(h:ResIs (lk σ.fr) (bk σ.bx) crs vs)(rn:List (Nat×Nat))(hrn:rnOk rn)(he:EndP n0 id S rd res wr vs σ.bx rn hrn):RtOk n0 id S crs rd res wr σ:=by
 unfold ResIs at h
 unfold RtOk
 cases hr:resV (lk σ.fr) (bk σ.bx) crs with
 | none=>rw[hr] at h; exact h.elim
 | some q =>
  obtain⟨p,us⟩:=q
  rw[hr] at h
  obtain⟨hp,rfl⟩:=h
  exact⟨hp,false,rn,hrn,he⟩
theorem rt_endF{n0 id:Nat}{S:Nat→Prop}{crs:List CRes}{rd:List (Nat×Bx)}{res:AV}{wr:List (Nat×Option Bx)}{σ:St}{vs vs':List AV}{q:Prop}{fz:List (Nat×Bx)}(h:ResIs (lk σ.fr) (bk σ.bx) crs vs)(hr:rsvs (bk σ.bx) vs=(q,vs',fz))(hq:q)
  (rn:List (Nat×Nat)) (hrn:rnOk rn) (he:EndP n0 id S rd res wr vs' (addW σ.bx (wrF fz)) rn hrn):RtOk n0 id S crs rd res wr σ:=by
 unfold ResIs at h
 unfold RtOk
 cases hv:resV (lk σ.fr) (bk σ.bx) crs with
 | none=>rw[hv] at h; exact h.elim
 | some z =>
  obtain⟨p,us⟩:=z
  rw[hv] at h
  obtain⟨hp,rfl⟩:=h
  refine⟨hp,true,rn,hrn,?_⟩
  show (rsvs (bk σ.bx) us).1∧_
  rw[hr]
  exact⟨hq,he⟩
def RsvIs(B:Nat→Option Bx)(vs vs':List AV)(fz:List (Nat×Bx)):Prop:=(rsvs B vs).1∧(rsvs B vs).2.1=vs'∧(rsvs B vs).2.2=fz
theorem RsvIs.eq{B:Nat→Option Bx}{vs vs':List AV}{fz:List (Nat×Bx)}(h:RsvIs B vs vs' fz):rsvs B vs=((rsvs B vs).1,vs',fz):=by
 obtain⟨_,h2,h3⟩:=h
 rw[←h2,←h3]
theorem w_callR{E:Env}{σ:St}{k:List Itm}{P:Program}(hP:E.P=P){dst:Option Nat}{us:List Nat}{f:Nat}{xs:List Opd}{l:List CR}{j:Nat}{acc:List RR}{ps:List (Nat×Nat)}{args args':List AV}{fz rd:List (Nat×Bx)}{v:AV}{wr:List (Nat×Option Bx)}
  (ha:xs.map (veF (lk σ.fr))=args) (hc:FnOk P f args' rd (E.n0+(σ.k+1024*j)) v wr) (hr:RsvIs (bk σ.bx) args args' fz) (hu:uses (lk σ.fr) us) (hh:HasL (bk σ.bx) rd) (hd:apartL (keysR rd) (keysR fz))
  (h:Wk E (.ops l (j+1) (accN ps ⟨true,v,fz++rd,wrF fz++wr⟩ acc) ps::k) (σ.app dst ⟨true,v,fz++rd,wrF fz++wr⟩)) :
  Wk E (.ops (⟨dst,none,us,.call f xs⟩::l) j acc ps::k) σ:=w_callF hP ha hr.eq hr.1 hc hu hh hd h
theorem rt_endR{n0 id:Nat}{S:Nat→Prop}{crs:List CRes}{rd:List (Nat×Bx)}{res:AV}{wr:List (Nat×Option Bx)}{σ:St}{vs vs':List AV}{fz:List (Nat×Bx)}(h:ResIs (lk σ.fr) (bk σ.bx) crs vs)(hr:RsvIs (bk σ.bx) vs vs' fz)
  (rn:List (Nat×Nat)) (hrn:rnOk rn) (he:EndP n0 id S rd res wr vs' (addW σ.bx (wrF fz)) rn hrn):RtOk n0 id S crs rd res wr σ:=rt_endF h hr.eq hr.1 rn hrn he
@[simp] theorem take_map_len {α:Type} (f:α→AV) (l:List α):List.take l.length (l.map f)=l.map f:=List.take_of_length_le (by simp)
attribute [simp] resV ResIs RsvIs
end Go.Am
namespace Go.Am
set_option linter.all false
set_option linter.all false
open Go Go.RowKit
def CR.m(d x:Nat):CR:=⟨some d,none,[x],.mv (.t x)⟩
def CR.i(d:Nat)(n:Int):CR:=⟨some d,none,[],.mv (.c (.int .i64 n))⟩
def CR.v(d:Nat)(a:AV):CR:=⟨some d,none,[],.mv (.c a)⟩
def CR.l(d x:Nat):CR:=⟨some d,none,[x],.ld false 1 (.t x)⟩
def CR.L(d n x:Nat):CR:=⟨some d,none,[x],.ld true n (.t x)⟩
def CR.f(d k x:Nat):CR:=⟨some d,none,[x],.fa k (.t x)⟩
def CR.e(d x i:Nat):CR:=⟨some d,none,[x],.ext (.t x) i⟩
def CR.n(d x:Nat):CR:=⟨some d,none,[x],.len false (.t x)⟩
def CR.ns(d x:Nat):CR:=⟨some d,none,[x],.len true (.t x)⟩
def CR.b(d:Nat)(o:BinOp)(x y:Nat):CR:=⟨some d,none,[x,y],.bin o none (.t x) (.t y)⟩
def CR.k(d:Nat)(o:BinOp)(x:Nat)(n:Int):CR:=⟨some d,none,[x],.bin o none (.t x) (.c (.int .i64 n))⟩
def CR.j(d:Nat)(o:BinOp)(x:Nat)(a:AV):CR:=⟨some d,none,[x],.bin o none (.t x) (.c a)⟩
def CR.c(d f:Nat)(xs:List Nat):CR:=⟨some d,none,xs,.call f (xs.map Opd.t)⟩
def CR.pa(d a b:Nat):CR:=⟨some d,none,[a,b],.pick (.t a) (.t b) (.c (.bool false))⟩
def CR.po(d a b:Nat):CR:=⟨some d,none,[a,b],.pick (.t a) (.c (.bool true)) (.t b)⟩
def CR.ck(d x:Nat):CR:=⟨some d,none,[x],.chk (.t x)⟩
def CR.bx(d x:Nat):CR:=⟨some d,none,[x],.box (.t x)⟩
def CR.al(d:Nat)(z:AV):CR:=⟨some d,none,[],.alloc z⟩
def CR.no(d x:Nat):CR:=⟨some d,none,[x],.un .not (.t x)⟩
def CR.ia(d s:Nat)(z:AV)(x y:Nat):CR:=⟨some d,none,[x,y],.ia s z (.t x) (.t y)⟩
def CR.st(n x y:Nat):CR:=⟨none,none,[x,y],.st n (.t x) (.t y)⟩
def CR.si(n x:Nat)(v:Int):CR:=⟨none,none,[x],.st n (.t x) (.c (.int .i64 v))⟩
def CR.gt(s:Nat)(c:CR):CR:=⟨c.dst,some (s,true),c.us,c.op⟩
def CR.gf(s:Nat)(c:CR):CR:=⟨c.dst,some (s,false),c.us,c.op⟩
def CC.r(l:List CR):CC:=.reg false l []
def CC.d(l:List CR)(p:List (Nat×Nat)):CC:=.reg true l p
def pr:List (Nat×List Nat)→List (Nat×Nat)
 | []=>[]
 | (b,l)::r=>l.map (fun a=>(a,b))++pr r
def AV.zE:AV:=.agg [.int .i64 0,.int .i64 0,.int .i64 0,.int .i64 0,.int .i64 0,.str []]
def AV.zG:AV:=.agg [.int .i64 0,.int .i64 0,.nils]
def AV.zC:AV:=.agg [.int .i64 0,.str [],.nils]
def AV.zY:AV:=.agg [.str [],.nils]
def AV.zF:AV:=.agg [.str [],.int .i64 0,.str []]
def AV.zS:AV:=.agg [.nils,.nils]
def AV.zQ:AV:=.agg [.str [],.str [],.nils,.nils]
def AV.zA:AV:=.agg [.str [],.bool false,.str [],.int .i64 0]
attribute [simp] CR.m CR.i CR.v CR.l CR.L CR.f CR.e CR.n CR.ns CR.b CR.k CR.j CR.c CR.pa CR.po CR.ck CR.bx CR.al CR.no CR.ia CR.st CR.si CR.gt CR.gf CC.r CC.d pr AV.zE AV.zG AV.zC AV.zY AV.zF AV.zS AV.zQ AV.zA
end Go.Am
namespace Go.Am
set_option linter.all false
set_option linter.all false
open Go Go.RowKit Go.Proofs
set_option maxRecDepth 100000
def cc37a:CC:=(.r [.al 2 .nils,.al 3 (.int .i64 0)])
def cc37b:CC:=(.r [.m 6 0,⟨some 7,none,[6],.build [.str [],.int .i64 0] [(0,1,.t 6)]⟩,.bx 8 7,.m 4 8])
def cc37c:CC:=(.r [.m 9 4,.c 10 73 [9]])
def cc37h:CC:=(.r [.m 11 4,.ck 12 11,.f 13 1 12,.l 14 13,.m 15 0,.ns 16 15,.b 17 .lss 14 16])
def cc37k:CC:=(.d [.l 20 2,.m 21 4,.c 22 74 [21],⟨some 23,none,[22],.bslice (.agg [.int .i64 0,.str [],.int .i64 0]) 1 [(0,.t 22)]⟩,⟨some 24,none,[20,23],.app false (.agg [.int .i64 0,.str [],.int .i64 0]) 32 (.t 20) (.t 23)⟩,.st 1 2 24] [(0,2),(0,3)])
def cc37l:CC:=(.r [.l 25 2,.n 26 25,.k 27 .gtr 26 300])
def cc37m:CC:=(.r [⟨some 28,none,[],.call 75 [.c (.int .i64 2)]⟩])
def cc37n:CC:=(.r [.m 18 4,.c 19 73 [18]])
def cc37d:CC:=(.r [.l 29 2,.st 1 2 29,.si 1 3 0])
def cc37t:CC:=.block 1 (.seq cc37k (.seq cc37l (.cond (.t 27) cc37m CC.skip)))
def cc37L:CC:=.seq (.seq cc37h (.cond (.t 17) CC.skip (.exit 0))) (.seq cc37t cc37n)
def cc37:CC:=.seq cc37a (.seq CC.bad (.seq cc37b (.seq (.seq cc37c (.block 0 (.loop cc37L))) (.seq cc37d CC.ret))))
def cr37:List CRes:=[.cell 2 false 1,.cell 3 false 1]
theorem hcr37:compRes Tryz.prog Tryz.f37.results.toList=some cr37:=by kernel_rfl
theorem hcc37:Tryz.f37.body.map (compC Tryz.prog Tryz.f37.ntmps)=some cc37:=by kernel_rfl
def cc52a:CC:=(.r [.al 4 (.int .i64 0)])
def cc52b:CC:=(.r [.m 8 0,.c 9 13 [8],.m 7 9,.e 10 7 0,.e 11 7 1,.m 5 10,.st 1 4 11])
def cc52t:CC:=(.r [.l 12 4,.k 13 .neq 12 0])
def cc52c:CC:=(.r [.m 16 5,⟨some 17,none,[16],.build [.nils] [(0,1,.t 16)]⟩,.bx 18 17,.m 6 18])
def cc52d:CC:=(.r [.m 19 1,.m 20 6,⟨some 21,none,[19,20],.callv (.t 19) [.t 20]⟩])
def cc52e:CC:=(.r [.m 22 6,.c 23 84 [22]])
def cc52f:CC:=(.r [.si 1 4 0])
def cc52u:CC:=(.seq (.r [.l 14 4,.st 1 4 14]) CC.ret)
def cc52:CC:=.seq cc52a (.seq cc52b (.seq (.seq cc52t (.cond (.t 13) cc52u CC.skip)) (.seq CC.bad (.seq cc52c (.seq cc52d (.seq cc52e (.seq cc52f CC.ret)))))))
def cr52:List CRes:=[.cell 4 false 1]
theorem hcr52:compRes Tryz.prog Tryz.f52.results.toList=some cr52:=by kernel_rfl
theorem hcc52:Tryz.f52.body.map (compC Tryz.prog Tryz.f52.ntmps)=some cc52:=by kernel_rfl
def cc72c:CC:=(.seq (.r [.m 9 2,⟨some 10,none,[9],.conv (.ta 23) (.t 9)⟩,.m 8 10,.e 11 8 0,.e 12 8 1,.m 3 11,.m 4 12]) (.seq (.seq (.r [.m 13 4,.no 14 13]) (.cond (.t 14) (.r [.m 15 2,⟨none,none,[15],.pnk (.t 15)⟩]) CC.skip)) (.r [.m 16 3,⟨none,none,[0],.st 1 (.t 0) (.c .nils)⟩,.st 1 1 16])))
def cc72:CC:=.seq CC.bad (.seq (.r [.m 6 2,⟨some 7,none,[6],.bin .neq (some [7]) (.t 6) (.c .nili)⟩]) (.cond (.t 7) cc72c CC.skip))
theorem hcc72:Tryz.f72.body.map (compC Tryz.prog Tryz.f72.ntmps)=some cc72:=by kernel_rfl
def cc83c:CC:=(.seq (.r [.m 8 1,⟨some 9,none,[8],.conv (.ta 23) (.t 8)⟩,.m 7 9,.e 10 7 0,.e 11 7 1,.m 2 10,.m 3 11]) (.seq (.seq (.r [.m 12 3,.no 13 12]) (.cond (.t 13) (.r [.m 14 1,⟨none,none,[14],.pnk (.t 14)⟩]) CC.skip)) (.r [.m 15 2,.st 1 0 15])))
def cc83:CC:=.seq CC.bad (.seq (.r [.m 5 1,⟨some 6,none,[5],.bin .neq (some [7]) (.t 5) (.c .nili)⟩]) (.cond (.t 6) cc83c CC.skip))
theorem hcc83:Tryz.f83.body.map (compC Tryz.prog Tryz.f83.ntmps)=some cc83:=by kernel_rfl
end Go.Am
namespace Go.Am
set_option linter.all false
open Go Go.Proofs Go.Shelf
set_option maxRecDepth 100000
set_option linter.all false
def layItoa_ren:Go.Shelf.Ren:=⟨fun|171=>111|243=>132|246=>145|283=>160|284=>161|285=>162|286=>163|129=>175|317=>174|318=>176|319=>177|320=>178|337=>187|338=>188|n=>n,fun|3=>3|9=>9|2=>2|4=>4|171=>177|0=>0|53=>178|37=>102|5=>5|173=>181|212=>206|51=>141|20=>20|213=>207|46=>169|232=>237|233=>238|n=>n,fun|17=>3|18=>4|19=>5|n=>n⟩
theorem layItoa:Go.Proofs.LaysM.n171 Tryz.prog layItoa_ren:={ mixed:=by kernel_rfl,f129:=Tryz.func175.trans (congrArg some (by kernel_rfl)),f171:=Tryz.func111.trans (congrArg some (by kernel_rfl)),f243:=Tryz.func132.trans (congrArg some (by kernel_rfl)),f246:=Tryz.func145.trans (congrArg some (by kernel_rfl)),f283:=Tryz.func160.trans (congrArg some (by kernel_rfl)),f284:=Tryz.func161.trans (congrArg some (by kernel_rfl)),f285:=Tryz.func162.trans (congrArg some (by kernel_rfl)),f286:=Tryz.func163.trans (congrArg some (by kernel_rfl)),f317:=Tryz.func174.trans (congrArg some (by kernel_rfl)),f318:=Tryz.func176.trans (congrArg some (by kernel_rfl)),f319:=Tryz.func177.trans (congrArg some (by kernel_rfl)),f320:=Tryz.func178.trans (congrArg some (by kernel_rfl)),f337:=Tryz.func187.trans (congrArg some (by kernel_rfl)),f338:=Tryz.func188.trans (congrArg some (by kernel_rfl)),t0:=Tryz.underlying0,a0:=Tryz.isAgg0,z0:=Tryz.sizeOf0,v0:=Tryz.zeroValue0,t2:=Tryz.underlying2,a2:=Tryz.isAgg2,z2:=Tryz.sizeOf2,v2:=Tryz.zeroValue2,t3:=Tryz.underlying3,a3:=Tryz.isAgg3,z3:=Tryz.sizeOf3,v3:=Tryz.zeroValue3,t4:=Tryz.underlying4,a4:=Tryz.isAgg4,z4:=Tryz.sizeOf4,v4:=Tryz.zeroValue4,t5:=Tryz.underlying5,a5:=Tryz.isAgg5,z5:=Tryz.sizeOf5,v5:=Tryz.zeroValue5,t9:=Tryz.underlying9,a9:=Tryz.isAgg9,z9:=Tryz.sizeOf9,v9:=Tryz.zeroValue9,t20:=Tryz.underlying20,a20:=Tryz.isAgg20,z20:=Tryz.sizeOf20,v20:=Tryz.zeroValue20,t37:=Tryz.underlying102,a37:=Tryz.isAgg102,z37:=Tryz.sizeOf102,v37:=Tryz.zeroValue102,t46:=Tryz.underlying169,a46:=Tryz.isAgg169,z46:=Tryz.sizeOf169,v46:=Tryz.zeroValue169,t51:=Tryz.underlying141,a51:=Tryz.isAgg141,z51:=Tryz.sizeOf141,v51:=Tryz.zeroValue141,t53:=Tryz.underlying178,a53:=Tryz.isAgg178,z53:=Tryz.sizeOf178,v53:=Tryz.zeroValue178,t171:=Tryz.underlying177,a171:=Tryz.isAgg177,z171:=Tryz.sizeOf177,v171:=Tryz.zeroValue177,t173:=Tryz.underlying181,a173:=Tryz.isAgg181,z173:=Tryz.sizeOf181,v173:=Tryz.zeroValue181,t212:=Tryz.underlying206,a212:=Tryz.isAgg206,z212:=Tryz.sizeOf206,v212:=Tryz.zeroValue206,t213:=Tryz.underlying207,a213:=Tryz.isAgg207,z213:=Tryz.sizeOf207,t232:=Tryz.underlying237,a232:=Tryz.isAgg237,z232:=Tryz.sizeOf237,v232:=Tryz.zeroValue237,t233:=Tryz.underlying238,a233:=Tryz.isAgg238,z233:=Tryz.sizeOf238,v233:=Tryz.zeroValue238,g17:=by kernel_rfl,g18:=by kernel_rfl,g19:=by kernel_rfl,i0:=by kernel_rfl,i2:=by kernel_rfl,i3:=by kernel_rfl,i4:=by kernel_rfl,i5:=by kernel_rfl,i9:=by kernel_rfl,i20:=by kernel_rfl,i37:=by kernel_rfl,i46:=by kernel_rfl,i51:=by kernel_rfl,i53:=by kernel_rfl,i171:=by kernel_rfl,i173:=by kernel_rfl,i212:=by kernel_rfl,i232:=by kernel_rfl,i233:=by kernel_rfl,m17:=by kernel_rfl,m18:=by kernel_rfl,m19:=by kernel_rfl }
def layJoin_ren:Go.Shelf.Ren:=⟨fun|156=>77|165=>114|166=>115|169=>116|240=>135|241=>136|276=>149|277=>150|n=>n,fun|31=>99|9=>9|3=>3|4=>4|0=>0|20=>20|72=>122|76=>126|70=>120|37=>102|75=>125|127=>155|164=>165|5=>5|80=>106|n=>n,fun|n=>n⟩
theorem layJoin:Go.Proofs.Lays.n156 Tryz.prog layJoin_ren:={ mixed:=by kernel_rfl,f156:=Tryz.func77.trans (congrArg some (by kernel_rfl)),f165:=Tryz.func114.trans (congrArg some (by kernel_rfl)),f166:=Tryz.func115.trans (congrArg some (by kernel_rfl)),f169:=Tryz.func116.trans (congrArg some (by kernel_rfl)),f240:=Tryz.func135.trans (congrArg some (by kernel_rfl)),f241:=Tryz.func136.trans (congrArg some (by kernel_rfl)),f276:=Tryz.func149.trans (congrArg some (by kernel_rfl)),f277:=Tryz.func150.trans (congrArg some (by kernel_rfl)),t0:=Tryz.underlying0,a0:=Tryz.isAgg0,z0:=Tryz.sizeOf0,v0:=Tryz.zeroValue0,t3:=Tryz.underlying3,a3:=Tryz.isAgg3,z3:=Tryz.sizeOf3,v3:=Tryz.zeroValue3,t4:=Tryz.underlying4,a4:=Tryz.isAgg4,z4:=Tryz.sizeOf4,v4:=Tryz.zeroValue4,t9:=Tryz.underlying9,a9:=Tryz.isAgg9,z9:=Tryz.sizeOf9,v9:=Tryz.zeroValue9,t20:=Tryz.underlying20,a20:=Tryz.isAgg20,z20:=Tryz.sizeOf20,v20:=Tryz.zeroValue20,t31:=Tryz.underlying99,a31:=Tryz.isAgg99,z31:=Tryz.sizeOf99,v31:=Tryz.zeroValue99,t37:=Tryz.underlying102,a37:=Tryz.isAgg102,z37:=Tryz.sizeOf102,v37:=Tryz.zeroValue102,t70:=Tryz.underlying120,a70:=Tryz.isAgg120,z70:=Tryz.sizeOf120,v70:=Tryz.zeroValue120,t72:=Tryz.underlying122,a72:=Tryz.isAgg122,z72:=Tryz.sizeOf122,v72:=Tryz.zeroValue122,t75:=Tryz.underlying125,a75:=Tryz.isAgg125,z75:=Tryz.sizeOf125,v75:=Tryz.zeroValue125,t76:=Tryz.underlying126,a76:=Tryz.isAgg126,z76:=Tryz.sizeOf126,v76:=Tryz.zeroValue126,t127:=Tryz.underlying155,a127:=Tryz.isAgg155,z127:=Tryz.sizeOf155,v127:=Tryz.zeroValue155,t164:=Tryz.underlying165,a164:=Tryz.isAgg165,z164:=Tryz.sizeOf165,v164:=Tryz.zeroValue165 }
theorem extraJoin:Builder.Extra Tryz.prog layJoin_ren:={ sizeBuilder:=by kernel_rfl,liesBuilder:=by kernel_rfl,t5:=Tryz.underlying5,a5:=Tryz.isAgg5,z5:=Tryz.sizeOf5,v5:=Tryz.zeroValue5,infoByte:=by kernel_rfl,cellsByte:=by kernel_rfl,sizeByte:=by kernel_rfl,neB5:=by decide }
end Go.Am
namespace Go.Am
set_option linter.all false
open Go Go.RowKit
def G0(W:World):Gh:={ fz:=fun b o=>∃u,W.cell? ⟨b,o,none⟩=some u,used:=fun _=>False,bm:=fun _=>none,nl:=fun _=>False }
def C0{P:Program}(W:World)(ht:Tabs P W):Cx P:=⟨W.heap.size,W,(G0 W).fz,fun _ hb=>ht.below hb⟩
theorem RS.start{P:Program}(W:World)(ht:Tabs P W):RS (C0 W ht) (G0 W) (fun _=>none) W :=
 ⟨Below.refl _ _,Nat.le_refl _,fun _ _ h=>h,fun _ _ h _=>h,fun _ _ h=>by (cases h),fun _ _ h=>by (cases h),fun _ h=>h.elim,fun _ _ _ h=>by (cases h),fun _ _ _ _ _ h=>by (cases h),fun _ _ _ h=>by (cases h)⟩
def FitsL(p:TypeId→AV→Prop):List TypeId→List AV→Prop
 | [],[]=>True
 | t::ts,y::ys=>p t y∧FitsL p ts ys
 | _,_=>False
def Fits(P:Program):Nat→TypeId→AV→Prop
 | 0,_,_=>False
 | n+1,t,x=>match P.underlying t with
  | some .bool=>∃b,x = .bool b
  | some (.int k)=>∃m,x = .int k m∧(Lit.int k m).wf=true
  | some .string=>∃s:List UInt8,x = .str s∧s.length≤reachBytes
  | some (.slice e)=>∃xs:List AV,x = .sl xs∧xs.length≤reachBytes∧∀y∈xs,Fits P n e y
  | some (.struct fs)=>∃ys:List AV,x = .agg (ys.flatMap AV.cells)∧FitsL (Fits P n) (fs.toList.map (·.type)) ys
  | _=>False
mutual
def avOf{H:Type}:DataW H→AV
 | .lit (.int k n)=>.int k n
 | .lit (.bool b)=>.bool b
 | .lit (.string s)=>.str s
 | .nil=>.sl []
 | .slice elems _=>.sl (avAll elems)
 | .agg parts=>.agg (avCells parts)
 | _=>.nili
def avAll{H:Type}:List (DataW H)→List AV
 | []=>[]
 | d::r=>avOf d::avAll r
def avCells{H:Type}:List (DataW H)→List AV
 | []=>[]
 | d::r=>(avOf d).cells++avCells r
end
theorem avAll_map{H:Type}:∀l:List (DataW H),avAll l=l.map avOf
 | []=>rfl
 | d::r=>by simp only[avAll,List.map_cons,avAll_map r]
theorem avCells_map{H:Type}:∀l:List (DataW H),avCells l=(l.map avOf).flatMap AV.cells
 | []=>rfl
 | d::r=>by simp only[avCells,List.map_cons,List.flatMap_cons,avCells_map r]
def laidB(P:Program):List Field→Nat→Nat→Bool
 | [],k,n=>k==n
 | f::r,k,n=>f.offset==k&&laidB P r (k+P.cellsOf f.type) n
def kindB(P:Program)(l:List TypeId)(t:TypeId):Bool:=match P.underlying t with
 | some .bool=>true
 | some (.int _)=>true
 | some .string=>true
 | some (.slice e)=>l.contains e&&decide (0<P.bytesOf e)
 | some (.struct fs)=>fs.toList.all (fun f=>l.contains f.type)&&laidB P fs.toList 0 (P.cellsOf t)
 | _=>false
theorem laidB_le{P:Program}:∀{l:List Field} {k n:Nat},laidB P l k n=true→k≤n
 | [],k,n,h=>by simp[laidB] at h; omega
 | f::r,k,n,h=>by
  simp only[laidB,Bool.and_eq_true] at h
  have:=laidB_le h.2
  omega
def CellsOk(W:World)(a:AV)(cs:List Value):Prop:=a.cells.length=cs.length∧∀(j:Nat) y,a.cells[j]?=some y→RV (G0 W) W y (cs.getD j undef)
def Light(l:List Nat):Prop:=∀n∈l,n≤reachBytes
theorem Light.of{l:List Nat}(h:l.all (·≤reachBytes)=true):Light l:=fun n hn=>by simpa using List.all_eq_true.1 h n hn
theorem light_all{H:Type}{P:Program}{e:TypeId}:∀{l:List (DataW H)},Light (DataW.weightsAll P e l)→∀d∈l,Light (d.weights P e)
 | [],_,d,hd=>by cases hd
 | x::l,h,d,hd=>by
  simp only[DataW.weightsAll] at h
  rcases List.mem_cons.1 hd with rfl|hd
  ·exact fun n hn=>h n (by simp[hn])
  ·exact light_all (l:=l) (fun n hn=>h n (by simp[hn])) d hd
section
variable {H:Type} {enc:TypeId×Value→H} {P:Program} {W:World} {sp:Nat→Bool} {l:List TypeId}
theorem fields_rv{n:Nat}(ih:∀t cs (x:DataW H×List MemPlace),t∈l→DataW.trod enc P W 0 sp true n t cs=some x→Light (x.1.weights P t)→Fits P n t (avOf x.1)∧CellsOk W (avOf x.1) cs){cs:List Value}:
  ∀(fl:List Field) (xs:List (DataW H×List MemPlace)) (k:Nat),xs.length=fl.length→(∀f∈fl,f.type∈l)→laidB P fl k cs.length=true→(∀(i:Nat) f,fl[i]?=some f→DataW.trod enc P W 0 sp true n f.type ((cs.drop f.offset).take (P.cellsOf f.type))=xs[i]?) →
  Light (DataW.weightsEach P (fl.map (·.type)) (xs.map (·.1))) →
  FitsL (Fits P n) (fl.map (·.type)) (xs.map fun x=>avOf x.1)∧k+((xs.map fun x=>avOf x.1).flatMap AV.cells).length=cs.length∧∀(j:Nat) y,((xs.map fun x=>avOf x.1).flatMap AV.cells)[j]?=some y→RV (G0 W) W y (cs.getD (k+j) undef)
 | [],[],k,_,_,hl,_,_=>by
  simp[laidB] at hl
  exact⟨trivial,by simpa using hl,fun j y hy=>by simp at hy⟩
 | [],_::_,_,hx,_,_,_,_=>by simp at hx
 | _::_,[],_,hx,_,_,_,_=>by simp at hx
 | f::r,x::xs,k,hlen,hm,hl,ht,hw=>by
  simp only[laidB,Bool.and_eq_true,beq_iff_eq] at hl
  obtain⟨h1,h2⟩:=hl
  have hx:=ht 0 f rfl
  simp only[List.map_cons,DataW.weightsEach] at hw
  obtain⟨f1,f2,f3⟩:=ih _ _ _ (hm f (by simp)) hx fun n hn=>hw n (by simp[hn])
  obtain⟨g1,g2,g3⟩:=fields_rv ih r xs (k+P.cellsOf f.type) (by simpa using hlen) (fun f' hf'=>hm f' (by simp[hf'])) h2 (fun i f' hf'=>by simpa using ht (i+1) f' (by simpa using hf')) fun n hn=>hw n (by simp[hn])
  have hle:=laidB_le h2
  have hal:(avOf x.1).cells.length=P.cellsOf f.type:=by rw[f2,List.length_take,List.length_drop,h1]; omega
  refine⟨⟨f1,g1⟩,by simp only[List.map_cons,List.flatMap_cons,List.length_append]; omega,fun j y hy=>?_⟩
  simp only[List.map_cons,List.flatMap_cons] at hy
  by_cases hj:j<(avOf x.1).cells.length
  ·rw[List.getElem?_append_left hj] at hy
   have:=f3 j y hy
   have e:((cs.drop f.offset).take (P.cellsOf f.type)).getD j undef=cs.getD (k+j) undef:=by
    simp only[List.getD_eq_getElem?_getD]
    rw[List.getElem?_take_of_lt (by omega),List.getElem?_drop,h1]
   rw[e] at this
   exact this
  ·rw[List.getElem?_append_right (by omega)] at hy
   have:=g3 _ y hy
   rw[show k+P.cellsOf f.type+(j - (avOf x.1).cells.length)=k+j by omega] at this
   exact this
theorem trod_rv(hl:l.all (kindB P l)=true):∀(n:Nat) (t:TypeId) (cs:List Value) (x:DataW H×List MemPlace),t∈l→DataW.trod enc P W 0 sp true n t cs=some x→Light (x.1.weights P t)→Fits P n t (avOf x.1)∧CellsOk W (avOf x.1) cs
 | 0,t,cs,x,_,h,_=>by simp[DataW.trod] at h
 | n+1,t,cs,x,ht,h,hw=>by
  have hk:=List.all_eq_true.1 hl t ht
  have ih:=trod_rv hl n
  have one:∀(a:AV) (v:Value),a.cells=[a]→RV (G0 W) W a v→CellsOk W a [v]:=fun a v ha hr=>by
   refine⟨by rw[ha]; rfl,fun j y hy=>?_⟩
   rw[ha] at hy
   cases j with
   | zero=>simp at hy; subst hy; exact hr
   | succ j=>simp at hy
  unfold kindB at hk
  unfold Fits
  cases hu:P.underlying t with
  | none=>rw[hu] at hk; cases hk
  | some d =>
   rw[hu] at hk
   cases d with
   | bool =>
    obtain⟨b,rfl,rfl⟩:=DataW.trod_bool hu h
    exact⟨⟨b,rfl⟩,one _ _ rfl (.bool b)⟩
   | int k =>
    obtain⟨m,rfl,rfl,hwf⟩:=DataW.trod_int hu h
    exact⟨⟨m,rfl,hwf⟩,one _ _ rfl (.int k m)⟩
   | string =>
    obtain⟨s,rfl,rfl,hs⟩:=DataW.trod_string hu h
    obtain⟨⟨d⟩⟩:=s
    exact⟨⟨d,rfl,hw _ (by simp[DataW.weights])⟩,one _ _ rfl (.str d)⟩
   | struct fs =>
    simp only[Bool.and_eq_true] at hk
    obtain⟨xs,m,hm,rfl,hcl,hxl,hf⟩:=DataW.trod_struct hu h
    obtain rfl:m=n:=by omega
    simp only[DataW.weights,hu] at hw
    obtain⟨g1,g2,g3⟩:=fields_rv (cs:=cs) ih fs.toList xs 0 (by simpa using hxl) (fun f hf=>by simpa using List.all_eq_true.1 hk.1 f hf) (by rw[hcl]; exact hk.2) (fun i f hf'=>hf i f (by simpa using hf')) hw
    have e:avOf (DataW.agg (xs.map (·.1))) = .agg ((xs.map fun x=>avOf x.1).flatMap AV.cells):=by simp only[avOf,avCells_map,List.map_map]; rfl
    simp only[e]
    refine⟨⟨_,rfl,g1⟩,?_,fun j y hy=>?_⟩
    ·simp only[AV.cells]; omega
    ·have:=g3 j y hy
     rw[Nat.zero_add] at this
     exact this
   | slice e =>
    simp only[Bool.and_eq_true,decide_eq_true_eq] at hk
    have he:e∈l:=by simpa using hk.1
    rcases DataW.trod_slice hu h with⟨rfl,rfl⟩|⟨a,len,cap,elems,rest,m,hm,rfl,rfl,hb,hlc,hcm,hel,hE,-,-⟩
    ·refine⟨⟨[],rfl,by simp,fun y hy=>by cases hy⟩,one _ _ rfl ?_⟩
     exact .sl [] none 0 0 (fun _ _=>undef) (Nat.le_refl _) (by simp[maxLen]) (fun _=>⟨rfl,rfl⟩) (fun i x hi=>by simp at hi) (fun a i x j y _ hi=>by simp at hi) (fun a i x j y _ hi=>by simp at hi) (fun i x j y hi=>by simp at hi)
    ·obtain rfl:m=n:=by omega
     simp only[DataW.weights,hu] at hw
     have hlen0:(elems.length+rest.length)*P.bytesOf e≤reachBytes:=by simpa using hw _ (List.mem_cons_self ..)
     have hlen1:elems.length≤reachBytes:=by
      have:elems.length*1≤(elems.length+rest.length)*P.bytesOf e:=Nat.mul_le_mul (by omega) hk.2
      omega
     have hwe:Light (DataW.weightsAll P e (elems.map (·.1))):=fun n hn=>hw n (by simp[hn])
     have HH:∀i x,elems[i]?=some x→∃cs,(Fits P m e (avOf x.1)∧CellsOk W (avOf x.1) cs)∧cs.length=P.cellsOf e∧∀j,j<P.cellsOf e→W.cell? ((a.add (i*P.cellsOf e)).add j)=cs[j]?:=fun i x hx=>by
      have hi:i<elems.length:=(List.getElem?_eq_some_iff.1 hx).1
      have:=hE i (by omega)
      rw[hx,Option.bind_eq_some_iff] at this
      obtain⟨cs,c1,c2⟩:=this
      obtain⟨q1,q2⟩:=ih e cs x he c2 (light_all hwe x.1 (List.mem_map.2 ⟨x,List.mem_of_getElem? hx,rfl⟩))
      obtain⟨-,k2,k3⟩:=World.cells?_some c1
      exact⟨cs,⟨q1,q2⟩,k2,k3⟩
     have eav:avOf (DataW.slice (elems.map (·.1)) (rest.map (·.1))) = .sl (elems.map fun x=>avOf x.1):=by simp only[avOf,avAll_map,List.map_map]; rfl
     simp only[eav]
     have hget:∀(i:Nat) y,(elems.map fun x=>avOf x.1)[i]?=some y→∃x,elems[i]?=some x∧y=avOf x.1:=fun i y hy=>by
      rw[List.getElem?_map,Option.map_eq_some_iff] at hy
      obtain⟨x,hx,rfl⟩:=hy
      exact⟨x,hx,rfl⟩
     have hadd:∀i j,(a.add (i*P.cellsOf e)).add j=a.add (i*P.cellsOf e+j):=fun i j=>by
      clear ih one HH hE h hw
      unfold Addr.add
      generalize i*P.cellsOf e=n
      by_cases hj:j=0
      ·subst hj; simp
      ·by_cases hn:n=0
       ·subst hn; simp
       ·have:n+j≠0:=by omega
        simp[hj,hn,Nat.add_assoc]
     have hcell:∀(i:Nat) y (j:Nat) z,(elems.map fun x=>avOf x.1)[i]?=some y→y.cells[j]?=some z→∃u,W.cell? (a.add (i*P.cellsOf e+j))=some u∧RV (G0 W) W z u:=fun i y j z hy hz=>by
      obtain⟨x,hx,rfl⟩:=hget i y hy
      obtain⟨cs,⟨_,k1,k2⟩,k3,k4⟩:=HH i x hx
      have hj:j<cs.length:=by rw[←k1]; exact (List.getElem?_eq_some_iff.1 hz).1
      have h5:=k4 j (by omega)
      rw[hadd,List.getElem?_eq_getElem hj] at h5
      have h6:=k2 j z hz
      rw[List.getD_eq_getElem?_getD,List.getElem?_eq_getElem hj] at h6
      exact⟨_,h5,h6⟩
     refine⟨⟨_,rfl,by simpa using hlen1,fun y hy=>?_⟩,one _ _ rfl ?_⟩
     ·obtain⟨i,hi⟩:=List.getElem?_of_mem hy
      obtain⟨x,hx,rfl⟩:=hget i y hi
      obtain⟨_,h,_⟩:=HH i x hx
      exact h.1
     ·have hlen:(elems.map fun x=>avOf x.1).length=len:=by simpa using hel
      have:=RV.sl (G:=G0 W) (w:=W) (elems.map fun x=>avOf x.1) (some a) cap (P.cellsOf e) (fun i j=>(W.cell? (a.add (i*P.cellsOf e+j))).getD undef) (by rw[hlen]; exact hlc) hcm (fun h=>by cases h)
       (fun i y hy=>by
        obtain⟨x,hx,rfl⟩:=hget i y hy
        obtain⟨cs,⟨_,k1,k2⟩,k3,k4⟩:=HH i x hx
        rw[k1,k3])
       (fun a' i y j z ha hy hz=>by
        injection ha with ha; subst ha
        obtain⟨u,hu,hr⟩:=hcell i y j z hy hz
        have h2:=cell_norm hu
        rw[add_block,add_off] at h2
        exact⟨_,h2⟩)
       (fun a' i y j z ha hy hz=>by
        injection ha with ha; subst ha
        obtain⟨u,hu,hr⟩:=hcell i y j z hy hz
        rw[hu]; rfl)
       (fun i y j z hy hz=>by
        obtain⟨u,hu,hr⟩:=hcell i y j z hy hz
        rw[hu]; exact hr)
      rw[hlen] at this
      exact this
   | _=>cases hk
theorem arg_rv(hl:l.all (kindB P l)=true){r:Reach}{b0:Nat}{t:TypeId}(ht:t∈l){v:Value}{d:DataW H}{ps:List MemPlace}(hval:Value.okWide P W r b0 t v)(hd:DataW.Trod enc P W 0 sp true t v d ps)(hw:Light (d.weights P t)):
  (∃n,Fits P n t (avOf d))∧RV (G0 W) W (avOf d) v:=by
 obtain⟨n,hn⟩:=hd
 obtain⟨h1,h2,h3⟩:=trod_rv hl n t _ _ ht hn hw
 refine⟨⟨n,h1⟩,?_⟩
 have hk:=List.all_eq_true.1 hl t ht
 simp only at h1 h2 h3
 generalize avOf d=a at *
 cases n with
 | zero=>exact h1.elim
 | succ n =>
  unfold kindB at hk
  unfold Fits at h1
  have one:v.cells = #[v]→a.cells=[a]→RV (G0 W) W a v:=fun hv ha=>by
   have:=h3 0 a (by rw[ha]; rfl)
   rw[hv] at this
   exact this
  cases hu:P.underlying t with
  | none=>rw[hu] at hk; cases hk
  | some q =>
   rw[hu] at hk h1
   cases q with
   | bool=>obtain⟨b,rfl⟩:=WideShapes.okWide_bool hu hval; obtain⟨_,rfl⟩:=h1; exact one rfl rfl
   | int k=>obtain⟨b,rfl⟩:=WideShapes.okWide_int hu hval; obtain⟨_,rfl,_⟩:=h1; exact one rfl rfl
   | string=>obtain⟨b,rfl⟩:=WideShapes.okWide_string hu hval; obtain⟨_,rfl,_⟩:=h1; exact one rfl rfl
   | slice e=>obtain⟨a',len,cap,rfl⟩:=WideShapes.okWide_slice hu hval; obtain⟨_,rfl,_⟩:=h1; exact one rfl rfl
   | struct fs =>
    obtain⟨ys,rfl,_⟩:=h1
    simp only[Value.okWide,hu] at hval
    obtain⟨cs,rfl,_⟩:=hval
    refine .agg _ cs (by simpa [AV.cells,Value.cells] using h2) fun i y hy=>?_
    have:=h3 i y hy
    simpa [Value.cells,List.getD_eq_getElem?_getD,Array.getD_eq_getD_getElem?] using this
   | _=>cases hk
end
end Go.Am
namespace Go.Am
set_option linter.all false
open Go Go.RowKit
def FitsAny(P:Program)(t:TypeId)(a:AV):Prop:=∃n,Fits P n t a
section
variable {H:Type} {enc:TypeId×Value→H} {P:Program} {W W':World} {l:List TypeId}
theorem args_rv(hl:l.all (kindB P l)=true){sp:Nat→Bool}{r:Reach}{b0:Nat}:∀{ts:List TypeId} {vs:List Value} {ds:List (DataW H)} {ps:List MemPlace},(∀t∈ts,t∈l)→(∀(j:Nat) t v,ts[j]?=some t→vs[j]?=some v→Value.okWide P W r b0 t v) →
  DataW.TrodAll enc P W 0 sp true ts vs ds ps→Light (DataW.weightsEach P ts ds)→FitsL (FitsAny P) ts (ds.map avOf)∧ds.length=vs.length∧ds.length=ts.length∧∀(i:Nat) y,(ds.map avOf)[i]?=some y→RV (G0 W) W y (vs.getD i undef)
 | [],[],[],ps,_,_,_,_=>⟨trivial,rfl,rfl,fun i y hy=>by simp at hy⟩
 | t::ts,v::vs,d::ds,ps,hm,hv,h,hw=>by
  obtain⟨p,q,h1,h2,rfl⟩:=h
  simp only[DataW.weightsEach] at hw
  obtain⟨⟨n,f1⟩,f2⟩:=arg_rv hl (hm t (by simp)) (hv 0 t v rfl rfl) h1 fun n hn=>hw n (by simp[hn])
  obtain⟨g1,g2,g3,g4⟩:=args_rv hl (fun t ht=>hm t (by simp[ht])) (fun j t v hj hj'=>hv (j+1) t v (by simpa using hj) (by simpa using hj')) h2 fun n hn=>hw n (by simp[hn])
  refine⟨⟨⟨n,f1⟩,g1⟩,by simp[g2],by simp[g3],fun i y hy=>?_⟩
  cases i with
  | zero=>simp at hy; subst hy; exact f2
  | succ i=>exact g4 i y (by simpa using hy)
 | [],[],_::_,_,_,_,h,_=>h.elim
 | [],_::_,_,_,_,_,h,_=>h.elim
 | _::_,[],_,_,_,_,h,_=>h.elim
 | _::_,_::_,[],_,_,_,h,_=>h.elim
theorem args_stay(hlaid:laidOutB P=true):∀{ts:List TypeId} {vs:List Value} {ds:List (DataW H)} {ps:List MemPlace},(∀t∈ts,P.readableRec t=true∧t<P.types.size)→(∀x∈ps,x.block<W.heap.size)→Below W.heap.size W W' →
  DataW.TrodAll enc P W 0 (fun _=>true) true ts vs ds ps→DataW.TrodAll enc P W' 0 (fun b=>decide (b<W.heap.size)) true ts vs ds ps
 | [],[],[],ps,_,_,_,h=>h
 | t::ts,v::vs,d::ds,ps,hm,hlt,hb,h=>by
  obtain⟨p,q,h1,h2,rfl⟩:=h
  exact⟨p,q,Below.trod hlaid (hm t (by simp)).1 (hm t (by simp)).2 h1 hb fun x hx=>hlt x (by simp[hx]),args_stay hlaid (fun t ht=>hm t (by simp[ht])) (fun x hx=>hlt x (by simp[hx])) hb h2,rfl⟩
 | [],[],_::_,_,_,_,_,h=>h.elim
 | [],_::_,_,_,_,_,_,h=>h.elim
 | _::_,[],_,_,_,_,_,h=>h.elim
 | _::_,_::_,[],_,_,_,_,h=>h.elim
theorem law_post{f:Nat}{fn:Func}{s:ChangeSpec}{apart fresh handsOn:Bool}{base:Nat}{args:Array Value}{ds gs:List (DataW H)}{before:List MemPlace}{tb:TypeId}
  (hl:l.all (kindB P l)=true) (hlaid:laidOutB P=true) (hts:fn.params.toList.all (fun t=>l.contains t&&(P.readableRec t&&decide (t<P.types.size)))=true)
  (hrt:fn.resultTypes = #[tb]) (htb:P.underlying tb=some .bool) (hsv:s.vars=[])
  (hs:∀(ds:List (DataW H)),ds.length=fn.params.size→s.fn H ds={ results:=[.lit (.bool true)],args:=ds })
  (main:∀xs:List AV,FitsL (FitsAny P) fn.params.toList xs→xs=ds.map avOf→FnOk P f xs [] 0 (.bool true) [])
  (hsz:(DataW.weightsEach P (fn.params.toList++s.plain.varTypes P) (ds++gs)).all (·≤reachBytes)=true)
  (hval:∀(j:Nat) t v,fn.params[j]?=some t→args[j]?=some v→Value.okWide P W .any base t v)
  (hW:DataW.Whole enc P fn.params.toList s.vars apart W args.toList ds gs before) (htab:Tabs P W) :
  Calls P f args W fun e W'=>∃v,e = .returned v∧s.post enc P fn apart fresh handsOn false W args v W':=by
 have hW':=hW
 obtain⟨p,q,hA,hV,rfl,-,-⟩:=hW
 rw[hsv] at hV
 have hts':∀t∈fn.params.toList,t∈l∧P.readableRec t=true∧t<P.types.size:=fun t ht=>by
  have:=List.all_eq_true.1 hts t ht
  simpa using this
 have hgs:gs=[]∧q=[]:=by
  cases gs with
  | nil=>exact⟨rfl,hV⟩
  | cons g gs=>exact hV.elim
 obtain⟨rfl,rfl⟩:=hgs
 have hvt:s.plain.varTypes P=[]:=by simp[DataSpec.varTypes,ChangeSpec.plain,hsv]
 rw[hvt,List.append_nil,List.append_nil] at hsz
 obtain⟨f1,f2,f3,f4⟩:=args_rv hl (fun t ht=>(hts' t ht).1) (fun j t v hj hj'=>hval j t v (by simpa using hj) (by simpa using hj')) hA (Light.of hsz)
 refine ((main _ f1 rfl).2 (C0 W htab) (G0 W) (fun _=>none) W args 0 (RS.start W htab) ⟨by simpa using f2,fun i y hy=>?_⟩ (fun q hq=>by cases hq) (fun _ _ h=>h) (fun _ _ _ h=>h)).mono fun e W' he=>?_
 ·have:=f4 i y hy
  simpa [List.getD_eq_getElem?_getD,Array.getD_eq_getD_getElem?] using this
 ·obtain⟨v,G',rfl,r1,r2,r3,r4⟩:=he
  cases r3
  have hb:Below W.heap.size W W':=r1.below
  have e1:s.fn H (ds++[])={ results:=[.lit (.bool true)],args:=ds }:=by rw[List.append_nil]; exact hs ds (by simpa using f3)
  refine⟨_,rfl,ds,[],p++[],[],p,[],hW',?_,?_,?_,hb.frame _,fun h=>by cases h⟩
  ·rw[e1,hrt]
   exact⟨[],[],⟨1,by simp[DataW.trod,Value.cells,htb]⟩,rfl,rfl⟩
  ·rw[e1]
   exact args_stay hlaid (fun t ht=>(hts' t ht).2) (fun x hx=>hW'.lt x (by simp[hx])) hb hA
  ·rw[e1,hsv]
   rfl
end
end Go.Am
namespace Go.Am
set_option linter.all false
open Go Go.RowKit
section
variable {P:Program} {t:TypeId} {n:Nat} {x:AV}
theorem fits_int{k:IntKind}(hu:P.underlying t=some (.int k))(h:Fits P n t x):∃m,x = .int k m∧(Lit.int k m).wf=true:=by
 cases n with
 | zero=>exact h.elim
 | succ n=>unfold Fits at h; rw[hu] at h; exact h
theorem fits_bool(hu:P.underlying t=some .bool)(h:Fits P n t x):∃b,x = .bool b:=by
 cases n with
 | zero=>exact h.elim
 | succ n=>unfold Fits at h; rw[hu] at h; exact h
theorem fits_str(hu:P.underlying t=some .string)(h:Fits P n t x):∃s:List UInt8,x = .str s∧s.length≤reachBytes:=by
 cases n with
 | zero=>exact h.elim
 | succ n=>unfold Fits at h; rw[hu] at h; exact h
theorem fits_sl{e:TypeId}(hu:P.underlying t=some (.slice e))(h:Fits P n t x):∃m xs,n=m+1∧x = .sl xs∧xs.length≤reachBytes∧∀y∈xs,Fits P m e y:=by
 cases n with
 | zero=>exact h.elim
 | succ n=>unfold Fits at h; rw[hu] at h; obtain⟨xs,h1,h2,h3⟩:=h; exact⟨n,xs,rfl,h1,h2,h3⟩
theorem fits_st{fs:Array Field}(hu:P.underlying t=some (.struct fs))(h:Fits P n t x):∃m ys,n=m+1∧x = .agg (ys.flatMap AV.cells)∧FitsL (Fits P m) (fs.toList.map (·.type)) ys:=by
 cases n with
 | zero=>exact h.elim
 | succ n=>unfold Fits at h; rw[hu] at h; obtain⟨ys,h1,h2⟩:=h; exact⟨n,ys,rfl,h1,h2⟩
theorem fitsL_cons{p:TypeId→AV→Prop}{t:TypeId}{ts:List TypeId}{ys:List AV}(h:FitsL p (t::ts) ys):∃y r,ys=y::r∧p t y∧FitsL p ts r:=by
 cases ys with
 | nil=>exact h.elim
 | cons y r=>exact⟨y,r,rfl,h.1,h.2⟩
theorem fitsL_nil{p:TypeId→AV→Prop}{ys:List AV}(h:FitsL p [] ys):ys=[]:=by
 cases ys with
 | nil=>rfl
 | cons y r=>exact h.elim
theorem exists_map{α:Type}{f:α→AV}:∀{xs:List AV},(∀y∈xs,∃a,y=f a)→∃l:List α,xs=l.map f
 | [],_=>⟨[],rfl⟩
 | y::r,h=>by
  obtain⟨a,rfl⟩:=h y (by simp)
  obtain⟨l,rfl⟩:=exists_map (xs:=r) fun z hz=>h z (by simp[hz])
  exact⟨a::l,rfl⟩
end
def kidsOf(P:Program)(t:TypeId):List TypeId:=match P.underlying t with
 | some (.slice e)=>[e]
 | some (.struct fs)=>fs.toList.map (·.type)
 | _=>[]
def closeT(P:Program):Nat→List TypeId→List TypeId
 | 0,l=>l
 | n+1,l=>closeT P n (l++(l.flatMap (kidsOf P)).eraseDups.filter fun t=>!l.contains t)
end Go.Am
namespace Go.Am
set_option linter.all false
open Go Go.RowKit
theorem w_split{E:Env}{σ:St}{k:List Itm}{dst:Option Nat}{g:Option (Nat×Bool)}{us:List Nat}{op:COp}{l:List CR}{j:Nat}{acc:List RR}{ps:List (Nat×Nat)}(v:AV)(hg:gokF (lk σ.fr) g)
  (h1:cndF (lk σ.fr) g=true→Wk E (.ops (⟨dst,none,us,op⟩::l) j acc ps::k) σ)
  (h2:cndF (lk σ.fr) g=false→Wk E (.ops l (j+1) (accN ps ⟨false,v,[],[]⟩ acc) ps::k) (σ.app dst ⟨false,v,[],[]⟩)):Wk E (.ops (⟨dst,g,us,op⟩::l) j acc ps::k) σ:=by
 cases hc:cndF (lk σ.fr) g with
 | true =>
  rcases h1 hc with⟨rs,r1,r2,r3⟩|⟨rs,pv,r1,r2,r3⟩
  ·cases rs with
   | nil=>exact r1.elim
   | cons r rs =>
    obtain⟨⟨o1,o2,o3,o4⟩,r1⟩:=r1
    exact .inl ⟨r::rs,⟨⟨hg,o2.trans hc.symm,o3,o4⟩,r1⟩,r2,r3⟩
  ·cases rs with
   | nil=>exact .inr ⟨[],pv,r1,⟨hg,hc,r2.2.2⟩,r3⟩
   | cons r rs =>
    obtain⟨⟨o1,o2,o3,o4⟩,r2⟩:=r2
    exact .inr ⟨r::rs,pv,r1,⟨⟨hg,o2.trans hc.symm,o3,o4⟩,r2⟩,r3⟩
 | false=>exact w_op (r:=⟨false,v,[],[]⟩) ⟨hg,hc.symm,(fun h=>by cases h),fun _=>rfl⟩ (w_accN (h2 hc))
end Go.Am
namespace Go.Am
set_option linter.all false
open Go Go.RowKit
set_option linter.all false
section
variable {E:Env} {σ:St} {k:List Itm}
theorem Conv.frz(n:Nat){x x':AV}{fz:List (Nat×Bx)}(hx:lk σ.fr n=some (true,x))(hp:(rsvs (bk σ.bx) [x]).1)(h1:(rsvs (bk σ.bx) [x]).2.1=[x'])(h2:(rsvs (bk σ.bx) [x]).2.2=fz):Conv E σ ⟨(n,true,x')::σ.fr,addW σ.bx (wrF fz),σ.k⟩:=fun G a w hD=>by
 obtain⟨g1,g2⟩:=rsvs_local (bx':=ov E.β σ.bx) hp
 have ge:=g2 (g1.ov E.β)
 obtain⟨G1,q1,q2,q3,q4⟩:=freezeAll (rsvs (bk σ.bx) [x]).2.2 hD.rs fun q hq=>let ⟨z1,z2⟩:=rsvs_mem hp q hq; ⟨.inl (ov_bk E.β z1),z2⟩
 have h1':(rsvs (ov E.β σ.bx) [x]).1:=by rw[ge]; exact hp
 have q4':Stays G G1 w (rsvs (ov E.β σ.bx) [x]).2.2:=by rw[ge]; exact q4
 obtain⟨m1,m2⟩:=rsvs_rv q2 h1' q4'
 rw[ge] at m1 m2
 have hxr:=(hD.fr n true x hx).1 rfl
 have hxr':RV G1 w x' (a.tmps.getD n undef):=m2 (fun _=>a.tmps.getD n undef) (fun i y hy=>by
  cases i with
  | zero=>simp at hy; subst hy; exact hxr
  | succ i=>simp at hy) 0 x' (by rw[h1]; rfl)
 subst h2
 refine⟨G1,hD.ev.trans q2,?_,fun id h=>hD.used id (q3 id h),fun id hi h=>hD.old id hi (q3 id h),fun m c v hm=>?_,hD.size,hD.defers⟩
 ·show RS E.C G1 (ov E.β (addW σ.bx (wrF (rsvs (bk σ.bx) [x]).2.2))) w
  rw[ov_addW]; exact q1
 ·simp only[lk] at hm
  split at hm
  ·rename_i he
   subst he
   simp only[Option.some.injEq,Prod.mk.injEq] at hm
   obtain⟨rfl,rfl⟩:=hm
   exact⟨fun _=>hxr',fun h=>by cases h⟩
  ·exact⟨fun hc=>((hD.fr m c v hm).1 hc).mono q2,(hD.fr m c v hm).2⟩
end
end Go.Am
