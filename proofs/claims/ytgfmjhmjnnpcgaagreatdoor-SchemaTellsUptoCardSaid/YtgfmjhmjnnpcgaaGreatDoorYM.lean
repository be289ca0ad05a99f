/- Parts of the proof: an abstract machine for Go functions, and what functions of the program give back (Qr10, Qr11, Qr12). No condition. -/
import Derived.Test.YtgfmjhmjnnpcgaaGreatDoorYL
namespace Go.Am
set_option linter.all false
open Go Go.RowKit Go.Proofs
set_option maxRecDepth 100000
set_option linter.all false
theorem runY_pnk(E:Env)(e:Int)(y:Int)(J:Nat)(h4:J<E.n0)(hR:∀fr bx k,bk bx J=some (iBx e)→(∀q∈bx,q.1=J∨E.n0≤q.1)→E.Rt ⟨fr,bx,k⟩):
  Wk E [.code cc83c] ⟨[(0,true,.ptr J 0 0),(1,true,erV e)],[(J,some (iBx y))],0⟩:=by
 unfold erV iBx
 have e4:∀t,(J=E.n0+t)=False:=fun t=>by simp; omega
 refine w_go 4000 ?_
 simp[cc83c,e4]
 refine hR _ _ _ ?_ ?_
 ·simp[e4,iBx]
 ·simp
theorem hY83{x x' z:Code}{X:Operand}{Y:Code}(h:Tryz.f83.body=some (.seq x (.seq x' (.cond X Y z)))):compC Tryz.prog Tryz.f83.ntmps Y=cc83c:=by
 have h0:=hcc83
 rw[h] at h0
 simp only[Option.map_some,Option.some.injEq,cc83] at h0
 obtain⟨_,_,e1,_,h1⟩:=comp_seq h0
 injection e1 with _ e1
 subst e1
 obtain⟨_,_,e2,_,h2⟩:=comp_seq h1
 injection e2 with _ e2
 subst e2
 obtain⟨_,_,_,e3,_,h3,_⟩:=comp_cond h2
 injection e3 with _ e3 _
 subst e3
 exact h3
theorem runD_pnk(C:Cx Tryz.prog)(G:Gh)(B:Nat→Option Bx)(w:World)(er:Int)(y:Int)(n0 J:Nat)(v4 u:Value)(hs:RS C G B w)(hv4:RV G w (.ptr J 0 0) v4)(hu:RV G w (erV er) u)
  (h4:B J=some (iBx y)) (hold:∀x,G.used x→x<n0) (how:∀x,n0≤x→B x=none) :
  CallsD Tryz.prog 83 #[v4] (.panicking [{ v:=u,recovered:=false }]) w fun e u' w'=>u' = .panicking [{ v:=u,recovered:=true }]∧(∃v,e = .returned v) ∧
   ∃G' l k,RS C G' (ov B l) w'∧Evo G w G' w'∧bk l J=some (iBx er)∧(∀q∈l,q.1=J∨n0≤q.1)∧(∀x,x<n0→G'.used x→G.used x)∧∀x,G'.used x→x<n0+k:=by
 obtain⟨q,rfl⟩:∃q,u = .iface 23 q:=by
  unfold erV at hu
  cases hu with|iface _ _ q h=>exact⟨q,rfl⟩
 refine callsD_of_wpS Tryz.func83 rfl fun c₀ cs hm=>?_
 apply wpS_seq
 apply wpS_region
 simp[wpOpsS,go_sem,recoverD,hm,Tryz.ntmps83,Exit.thenS]
 apply wpS_seq
 apply wpS_region
 simp[wpOpsS,go_sem,Exit.thenS]
 refine wpS_cond (t:=true) (by simp[Act.eval,Array.replicate]) ?_
 apply wpS_of_wp
 simp only[if_true]
 let E:Env:=⟨Tryz.prog,C,B,Tryz.f83.ntmps,n0,G,w,how,hold,hs,[],fun σ=>bk σ.bx J=some (iBx er)∧∀q∈σ.bx,q.1=J∨n0≤q.1,fun _ _=>False⟩
 have l4:=hold J (hs.boxNames h4).1
 have hW:=runY_pnk E er y J l4 fun fr bx k h1 h2=>⟨h1,h2⟩
 refine wp_mono (hW _ (hY83 rfl) G _ w ?_) fun e a w' hq=>?_
 ·refine⟨Evo.refl G w,?_,fun i hi=>by have:=hold i hi; show i<n0+0; omega,fun i _ hi=>hi,fun n c v hl=>?_,?_,rfl⟩
  ·have hh:Has B [(J,iBx y)]:=fun q hq=>by
    simp at hq
    obtain rfl:=hq
    exact h4
   have:=ov_someL hh
   simp only[someL] at this
   show RS C G (ov B _) w
   rw[this]; exact hs
  ·simp only[lk] at hl
   repeat' split at hl
   all_goals first|cases hl|skip
   all_goals rename_i hn<;>subst hn<;>refine⟨fun _=>?_,fun h=>by cases h⟩
   ·simpa [Array.getD_eq_getD_getElem?] using hv4
   ·simpa [Array.getD_eq_getD_getElem?] using hu
  ·simp[E,Tryz.ntmps83]
 ·have fin:∀σ G',Desc E σ G' a w'→E.Rt σ→∀(cs':List Frame),a.defers=[]∧(∃v,(results Tryz.f83 a.tmps).run Tryz.prog w' = .ok v w')∧∃G' l k,RS C G' (ov B l) w'∧Evo G w G' w'∧bk l J=some (iBx er)∧(∀q∈l,q.1=J∨n0≤q.1)∧(∀x,x<n0→G'.used x→G.used x)∧∀x,G'.used x→x<n0+k:=fun σ G' hD hR _=>by
   refine⟨hD.defers,⟨_,by simp[results,Tryz.results83]; rfl⟩,G',σ.bx,σ.k,hD.rs,hD.ev,hR.1,hR.2,hD.old,hD.used⟩
  cases e with
  | normal =>
   obtain⟨σ,G',h1,h2⟩:=hq
   obtain⟨f1,⟨v,f2⟩,g1,g2,g3,d1,d2,d3,d4,d5,d6⟩:=fin σ G' h1 h2 cs
   exact⟨f1,_,rfl,v,f2,rfl,⟨v,rfl⟩,g1,g2,d1,d2,d3,fun x y h=>d4 (x,y) h,d5,g3,d6⟩
  | ret =>
   obtain⟨σ,G',h1,h2⟩:=hq
   obtain⟨f1,⟨v,f2⟩,g1,g2,g3,d1,d2,d3,d4,d5,d6⟩:=fin σ G' h1 h2 cs
   exact⟨f1,_,rfl,v,f2,rfl,⟨v,rfl⟩,g1,g2,d1,d2,d3,fun x y h=>d4 (x,y) h,d5,g3,d6⟩
  | exit id=>obtain⟨σ,G',h1,h2⟩:=hq; exact h2.elim
  | panic chain =>
   obtain⟨pv,u,σ,F,B,U,G',rfl,h1,h2,h3,h4⟩:=hq
   exact h4.elim
  | _=>exact hq.elim
theorem runD_ret(v1:Value)(w:World):CallsD Tryz.prog 83 #[v1] .returning w fun e u' w'=>u' = .returning∧(∃v,e = .returned v)∧w'=w:=by
 refine callsD_of_wpS Tryz.func83 rfl fun c₀ cs hu=>?_
 apply wpS_seq
 apply wpS_region
 simp[wpOpsS,go_sem,recoverD,hu,Tryz.ntmps83,Exit.thenS]
 apply wpS_seq
 apply wpS_region
 simp[wpOpsS,go_sem,Exit.thenS]
 refine wpS_cond (t:=false) (by simp[Act.eval,Array.replicate]) ?_
 simp only[Bool.false_eq_true,if_false]
 apply wpS_of_wp
 refine wp_skip ?_
 exact⟨rfl,_,by rw[←hu],_,by simp[results,Tryz.results83]; rfl,rfl,⟨_,rfl⟩,rfl⟩
theorem hY52{a b t u sk m c d e f r:Code}{X:Operand}(h:Tryz.f52.body=some (.seq a (.seq b (.seq (.seq t (.cond X u sk)) (.seq m (.seq c (.seq d (.seq e (.seq f r))))))))):
  compC Tryz.prog Tryz.f52.ntmps a=cc52a∧compC Tryz.prog Tryz.f52.ntmps b=cc52b∧compC Tryz.prog Tryz.f52.ntmps t=cc52t∧compC Tryz.prog Tryz.f52.ntmps u=cc52u∧compC Tryz.prog Tryz.f52.ntmps c=cc52c∧compC Tryz.prog Tryz.f52.ntmps d=cc52d∧compC Tryz.prog Tryz.f52.ntmps e=cc52e∧compC Tryz.prog Tryz.f52.ntmps (.seq f r) = .seq cc52f CC.ret:=by
 have h0:=hcc52
 rw[h] at h0
 simp only[Option.map_some,Option.some.injEq,cc52] at h0
 obtain⟨_,_,e1,k1,h1⟩:=comp_seq h0
 injection e1 with e1 e1'
 subst e1 e1'
 obtain⟨_,_,e2,k2,h2⟩:=comp_seq h1
 injection e2 with e2 e2'
 subst e2 e2'
 obtain⟨_,_,e3,k3,h3⟩:=comp_seq h2
 injection e3 with e3 e3'
 subst e3 e3'
 obtain⟨_,_,e4,k4,h4⟩:=comp_seq k3
 injection e4 with e4 e4'
 subst e4 e4'
 obtain⟨_,_,_,e5,_,k5,_⟩:=comp_cond h4
 injection e5 with _ e5 _
 subst e5
 obtain⟨_,_,e6,_,h6⟩:=comp_seq h3
 injection e6 with _ e6
 subst e6
 obtain⟨_,_,e7,k7,h7⟩:=comp_seq h6
 injection e7 with e7 e7'
 subst e7 e7'
 obtain⟨_,_,e8,k8,h8⟩:=comp_seq h7
 injection e8 with e8 e8'
 subst e8 e8'
 obtain⟨_,_,e9,k9,h9⟩:=comp_seq h8
 injection e9 with e9 e9'
 subst e9 e9'
 exact⟨k1,k2,k4,k5,k7,k8,k9,h9⟩
theorem door52{a b t m r:Code}(h:Tryz.f52.body=some (.seq a (.seq b (.seq t (.seq m r))))){Q:Exit→Act→World→Prop}{t:Array Value}{w:World}(hsz:15<t.size)
  (hQ:Q .normal ⟨t.setIfInBounds 15 (.func (.func 83) #[] #[t[4]?.getD undef]),[⟨.fn (.func 83) #[t[4]?.getD undef],#[]⟩]⟩ w):m.wp Tryz.prog Q ⟨t,[]⟩ w:=by
 have e:Tryz.f52.body=some (.seq _ (.seq _ (.seq _ (.seq _ _)))):=rfl
 rw[e] at h
 injection h with h
 injection h with _ h
 injection h with _ h
 injection h with _ h
 injection h with h _
 subst h
 refine wp_region ?_
 have hmf:∀(fn:Fn) (first cap:Array Value) (w:World),(Instr.makeFunc fn first cap).run Tryz.prog w = .ok (.func fn first cap) w:=fun _ _ _ _=>rfl
 simp[wpOps,wpOp,go_sem,hmf,Exit.then,hsz]
 exact .inl (.inl hQ)
theorem run_end{C:Cx Tryz.prog}{D:List Deferred}{G G':Gh}{w w':World}{bx:Nat→Option Bx}{n0 k id J K:Nat}{F:Fr}{l:List (Nat×Option Bx)}{a:Act}{e:Int}{b0:Bx}{X:Option Bx}(own:∀i,n0≤i→bx i=none)(old:∀i,G.used i→i<n0)(hs:RS C G bx w)(hid:∀x,id≤x→x<id+1024→¬G.used x)
  (hD:DescF C Tryz.f52.ntmps D n0 G w F (ov bx l) (· < n0+k) G' a w') (f4:F 4=some (true,.ptr J 0 0)) (h4:ov bx l J=some (iBx e)) (hK:ov bx l K=X) (hX:∀b,X=some b→pureL b.xs=true) (hb0:bx K=some b0) (hl:∀q∈l,q.1=K∨n0≤q.1) (j4:n0≤J) (hKn:K<n0) :
  ∃v,(results Tryz.f52 a.tmps).run Tryz.prog w' = .ok v w'∧∃G1,RS C G1 (appl bx [(K,X)]) w'∧Evo G w G1 w'∧RV G1 w' (.int .i64 e) v∧∀x,G1.used x→G.used x∨(id≤x∧x<id+1024):=by
 let E:Env:=⟨Tryz.prog,C,bx,Tryz.f52.ntmps,n0,G,w,own,old,hs,D,fun _=>True,fun _ _=>False⟩
 have hD':Desc E ⟨[(4,true,.ptr J 0 0)],(J,some (iBx e))::(K,X)::l,k⟩ G' a w':=by
  refine⟨hD.ev,?_,hD.used,hD.old,fun n c v hl=>?_,hD.size,hD.defers⟩
  ·show RS C G' (ov bx _) w'
   simp only[ov]
   rw[upd_same (f:=ov bx l) hK,upd_same h4]
   exact hD.rs
  ·simp only[lk] at hl
   repeat' split at hl
   all_goals first|cases hl|skip
   all_goals rename_i hn<;>subst hn
   exact hD.fr _ _ _ f4
 have hh:Has E.β [(K,b0)]:=fun q hq=>by
  simp at hq
  obtain rfl:=hq
  exact hb0
 refine end_ok (E:=E) (id:=id) (rd:=[(K,b0)]) (wr:=[(K,X)]) (hcr52) hh hid hD' ?_
 simp only[cr52]
 have hJK:J≠K:=by omega
 refine rt_end (vs:=[.int .i64 e]) (by simp[iBx]) [] trivial ⟨.same _ (namesIn_pure _ rfl),?_,?_,?_,trivial,?_⟩
 ·have one:∀b',X=some b'→∃x b,(mkRn n0 [] trivial).ρ K=some x∧bk ((J,some (iBx e))::(K,X)::l) x=some b∧BxR (mkRn n0 [] trivial) G.used b b':=fun b hb=>by
   refine⟨K,b,?_,?_,BxR.same fun i x hx=>namesIn_pure _ (pureL_get (hX b hb) hx)⟩
   ·show rnF n0 [] K=some K
    simp[rnF,lkN,hKn]
   ·simp[bk,Ne.symm hJK,hb]
  clear hD hD' h4 hK
  have hap:appl (bk (someL [(K,b0)])) [(K,X)] K=X:=by simp[appl,upd]
  have one':match appl (bk (someL [(K,b0)])) [(K,X)] K with
    | none=>True
    | some b'=>∃x b,(mkRn n0 [] trivial).ρ K=some x∧bk ((J,some (iBx e))::(K,X)::l) x=some b∧BxR (mkRn n0 [] trivial) G.used b b':=by
   rw[hap]
   cases X with
   | none=>trivial
   | some b=>exact one b rfl
  exact⟨one',one',trivial⟩
 ·refine⟨.inl j4,.inr (.inl rfl),?_⟩
  clear hD hD' h4 hK
  induction l with
  | nil=>trivial
  | cons q l ih =>
   obtain⟨q1,q2⟩:=q
   refine⟨?_,ih fun x hx=>hl x (List.mem_cons_of_mem _ hx)⟩
   rcases hl (q1,q2) (List.mem_cons_self ..) with h|h
   ·exact .inr (.inl h)
   ·exact .inl h
 ·exact⟨.inl (.inl rfl),trivial⟩
 ·trivial
end Go.Am
namespace Go.Am
set_option linter.all false
open Go Go.RowKit Go.Proofs
set_option maxRecDepth 100000
set_option linter.all false
theorem pTok_ne{c:UInt8}{r:List UInt8}{e:Int}(h:pTok c r = .error e):e≠0:=by
 unfold pTok at h
 split at h
 ·split at h
  ·cases h
  ·injection h with h; rw[←h]; assumption
 split at h
 ·split at h
  ·injection h with h; omega
  ·cases h
 split at h
 ·split at h
  ·injection h with h; omega
  ·split at h
   ·injection h with h; omega
   ·cases h
 split at h
 ·cases h
 ·injection h with h; omega
theorem pToks_ne:∀(n:Nat) (acc:List Tk) (s:List UInt8) (e:Int),pToks n acc s = .error e→e≠0
 | 0,_,_,e,h=>by unfold pToks at h; injection h with h; omega
 | n+1,acc,s,e,h=>by
  unfold pToks at h
  split at h
  ·cases h
  ·split at h
   ·rename_i he
    injection h with h
    rw[←h]; exact pTok_ne he
   ·split at h
    ·injection h with h; omega
    ·exact pToks_ne n _ _ _ h
theorem fLex_ne{s:List UInt8}{e:Int}(h:fLex s = .error e):e≠0:=by
 unfold fLex at h
 split at h
 ·injection h with h; omega
 ·exact pToks_ne _ _ _ _ h
def runE(pr:List Tk→Option (AV×List Tk))(s:List UInt8):Int:=match fLex s with
 | .error e=>e
 | .ok l=>match pr l with
  | none=>1
  | some (_,u)=>if u=[] then 0 else 1
def runX(pr:List Tk→Option (AV×List Tk))(s:List UInt8):Option Bx:=match fLex s with
 | .error _=>some (lK .nils)
 | .ok l=>match pr l with
  | none=>none
  | some (v,_)=>some (lK v)
def doR(J K:Nat)(z:List Tk):Option (AV×List Tk)→Except AV (AV×List (Nat×Option Bx))
 | none=>.error (erV 1)
 | some (v,u)=>.ok (.tup [],[(J,some (tB z u)),(K,some (lK v))])
def rInv(E:Env)(f n0 K:Nat)(l:List Tk):St :=
 ⟨[(1,true,.fn f [.ptr K 0 0]),(4,true,.ptr n0 0 0),(6,true,.ptr E.n0 0 0)],[(E.n0,some (tB l l)),(n0,some (iBx 0)),(K,some (lK .nils))],1⟩
def rInv2(E:Env)(n0 K:Nat)(l u:List Tk)(v:AV):St :=
 ⟨[(4,true,.ptr n0 0 0),(6,true,.ptr E.n0 0 0)],[(E.n0,some (tB l u)),(n0,some (iBx 0)),(K,some (lK v))],1⟩
def rBg(E:Env)(f K:Nat)(V:AV)(e:Int):St :=
 ⟨[(1,true,.fn f [.ptr K 0 0]),(4,true,.ptr E.n0 0 0),(5,true,V)],[(E.n0,some (iBx e)),(K,some (lK .nils))],1⟩
section
variable (E:Env) (hP:E.P=Tryz.prog) (f K:Nat) (h5:K<E.n0) (s:List UInt8)
include hP h5
theorem run_ab(V:AV)(e:Int)(hV:V.pureB=true)(hre:∀id,FnOk Tryz.prog 13 [.str s] [] id (.tup [V,.int .i64 e]) []):
  Wk E [.code cc52b,.post fun σ=>Conv E σ (rBg E f K V e)] ⟨[(4,true,.ptr E.n0 0 0),(0,true,.str s),(1,true,.fn f [.ptr K 0 0])],[(E.n0,some (iBx 0)),(K,some (lK .nils))],1024⟩:=by
 have K1:=ne_own h5; have K2:=ne_own' h5; have K3:=ne_own0 h5; have K4:=ne_own0' h5
 unfold iBx lK
 refine w_go 4000 ?_
 simp[cc52b,K1,K2,K3,K4,h5]
 (refine w_call hP rfl (hre _) (by simp[K1,K2,K3,K4,h5]) (by simp[K1,K2,K3,K4,h5]<;>rfl) ?_; refine w_go 4000 ?_; simp[K1,K2,K3,K4,h5])
 unfold rBg
 have hrn:rnOk [(E.n0,E.n0)]:=by simp[iBx,lK,K1,K2,K3,K4,h5]
 refine Conv.sub [(E.n0,E.n0)] hrn ?_ ?_ ?_ ?_ ?_<;>(try simp[iBx,lK,K1,K2,K3,K4,h5])
 all_goals exact .same _ (namesIn_pure _ hV)
theorem run_t(V:AV)(e:Int)(b:Bool)(hb:(e != 0)=b)(hV:V.pureB=true):
  Wk E [.code cc52t,.post fun σ=>lk σ.fr 13=some (true,.bool b)∧Conv E σ (rBg E f K V e)] (rBg E f K V e):=by
 have K1:=ne_own h5; have K2:=ne_own' h5; have K3:=ne_own0 h5; have K4:=ne_own0' h5
 unfold rBg iBx lK
 refine w_go 4000 ?_
 simp[cc52t,hb,K1,K2,K3,K4,h5]
 have hrn:rnOk [(E.n0,E.n0)]:=by simp[iBx,lK,K1,K2,K3,K4,h5]
 refine Conv.sub [(E.n0,E.n0)] hrn ?_ ?_ ?_ ?_ ?_<;>(try simp[iBx,lK,K1,K2,K3,K4,h5])
 all_goals exact .same _ (namesIn_pure _ hV)
theorem run_u(V:AV)(e:Int)(hR:∀σ,bk σ.bx E.n0=some (iBx e)→bk σ.bx K=some (lK .nils)→lk σ.fr 4=some (true,.ptr E.n0 0 0)→(∀x∈σ.bx,x.1=K∨E.n0≤x.1)→E.Rt σ):
  Wk E [.code cc52u,.post (fun _=>False)] (rBg E f K V e):=by
 have K1:=ne_own h5; have K2:=ne_own' h5; have K3:=ne_own0 h5; have K4:=ne_own0' h5
 unfold rBg iBx lK
 refine w_go 4000 ?_
 simp[cc52u,K1,K2,K3,K4,h5]
 refine hR _ ?_ ?_ ?_ ?_
 ·simp[iBx,K1,K2,K3,K4]
 ·simp[lK,K1,K2,K3,K4]
 ·simp
 ·simp
end
section
variable (E:Env) (hP:E.P=Tryz.prog) (f n0 K:Nat) (h4:n0<E.n0) (h5:K<E.n0) (d:n0≠K) (l u:List Tk)
include hP h4 h5 d
theorem run_c(fr:List (Nat×Bool×AV))(k:Nat)(e1:lk fr 1=some (true,.fn f [.ptr K 0 0]))(e4:lk fr 4=some (true,.ptr n0 0 0))(e5:lk fr 5=some (true,.sl (l.map eTk))):
  Wk E [.code cc52c,.post fun σ=>Conv E σ (rInv E f n0 K l)] ⟨fr,[(n0,some (iBx 0)),(K,some (lK .nils))],k⟩:=by
 have N1:=ne_own h4; have N2:=ne_own' h4; have N3:=ne_own0 h4; have N4:=ne_own0' h4
 have K1:=ne_own h5; have K2:=ne_own' h5; have K3:=ne_own0 h5; have K4:=ne_own0' h5
 unfold iBx lK
 refine w_go 4000 ?_
 simp[cc52c,e1,e4,e5,N1,N2,N3,N4,K1,K2,K3,K4,d,Ne.symm d]
 unfold rInv
 have hrn:rnOk [(E.n0,E.n0+(k+2048))]:=by simp[tB,iBx,lK,e1,e4,N1,N2,N3,N4,h4,K1,K2,K3,K4,h5,d,Ne.symm d]
 refine Conv.sub [(E.n0,E.n0+(k+2048))] hrn ?_ ?_ ?_ ?_ ?_<;>(try simp[tB,iBx,lK,e1,e4,N1,N2,N3,N4,h4,K1,K2,K3,K4,h5,d,Ne.symm d])
theorem run_d(v:AV)(hv:v.pureB=true)(hF:∀id,FnOk Tryz.prog f [.ptr E.n0 0 0,.ptr K 0 0] [(E.n0,tB l l),(K,lK .nils)] id (.tup []) [(E.n0,some (tB l u)),(K,some (lK v))]):
  Wk E [.code cc52d,.post fun σ=>Conv E σ (rInv2 E n0 K l u v)] (rInv E f n0 K l):=by
 have N1:=ne_own h4; have N2:=ne_own' h4; have N3:=ne_own0 h4; have N4:=ne_own0' h4
 have K1:=ne_own h5; have K2:=ne_own' h5; have K3:=ne_own0 h5; have K4:=ne_own0' h5
 rw[tB_eq,tB_eq,lK_eq,lK_eq] at hF
 unfold rInv iBx lK tB
 refine w_go 4000 ?_
 simp[cc52d,N1,N2,N3,N4,h4,K1,K2,K3,K4,h5,d,Ne.symm d]
 (refine w_callv hP (by simp<;>exact⟨rfl,rfl⟩) rfl (hF _) (by simp[N1,N2,N3,N4,h4,K1,K2,K3,K4,h5,d,Ne.symm d]) (by simp[N1,N2,N3,N4,h4,K1,K2,K3,K4,h5,d,Ne.symm d]<;>rfl) ?_; refine w_go 4000 ?_; simp[N1,N2,N3,N4,h4,K1,K2,K3,K4,h5,d,Ne.symm d])
 unfold rInv2
 have hpl:pureL [v]=true:=by simp[pureL,hv]
 have hrn:rnOk [(E.n0,E.n0)]:=by simp[tB,iBx,lK,hv,N1,N2,N3,N4,h4,K1,K2,K3,K4,h5,d,Ne.symm d]
 refine Conv.sub [(E.n0,E.n0)] hrn ?_ ?_ ?_ ?_ ?_<;>(try simp[tB,iBx,lK,hv,N1,N2,N3,N4,h4,K1,K2,K3,K4,h5,d,Ne.symm d])
 all_goals exact .same _ (namesIn_pure _ hv)
theorem run_dp(hF:∀id,FnE Tryz.prog f [.ptr E.n0 0 0,.ptr K 0 0] [(E.n0,tB l l),(K,lK .nils)] id (.error (erV 1)))
  (hPn:∀σ,bk σ.bx n0=some (iBx 0)→ov E.β σ.bx K=none→lk σ.fr 4=some (true,.ptr n0 0 0)→(∀x∈σ.bx,x.1=K∨x.1=n0∨E.n0≤x.1)→E.Pn (erV 1) σ) :
  Wk E [.ops (crsOf cc52d) 0 [] [],.post (fun _=>False)] (rInv E f n0 K l):=by
 have N1:=ne_own h4; have N2:=ne_own' h4; have N3:=ne_own0 h4; have N4:=ne_own0' h4
 have K1:=ne_own h5; have K2:=ne_own' h5; have K3:=ne_own0 h5; have K4:=ne_own0' h5
 rw[tB_eq,lK_eq] at hF
 unfold rInv iBx lK tB
 refine w_go 4000 ?_
 simp[crsOf,cc52d,N1,N2,N3,N4,h4,K1,K2,K3,K4,h5,d,Ne.symm d]
 refine w_callvE hP (by simp<;>exact⟨rfl,rfl⟩) rfl (hF _) (by simp) (by simp[N1,N2,N3,N4,h4,K1,K2,K3,K4,h5,d,Ne.symm d]<;>rfl) (fun pv hpv=>⟨by simp[N1,N2,N3,N4,h4,K1,K2,K3,K4,h5,d,Ne.symm d],by injection hpv with hpv; subst hpv; exact hPn _ (by simp[iBx,N1,N2,N3,N4,h4,K1,K2,K3,K4,h5,d,Ne.symm d]) (by simp[ov,upd,N1,N2,N3,N4,h4,K1,K2,K3,K4,h5,d,Ne.symm d]) (by simp) (by simp)⟩) (fun v wr h=>by cases h)
theorem run_ep(v:AV)(hu:u≠[])(hPn:∀σ,bk σ.bx n0=some (iBx 0)→ov E.β σ.bx K=some (lK v)→lk σ.fr 4=some (true,.ptr n0 0 0)→(∀x∈σ.bx,x.1=K∨x.1=n0∨E.n0≤x.1)→E.Pn (erV 1) σ):
  Wk E [.ops (crsOf cc52e) 0 [] [],.post (fun _=>False)] (rInv2 E n0 K l u v):=by
 have N1:=ne_own h4; have N2:=ne_own' h4; have N3:=ne_own0 h4; have N4:=ne_own0' h4
 have K1:=ne_own h5; have K2:=ne_own' h5; have K3:=ne_own0 h5; have K4:=ne_own0' h5
 have hE:=fun id=>End_ok l u E.n0 id
 rw[if_neg hu] at hE
 rw[tB_eq] at hE
 unfold rInv2 iBx lK tB
 refine w_go 4000 ?_
 simp[crsOf,cc52e,N1,N2,N3,N4,h4,K1,K2,K3,K4,h5,d,Ne.symm d]
 refine w_callE hP rfl (hE _) (by simp) (by simp[N1,N2,N3,N4,h4,K1,K2,K3,K4,h5,d,Ne.symm d]<;>rfl) (fun pv hpv=>⟨by simp[N1,N2,N3,N4,h4,K1,K2,K3,K4,h5,d,Ne.symm d],by injection hpv with hpv; subst hpv; exact hPn _ (by simp[iBx,N1,N2,N3,N4,h4,K1,K2,K3,K4,h5,d,Ne.symm d]) (by simp[lK,ov,upd,N1,N2,N3,N4,h4,K1,K2,K3,K4,h5,d,Ne.symm d]) (by simp) (by simp)⟩) (fun v wr h=>by cases h)
theorem run_e(v:AV)(hv:v.pureB=true)(hu:u=[]):
  Wk E [.code cc52e,.post fun σ=>Conv E σ (rInv2 E n0 K l u v)] (rInv2 E n0 K l u v):=by
 have N1:=ne_own h4; have N2:=ne_own' h4; have N3:=ne_own0 h4; have N4:=ne_own0' h4
 have K1:=ne_own h5; have K2:=ne_own' h5; have K3:=ne_own0 h5; have K4:=ne_own0' h5
 have hE:=fun id=>End_ok l u E.n0 id
 rw[if_pos hu] at hE
 have hE:∀id,FnOk Tryz.prog 84 [.ptr E.n0 0 0] [(E.n0,tB l u)] id (.tup []) []:=hE
 rw[tB_eq] at hE
 unfold rInv2 iBx lK tB
 refine w_go 4000 ?_
 simp[cc52e,N1,N2,N3,N4,h4,K1,K2,K3,K4,h5,d,Ne.symm d]
 (refine w_call hP rfl (hE _) (by simp[N1,N2,N3,N4,h4,K1,K2,K3,K4,h5,d,Ne.symm d]) (by simp[N1,N2,N3,N4,h4,K1,K2,K3,K4,h5,d,Ne.symm d]<;>rfl) ?_; refine w_go 4000 ?_; simp[N1,N2,N3,N4,h4,K1,K2,K3,K4,h5,d,Ne.symm d])
 have hrn:rnOk [(E.n0,E.n0)]:=by simp[tB,iBx,lK,hv,N1,N2,N3,N4,h4,K1,K2,K3,K4,h5,d,Ne.symm d]
 refine Conv.sub [(E.n0,E.n0)] hrn ?_ ?_ ?_ ?_ ?_<;>(try simp[tB,iBx,lK,hv,N1,N2,N3,N4,h4,K1,K2,K3,K4,h5,d,Ne.symm d])
 all_goals exact .same _ (namesIn_pure _ hv)
theorem run_f(v:AV)(hR:∀σ,bk σ.bx n0=some (iBx 0)→bk σ.bx K=some (lK v)→lk σ.fr 4=some (true,.ptr n0 0 0)→(∀x∈σ.bx,x.1=K∨x.1=n0∨E.n0≤x.1)→E.Rt σ):
  Wk E [.code (.seq cc52f CC.ret)] (rInv2 E n0 K l u v):=by
 have N1:=ne_own h4; have N2:=ne_own' h4; have N3:=ne_own0 h4; have N4:=ne_own0' h4
 have K1:=ne_own h5; have K2:=ne_own' h5; have K3:=ne_own0 h5; have K4:=ne_own0' h5
 unfold rInv2 iBx lK tB
 refine w_go 4000 ?_
 simp[cc52f,N1,N2,N3,N4,h4,K1,K2,K3,K4,h5,d,Ne.symm d]
 refine hR _ ?_ ?_ ?_ ?_
 ·simp[iBx,N1,N2,N3,N4,h4,K1,K2,K3,K4,h5,d,Ne.symm d]
 ·simp[lK,N1,N2,N3,N4,h4,K1,K2,K3,K4,h5,d,Ne.symm d]
 ·simp
 ·simp
end
end Go.Am
namespace Go.Am
set_option linter.all false
open Go Go.RowKit Go.Proofs
set_option maxRecDepth 100000
set_option linter.all false
set_option maxHeartbeats 16000000 in
theorem run_ok(f K id:Nat)(s:List UInt8)(pr:List Tk→Option (AV×List Tk))
  (hF:∀z J id,J≠K→z.length≤300→FnE Tryz.prog f [.ptr J 0 0,.ptr K 0 0] [(J,tB z z),(K,lK .nils)] id (doR J K z (pr z))) (hpv:∀z v u,pr z=some (v,u)→v.pureB=true) :
  FnOk Tryz.prog 52 [.str s,.fn f [.ptr K 0 0]] [(K,lK .nils)] id (.int .i64 (runE pr s)) [(K,runX pr s)]:=by
 refine⟨⟨_,Tryz.func52,by decide,rfl⟩,fun C G bx w vs nb hs hv hh hnb hid=>calls_of_wp_defers Tryz.func52 rfl ?_⟩
 obtain⟨ka,kb,kt,ku,kc,kd,ke,kf⟩:=hY52 rfl
 have own:∀i,max nb (id+1024)≤i→bx i=none:=fun i hi=>by
  cases hbi:bx i with
  | none=>rfl
  | some b=>exact (hnb i (by omega) (hs.boxNames hbi).1).elim
 have old:∀i,G.used i→i<max nb (id+1024):=fun i hi=>by
  rcases Nat.lt_or_ge i nb with h|h
  ·omega
  ·exact (hnb i h hi).elim
 generalize max nb (id+1024)=n0 at own old
 have hKb:bx K=some (lK .nils):=hh _ (List.mem_cons_self ..)
 have hKn:K<n0:=old K (hs.boxNames hKb).1
 have hre:=fun id=>Read_ok s id
 let E:Env:=⟨Tryz.prog,C,bx,Tryz.f52.ntmps,n0,G,w,own,old,hs,[],fun _=>False,fun _ _=>False⟩
 have hN:E.n0=n0:=rfl
 have hPE:E.P=Tryz.prog:=rfl
 have hD:Desc E ⟨frOf 0 [.str s,.fn f [.ptr K 0 0]],[(K,some (lK .nils))],0⟩ G { tmps:=vs++Array.replicate (Tryz.f52.ntmps - vs.size) undef,defers:=[] } w:=by
  refine⟨Evo.refl G w,?_,fun i hi=>by have:=old i hi; show i<n0+0; omega,fun i _ hi=>hi,fun n c v hl=>?_,?_,rfl⟩
  ·have:=ov_someL hh
   simp only[someL] at this
   show RS C G (ov bx _) w
   rw[this]; exact hs
  ·obtain⟨rfl,_,h3⟩:=lk_frOf hl
   simp only[Nat.sub_zero] at h3
   refine⟨fun _=>?_,fun h=>by cases h⟩
   have:=hv.2 n v h3
   rw[Array.getD_eq_getD_getElem?] at this ⊢
   rw[Array.getElem?_append_left (by rw[←hv.1]; exact (List.getElem?_eq_some_iff.1 h3).1)]
   exact this
  ·have:=hv.1
   simp[Tryz.ntmps52] at this ⊢
   show _=Tryz.f52.ntmps
   simp[Tryz.ntmps52]; omega
 have K1:=ne_own hKn; have K2:=ne_own' hKn; have K3:=ne_own0 hKn; have K4:=ne_own0' hKn
 have hWa:Wk E [.code cc52a,.post (fun σ=>σ=⟨[(4,true,.ptr n0 0 0),(0,true,.str s),(1,true,.fn f [.ptr K 0 0])],[(n0,some (iBx 0)),(K,some (lK .nils))],1024⟩)] ⟨frOf 0 [.str s,.fn f [.ptr K 0 0]],[(K,some (lK .nils))],0⟩:=by
  refine w_go 4000 ?_
  simp[cc52a,E,iBx,lK]
 refine wp_seq (wkN (E:=E) ka hWa (fun _ h=>h) (fun _ _ h=>h) hD fun τ G1 a1 w1 hD1 hτ=>?_)
 subst hτ
 clear hWa hD
 have hEnd:∀{v:Value} {G':Gh} {w':World} {e:Int} {X:Option Bx},runE pr s=e→runX pr s=X→RS C G' (appl bx [(K,X)]) w'→Evo G w G' w'→RV G' w' (.int .i64 e) v→(∀x,G'.used x→G.used x∨(id≤x∧x<id+1024)) →
   ∃v' G',Ending.returned v = .returned v'∧RS C G' (appl bx [(K,runX pr s)]) w'∧Evo G w G' w'∧RV G' w' (.int .i64 (runE pr s)) v'∧∀x,G'.used x→G.used x∨(id≤x∧x<id+1024):=fun {v G' w' e X} h1 h2 r1 r2 r3 r4=>by
  rw[h1,h2]
  exact⟨v,G',rfl,r1,r2,r3,r4⟩
 have ev13:∀{a:Act} {b:Bool} {G':Gh} {w':World} {τ:St},Desc E τ G' a w'→lk τ.fr 13=some (true,.bool b)→a.eval (.tmp 13) = .bool b:=fun {a b G' w' τ} h h13=>by
  have hr:=(h.fr 13 true _ h13).1 rfl
  show a.tmps.getD 13 undef=_
  generalize a.tmps.getD 13 undef=v at hr
  cases hr; rfl
 cases hl:fLex s with
 | error e =>
  have hne:=fLex_ne hl
  rw[hl] at hre
  have hre:∀id,FnOk Tryz.prog 13 [.str s] [] id (.tup [.nils,.int .i64 e]) []:=hre
  have e1:runE pr s=e:=by unfold runE; rw[hl]
  have e2:runX pr s=some (lK .nils):=by unfold runX; rw[hl]
  refine wp_seq (wkN (E:=E) kb (run_ab E hPE f K hKn s .nils e rfl hre) (fun _ h=>h) (fun _ _ h=>h) hD1 fun τ G2 a2 w2 hD2 hτ=>?_)
  obtain⟨G3,hD3⟩:=hτ G2 a2 w2 hD2
  refine wp_seq ?_
  refine wp_seq (wkN (E:=E) kt (run_t E hPE f K hKn .nils e true (by simp[hne]) rfl) (fun _ h=>h) (fun _ _ h=>h) hD3 fun τ G4 a4 w4 hD4 hτ=>?_)
  obtain⟨h13,hcv⟩:=hτ
  obtain⟨G5,hD5⟩:=hcv G4 a4 w4 hD4
  refine wp_cond_split (ev13 hD4 h13) (fun _=>?_) (fun hb=>by cases hb)
  let E':Env:={ E with Rt:=fun σ=>bk σ.bx n0=some (iBx e)∧bk σ.bx K=some (lK .nils)∧lk σ.fr 4=some (true,.ptr n0 0 0)∧∀x∈σ.bx,x.1=K∨n0≤x.1 }
  have hW:=run_u E' hPE f K hKn .nils e fun σ h1 h2 h3 h4=>⟨h1,h2,h3,h4⟩
  refine wp_mono (hW _ ku G5 _ w4 hD5) fun e' a' w' hq=>?_
  cases e' with
  | ret =>
   obtain⟨σ,G6,h1,b4,bK,f4,hl'⟩:=hq
   show Leaves Tryz.prog Tryz.f52 a'.tmps _ a'.defers .returning w'
   rw[show a'.defers=[] from h1.defers]
   obtain⟨v,r1,G7,r2,r3,r4,r5⟩:=run_end own old hs hid h1 f4 (ov_bk _ b4) (ov_bk _ bK) (fun b hb=>by injection hb with hb; subst hb; rfl) hKb hl' (Nat.le_refl _) hKn
   exact⟨v,r1,hEnd e1 e2 r2 r3 r4 r5⟩
  | normal=>obtain⟨_,_,_,h⟩:=hq; exact h.elim
  | exit id=>obtain⟨_,_,_,h⟩:=hq; exact h.elim
  | panic chain=>obtain⟨_,_,_,_,_,_,_,_,_,_,_,h⟩:=hq; exact h.elim
  | _=>exact hq.elim
 | ok l =>
  have hl300:l.length≤300:=((fLex_ok s l).1 hl).2.2
  rw[hl] at hre
  have hre:∀id,FnOk Tryz.prog 13 [.str s] [] id (.tup [.sl (l.map eTk),.int .i64 0]) []:=hre
  have hVp:(AV.sl (l.map eTk)).pureB=true:=by simp[AV.pureB]
  refine wp_seq (wkN (E:=E) kb (run_ab E hPE f K hKn s (.sl (l.map eTk)) 0 hVp hre) (fun _ h=>h) (fun _ _ h=>h) hD1 fun τ G2 a2 w2 hD2 hτ=>?_)
  obtain⟨G3,hD3⟩:=hτ G2 a2 w2 hD2
  refine wp_seq ?_
  refine wp_seq (wkN (E:=E) kt (run_t E hPE f K hKn (.sl (l.map eTk)) 0 false rfl hVp) (fun _ h=>h) (fun _ _ h=>h) hD3 fun τ G4 a4 w4 hD4 hτ=>?_)
  obtain⟨h13,hcv⟩:=hτ
  obtain⟨G5,hD5⟩:=hcv G4 a4 w4 hD4
  refine wp_cond_split (ev13 hD4 h13) (fun hb=>by cases hb) (fun _=>?_)
  refine wp_skip ?_
  obtain⟨at1,ad1⟩:=a4
  have hd0:ad1=[]:=hD5.defers
  subst hd0
  have hsz:15<at1.size:=by have:=hD5.size; simp only at this; rw[this]; show 15<Tryz.f52.ntmps; simp[Tryz.ntmps52]
  show (Code.seq _ _).wp _ _ _ _
  refine wp_seq (door52 rfl hsz ?_)
  obtain⟨v4,hv4⟩:∃v4,at1[4]?.getD undef=v4:=⟨_,rfl⟩
  have g4:RV G5 w4 (.ptr n0 0 0) v4:=by
   have:=(hD5.fr 4 true _ rfl).1 rfl
   rw[Array.getD_eq_getD_getElem?] at this
   rw[←hv4]; exact this
  rw[hv4]
  have own1:∀i,n0+1≤i→ov bx [(n0,some (iBx 0)),(K,some (lK .nils))] i=none:=fun i hi=>by
   simp only[ov,upd]
   rw[if_neg (by omega),if_neg (by omega)]
   exact own i (by omega)
  have hev:Evo G w G5 w4:=hD5.ev
  have hrs:RS C G5 (ov bx [(n0,some (iBx 0)),(K,some (lK .nils))]) w4:=hD5.rs
  have hus:∀i,G5.used i→i<n0+1:=hD5.used
  have hol:∀i,i<n0→G5.used i→G.used i:=hD5.old
  let D:List Deferred:=[⟨.fn (.func 83) #[v4],#[]⟩]
  let E2:Env:=⟨Tryz.prog,C,ov bx [(n0,some (iBx 0)),(K,some (lK .nils))],Tryz.f52.ntmps,n0+1,G5,w4,own1,hus,hrs,D,fun _=>False,fun _ _=>False⟩
  have hN2:E2.n0=n0+1:=rfl
  have hP2:E2.P=Tryz.prog:=rfl
  have hE2:∀m,ov E2.β m=ov bx (m++[(n0,some (iBx 0)),(K,some (lK .nils))]):=fun m=>(ov_append bx m _).symm
  have hD6:Desc E2 ⟨[(1,true,.fn f [.ptr K 0 0]),(4,true,.ptr n0 0 0),(5,true,.sl (l.map eTk))],[(n0,some (iBx 0)),(K,some (lK .nils))],0⟩ G5 ⟨at1.setIfInBounds 15 (.func (.func 83) #[] #[v4]),D⟩ w4:=by
   refine⟨Evo.refl G5 w4,?_,fun i hi=>by have:=hus i hi; show i<n0+1+0; omega,fun i _ hi=>hi,fun n c v hl=>?_,?_,rfl⟩
   ·show RS C G5 (ov (ov bx _) _) w4
    simp only[ov]
    rw[upd_same (f:=upd (upd bx K _) n0 _) (i:=K) (by simp[upd]; omega),upd_same (i:=n0) (by simp[upd])]
    exact hrs
   ·have:=hD5.fr n c v hl
    have hn:n≠15:=fun h=>by subst h; simp at hl
    simp only[Array.getD_eq_getD_getElem?] at this ⊢
    rw[Array.getElem?_setIfInBounds_ne (Ne.symm hn)]
    exact this
   ·have:=hD5.size
    simp only[Array.size_setIfInBounds]
    exact this
  have hinv:∀w3,(invoke (.fn (.func 83) #[v4]) #[]).run Tryz.prog w3 = .ok (.enter 83 #[v4]) w3:=fun w3=>by simp[go_sem]
  have hw4:n0<E2.n0:=by omega
  have hw5:K<E2.n0:=by omega
  have hwd:n0≠K:=by omega
  have pnk:∀{R:Ending→World→Prop} {X:Option Bx} {k:Nat} {F:Fr} {m:List (Nat×Option Bx)} {G3:Gh} {a3:Act} {w3:World} {u:Value},(∀b,X=some b→pureL b.xs=true)→(∀v G4 w4,RS C G4 (appl bx [(K,X)]) w4→Evo G w G4 w4→RV G4 w4 (.int .i64 1) v→(∀x,G4.used x→G.used x∨(id≤x∧x<id+1024))→R (.returned v) w4) →
    DescF C Tryz.f52.ntmps D (n0+1) G5 w4 F (ov E2.β m) (· < n0+1+k) G3 a3 w3→RV G3 w3 (erV 1) u→F 4=some (true,.ptr n0 0 0) →
    ov E2.β m n0=some (iBx 0)→ov E2.β m K=X→(∀x∈m,x.1=K∨x.1=n0∨n0+1≤x.1)→Leaves Tryz.prog Tryz.f52 a3.tmps R a3.defers (.panicking [{ v:=u,recovered:=false }]) w3:=fun {R X k F m G3 a3 w3 u} hX hR h1 h2 f4 h4 hK hm=>by
   rw[show a3.defers=D from h1.defers]
   have hus3:=h1.used
   have hrs3:=h1.rs
   refine leaves_cons (by simp) (hinv w3) ((runD_pnk C G3 _ w3 1 0 _ n0 v4 u hrs3 (g4.mono h1.ev) h2 h4 hus3 (fun x hx=>?_)).mono ?_)
   ·cases hb:ov E2.β m x with
    | none=>rfl
    | some b=>have:=hus3 x (hrs3.boxNames hb).1; omega
   rintro e' u' w' ⟨rfl,⟨v,rfl⟩,G4,l',k',r1,r2,r3,r5,r6,r7⟩
   have hx:=DescF.step h1 r1 r2 (U':=fun x=>x<n0+(1+k+k')) (fun x hx=>by have:=r7 x hx; omega) (fun x hx hu=>r6 x (by omega) hu)
   have e4:=ov_bk (ov E2.β m) r3
   have eK:ov (ov E2.β m) l' K=X:=by
    rw[←hK]
    have key:∀l':List (Nat×Option Bx),(∀q∈l',q.1≠K)→ov (ov E2.β m) l' K=ov E2.β m K:=fun l'=>by
     induction l' with
     | nil=>intro _; rfl
     | cons q l' ih =>
      intro h
      obtain⟨q1,q2⟩:=q
      simp only[ov,upd]
      rw[if_neg (fun h2=>h (q1,q2) (List.mem_cons_self ..) h2.symm)]
      exact ih fun x hx=>h x (List.mem_cons_of_mem _ hx)
    refine key l' fun q hq h=>?_
    rcases r5 q hq with h2|h2<;>omega
   rw[←ov_append] at hx e4 eK
   have h':=hx.rebase (n0:=n0) (by omega) hev hol
   rw[hE2] at h' e4 eK
   obtain⟨v,s1,G7,s2,s3,s4,s5⟩:=run_end own old hs hid h' f4 e4 eK hX hKb (fun x hx=>by
    rcases List.mem_append.1 hx with hx|hx
    ·rcases List.mem_append.1 hx with hx|hx
     ·rcases r5 x hx with h|h
      ·exact .inr (by omega)
      ·exact .inr (by omega)
     ·rcases hm x hx with h|h|h
      ·exact .inl h
      ·exact .inr (by omega)
      ·exact .inr (by omega)
    ·simp at hx
     rcases hx with rfl|rfl
     ·exact .inr (Nat.le_refl _)
     ·exact .inl rfl) (Nat.le_refl _) hKn
   exact⟨v,s1,hR v G7 w' s2 s3 s4 s5⟩
  show (Code.seq _ _).wp _ _ _ _
  refine wp_seq (wkN (E:=E2) kc (run_c E2 hP2 f n0 K hw4 hw5 hwd l _ _ rfl rfl rfl) (fun _ h=>h) (fun _ _ h=>h) hD6 fun τ G7 a7 w7 hD7 hτ=>?_)
  obtain⟨G8,hD8⟩:=hτ G7 a7 w7 hD7
  show (Code.seq _ _).wp _ _ _ _
  have hFl:=fun id=>hF l E2.n0 id (by omega) hl300
  cases hp:pr l with
  | none =>
   have e1:runE pr s=1:=by unfold runE; rw[hl]; simp only; rw[hp]
   have e2:runX pr s=none:=by unfold runX; rw[hl]; simp only; rw[hp]
   rw[hp] at hFl
   have hFl:∀id,FnE Tryz.prog f [.ptr E2.n0 0 0,.ptr K 0 0] [(E2.n0,tB l l),(K,lK .nils)] id (.error (erV 1)):=hFl
   let E1:Env:={ E2 with Pn:=fun pv σ=>pv=erV 1∧bk σ.bx n0=some (iBx 0)∧ov E2.β σ.bx K=none∧lk σ.fr 4=some (true,.ptr n0 0 0)∧∀x∈σ.bx,x.1=K∨x.1=n0∨n0+1≤x.1 }
   have hW:=run_dp E1 hP2 f n0 K hw4 hw5 hwd l hFl fun σ h1 h2 h3 h4=>⟨rfl,h1,h2,h3,h4⟩
   refine wp_seq (reg_pn (E:=E1) (crs:=crsOf cc52d) (kd.trans rfl) hW hD8 (fun σ G3 a3 w3 h1 h2=>h2.elim) (fun pv u σ G9 a9 w9 h1 h2 h3=>?_))
   obtain⟨rfl,b4,bK,f4,hm⟩:=h3
   exact pnk (k:=1+1024*(crsOf cc52d).length) (fun b hb=>by cases hb) (fun v G4 w4 r1 r2 r3 r4=>hEnd e1 e2 r1 r2 r3 r4) (h1.weak fun x hx=>by have:x<n0+1+1+1024*(crsOf cc52d).length:=hx; omega) h2 f4 (ov_bk _ b4) bK hm
  | some q =>
   obtain⟨v,u⟩:=q
   have hvp:=hpv l v u hp
   rw[hp] at hFl
   have hFl:∀id,FnOk Tryz.prog f [.ptr E2.n0 0 0,.ptr K 0 0] [(E2.n0,tB l l),(K,lK .nils)] id (.tup []) [(E2.n0,some (tB l u)),(K,some (lK v))]:=hFl
   have e2:runX pr s=some (lK v):=by unfold runX; rw[hl]; simp only; rw[hp]
   have hXv:∀b,some (lK v)=some b→pureL b.xs=true:=fun b hb=>by injection hb with hb; subst hb; simp[lK,pureL,hvp]
   refine wp_seq (wkN (E:=E2) kd (run_d E2 hP2 f n0 K hw4 hw5 hwd l u v hvp hFl) (fun _ h=>h) (fun _ _ h=>h) hD8 fun τ G9 a9 w9 hD9 hτ=>?_)
   obtain⟨G10,hD10⟩:=hτ G9 a9 w9 hD9
   show (Code.seq _ _).wp _ _ _ _
   by_cases hu:u=[]
   ·have e1:runE pr s=0:=by unfold runE; rw[hl]; simp only; rw[hp]; simp only; rw[if_pos hu]
    refine wp_seq (wkN (E:=E2) ke (run_e E2 hP2 n0 K hw4 hw5 hwd l u v hvp hu) (fun _ h=>h) (fun _ _ h=>h) hD10 fun τ G11 a11 w11 hD11 hτ=>?_)
    obtain⟨G12,hD12⟩:=hτ G11 a11 w11 hD11
    let E3:Env:={ E2 with Rt:=fun σ=>bk σ.bx n0=some (iBx 0)∧bk σ.bx K=some (lK v)∧lk σ.fr 4=some (true,.ptr n0 0 0)∧∀x∈σ.bx,x.1=K∨x.1=n0∨n0+1≤x.1 }
    have hW:=run_f E3 hP2 n0 K hw4 hw5 hwd l u v fun σ h1 h2 h3 h4=>⟨h1,h2,h3,h4⟩
    have ends:∀{R:Ending→World→Prop} {σ:St} {G8:Gh} {a7:Act} {w7:World},(∀v G4 w4,RS C G4 (appl bx [(K,some (lK v))]) w4→True)→(∀z G4 w4,RS C G4 (appl bx [(K,some (lK v))]) w4→Evo G w G4 w4→RV G4 w4 (.int .i64 0) z→(∀x,G4.used x→G.used x∨(id≤x∧x<id+1024))→R (.returned z) w4)→Desc E3 σ G8 a7 w7→E3.Rt σ→Leaves Tryz.prog Tryz.f52 a7.tmps R a7.defers .returning w7:=fun {R σ G8 a7 w7} _ hR h1 h2=>by
     obtain⟨b4,bK,f4,hm⟩:=h2
     rw[show a7.defers=D from h1.defers]
     refine leaves_cons (by simp) (hinv w7) ((runD_ret v4 w7).mono ?_)
     rintro e u' w' ⟨rfl,⟨v',rfl⟩,rfl⟩
     have h1':=h1.weak (U':=fun x=>x<n0+(1+σ.k)) (fun x hx=>by have:x<n0+1+σ.k:=hx; omega)
     have h':=h1'.rebase (n0:=n0) (show n0≤n0+1 from Nat.le_succ n0) hev hol
     have e4:=ov_bk E2.β b4
     have eK:=ov_bk E2.β bK
     have h':DescF C Tryz.f52.ntmps D n0 G w (lk σ.fr) (ov bx (σ.bx++[(n0,some (iBx 0)),(K,some (lK .nils))])) (fun x=>x<n0+(1+σ.k)) G8 a7 w':=by rw[←hE2]; exact h'
     rw[hE2] at e4 eK
     obtain⟨z,s1,G7,s2,s3,s4,s5⟩:=run_end own old hs hid h' f4 e4 eK hXv hKb (fun x hx=>by
      rcases List.mem_append.1 hx with hx|hx
      ·rcases hm x hx with h|h|h
       ·exact .inl h
       ·exact .inr (by omega)
       ·exact .inr (by omega)
      ·simp at hx
       rcases hx with rfl|rfl
       ·exact .inr (Nat.le_refl _)
       ·exact .inl rfl) (Nat.le_refl _) hKn
     exact⟨z,s1,hR z G7 w' s2 s3 s4 s5⟩
    refine wp_mono (hW _ kf G12 _ w11 hD12) fun e a7 w7 hq=>?_
    cases e with
    | ret =>
     obtain⟨σ,G8,h1,h2⟩:=hq
     exact ends (fun _ _ _ _=>trivial) (fun z G4 w4 r1 r2 r3 r4=>hEnd e1 e2 r1 r2 r3 r4) h1 h2
    | normal =>
     obtain⟨σ,G8,h1,h2⟩:=hq
     exact ends (fun _ _ _ _=>trivial) (fun z G4 w4 r1 r2 r3 r4=>hEnd e1 e2 r1 r2 r3 r4) h1 h2
    | exit id=>obtain⟨_,_,_,h2⟩:=hq; exact h2.elim
    | panic chain=>obtain⟨_,_,_,_,_,_,_,_,_,_,_,h⟩:=hq; exact h.elim
    | _=>exact hq.elim
   ·have e1:runE pr s=1:=by unfold runE; rw[hl]; simp only; rw[hp]; simp only; rw[if_neg hu]
    let E1:Env:={ E2 with Pn:=fun pv σ=>pv=erV 1∧bk σ.bx n0=some (iBx 0)∧ov E2.β σ.bx K=some (lK v)∧lk σ.fr 4=some (true,.ptr n0 0 0)∧∀x∈σ.bx,x.1=K∨x.1=n0∨n0+1≤x.1 }
    have hW:=run_ep E1 hP2 n0 K hw4 hw5 hwd l u v hu fun σ h1 h2 h3 h4=>⟨rfl,h1,h2,h3,h4⟩
    refine wp_seq (reg_pn (E:=E1) (crs:=crsOf cc52e) (ke.trans rfl) hW hD10 (fun σ G3 a3 w3 h1 h2=>h2.elim) (fun pv u σ G9 a9 w9 h1 h2 h3=>?_))
    obtain⟨rfl,b4,bK,f4,hm⟩:=h3
    exact pnk (k:=1+1024*(crsOf cc52e).length) hXv (fun v G4 w4 r1 r2 r3 r4=>hEnd e1 e2 r1 r2 r3 r4) (h1.weak fun x hx=>by have:x<n0+1+1+1024*(crsOf cc52e).length:=hx; omega) h2 f4 (ov_bk _ b4) bK hm
end Go.Am
