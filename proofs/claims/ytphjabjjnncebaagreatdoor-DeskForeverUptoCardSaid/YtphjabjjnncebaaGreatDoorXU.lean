/- Parts of the proof: an abstract machine for Go functions, and what functions of the program give back (Qr10, Qr11, Qr12, Qr13, Dw4, Dp2, Dp3, Dw5, Dw6, Dw7, Dk13, Dk14, Dk15, Dk16, Dp4). No condition. -/
import Derived.Test.YtphjabjjnncebaaGreatDoorXT
import Derived.Test.YtphjabjjnncebaaGreatDoorXQ
import Derived.Test.YtphjabjjnncebaaGreatDoorXR
import Derived.Test.YtphjabjjnncebaaGreatDoorXS
import Derived.Test.YtphjabjjnncebaaGreatDoorXP
import Derived.Test.YtphjabjjnncebaaGreatDoorXI
set_option maxRecDepth 100000
set_option linter.all false
set_option maxHeartbeats 16000000
namespace Go.Am
open Go Go.Proofs Go.RowKit
theorem C0Z(E:Q7)(e:Int)(y:Int)(J:Nat)(h4:J<E.n0)(hR:∀fr bx k,bk bx J=some (E7 e)->(∀q∈bx,q.1=J\/E.n0<=q.1)->E.Rt ⟨fr,bx,k⟩):
  Wk E [.code B15] ⟨[(0,true,.ptr J 0 0),(1,true,erV e)],[(J,some (E7 y))],0⟩:=by
 unfold erV E7;have e4:∀t,(J=E.n0+t)=False:=fun t=>by simp; omega
 refine A3 4000 ?_;simp[B15,e4];refine hR _ _ _ ?_ ?_
 ·simp[e4,E7]
 ·simp
theorem C5I{x x' z:Code}{X:Operand}{Y:Code}(h:Tryz.f109.body=some (.seq x (.seq x' (.cond X Y z)))):D2 Tryz.prog Tryz.f109.ntmps Y=B15:=by
 have h0:=C3h;rw[h] at h0;simp only[Option.map_some,Option.some.injEq,C2U] at h0;obtain⟨_,_,e1,_,h1⟩:=H3 h0;injection e1 with _ e1
 subst e1;obtain⟨_,_,e2,_,h2⟩:=H3 h1;injection e2 with _ e2
 subst e2;obtain⟨_,_,_,e3,_,h3,_⟩:=A0r h2;injection e3 with _ e3 _
 subst e3;exact h3
theorem C0a(C:Cx Tryz.prog)(G:Gh)(B:Nat->Option Bx)(w:World)(er:Int)(y:Int)(n0 J:Nat)(v4 u:Value)(hs:RS C G B w)(hv4:RV G w (.ptr J 0 0) v4)(hu:RV G w (erV er) u)
  (h4:B J=some (E7 y)) (hold:∀x,G.used x->x<n0) (how:∀x,n0<=x->B x=none) :
  CallsD Tryz.prog 109 #[v4] (.panicking [{ v:=u,recovered:=false }]) w fun e u' w'=>u' = .panicking [{ v:=u,recovered:=true }]/\(∃v,e = .returned v) /\
   ∃G' l k,RS C G' (ov B l) w'/\L6 G w G' w'/\bk l J=some (E7 er)/\(∀q∈l,q.1=J\/n0<=q.1)/\(∀x,x<n0->G'.used x->G.used x)/\∀x,G'.used x->x<n0+k:=by
 obtain⟨q,rfl⟩:∃q,u = .iface 31 q:=by
  unfold erV at hu;cases hu with|iface _ _ q h=>exact⟨q,rfl⟩
 refine callsD_of_wpS Tryz.func109 rfl fun c₀ cs hm=>?_;apply wpS_seq;apply wpS_region;simp[wpOpsS,go_sem,recoverD,hm,Tryz.ntmps109,Exit.thenS];apply wpS_seq;apply wpS_region;simp[wpOpsS,go_sem,Exit.thenS];refine wpS_cond (t:=true) (by simp[Act.eval,Array.replicate]) ?_;apply wpS_of_wp;simp only[if_true];let E:Q7:=⟨Tryz.prog,C,B,Tryz.f109.ntmps,n0,G,w,how,hold,hs,[],fun σ=>bk σ.bx J=some (E7 er)/\∀q∈σ.bx,q.1=J\/n0<=q.1,fun _ _=>False⟩
 have l4:=hold J (hs.boxNames h4).1;have hW:=C0Z E er y J l4 fun fr bx k h1 h2=>⟨h1,h2⟩;refine wp_mono (hW _ (C5I rfl) G _ w ?_) fun e a w' hq=>?_
 ·refine⟨L6.refl G w,?_,fun i hi=>by have:=hold i hi; show i<n0+0; omega,fun i _ hi=>hi,fun n c v hl=>?_,?_,rfl⟩
  ·have hh:J9 B [(J,E7 y)]:=fun q hq=>by
    simp at hq;obtain rfl:=hq;exact h4
   have:=A1n hh;simp only[C9] at this;show RS C G (ov B _) w;rw[this]; exact hs
  ·simp only[lk] at hl;repeat' split at hl
   all_goals first|cases hl|skip
   all_goals rename_i hn<;>subst hn<;>refine⟨fun _=>?_,fun h=>by cases h⟩
   ·simpa [Array.getD_eq_getD_getElem?] using hv4
   ·simpa [Array.getD_eq_getD_getElem?] using hu
  ·simp[E,Tryz.ntmps109]
 ·have fin:∀σ G',R8 E σ G' a w'->E.Rt σ->∀(cs':List Frame),a.defers=[]/\(∃v,(results Tryz.f109 a.tmps).run Tryz.prog w' = .ok v w')/\∃G' l k,RS C G' (ov B l) w'/\L6 G w G' w'/\bk l J=some (E7 er)/\(∀q∈l,q.1=J\/n0<=q.1)/\(∀x,x<n0->G'.used x->G.used x)/\∀x,G'.used x->x<n0+k:=fun σ G' hD hR _=>by
   refine⟨hD.defers,⟨_,by simp[results,Tryz.results83]; rfl⟩,G',σ.bx,σ.k,hD.rs,hD.ev,hR.1,hR.2,hD.old,hD.used⟩
  cases e with
  | normal =>
   obtain⟨σ,G',h1,h2⟩:=hq;obtain⟨f1,⟨v,f2⟩,g1,g2,g3,d1,d2,d3,d4,d5,d6⟩:=fin σ G' h1 h2 cs;exact⟨f1,_,rfl,v,f2,rfl,⟨v,rfl⟩,g1,g2,d1,d2,d3,fun x y h=>d4 (x,y) h,d5,g3,d6⟩
  | ret =>
   obtain⟨σ,G',h1,h2⟩:=hq;obtain⟨f1,⟨v,f2⟩,g1,g2,g3,d1,d2,d3,d4,d5,d6⟩:=fin σ G' h1 h2 cs;exact⟨f1,_,rfl,v,f2,rfl,⟨v,rfl⟩,g1,g2,d1,d2,d3,fun x y h=>d4 (x,y) h,d5,g3,d6⟩
  | exit id=>obtain⟨σ,G',h1,h2⟩:=hq; exact h2.elim
  | panic chain =>
   obtain⟨pv,u,σ,F,B,U,G',rfl,h1,h2,h3,h4⟩:=hq;exact h4.elim
  | _=>exact hq.elim
theorem C0b(v1:Value)(w:World):CallsD Tryz.prog 109 #[v1] .returning w fun e u' w'=>u' = .returning/\(∃v,e = .returned v)/\w'=w:=by
 refine callsD_of_wpS Tryz.func109 rfl fun c₀ cs hu=>?_;apply wpS_seq;apply wpS_region;simp[wpOpsS,go_sem,recoverD,hu,Tryz.ntmps109,Exit.thenS];apply wpS_seq;apply wpS_region;simp[wpOpsS,go_sem,Exit.thenS];refine wpS_cond (t:=false) (by simp[Act.eval,Array.replicate]) ?_;simp only[Bool.false_eq_true,if_false];apply wpS_of_wp;refine wp_skip ?_;exact⟨rfl,_,by rw[←hu],_,by simp[results,Tryz.results83]; rfl,rfl,⟨_,rfl⟩,rfl⟩
theorem C5q{a b t u sk m c d e f r:Code}{X:Operand}(h:Tryz.f52.body=some (.seq a (.seq b (.seq (.seq t (.cond X u sk)) (.seq m (.seq c (.seq d (.seq e (.seq f r))))))))):
  D2 Tryz.prog Tryz.f52.ntmps a=B5h/\D2 Tryz.prog Tryz.f52.ntmps b=B5i/\D2 Tryz.prog Tryz.f52.ntmps t=B5j/\D2 Tryz.prog Tryz.f52.ntmps u=B5m/\D2 Tryz.prog Tryz.f52.ntmps c=B5k/\D2 Tryz.prog Tryz.f52.ntmps d=A57/\D2 Tryz.prog Tryz.f52.ntmps e=A58/\D2 Tryz.prog Tryz.f52.ntmps (.seq f r) = .seq B5l CC.ret:=by
 have h0:=C4z;rw[h] at h0;simp only[Option.map_some,Option.some.injEq,C4w] at h0;obtain⟨_,_,e1,k1,h1⟩:=H3 h0;injection e1 with e1 e1'
 subst e1 e1';obtain⟨_,_,e2,k2,h2⟩:=H3 h1;injection e2 with e2 e2'
 subst e2 e2';obtain⟨_,_,e3,k3,h3⟩:=H3 h2;injection e3 with e3 e3'
 subst e3 e3';obtain⟨_,_,e4,k4,h4⟩:=H3 k3;injection e4 with e4 e4'
 subst e4 e4';obtain⟨_,_,_,e5,_,k5,_⟩:=A0r h4;injection e5 with _ e5 _
 subst e5;obtain⟨_,_,e6,_,h6⟩:=H3 h3;injection e6 with _ e6
 subst e6;obtain⟨_,_,e7,k7,h7⟩:=H3 h6;injection e7 with e7 e7'
 subst e7 e7';obtain⟨_,_,e8,k8,h8⟩:=H3 h7;injection e8 with e8 e8'
 subst e8 e8';obtain⟨_,_,e9,k9,h9⟩:=H3 h8;injection e9 with e9 e9'
 subst e9 e9';exact⟨k1,k2,k4,k5,k7,k8,k9,h9⟩
theorem C3y{a b t m r:Code}(h:Tryz.f52.body=some (.seq a (.seq b (.seq t (.seq m r))))){Q:Exit->Act->World->Prop}{t:Array Value}{w:World}(hsz:15<t.size)
  (hQ:Q .normal ⟨t.setIfInBounds 15 (.func (.func 109) #[] #[t[4]?.getD undef]),[⟨.fn (.func 109) #[t[4]?.getD undef],#[]⟩]⟩ w):m.wp Tryz.prog Q ⟨t,[]⟩ w:=by
 have e:Tryz.f52.body=some (.seq _ (.seq _ (.seq _ (.seq _ _)))):=rfl;rw[e] at h;injection h with h
 injection h with _ h
 injection h with _ h
 injection h with _ h
 injection h with h _
 subst h;refine wp_region ?_;have hmf:∀(fn:Fn) (first cap:Array Value) (w:World),(Instr.makeFunc fn first cap).run Tryz.prog w = .ok (.func fn first cap) w:=fun _ _ _ _=>rfl;simp[wpOps,wpOp,go_sem,hmf,Exit.then,hsz];exact .inl (.inl hQ)
theorem B1R{C:Cx Tryz.prog}{D:List Deferred}{G G':Gh}{w w':World}{bx:Nat->Option Bx}{n0 k id J K:Nat}{F:Fr}{l:List (Nat×Option Bx)}{a:Act}{e:Int}{b0:Bx}{X:Option Bx}(own:∀i,n0<=i->bx i=none)(old:∀i,G.used i->i<n0)(hs:RS C G bx w)(hid:∀x,id<=x->x<id+1024->¬G.used x)
  (hD:F6 C Tryz.f52.ntmps D n0 G w F (ov bx l) (· < n0+k) G' a w') (f4:F 4=some (true,.ptr J 0 0)) (h4:ov bx l J=some (E7 e)) (hK:ov bx l K=X) (hX:∀b,X=some b->F8 b.xs=true) (hb0:bx K=some b0) (hl:∀q∈l,q.1=K\/n0<=q.1) (j4:n0<=J) (hKn:K<n0) :
  ∃v,(results Tryz.f52 a.tmps).run Tryz.prog w' = .ok v w'/\∃G1,RS C G1 (F3 bx [(K,X)]) w'/\L6 G w G1 w'/\RV G1 w' (.int .i64 e) v/\∀x,G1.used x->G.used x\/(id<=x/\x<id+1024):=by
 let E:Q7:=⟨Tryz.prog,C,bx,Tryz.f52.ntmps,n0,G,w,own,old,hs,D,fun _=>True,fun _ _=>False⟩
 have hD':R8 E ⟨[(4,true,.ptr J 0 0)],(J,some (E7 e))::(K,X)::l,k⟩ G' a w':=by
  refine⟨hD.ev,?_,hD.used,hD.old,fun n c v hl=>?_,hD.size,hD.defers⟩
  ·show RS C G' (ov bx _) w';simp only[ov];rw[X7 (f:=ov bx l) hK,X7 h4];exact hD.rs
  ·simp only[lk] at hl;repeat' split at hl
   all_goals first|cases hl|skip
   all_goals rename_i hn<;>subst hn
   exact hD.fr _ _ _ f4
 have hh:J9 E.β [(K,b0)]:=fun q hq=>by
  simp at hq;obtain rfl:=hq;exact hb0
 refine A7S (E:=E) (id:=id) (rd:=[(K,b0)]) (wr:=[(K,X)]) (C4y) hh hid hD' ?_;simp only[C4x];have hJK:J≠K:=by omega
 refine E9 (vs:=[.int .i64 e]) (by simp[E7]) [] trivial ⟨.same _ (I3 _ rfl),?_,?_,?_,trivial,?_⟩
 ·have one:∀b',X=some b'->∃x b,(P9 n0 [] trivial).ρ K=some x/\bk ((J,some (E7 e))::(K,X)::l) x=some b/\BxR (P9 n0 [] trivial) G.used b b':=fun b hb=>by
   refine⟨K,b,?_,?_,BxR.same fun i x hx=>I3 _ (A8u (hX b hb) hx)⟩
   ·show rnF n0 [] K=some K;simp[rnF,lkN,hKn]
   ·simp[bk,Ne.symm hJK,hb]
  clear hD hD' h4 hK;have hap:F3 (bk (C9 [(K,b0)])) [(K,X)] K=X:=by simp[F3,U0]
  have one':match F3 (bk (C9 [(K,b0)])) [(K,X)] K with
    | none=>True
    | some b'=>∃x b,(P9 n0 [] trivial).ρ K=some x/\bk ((J,some (E7 e))::(K,X)::l) x=some b/\BxR (P9 n0 [] trivial) G.used b b':=by
   rw[hap];cases X with
   | none=>trivial
   | some b=>exact one b rfl
  exact⟨one',one',trivial⟩
 ·refine⟨.inl j4,.inr (.inl rfl),?_⟩;clear hD hD' h4 hK;induction l with
  | nil=>trivial
  | cons q l ih =>
   obtain⟨q1,q2⟩:=q;refine⟨?_,ih fun x hx=>hl x (List.mem_cons_of_mem _ hx)⟩;rcases hl (q1,q2) (List.mem_cons_self ..) with h|h
   ·exact .inr (.inl h)
   ·exact .inl h
 ·exact⟨.inl (.inl rfl),trivial⟩
 ·trivial
theorem C2J{c:UInt8}{r:List UInt8}{e:Int}(h:A0M c r = .error e):e≠0:=by
 unfold A0M at h;split at h
 ·split at h
  ·cases h
  ·injection h with h; rw[←h]; assumption
 split at h
 ·split at h
  ·injection h with h; omega
  ·cases h
 split at h
 ·split at h
  ·injection h with h; omega
  ·split at h
   ·injection h with h; omega
   ·cases h
 split at h
 ·cases h
 ·injection h with h; omega
theorem B3M:∀(n:Nat) (acc:List Tk) (s:List UInt8) (e:Int),n8 n acc s = .error e->e≠0
 | 0,_,_,e,h=>by unfold n8 at h; injection h with h; omega
 | n+1,acc,s,e,h=>by
  unfold n8 at h;split at h
  ·cases h
  ·split at h
   ·rename_i he;injection h with h
    rw[←h]; exact C2J he
   ·split at h
    ·injection h with h; omega
    ·exact B3M n _ _ _ h
theorem B1S{s:List UInt8}{e:Int}(h:A55 s = .error e):e≠0:=by
 unfold A55 at h;split at h
 ·injection h with h; omega
 ·exact B3M _ _ _ _ h
def A2d(pr:List Tk->Option (AV×List Tk))(s:List UInt8):Int:=match A55 s with
 | .error e=>e
 | .ok l=>match pr l with
  | none=>1
  | some (_,u)=>if u=[] then 0 else 1
def A4M(pr:List Tk->Option (AV×List Tk))(s:List UInt8):Option Bx:=match A55 s with
 | .error _=>some (lK .nils)
 | .ok l=>match pr l with
  | none=>none
  | some (v,_)=>some (lK v)
def doR(J K:Nat)(z:List Tk):Option (AV×List Tk)->Except AV (AV×List (Nat×Option Bx))
 | none=>.error (erV 1)
 | some (v,u)=>.ok (.tup [],[(J,some (tB z u)),(K,some (lK v))])
def B7X(E:Q7)(f n0 K:Nat)(l:List Tk):St :=
 ⟨[(1,true,.fn f [.ptr K 0 0]),(4,true,.ptr n0 0 0),(6,true,.ptr E.n0 0 0)],[(E.n0,some (tB l l)),(n0,some (E7 0)),(K,some (lK .nils))],1⟩
def A5D(E:Q7)(n0 K:Nat)(l u:List Tk)(v:AV):St :=
 ⟨[(4,true,.ptr n0 0 0),(6,true,.ptr E.n0 0 0)],[(E.n0,some (tB l u)),(n0,some (E7 0)),(K,some (lK v))],1⟩
def rBg(E:Q7)(f K:Nat)(V:AV)(e:Int):St :=
 ⟨[(1,true,.fn f [.ptr K 0 0]),(4,true,.ptr E.n0 0 0),(5,true,V)],[(E.n0,some (E7 e)),(K,some (lK .nils))],1⟩
section
variable (E:Q7) (hP:E.P=Tryz.prog) (f K:Nat) (h5:K<E.n0) (s:List UInt8)
include hP h5
theorem C0c(V:AV)(e:Int)(hV:V.pureB=true)(hre:∀id,A2 Tryz.prog 108 [.str s] [] id (.tup [V,.int .i64 e]) []):
  Wk E [.code B5i,.post fun σ=>E5 E σ (rBg E f K V e)] ⟨[(4,true,.ptr E.n0 0 0),(0,true,.str s),(1,true,.fn f [.ptr K 0 0])],[(E.n0,some (E7 0)),(K,some (lK .nils))],1024⟩:=by
 have K1:=R9 h5; have K2:=N8 h5; have K3:=N9 h5; have K4:=L4 h5;unfold E7 lK;refine A3 4000 ?_;simp[B5i,K1,K2,K3,K4,h5];(refine yC rfl (hre _) ?_; simp[K1,K2,K3,K4,h5]);unfold rBg;refine yV [(E.n0,E.n0)] (by simp[E7,lK,K1,K2,K3,K4,h5]) fun hrn=>⟨?_,?_,?_,?_,?_⟩<;>(try simp[E7,lK,K1,K2,K3,K4,h5]);all_goals exact .same _ (I3 _ hV)
theorem C2d(V:AV)(e:Int)(b:Bool)(hb:(e != 0)=b)(hV:V.pureB=true):
  Wk E [.code B5j,.post fun σ=>lk σ.fr 13=some (true,.bool b)/\E5 E σ (rBg E f K V e)] (rBg E f K V e):=by
 have K1:=R9 h5; have K2:=N8 h5; have K3:=N9 h5; have K4:=L4 h5;unfold rBg E7 lK;refine A3 4000 ?_;simp[B5j,hb,K1,K2,K3,K4,h5];refine yV [(E.n0,E.n0)] (by simp[E7,lK,K1,K2,K3,K4,h5]) fun hrn=>⟨?_,?_,?_,?_,?_⟩<;>(try simp[E7,lK,K1,K2,K3,K4,h5]);all_goals exact .same _ (I3 _ hV)
theorem C5J(V:AV)(e:Int)(hR:∀σ,bk σ.bx E.n0=some (E7 e)->bk σ.bx K=some (lK .nils)->lk σ.fr 4=some (true,.ptr E.n0 0 0)->(∀x∈σ.bx,x.1=K\/E.n0<=x.1)->E.Rt σ):
  Wk E [.code B5m,.post (fun _=>False)] (rBg E f K V e):=by
 have K1:=R9 h5; have K2:=N8 h5; have K3:=N9 h5; have K4:=L4 h5;unfold rBg E7 lK;refine A3 4000 ?_;simp[B5m,K1,K2,K3,K4,h5];refine hR _ ?_ ?_ ?_ ?_
 ·simp[E7,K1,K2,K3,K4]
 ·simp[lK,K1,K2,K3,K4]
 ·simp
 ·simp
end
section
variable (E:Q7) (hP:E.P=Tryz.prog) (f n0 K:Nat) (h4:n0<E.n0) (h5:K<E.n0) (d:n0≠K) (l u:List Tk)
include hP h4 h5 d
theorem C5K(fr:List (Nat×Bool×AV))(k:Nat)(e1:lk fr 1=some (true,.fn f [.ptr K 0 0]))(e4:lk fr 4=some (true,.ptr n0 0 0))(e5:lk fr 5=some (true,.sl (l.map j7))):
  Wk E [.code B5k,.post fun σ=>E5 E σ (B7X E f n0 K l)] ⟨fr,[(n0,some (E7 0)),(K,some (lK .nils))],k⟩:=by
 have N1:=R9 h4; have N2:=N8 h4; have N3:=N9 h4; have N4:=L4 h4;have K1:=R9 h5; have K2:=N8 h5; have K3:=N9 h5; have K4:=L4 h5;unfold E7 lK;refine A3 4000 ?_;simp[B5k,e1,e4,e5,N1,N2,N3,N4,K1,K2,K3,K4,d,Ne.symm d];unfold B7X;refine yV [(E.n0,E.n0+(k+2048))] (by simp[tB,E7,lK,e1,e4,N1,N2,N3,N4,h4,K1,K2,K3,K4,h5,d,Ne.symm d]) fun hrn=>⟨?_,?_,?_,?_,?_⟩<;>(try simp[tB,E7,lK,e1,e4,N1,N2,N3,N4,h4,K1,K2,K3,K4,h5,d,Ne.symm d])
theorem C5L(v:AV)(hv:v.pureB=true)(hF:∀id,A2 Tryz.prog f [.ptr E.n0 0 0,.ptr K 0 0] [(E.n0,tB l l),(K,lK .nils)] id (.tup []) [(E.n0,some (tB l u)),(K,some (lK v))]):
  Wk E [.code A57,.post fun σ=>E5 E σ (A5D E n0 K l u v)] (B7X E f n0 K l):=by
 have N1:=R9 h4; have N2:=N8 h4; have N3:=N9 h4; have N4:=L4 h4;have K1:=R9 h5; have K2:=N8 h5; have K3:=N9 h5; have K4:=L4 h5;rw[B7,B7,R6,R6] at hF;unfold B7X E7 lK tB;refine A3 4000 ?_;simp[A57,N1,N2,N3,N4,h4,K1,K2,K3,K4,h5,d,Ne.symm d];(refine L7 hP (by simp<;>exact⟨rfl,rfl⟩) rfl (hF _) (by simp[N1,N2,N3,N4,h4,K1,K2,K3,K4,h5,d,Ne.symm d]) (by simp[N1,N2,N3,N4,h4,K1,K2,K3,K4,h5,d,Ne.symm d]<;>rfl) ?_; refine A3 4000 ?_; simp[N1,N2,N3,N4,h4,K1,K2,K3,K4,h5,d,Ne.symm d]);unfold A5D;have hpl:F8 [v]=true:=by simp[F8,hv]
 refine yV [(E.n0,E.n0)] (by simp[tB,E7,lK,hv,N1,N2,N3,N4,h4,K1,K2,K3,K4,h5,d,Ne.symm d]) fun hrn=>⟨?_,?_,?_,?_,?_⟩<;>(try simp[tB,E7,lK,hv,N1,N2,N3,N4,h4,K1,K2,K3,K4,h5,d,Ne.symm d]);all_goals exact .same _ (I3 _ hv)
theorem C3z(hF:∀id,Y0 Tryz.prog f [.ptr E.n0 0 0,.ptr K 0 0] [(E.n0,tB l l),(K,lK .nils)] id (.error (erV 1)))
  (hPn:∀σ,bk σ.bx n0=some (E7 0)->ov E.β σ.bx K=none->lk σ.fr 4=some (true,.ptr n0 0 0)->(∀x∈σ.bx,x.1=K\/x.1=n0\/E.n0<=x.1)->E.Pn (erV 1) σ) :
  Wk E [.ops (P8 A57) 0 [] [],.post (fun _=>False)] (B7X E f n0 K l):=by
 have N1:=R9 h4; have N2:=N8 h4; have N3:=N9 h4; have N4:=L4 h4;have K1:=R9 h5; have K2:=N8 h5; have K3:=N9 h5; have K4:=L4 h5;rw[B7,R6] at hF;unfold B7X E7 lK tB;refine A3 4000 ?_;simp[P8,A57,N1,N2,N3,N4,h4,K1,K2,K3,K4,h5,d,Ne.symm d];refine A1s hP (by simp<;>exact⟨rfl,rfl⟩) rfl (hF _) (by simp) (by simp[N1,N2,N3,N4,h4,K1,K2,K3,K4,h5,d,Ne.symm d]<;>rfl) (fun pv hpv=>⟨by simp[N1,N2,N3,N4,h4,K1,K2,K3,K4,h5,d,Ne.symm d],by injection hpv with hpv; subst hpv; exact hPn _ (by simp[E7,N1,N2,N3,N4,h4,K1,K2,K3,K4,h5,d,Ne.symm d]) (by simp[ov,U0,N1,N2,N3,N4,h4,K1,K2,K3,K4,h5,d,Ne.symm d]) (by simp) (by simp)⟩) (fun v wr h=>by cases h)
theorem C40(v:AV)(hu:u≠[])(hPn:∀σ,bk σ.bx n0=some (E7 0)->ov E.β σ.bx K=some (lK v)->lk σ.fr 4=some (true,.ptr n0 0 0)->(∀x∈σ.bx,x.1=K\/x.1=n0\/E.n0<=x.1)->E.Pn (erV 1) σ):
  Wk E [.ops (P8 A58) 0 [] [],.post (fun _=>False)] (A5D E n0 K l u v):=by
 have N1:=R9 h4; have N2:=N8 h4; have N3:=N9 h4; have N4:=L4 h4;have K1:=R9 h5; have K2:=N8 h5; have K3:=N9 h5; have K4:=L4 h5;have hE:=fun id=>C0P l u E.n0 id;rw[if_neg hu] at hE;rw[B7] at hE;unfold A5D E7 lK tB;refine A3 4000 ?_;simp[P8,A58,N1,N2,N3,N4,h4,K1,K2,K3,K4,h5,d,Ne.symm d];refine D5 hP rfl (hE _) (by simp) (by simp[N1,N2,N3,N4,h4,K1,K2,K3,K4,h5,d,Ne.symm d]<;>rfl) (fun pv hpv=>⟨by simp[N1,N2,N3,N4,h4,K1,K2,K3,K4,h5,d,Ne.symm d],by injection hpv with hpv; subst hpv; exact hPn _ (by simp[E7,N1,N2,N3,N4,h4,K1,K2,K3,K4,h5,d,Ne.symm d]) (by simp[lK,ov,U0,N1,N2,N3,N4,h4,K1,K2,K3,K4,h5,d,Ne.symm d]) (by simp) (by simp)⟩) (fun v wr h=>by cases h)
theorem C5M(v:AV)(hv:v.pureB=true)(hu:u=[]):
  Wk E [.code A58,.post fun σ=>E5 E σ (A5D E n0 K l u v)] (A5D E n0 K l u v):=by
 have N1:=R9 h4; have N2:=N8 h4; have N3:=N9 h4; have N4:=L4 h4;have K1:=R9 h5; have K2:=N8 h5; have K3:=N9 h5; have K4:=L4 h5;have hE:=fun id=>C0P l u E.n0 id;rw[if_pos hu] at hE;have hE:∀id,A2 Tryz.prog 110 [.ptr E.n0 0 0] [(E.n0,tB l u)] id (.tup []) []:=hE;rw[B7] at hE;unfold A5D E7 lK tB;refine A3 4000 ?_;simp[A58,N1,N2,N3,N4,h4,K1,K2,K3,K4,h5,d,Ne.symm d];(refine yC rfl (hE _) ?_; simp[N1,N2,N3,N4,h4,K1,K2,K3,K4,h5,d,Ne.symm d]);refine yV [(E.n0,E.n0)] (by simp[tB,E7,lK,hv,N1,N2,N3,N4,h4,K1,K2,K3,K4,h5,d,Ne.symm d]) fun hrn=>⟨?_,?_,?_,?_,?_⟩<;>(try simp[tB,E7,lK,hv,N1,N2,N3,N4,h4,K1,K2,K3,K4,h5,d,Ne.symm d]);all_goals exact .same _ (I3 _ hv)
theorem C5N(v:AV)(hR:∀σ,bk σ.bx n0=some (E7 0)->bk σ.bx K=some (lK v)->lk σ.fr 4=some (true,.ptr n0 0 0)->(∀x∈σ.bx,x.1=K\/x.1=n0\/E.n0<=x.1)->E.Rt σ):
  Wk E [.code (.seq B5l CC.ret)] (A5D E n0 K l u v):=by
 have N1:=R9 h4; have N2:=N8 h4; have N3:=N9 h4; have N4:=L4 h4;have K1:=R9 h5; have K2:=N8 h5; have K3:=N9 h5; have K4:=L4 h5;unfold A5D E7 lK tB;refine A3 4000 ?_;simp[B5l,N1,N2,N3,N4,h4,K1,K2,K3,K4,h5,d,Ne.symm d];refine hR _ ?_ ?_ ?_ ?_
 ·simp[E7,N1,N2,N3,N4,h4,K1,K2,K3,K4,h5,d,Ne.symm d]
 ·simp[lK,N1,N2,N3,N4,h4,K1,K2,K3,K4,h5,d,Ne.symm d]
 ·simp
 ·simp
end
theorem C41(f K id:Nat)(s:List UInt8)(pr:List Tk->Option (AV×List Tk))
  (hF:∀z J id,J≠K->z.length<=300->Y0 Tryz.prog f [.ptr J 0 0,.ptr K 0 0] [(J,tB z z),(K,lK .nils)] id (doR J K z (pr z))) (hpv:∀z v u,pr z=some (v,u)->v.pureB=true) :
  A2 Tryz.prog 52 [.str s,.fn f [.ptr K 0 0]] [(K,lK .nils)] id (.int .i64 (A2d pr s)) [(K,A4M pr s)]:=by
 refine⟨⟨_,Tryz.func52,by decide,rfl⟩,fun C G bx w vs nb hs hv hh hnb hid=>calls_of_wp_defers Tryz.func52 rfl ?_⟩;obtain⟨ka,kb,kt,ku,kc,kd,ke,kf⟩:=C5q rfl;have own:∀i,max nb (id+1024)<=i->bx i=none:=fun i hi=>by
  cases hbi:bx i with
  | none=>rfl
  | some b=>exact (hnb i (by omega) (hs.boxNames hbi).1).elim
 have old:∀i,G.used i->i<max nb (id+1024):=fun i hi=>by
  rcases Nat.lt_or_ge i nb with h|h
  ·omega
  ·exact (hnb i h hi).elim
 generalize max nb (id+1024)=n0 at own old;have hKb:bx K=some (lK .nils):=hh _ (List.mem_cons_self ..);have hKn:K<n0:=old K (hs.boxNames hKb).1;have hre:=fun id=>C2C s id;let E:Q7:=⟨Tryz.prog,C,bx,Tryz.f52.ntmps,n0,G,w,own,old,hs,[],fun _=>False,fun _ _=>False⟩
 have hN:E.n0=n0:=rfl;have hPE:E.P=Tryz.prog:=rfl;have hD:R8 E ⟨A1o 0 [.str s,.fn f [.ptr K 0 0]],[(K,some (lK .nils))],0⟩ G { tmps:=vs++Array.replicate (Tryz.f52.ntmps - vs.size) undef,defers:=[] } w:=by
  refine⟨L6.refl G w,?_,fun i hi=>by have:=old i hi; show i<n0+0; omega,fun i _ hi=>hi,fun n c v hl=>?_,?_,rfl⟩
  ·have:=A1n hh;simp only[C9] at this;show RS C G (ov bx _) w;rw[this]; exact hs
  ·obtain⟨rfl,_,h3⟩:=A4e hl;simp only[Nat.sub_zero] at h3;refine⟨fun _=>?_,fun h=>by cases h⟩;have:=hv.2 n v h3;rw[Array.getD_eq_getD_getElem?] at this ⊢;rw[Array.getElem?_append_left (by rw[←hv.1]; exact (List.getElem?_eq_some_iff.1 h3).1)];exact this
  ·have:=hv.1;simp[Tryz.ntmps52] at this ⊢;show _=Tryz.f52.ntmps;simp[Tryz.ntmps52]; omega
 have K1:=R9 hKn; have K2:=N8 hKn; have K3:=N9 hKn; have K4:=L4 hKn;have hWa:Wk E [.code B5h,.post (fun σ=>σ=⟨[(4,true,.ptr n0 0 0),(0,true,.str s),(1,true,.fn f [.ptr K 0 0])],[(n0,some (E7 0)),(K,some (lK .nils))],1024⟩)] ⟨A1o 0 [.str s,.fn f [.ptr K 0 0]],[(K,some (lK .nils))],0⟩:=by
  refine A3 4000 ?_;simp[B5h,E,E7,lK]
 refine wp_seq (wkN (E:=E) ka hWa (fun _ h=>h) (fun _ _ h=>h) hD fun τ G1 a1 w1 hD1 hτ=>?_);subst hτ;clear hWa hD;have hEnd:∀{v:Value} {G':Gh} {w':World} {e:Int} {X:Option Bx},A2d pr s=e->A4M pr s=X->RS C G' (F3 bx [(K,X)]) w'->L6 G w G' w'->RV G' w' (.int .i64 e) v->(∀x,G'.used x->G.used x\/(id<=x/\x<id+1024)) ->
   ∃v' G',Ending.returned v = .returned v'/\RS C G' (F3 bx [(K,A4M pr s)]) w'/\L6 G w G' w'/\RV G' w' (.int .i64 (A2d pr s)) v'/\∀x,G'.used x->G.used x\/(id<=x/\x<id+1024):=fun {v G' w' e X} h1 h2 r1 r2 r3 r4=>by
  rw[h1,h2];exact⟨v,G',rfl,r1,r2,r3,r4⟩
 have ev13:∀{a:Act} {b:Bool} {G':Gh} {w':World} {τ:St},R8 E τ G' a w'->lk τ.fr 13=some (true,.bool b)->a.eval (.tmp 13) = .bool b:=fun {a b G' w' τ} h h13=>by
  have hr:=(h.fr 13 true _ h13).1 rfl;show a.tmps.getD 13 undef=_;generalize a.tmps.getD 13 undef=v at hr;cases hr; rfl
 cases hl:A55 s with
 | error e =>
  have hne:=B1S hl;rw[hl] at hre;have hre:∀id,A2 Tryz.prog 108 [.str s] [] id (.tup [.nils,.int .i64 e]) []:=hre;have e1:A2d pr s=e:=by unfold A2d; rw[hl]
  have e2:A4M pr s=some (lK .nils):=by unfold A4M; rw[hl]
  refine wp_seq (wkN (E:=E) kb (C0c E hPE f K hKn s .nils e rfl hre) (fun _ h=>h) (fun _ _ h=>h) hD1 fun τ G2 a2 w2 hD2 hτ=>?_);obtain⟨G3,hD3⟩:=hτ G2 a2 w2 hD2;refine wp_seq ?_;refine wp_seq (wkN (E:=E) kt (C2d E hPE f K hKn .nils e true (by simp[hne]) rfl) (fun _ h=>h) (fun _ _ h=>h) hD3 fun τ G4 a4 w4 hD4 hτ=>?_);obtain⟨h13,hcv⟩:=hτ;obtain⟨G5,hD5⟩:=hcv G4 a4 w4 hD4;refine wp_cond_split (ev13 hD4 h13) (fun _=>?_) (fun hb=>by cases hb);let E':Q7:={ E with Rt:=fun σ=>bk σ.bx n0=some (E7 e)/\bk σ.bx K=some (lK .nils)/\lk σ.fr 4=some (true,.ptr n0 0 0)/\∀x∈σ.bx,x.1=K\/n0<=x.1 }
  have hW:=C5J E' hPE f K hKn .nils e fun σ h1 h2 h3 h4=>⟨h1,h2,h3,h4⟩;refine wp_mono (hW _ ku G5 _ w4 hD5) fun e' a' w' hq=>?_;cases e' with
  | ret =>
   obtain⟨σ,G6,h1,b4,bK,f4,hl'⟩:=hq;show Leaves Tryz.prog Tryz.f52 a'.tmps _ a'.defers .returning w';rw[show a'.defers=[] from h1.defers];obtain⟨v,r1,G7,r2,r3,r4,r5⟩:=B1R own old hs hid h1 f4 (R3 _ b4) (R3 _ bK) (fun b hb=>by injection hb with hb; subst hb; rfl) hKb hl' (Nat.le_refl _) hKn;exact⟨v,r1,hEnd e1 e2 r2 r3 r4 r5⟩
  | normal=>obtain⟨_,_,_,h⟩:=hq; exact h.elim
  | exit id=>obtain⟨_,_,_,h⟩:=hq; exact h.elim
  | panic chain=>obtain⟨_,_,_,_,_,_,_,_,_,_,_,h⟩:=hq; exact h.elim
  | _=>exact hq.elim
 | ok l =>
  have hl300:l.length<=300:=((B12 s l).1 hl).2.2;rw[hl] at hre;have hre:∀id,A2 Tryz.prog 108 [.str s] [] id (.tup [.sl (l.map j7),.int .i64 0]) []:=hre;have hVp:(AV.sl (l.map j7)).pureB=true:=by simp[AV.pureB]
  refine wp_seq (wkN (E:=E) kb (C0c E hPE f K hKn s (.sl (l.map j7)) 0 hVp hre) (fun _ h=>h) (fun _ _ h=>h) hD1 fun τ G2 a2 w2 hD2 hτ=>?_);obtain⟨G3,hD3⟩:=hτ G2 a2 w2 hD2;refine wp_seq ?_;refine wp_seq (wkN (E:=E) kt (C2d E hPE f K hKn (.sl (l.map j7)) 0 false rfl hVp) (fun _ h=>h) (fun _ _ h=>h) hD3 fun τ G4 a4 w4 hD4 hτ=>?_);obtain⟨h13,hcv⟩:=hτ;obtain⟨G5,hD5⟩:=hcv G4 a4 w4 hD4;refine wp_cond_split (ev13 hD4 h13) (fun hb=>by cases hb) (fun _=>?_);refine wp_skip ?_;obtain⟨at1,ad1⟩:=a4;have hd0:ad1=[]:=hD5.defers;subst hd0;have hsz:15<at1.size:=by have:=hD5.size; simp only at this; rw[this]; show 15<Tryz.f52.ntmps; simp[Tryz.ntmps52]
  show (Code.seq _ _).wp _ _ _ _;refine wp_seq (C3y rfl hsz ?_);obtain⟨v4,hv4⟩:∃v4,at1[4]?.getD undef=v4:=⟨_,rfl⟩;have g4:RV G5 w4 (.ptr n0 0 0) v4:=by
   have:=(hD5.fr 4 true _ rfl).1 rfl;rw[Array.getD_eq_getD_getElem?] at this;rw[←hv4]; exact this
  rw[hv4];have own1:∀i,n0+1<=i->ov bx [(n0,some (E7 0)),(K,some (lK .nils))] i=none:=fun i hi=>by
   simp only[ov,U0];rw[if_neg (by omega),if_neg (by omega)];exact own i (by omega)
  have hev:L6 G w G5 w4:=hD5.ev;have hrs:RS C G5 (ov bx [(n0,some (E7 0)),(K,some (lK .nils))]) w4:=hD5.rs;have hus:∀i,G5.used i->i<n0+1:=hD5.used;have hol:∀i,i<n0->G5.used i->G.used i:=hD5.old;let D:List Deferred:=[⟨.fn (.func 109) #[v4],#[]⟩]
  let E2:Q7:=⟨Tryz.prog,C,ov bx [(n0,some (E7 0)),(K,some (lK .nils))],Tryz.f52.ntmps,n0+1,G5,w4,own1,hus,hrs,D,fun _=>False,fun _ _=>False⟩
  have hN2:E2.n0=n0+1:=rfl;have hP2:E2.P=Tryz.prog:=rfl;have hE2:∀m,ov E2.β m=ov bx (m++[(n0,some (E7 0)),(K,some (lK .nils))]):=fun m=>(Y3 bx m _).symm;have hD6:R8 E2 ⟨[(1,true,.fn f [.ptr K 0 0]),(4,true,.ptr n0 0 0),(5,true,.sl (l.map j7))],[(n0,some (E7 0)),(K,some (lK .nils))],0⟩ G5 ⟨at1.setIfInBounds 15 (.func (.func 109) #[] #[v4]),D⟩ w4:=by
   refine⟨L6.refl G5 w4,?_,fun i hi=>by have:=hus i hi; show i<n0+1+0; omega,fun i _ hi=>hi,fun n c v hl=>?_,?_,rfl⟩
   ·show RS C G5 (ov (ov bx _) _) w4;simp only[ov];rw[X7 (f:=U0 (U0 bx K _) n0 _) (i:=K) (by simp[U0]; omega),X7 (i:=n0) (by simp[U0])];exact hrs
   ·have:=hD5.fr n c v hl;have hn:n≠15:=fun h=>by subst h; simp at hl
    simp only[Array.getD_eq_getD_getElem?] at this ⊢;rw[Array.getElem?_setIfInBounds_ne (Ne.symm hn)];exact this
   ·have:=hD5.size;simp only[Array.size_setIfInBounds];exact this
  have hinv:∀w3,(invoke (.fn (.func 109) #[v4]) #[]).run Tryz.prog w3 = .ok (.enter 109 #[v4]) w3:=fun w3=>by simp[go_sem]
  have hw4:n0<E2.n0:=by omega
  have hw5:K<E2.n0:=by omega
  have hwd:n0≠K:=by omega
  have pnk:∀{R:Ending->World->Prop} {X:Option Bx} {k:Nat} {F:Fr} {m:List (Nat×Option Bx)} {G3:Gh} {a3:Act} {w3:World} {u:Value},(∀b,X=some b->F8 b.xs=true)->(∀v G4 w4,RS C G4 (F3 bx [(K,X)]) w4->L6 G w G4 w4->RV G4 w4 (.int .i64 1) v->(∀x,G4.used x->G.used x\/(id<=x/\x<id+1024))->R (.returned v) w4) ->
    F6 C Tryz.f52.ntmps D (n0+1) G5 w4 F (ov E2.β m) (· < n0+1+k) G3 a3 w3->RV G3 w3 (erV 1) u->F 4=some (true,.ptr n0 0 0) ->
    ov E2.β m n0=some (E7 0)->ov E2.β m K=X->(∀x∈m,x.1=K\/x.1=n0\/n0+1<=x.1)->Leaves Tryz.prog Tryz.f52 a3.tmps R a3.defers (.panicking [{ v:=u,recovered:=false }]) w3:=fun {R X k F m G3 a3 w3 u} hX hR h1 h2 f4 h4 hK hm=>by
   rw[show a3.defers=D from h1.defers];have hus3:=h1.used;have hrs3:=h1.rs;refine leaves_cons (by simp) (hinv w3) ((C0a C G3 _ w3 1 0 _ n0 v4 u hrs3 (g4.mono h1.ev) h2 h4 hus3 (fun x hx=>?_)).mono ?_)
   ·cases hb:ov E2.β m x with
    | none=>rfl
    | some b=>have:=hus3 x (hrs3.boxNames hb).1; omega
   rintro e' u' w' ⟨rfl,⟨v,rfl⟩,G4,l',k',r1,r2,r3,r5,r6,r7⟩;have hx:=F6.step h1 r1 r2 (U':=fun x=>x<n0+(1+k+k')) (fun x hx=>by have:=r7 x hx; omega) (fun x hx hu=>r6 x (by omega) hu);have e4:=R3 (ov E2.β m) r3;have eK:ov (ov E2.β m) l' K=X:=by
    rw[←hK];have key:∀l':List (Nat×Option Bx),(∀q∈l',q.1≠K)->ov (ov E2.β m) l' K=ov E2.β m K:=fun l'=>by
     induction l' with
     | nil=>intro _; rfl
     | cons q l' ih =>
      intro h;obtain⟨q1,q2⟩:=q;simp only[ov,U0];rw[if_neg (fun h2=>h (q1,q2) (List.mem_cons_self ..) h2.symm)];exact ih fun x hx=>h x (List.mem_cons_of_mem _ hx)
    refine key l' fun q hq h=>?_;rcases r5 q hq with h2|h2<;>omega
   rw[←Y3] at hx e4 eK;have h':=hx.rebase (n0:=n0) (by omega) hev hol;rw[hE2] at h' e4 eK;obtain⟨v,s1,G7,s2,s3,s4,s5⟩:=B1R own old hs hid h' f4 e4 eK hX hKb (fun x hx=>by
    rcases List.mem_append.1 hx with hx|hx
    ·rcases List.mem_append.1 hx with hx|hx
     ·rcases r5 x hx with h|h
      ·exact .inr (by omega)
      ·exact .inr (by omega)
     ·rcases hm x hx with h|h|h
      ·exact .inl h
      ·exact .inr (by omega)
      ·exact .inr (by omega)
    ·simp at hx;rcases hx with rfl|rfl
     ·exact .inr (Nat.le_refl _)
     ·exact .inl rfl) (Nat.le_refl _) hKn
   exact⟨v,s1,hR v G7 w' s2 s3 s4 s5⟩
  show (Code.seq _ _).wp _ _ _ _;refine wp_seq (wkN (E:=E2) kc (C5K E2 hP2 f n0 K hw4 hw5 hwd l _ _ rfl rfl rfl) (fun _ h=>h) (fun _ _ h=>h) hD6 fun τ G7 a7 w7 hD7 hτ=>?_);obtain⟨G8,hD8⟩:=hτ G7 a7 w7 hD7;show (Code.seq _ _).wp _ _ _ _;have hFl:=fun id=>hF l E2.n0 id (by omega) hl300;cases hp:pr l with
  | none =>
   have e1:A2d pr s=1:=(by unfold A2d; rw[hl]; simp only; rw[hp]);have e2:A4M pr s=none:=(by unfold A4M; rw[hl]; simp only; rw[hp]);rw[hp] at hFl;have hFl:∀id,Y0 Tryz.prog f [.ptr E2.n0 0 0,.ptr K 0 0] [(E2.n0,tB l l),(K,lK .nils)] id (.error (erV 1)):=hFl;let E1:Q7:={ E2 with Pn:=fun pv σ=>pv=erV 1/\bk σ.bx n0=some (E7 0)/\ov E2.β σ.bx K=none/\lk σ.fr 4=some (true,.ptr n0 0 0)/\∀x∈σ.bx,x.1=K\/x.1=n0\/n0+1<=x.1 }
   have hW:=C3z E1 hP2 f n0 K hw4 hw5 hwd l hFl fun σ h1 h2 h3 h4=>⟨rfl,h1,h2,h3,h4⟩;refine wp_seq (B0f (E:=E1) (crs:=P8 A57) (kd.trans rfl) hW hD8 (fun σ G3 a3 w3 h1 h2=>h2.elim) (fun pv u σ G9 a9 w9 h1 h2 h3=>?_));obtain⟨rfl,b4,bK,f4,hm⟩:=h3;exact pnk (k:=1+1024*(P8 A57).length) (fun b hb=>by cases hb) (fun v G4 w4 r1 r2 r3 r4=>hEnd e1 e2 r1 r2 r3 r4) (h1.weak fun x hx=>by have:x<n0+1+1+1024*(P8 A57).length:=hx; omega) h2 f4 (R3 _ b4) bK hm
  | some q =>
   obtain⟨v,u⟩:=q;have hvp:=hpv l v u hp;rw[hp] at hFl;have hFl:∀id,A2 Tryz.prog f [.ptr E2.n0 0 0,.ptr K 0 0] [(E2.n0,tB l l),(K,lK .nils)] id (.tup []) [(E2.n0,some (tB l u)),(K,some (lK v))]:=hFl;have e2:A4M pr s=some (lK v):=(by unfold A4M; rw[hl]; simp only; rw[hp]);have hXv:∀b,some (lK v)=some b->F8 b.xs=true:=fun b hb=>by injection hb with hb; subst hb; simp[lK,F8,hvp]
   refine wp_seq (wkN (E:=E2) kd (C5L E2 hP2 f n0 K hw4 hw5 hwd l u v hvp hFl) (fun _ h=>h) (fun _ _ h=>h) hD8 fun τ G9 a9 w9 hD9 hτ=>?_);obtain⟨G10,hD10⟩:=hτ G9 a9 w9 hD9;show (Code.seq _ _).wp _ _ _ _;by_cases hu:u=[]
   ·have e1:A2d pr s=0:=(by unfold A2d; rw[hl]; simp only; rw[hp]; simp only; rw[if_pos hu]);refine wp_seq (wkN (E:=E2) ke (C5M E2 hP2 n0 K hw4 hw5 hwd l u v hvp hu) (fun _ h=>h) (fun _ _ h=>h) hD10 fun τ G11 a11 w11 hD11 hτ=>?_);obtain⟨G12,hD12⟩:=hτ G11 a11 w11 hD11;let E3:Q7:={ E2 with Rt:=fun σ=>bk σ.bx n0=some (E7 0)/\bk σ.bx K=some (lK v)/\lk σ.fr 4=some (true,.ptr n0 0 0)/\∀x∈σ.bx,x.1=K\/x.1=n0\/n0+1<=x.1 }
    have hW:=C5N E3 hP2 n0 K hw4 hw5 hwd l u v fun σ h1 h2 h3 h4=>⟨h1,h2,h3,h4⟩;have ends:∀{R:Ending->World->Prop} {σ:St} {G8:Gh} {a7:Act} {w7:World},(∀v G4 w4,RS C G4 (F3 bx [(K,some (lK v))]) w4->True)->(∀z G4 w4,RS C G4 (F3 bx [(K,some (lK v))]) w4->L6 G w G4 w4->RV G4 w4 (.int .i64 0) z->(∀x,G4.used x->G.used x\/(id<=x/\x<id+1024))->R (.returned z) w4)->R8 E3 σ G8 a7 w7->E3.Rt σ->Leaves Tryz.prog Tryz.f52 a7.tmps R a7.defers .returning w7:=fun {R σ G8 a7 w7} _ hR h1 h2=>by
     obtain⟨b4,bK,f4,hm⟩:=h2;rw[show a7.defers=D from h1.defers];refine leaves_cons (by simp) (hinv w7) ((C0b v4 w7).mono ?_);rintro e u' w' ⟨rfl,⟨v',rfl⟩,rfl⟩;have h1':=h1.weak (U':=fun x=>x<n0+(1+σ.k)) (fun x hx=>by have:x<n0+1+σ.k:=hx; omega);have h':=h1'.rebase (n0:=n0) (show n0<=n0+1 from Nat.le_succ n0) hev hol;have e4:=R3 E2.β b4;have eK:=R3 E2.β bK;have h':F6 C Tryz.f52.ntmps D n0 G w (lk σ.fr) (ov bx (σ.bx++[(n0,some (E7 0)),(K,some (lK .nils))])) (fun x=>x<n0+(1+σ.k)) G8 a7 w':=(by rw[←hE2]; exact h');rw[hE2] at e4 eK;obtain⟨z,s1,G7,s2,s3,s4,s5⟩:=B1R own old hs hid h' f4 e4 eK hXv hKb (fun x hx=>by
      rcases List.mem_append.1 hx with hx|hx
      ·rcases hm x hx with h|h|h
       ·exact .inl h
       ·exact .inr (by omega)
       ·exact .inr (by omega)
      ·simp at hx;rcases hx with rfl|rfl
       ·exact .inr (Nat.le_refl _)
       ·exact .inl rfl) (Nat.le_refl _) hKn
     exact⟨z,s1,hR z G7 w' s2 s3 s4 s5⟩
    refine wp_mono (hW _ kf G12 _ w11 hD12) fun e a7 w7 hq=>?_;cases e with
    | ret =>
     obtain⟨σ,G8,h1,h2⟩:=hq;exact ends (fun _ _ _ _=>trivial) (fun z G4 w4 r1 r2 r3 r4=>hEnd e1 e2 r1 r2 r3 r4) h1 h2
    | normal =>
     obtain⟨σ,G8,h1,h2⟩:=hq;exact ends (fun _ _ _ _=>trivial) (fun z G4 w4 r1 r2 r3 r4=>hEnd e1 e2 r1 r2 r3 r4) h1 h2
    | exit id=>obtain⟨_,_,_,h2⟩:=hq; exact h2.elim
    | panic chain=>obtain⟨_,_,_,_,_,_,_,_,_,_,_,h⟩:=hq; exact h.elim
    | _=>exact hq.elim
   ·have e1:A2d pr s=1:=(by unfold A2d; rw[hl]; simp only; rw[hp]; simp only; rw[if_neg hu]);let E1:Q7:={ E2 with Pn:=fun pv σ=>pv=erV 1/\bk σ.bx n0=some (E7 0)/\ov E2.β σ.bx K=some (lK v)/\lk σ.fr 4=some (true,.ptr n0 0 0)/\∀x∈σ.bx,x.1=K\/x.1=n0\/n0+1<=x.1 }
    have hW:=C40 E1 hP2 n0 K hw4 hw5 hwd l u v hu fun σ h1 h2 h3 h4=>⟨rfl,h1,h2,h3,h4⟩;refine wp_seq (B0f (E:=E1) (crs:=P8 A58) (ke.trans rfl) hW hD10 (fun σ G3 a3 w3 h1 h2=>h2.elim) (fun pv u σ G9 a9 w9 h1 h2 h3=>?_));obtain⟨rfl,b4,bK,f4,hm⟩:=h3;exact pnk (k:=1+1024*(P8 A58).length) hXv (fun v G4 w4 r1 r2 r3 r4=>hEnd e1 e2 r1 r2 r3 r4) (h1.weak fun x hx=>by have:x<n0+1+1+1024*(P8 A58).length:=hx; omega) h2 f4 (R3 _ b4) bK hm
theorem B3N(l:List F5)(s:F5):szL (l++[s])=szL l+s.sz:=by
 induction l with
 | nil=>simp[szL]
 | cons x r ih=>simp only[List.cons_append,szL,ih]; omega
theorem B65:∀(n:Nat) (acc:List Ag) (t u:List Tk) (l:List Ag),A1f n acc t=some (l,u)->l.length+u.length<=acc.length+t.length
 | 0,_,_,_,_,h=>by cases h
 | n+1,acc,t,u,l,h=>by
  simp only[A1f] at h;split at h
  ·cases h
  rename_i p hp;have h1:=B1O (a:=p.1) (u:=p.2) hp;split at h
  ·simp only[Option.some.injEq,Prod.mk.injEq] at h;rw[←h.1,←h.2,List.length_drop]; simp; omega
  ·have:=B65 n _ _ _ _ h;simp at this; omega
theorem C0d{t u:List Tk}{l:List Ag}(h:A2l t=some (l,u)):l.length+u.length<=t.length:=by
 unfold A2l at h;split at h
 ·have:=B65 _ _ _ _ _ h;rw[List.length_drop] at this; simp at this; omega
 ·simp only[Option.some.injEq,Prod.mk.injEq] at h;rw[←h.1,h.2]; simp
theorem A8U:∀n:Nat,(∀t s u,A1g n t=some (s,u)->s.sz+u.length<=t.length)/\(∀t s u,s6 n t=some (s,u)->szL s+u.length<=t.length)/\(∀acc t s u,T3 n acc t=some (s,u)->szL s+u.length<=szL acc+t.length)
 | 0=>⟨fun _ _ _ h=>by simp[A1g] at h,fun _ _ _ h=>by simp[s6] at h,fun _ _ _ _ h=>by simp[T3] at h⟩
 | n+1=>by
  obtain⟨h1,h2,h3⟩:=A8U n;refine⟨fun t s u h=>?_,fun t s u h=>?_,fun acc t s u h=>?_⟩
  ·simp only[A1g] at h;split at h
   ·cases h
   rename_i a nm v hv;have e1:=B4c hv;split at h
   ·cases h
   rename_i xs w hw;have e2:=C0d hw;split at h
   ·split at h
    ·cases h
    rename_i k y hy;have:=h2 _ _ _ hy;simp only[Option.some.injEq,Prod.mk.injEq] at h;rw[←h.1,←h.2]; simp only[F5.sz]; omega
   ·simp only[Option.some.injEq,Prod.mk.injEq] at h;rw[←h.1,←h.2]; simp only[F5.sz,szL]; omega
  ·simp only[s6] at h;split at h
   ·have:=h3 _ _ _ _ h;rw[List.length_drop] at this; simp only[szL] at this; omega
   ·cases h
  ·simp only[T3] at h;split at h
   ·cases h
   rename_i s' v hv;have e1:=h1 _ _ _ hv;split at h
   ·simp only[Option.some.injEq,Prod.mk.injEq] at h;rw[←h.1,←h.2,List.length_drop,B3N]; omega
   ·have:=h3 _ _ _ _ h;rw[B3N] at this; omega
def prQ(z:List Tk):Option (AV×List Tk):=B0B (s6 (3*z.length+3) z)
theorem C0e(z:List Tk)(v:AV)(u:List Tk)(h:prQ z=some (v,u)):v.pureB=true:=by
 unfold prQ B0B at h;obtain⟨p,hp,h2⟩:=Option.map_eq_some_iff.1 h;simp only[Prod.mk.injEq] at h2;rw[←h2.1]; simp[AV.pureB]
theorem C42(z:List Tk)(J K id:Nat)(d:J≠K)(h8:z.length<=300):Y0 Tryz.prog 53 [.ptr J 0 0,.ptr K 0 0] [(J,tB z z),(K,lK .nils)] id (doR J K z (prQ z)):=by
 have hS:=fun id=>(C3x (3*z.length+3)).2 z z J id (by omega) (by omega);unfold prQ;cases hp:s6 (3*z.length+3) z with
 | none =>
  rw[hp] at hS;change ∀id,Y0 _ _ _ _ _ (.error (erV 1)) at hS;show Y0 _ _ _ _ _ (.error (erV 1));rw[B7] at *;rw[R6];refine w53.x.1 fun E hP hR hPn hl hid hB hu=>?_;simp[w53];have hJ:=hl (J,_) (List.mem_cons_self ..);simp only at hJ;have J1:=lf hJ;have hK:=hl (K,_) (List.mem_cons_of_mem _ (List.mem_cons_self ..));simp only at hK;have K1:=lf hK;refine D5 hP rfl (hS _) (by simp[J1,K1,d,Ne.symm d]) (by simp[J1,K1,d,Ne.symm d]<;>rfl) (fun pv hpv=>⟨by simp[J1,K1,d,Ne.symm d],by injection hpv with hpv; subst hpv; exact hPn _ _ (rfl) rfl (by simp[J1,K1,d,Ne.symm d])⟩) (fun v wr h=>by cases h)
 | some q =>
  obtain⟨ss,u⟩:=q;rw[hp] at hS;have hS:∀id,A2 Tryz.prog 54 [.ptr J 0 0] [(J,tB z z)] id (.sl (ss.map D7)) [(J,some (tB z u))]:=hS;show A2 _ _ _ _ _ (.tup []) [(J,some (tB z u)),(K,some (lK (.sl (ss.map D7))))];rw[B7,B7] at hS;rw[B7,B7,R6,R6];refine w53.e.1 fun E hP hR hl hid=>?_;simp[w53];have hJ:=hl (J,_) (List.mem_cons_self ..);simp only at hJ;have J1:=lf hJ;have hK:=hl (K,_) (List.mem_cons_of_mem _ (List.mem_cons_self ..));simp only at hK;have K1:=lf hK;(refine yC rfl (hS _) ?_; simp[J1,K1,d,Ne.symm d]);refine yE hR [] (by simp[J1,K1,d,Ne.symm d,A4 hid]) fun hrn=>⟨?_,?_,?_,?_,?_,?_⟩<;>(try simp[J1,K1,d,Ne.symm d,A4 hid])
def B7Y:Except Int (List F5)->AV
 | .ok q=>.tup [.sl (q.map D7),.int .i64 0]
 | .error e=>.tup [.nils,.int .i64 e]
theorem B3O(s:List UInt8)(id:Nat):A2 Tryz.prog 16 [.str s] [] id (B7Y (A3p s)) []:=by
 have hRun:=fun K id=>C41 53 K id s prQ (fun z J id hd h8=>C42 z J K id hd h8) C0e;unfold A3p;cases hx:A55 s with
 | error e =>
  have hne:=B1S hx;have e1:A2d prQ s=e:=by unfold A2d; rw[hx]
  have e2:A4M prQ s=some (lK .nils):=by unfold A4M; rw[hx]
  rw[e1,e2] at hRun;show A2 _ _ _ _ _ (.tup [.nils,.int .i64 e]) _;simp only[R6] at hRun;refine w16.e.1 fun E hP hR hl hid=>?_;simp[w16];(refine yH rfl (hRun _ _) ?_; simp);refine A0 (by simpa using hne) ?_;simp;refine B2 (by simpa using hne) ?_;simp;exact yP hR
 | ok l =>
  have h300:l.length<=300:=((B12 s l).1 hx).2.2;show A2 _ _ _ _ _ (B7Y (A3K (B13 l))) _;unfold B13;cases hp:s6 (3*l.length+3) l with
  | none =>
   have e1:A2d prQ s=1:=(by unfold A2d prQ; rw[hx]; simp only; rw[hp]; rfl);have e2:A4M prQ s=none:=(by unfold A4M prQ; rw[hx]; simp only; rw[hp]; rfl);rw[e1,e2] at hRun;show A2 _ _ _ _ _ (.tup [.nils,.int .i64 1]) _;simp only[R6] at hRun;refine w16.e.1 fun E hP hR hl hid=>?_;simp[w16];(refine yH rfl (hRun _ _) ?_; simp);exact yP hR
  | some w =>
   obtain⟨q,u⟩:=w;have e2:A4M prQ s=some (lK (.sl (q.map D7))):=(by unfold A4M prQ; rw[hx]; simp only; rw[hp]; rfl);by_cases hu:u=[]
   ·have e1:A2d prQ s=0:=(by unfold A2d prQ; rw[hx]; simp only; rw[hp]; simp[B0B,hu]);have hsz:=(A8U _).2.1 _ _ _ hp;have hC:=fun id=>A9d q id (by omega);rw[e1,e2] at hRun;show A2 _ _ _ _ _ (B7Y (A3K (if u=[] then some q else none))) _;rw[if_pos hu];by_cases h0:V3 q=0
    ·have e:B7Y (A3K (some q)) = .tup [.sl (q.map D7),.int .i64 0]:=(by unfold A3K; simp only; rw[if_pos h0]; rfl);rw[e];rw[h0] at hC;simp only[R6] at hRun;refine w16.e.1 fun E hP hR hl hid=>?_;simp[w16];(refine yH rfl (hRun _ _) ?_; simp);(refine yH rfl (hC _) ?_; simp);exact yP hR
    ·have e:B7Y (A3K (some q)) = .tup [.nils,.int .i64 (V3 q)]:=(by unfold A3K; simp only; rw[if_neg h0]; rfl);rw[e];simp only[R6] at hRun;refine w16.e.1 fun E hP hR hl hid=>?_;simp[w16];(refine yH rfl (hRun _ _) ?_; simp);(refine yH rfl (hC _) ?_; simp);refine B2 (by simpa using h0) ?_;simp;exact yP hR
   ·have e1:A2d prQ s=1:=(by unfold A2d prQ; rw[hx]; simp only; rw[hp]; simp[B0B,hu]);rw[e1,e2] at hRun;show A2 _ _ _ _ _ (B7Y (A3K (if u=[] then some q else none))) _;rw[if_neg hu];show A2 _ _ _ _ _ (.tup [.nils,.int .i64 1]) _;simp only[R6] at hRun;refine w16.e.1 fun E hP hR hl hid=>?_;simp[w16];(refine yH rfl (hRun _ _) ?_; simp);exact yP hR
def C0f(e:Int)(bs:List Bt):AV:=if e=0 then .sl (bs.map p7) else .nils
theorem C0g(id:Nat):opV 0 id = .ptr id 0 0:=rfl
theorem B4d{e:Int}(h:e≠0)(id:Nat):opV e id = .nilp:=by unfold opV; rw[if_neg h]
theorem C0h(s:I4)(bs:List Bt)(id:Nat):opW 0 s bs id=[(id,some (bxO s bs))]:=rfl
theorem B4e{e:Int}(h:e≠0)(s:I4)(bs:List Bt)(id:Nat):opW e s bs id=[]:=by unfold opW; rw[if_neg h]
theorem B1T(s:I4)(bs:List Bt):bxO s bs=⟨[.agg [.sl (s.types.map J3),.sl (s.things.map X2),.sl (bs.map p7)]],.agg [.nils,.nils,.sl (bs.map p7)],false,false⟩:=rfl
theorem C0i(l:List Ty)(d:Dk)(id:Nat):A2 Tryz.prog 14 [.sl (l.map J3),eDk d] [] id (.tup [A1d (opE l d) (opS l d),C0f (opE l d) (H0 d.seg),.int .i64 (opE l d)]) []:=by
 have hO:=fun id=>B14 l d id;unfold eDk at hO ⊢;by_cases h:opE l d=0
 ·rw[h] at hO ⊢;simp only[C0g,C0h,B1T] at hO;rw[show C0f 0 (H0 d.seg) = .sl ((H0 d.seg).map p7) from rfl];rw[show A1d 0 (opS l d) = .agg [.sl ((opS l d).types.map J3),.sl ((opS l d).things.map X2)] from rfl];generalize opS l d=s at *;refine w14.e.1 fun E hP hR hl hid=>?_;simp[w14];(refine yH rfl (hO _) ?_; simp);exact yP hR
 ·simp only[B4d h,B4e h] at hO;rw[show C0f (opE l d) (H0 d.seg) = .nils by unfold C0f; rw[if_neg h],show A1d (opE l d) (opS l d) = .agg [.nils,.nils] by rw[A02,if_neg h]; rfl];refine w14.e.1 fun E hP hR hl hid=>?_;simp[w14];(refine yH rfl (hO _) ?_; simp);refine B2 (by simpa using h) ?_;simp;exact yP hR
def A0Q(l:List Ty)(d:Dk)(text:List UInt8)(n:Int):List UInt8×Int :=
 if opE l d≠0 then ([],opE l d)
 else if n<0\/((H0 d.seg).length:Int)<n then ([],3)
 else match A3p text with
  | .error e=>([],e)
  | .ok q=>if A1w l q≠0 then ([],A1w l q) else if qW (z7 l d n.toNat) q<=2000 then (jS (qO (z7 l d n.toNat) q),0) else ([],2)
theorem C0j:∀(l:List Ev) {s:I4},Rt s->(∀e∈l,I64 e.n)->T9 s l=0->Rt (o6 s l)/\(o6 s l).types=s.types
 | [],s,h,_,_=>⟨h,rfl⟩
 | x::l,s,h,hn,ha=>by
  rw[A24] at ha;by_cases g:A1c s x=0
  ·rw[if_neg (by simpa using g)] at ha;obtain⟨a,b⟩:=B4L h (hn x (List.mem_cons_self ..)) g;obtain⟨c,d⟩:=C0j l a (fun e he=>hn e (List.mem_cons_of_mem _ he)) ha;exact⟨c,d.trans b⟩
  ·rw[if_pos g] at ha;exact absurd ha g
theorem B7Z(l:List Bt)(n:Nat):∃r,P1 l=P1 (l.take n)++r:=⟨P1 (l.drop n),by rw[←B33,List.take_append_drop]⟩
theorem C0k{l:List Ty}{d:Dk}(h:opE l d=0)(n:Nat):Rt (z7 l d n)/\(z7 l d n).types=l/\T9 ⟨l,[]⟩ (P1 ((H0 d.seg).take n))=0:=by
 have ho:=A23.1 h;have hf:=A8F (A6y ho.disk).2;have ha:=ho.all;obtain⟨r,hr⟩:=B7Z (H0 d.seg) n;rw[hr] at ha hf;have h0:=B9r ha;obtain⟨a,b⟩:=C0j _ (B9U ho.types) (fun e he=>hf e (List.mem_append_left _ he)) h0;exact⟨a,b,h0⟩
theorem C5O{l:List Ty}{d:Dk}(h:opE l d=0):Rt (opS l d)/\(opS l d).types=l:=by
 obtain⟨a,b,_⟩:=C0k h (H0 d.seg).length;unfold z7 at a b;rw[List.take_length] at a b;exact⟨a,b⟩
theorem C0l(s:I4)(x:F5)(t:Tg):oS s x t=if x.name=tId then A0m t.id else match A8K s t x.name with
  | none=>A1U
  | some (f,c)=>if f.kind=1 then A0m c.n else if f.kind=2 then n9 c.text
   else if f.kind=4 then U6 ((A3L x.args c.ids).map (thO s (x.kids.map D4) (oL s x.kids) (C4 s.types f.of)))
   else match c.ids with
    | []=>A1U
    | y::_=>thO s (x.kids.map D4) (oL s x.kids) (C4 s.types f.of) y:=by cases x; rfl
theorem A2D{α:Type}(f:α->H4)(w:α->Nat):∀l:List α,(∀x∈l,(f x).sz+1<=2*w x)->A15 (l.map f)+l.length<=2*(l.map w).sum
 | [],_=>by simp[A15]
 | x::r,h=>by
  have h1:=A2D f w r fun y hy=>h y (List.mem_cons_of_mem _ hy);have h2:=h x (List.mem_cons_self ..);simp only[List.map_cons,A15,List.length_cons,List.sum_cons];omega
theorem B1U{s:I4}{kids:List F5}(h:∀u,A15 (oL s kids u)+kids.length<=2*wL s kids u)(kd y:Int):(thO s (kids.map D4) (oL s kids) kd y).sz+1<=2*thW s (wL s kids) kd y:=by
 unfold thO thW;cases thA s kd y with
 | none=>simp[A1U,H4.sz,A15]
 | some u =>
  have:=h u;simp only[A0O,H4.sz,List.length_map];omega
theorem C2e(s:I4):∀(m:Nat) (x:F5) (t:Tg),x.sz<m->(oS s x t).sz+1<=2*wS s x t
 | 0,x,t,h=>by omega
 | m+1,x,t,h=>by
  have hz:=A4o x;have hk:∀u,A15 (oL s x.kids u)+x.kids.length<=2*wL s x.kids u:=fun u=>by
   rw[A3M,B1B];exact A2D _ _ _ fun z hz'=>C2e s m z u (by have:=A1M hz'; omega)
  rw[C0l,B9z];split
  ·simp[A0m,H4.sz,A15]
  cases hfc:A8K s t x.name with
  | none=>simp[A1U,H4.sz,A15]
  | some fc =>
  obtain⟨f,c⟩:=fc;simp only;by_cases h1:f.kind=1
  ·rw[if_pos h1,if_pos (.inl h1)]; simp[A0m,H4.sz,A15]
  rw[if_neg h1];by_cases h2:f.kind=2
  ·rw[if_pos h2,if_pos (.inr h2)]; simp[n9,H4.sz,A15]
  have h12:¬(f.kind=1\/f.kind=2):=by omega
  rw[if_neg h2,if_neg h12];split
  ·have:=A2D (thO s (x.kids.map D4) (oL s x.kids) (C4 s.types f.of)) (thW s (wL s x.kids) (C4 s.types f.of)) (A3L x.args c.ids) fun y _=>B1U hk _ _;simp only[U6,H4.sz,List.length_nil];omega
  cases hci:c.ids with
  | nil=>simp[A1U,H4.sz,A15]
  | cons y r=>exact B1U hk _ _
theorem C2f(s:I4)(l:List F5)(u:Tg):A15 (oL s l u)+l.length<=2*wL s l u:=by
 rw[A3M,B1B];exact A2D _ _ _ fun z hz'=>C2e s (z.sz+1) z u (Nat.lt_succ_self _)
theorem C43(s:I4)(x:F5):(rtO s x).sz+1<=2*rtW s x:=by
 unfold rtO rtW;cases x.args with
 | nil =>
  have:=A2D (thO s (x.kids.map D4) (oL s x.kids) (C4 s.types x.name)) (thW s (wL s x.kids) (C4 s.types x.name)) (A0F s (C4 s.types x.name) s.things) fun y _=>B1U (C2f s x.kids) _ _;simp only[U6,H4.sz,List.length_nil];omega
 | cons a r=>exact B1U (C2f s x.kids) _ _
theorem C5P(s:I4)(q:List F5):(qO s q).sz+1<=2*qW s q:=by
 have:=A2D (rtO s) (fun x=>rtW s x) q fun x _=>C43 s x;unfold qO qW C04;simp only[A0O,H4.sz,List.length_map] at *;omega
theorem B7a{l:List H4}(h:∀o∈l,U7 o=0):A4K l=0:=by
 induction l with
 | nil=>rfl
 | cons x r ih =>
  simp only[A4K];rw[if_neg (by simp[h x (List.mem_cons_self ..)])];exact ih fun o ho=>h o (List.mem_cons_of_mem _ ho)
theorem A3R{o:H4}(h1:B1H o=0)(h2:∀x∈o.kids,U7 x=0):U7 o=0:=by
 rw[B3A,if_neg (by simp[h1])];exact B7a h2
theorem A8V{o:H4}(h1:¬(o.kind<1\/5<o.kind))(h2:¬((o.kind≠2/\o.n≠0)\/(o.kind≠3/\o.text≠[])\/(o.kind≠5/\o.keys≠[])\/(o.kind<4/\o.kids≠[])))
  (h3:¬¬(-999999999<=o.n/\o.n<=999999999)) (h4:¬40<o.text.length) (h5:¬(o.kind=5/\o.keys.length≠o.kids.length)) (h6:B39 o.keys=0):B1H o=0:=by
 unfold B1H;rw[if_neg h1,if_neg h2,if_neg h3,if_neg h4,if_neg h5];exact h6
theorem A8W:U7 A1U=0:=A3R (A8V (by decide) (by decide) (by decide) (by decide) (by decide) rfl) fun x hx=>by cases hx
theorem B66{n:Int}(h : -999999999<=n/\n<=999999999):U7 (A0m n)=0 :=
 A3R (A8V (by simp[A0m,n9,U6,A0O,H4.kind,H4.n,H4.text,H4.keys,H4.kids]) (by simp[A0m,H4.kind,H4.n,H4.text,H4.keys,H4.kids]) (by simpa [A0m,H4.n] using h) (by simp[A0m,n9,U6,A0O,H4.kind,H4.n,H4.text,H4.keys,H4.kids]) (by simp[A0m,n9,U6,A0O,H4.kind,H4.n,H4.text,H4.keys,H4.kids]) rfl) fun x hx=>by cases hx
theorem C0m{t:List UInt8}(h:t.length<=40):U7 (n9 t)=0 :=
 A3R (A8V (by simp[A0m,n9,U6,A0O,H4.kind,H4.n,H4.text,H4.keys,H4.kids]) (by simp[n9,H4.kind,H4.n,H4.text,H4.keys,H4.kids]) (by simp[A0m,n9,U6,A0O,H4.kind,H4.n,H4.text,H4.keys,H4.kids]) (by simpa [n9,H4.text] using h) (by simp[A0m,n9,U6,A0O,H4.kind,H4.n,H4.text,H4.keys,H4.kids]) rfl) fun x hx=>by cases hx
theorem B3P{l:List H4}(h:∀o∈l,U7 o=0):U7 (U6 l)=0 :=
 A3R (A8V (by simp[A0m,n9,U6,A0O,H4.kind,H4.n,H4.text,H4.keys,H4.kids]) (by simp[U6,H4.kind,H4.n,H4.text,H4.keys,H4.kids]) (by simp[A0m,n9,U6,A0O,H4.kind,H4.n,H4.text,H4.keys,H4.kids]) (by simp[A0m,n9,U6,A0O,H4.kind,H4.n,H4.text,H4.keys,H4.kids]) (by simp[U6,H4.kind]) rfl) h
theorem B67{ks:List (List UInt8)}{l:List H4}(h0:B39 ks=0)(h1:ks.length=l.length)(h:∀o∈l,U7 o=0):U7 (A0O ks l)=0 :=
 A3R (A8V (by simp[A0m,n9,U6,A0O,H4.kind,H4.n,H4.text,H4.keys,H4.kids]) (by simp[A0O,H4.kind,H4.n,H4.text,H4.keys,H4.kids]) (by simp[A0m,n9,U6,A0O,H4.kind,H4.n,H4.text,H4.keys,H4.kids]) (by simp[A0m,n9,U6,A0O,H4.kind,H4.n,H4.text,H4.keys,H4.kids]) (by simp[A0O,H4.kind,H4.keys,H4.kids,h1]) h0) h
theorem A6P{α:Type}{f:Nat->α->Int}:∀{l:List α} {i:Nat},(∀(k:Nat) x,l[k]?=some x->f (i+k) x=0)->E4 f l i=0
 | [],i,_=>rfl
 | y::l,i,h=>by
  simp only[E4];rw[if_neg (by simpa using h 0 y rfl)];exact A6P fun k x hx=>by have:=h (k+1) x (by simpa using hx); rwa [show i+(k+1)=i+1+k by omega] at this
theorem A5E:∀{l ah:List F5},v6 l ah=0->∀(i:Nat) x,l[i]?=some x->A7t x (ah++l.take i)=0/\v6 x.kids []=0
 | [],ah,_,i,x,hx=>by simp at hx
 | y::l,ah,h,i,x,hx=>by
  simp only[v6] at h;split at h
  ·rename_i g; exact (g h).elim
  rename_i g1;split at h
  ·rename_i g; exact (g h).elim
  rename_i g2;cases i with
  | zero =>
   simp at hx;subst hx;refine⟨?_,?_⟩
   ·simpa using g1
   ·rw[←B2d]; exact Classical.byContradiction g2
  | succ i =>
   have:=A5E h i x (by simpa using hx);simpa using this
theorem A8X{l:List F5}(h:v6 l []=0):B39 (l.map D4)=0:=by
 refine A6P fun k s hs=>?_;rw[List.getElem?_map] at hs;obtain⟨x,hx,rfl⟩:=Option.map_eq_some_iff.1 hs;have h1:=(A5E h k x hx).1;rw[List.nil_append,B2c] at h1;split at h1
 ·rename_i g; exact (g h1).elim
 rename_i g;have g:fNm x=0:=Classical.byContradiction g;split at h1
 ·rename_i g; exact (g h1).elim
 split at h1
 ·cases h1
 rename_i g3;unfold B4Z C3p;have hn:L3 (D4 x)=0:=by
  unfold fNm at g;split at g
  ·rename_i g4; exact (g4 g).elim
  rename_i g4;unfold D4;split
  ·rename_i ha; rwa [if_pos ha] at g
  ·exact Classical.byContradiction g4
 rw[if_neg (by simp[hn]),Nat.zero_add,←List.map_take,List.any_map];rw[if_neg (by simpa using g3)]
theorem B7b{s:I4}{t:Tg}{name:List UInt8}{f:Fd}{c:Cl}(ht:A4B s t)(h:A8K s t name=some (f,c)):A2i f c=0:=by
 unfold A8K at h;split at h
 ·rename_i f' c' hf hc;have h0:=ht.cell _ c' hc;unfold A0L at h0;rw[hf] at h0;simp only[Option.some.injEq,Prod.mk.injEq] at h;obtain⟨rfl,rfl⟩:=h;exact h0
 ·cases h
theorem A71{s:I4}(hs:RtS s){l:List F5}(hl:v6 l []=0)(h:∀u∈s.things,∀x∈l,U7 (oS s x u)=0){kd:Int}(hk : -1<=kd/\kd<=5)(y:Int):U7 (thO s (l.map D4) (oL s l) kd y)=0:=by
 unfold thO;cases hu:thA s kd y with
 | none=>exact A8W
 | some u =>
  have hm:=(B1D hs hk hu).1;refine B67 (A8X hl) (by rw[A3M]; simp) fun o ho=>?_;rw[A3M] at ho;obtain⟨x,hx,rfl⟩:=List.mem_map.1 ho;exact h u hm x hx
theorem C0n{s:I4}(hs:RtS s):∀(n:Nat) (x:F5) (t:Tg),x.sz<n->t∈s.things->v6 x.kids []=0->U7 (oS s x t)=0
 | 0,x,t,h,_,_=>by omega
 | n+1,x,t,h,ht,hx=>by
  have hz:=A4o x;have hto:=hs.tg t ht;have hkid:∀u∈s.things,∀z∈x.kids,U7 (oS s z u)=0:=fun u hu z hz'=>by
   obtain⟨i,hi⟩:=List.mem_iff_getElem?.1 hz';exact C0n hs n z u (by have:=A1M hz'; omega) hu (A5E hx i z hi).2
  rw[C0l];split
  ·have:=hto.id1; have:=hto.id2; exact B66 (by omega)
  cases hfc:A8K s t x.name with
  | none=>exact A8W
  | some fc =>
  obtain⟨f,c⟩:=fc;simp only;have hc:=B7b hto hfc;unfold A2i at hc;split at hc
  ·cases hc
  split at hc
  ·cases hc
  rename_i c2;split at hc
  ·cases hc
  rename_i c3;split
  ·exact B66 (Classical.byContradiction c2)
  split
  ·exact C0m (by omega)
  split
  ·refine B3P fun o ho=>?_;obtain⟨y,hy,rfl⟩:=List.mem_map.1 ho;exact A71 hs hx hkid (A0w _ _ hs.sch.len) y
  split
  ·exact A8W
  ·exact A71 hs hx hkid (A0w _ _ hs.sch.len) _
theorem C44{s:I4}(hs:RtS s){q:List F5}(hq:v6 q []=0):U7 (qO s q)=0:=by
 refine B67 (A8X hq) (by simp) fun o ho=>?_;obtain⟨x,hx,rfl⟩:=List.mem_map.1 ho;obtain⟨i,hi⟩:=List.mem_iff_getElem?.1 hx;have hl:=(A5E hq i x hi).2;have hkid:∀u∈s.things,∀z∈x.kids,U7 (oS s z u)=0:=fun u hu z hz'=>by
  obtain⟨i,hi⟩:=List.mem_iff_getElem?.1 hz';exact C0n hs (z.sz+1) z u (Nat.lt_succ_self _) hu (A5E hl i z hi).2
 unfold rtO;split
 ·refine B3P fun o ho=>?_;obtain⟨y,hy,rfl⟩:=List.mem_map.1 ho;exact A71 hs hl hkid (A0w _ _ hs.sch.len) y
 ·exact A71 hs hl hkid (A0w _ _ hs.sch.len) _
theorem C5Q{s:I4}{q:List F5}(hw:qW s q<=2000):(qO s q).sz<=100000000000:=by
 have:=C5P s q; omega
theorem B1V{s:List UInt8}{e:Int}(h:A3p s = .error e):e≠0:=by
 unfold A3p at h;split at h
 ·rename_i hl;injection h with h
  exact h▸B1S hl
 ·unfold A3K at h;split at h
  ·injection h with h; omega
  ·split at h
   ·cases h
   ·rename_i hn;injection h with h
    exact h▸hn
theorem C5R{s:List UInt8}{m:List F5}(h:A3p s = .ok m):szL m<=300:=by
 unfold A3p at h;split at h
 ·cases h
 rename_i l hl;have h3:=((B12 s l).1 hl).2.2;unfold A3K at h;split at h
 ·cases h
 rename_i q hq;unfold B13 at hq;split at hq
 ·cases hq
 rename_i q' u hp;have:=(A8U _).2.1 _ _ _ hp;split at hq
 ·injection hq with hq
  subst hq;split at h
  ·injection h with h
   subst h; omega
  ·cases h
 ·cases hq
theorem A8Y{E:Q7}{σ:St}{k:List Itm}{dst:Option Nat}{g:Option (Nat×Bool)}{us:List Nat}{op:COp}{l:List CR}{j:Nat}{acc:List RR}{ps:List (Nat×Nat)}(hg:A2r (lk σ.fr) g)(hc:Y1 (lk σ.fr) g=false)
  (h:Wk E (.ops l (j+1) (A18 ps ⟨false,.nilp,[],[]⟩ acc) ps::k) (σ.app dst ⟨false,.nilp,[],[]⟩)):Wk E (.ops (⟨dst,g,us,op⟩::l) j acc ps::k) σ :=
 A6W (r:=⟨false,.nilp,[],[]⟩) ⟨hg,hc.symm,(fun h=>by cases h),fun _=>rfl⟩ (A0J h)
theorem C2K{s:I4}{q:List F5}(h:Rt s)(hq:V3 q=0):U7 (qO s q)=0:=C44 (C03 h.st) (A2Y hq).2.2.1
theorem A72(l:List Ty)(d:Dk)(text:List UInt8)(n:Int)(id:Nat):A2 Tryz.prog 20 [.sl (l.map J3),eDk d,.str text,.int .i64 n] [] id (.tup [.str (A0Q l d text n).1,.int .i64 (A0Q l d text n).2]) []:=by
 have hO:=fun id=>B14 l d id;have hQ:=fun id=>B3O text id;unfold eDk at hO ⊢;by_cases h:opE l d=0
 rotate_left
 ·have e:A0Q l d text n=([],opE l d):=by unfold A0Q; rw[if_pos h]
  rw[e];simp only[B4d h,B4e h] at hO;have hb:(opE l d==0)=false:=by simpa using h
  refine w20.e.1 fun E hP hR hl hid=>?_;simp[w20];refine E0 hP rfl (hO _) (by simp) (by simp<;>rfl) ?_;refine A3 56 ?_;simp[hb];refine A8Y (by simp[hb]) (by simp[hb]) (A8Y (by simp[hb]) (by simp[hb]) (A8Y (by simp[hb]) (by simp[hb]) (A8Y (by simp[hb]) (by simp[hb]) (A8Y (by simp[hb]) (by simp[hb]) ?_))));refine A3 4000 ?_;simp[hb];refine B2 (by simpa using h) ?_;simp;exact yP hR
 rw[h] at hO;simp only[C0g,C0h,B1T] at hO;have ho:=A23.1 h;have hbs:=A6y ho.disk;by_cases hr:n<0\/((H0 d.seg).length:Int)<n
 ·have e:A0Q l d text n=([],3):=by unfold A0Q; rw[if_neg (by simpa using h),if_pos hr]
  rw[e];refine w20.e.1 fun E hP hR hl hid=>?_;simp[w20];(refine yH rfl (hO _) ?_; simp);refine B2 (by rw[Bool.or_eq_true,decide_eq_true_eq,decide_eq_true_eq]; exact hr) ?_;simp;exact yP hR
 have hA:A0Q l d text n=match A3p text with
  | .error e=>([],e)
  | .ok q=>if A1w l q≠0 then ([],A1w l q) else if qW (z7 l d n.toNat) q<=2000 then (jS (qO (z7 l d n.toNat) q),0) else ([],2):=by
  unfold A0Q; rw[if_neg (by simpa using h),if_neg hr]<;>rfl
 rw[hA];have hcond:(decide (n<0)||decide (((H0 d.seg).length:Int)<n))=false:=by
  rw[Bool.or_eq_false_iff,decide_eq_false_iff_not,decide_eq_false_iff_not]; omega
 obtain⟨m,rfl⟩:∃m:Nat,n=(m:Int):=⟨n.toNat,by omega⟩;rw[Int.toNat_natCast];cases hq:A3p text with
 | error e =>
  have hne:e≠0:=B1V hq;rw[hq] at hQ;have hQ:∀id,A2 Tryz.prog 16 [.str text] [] id (.tup [.nils,.int .i64 e]) []:=hQ;show A2 _ _ _ _ _ (.tup [.str [],.int .i64 e]) _;have hb:(e==0)=false:=by simpa using hne
  refine w20.e.1 fun E hP hR hl hid=>?_;simp[w20];(refine yH rfl (hO _) ?_; simp);refine A0 (by simp; omega) ?_;simp;(refine yC rfl (hQ _) ?_; simp[hb]);refine B2 (by simpa using hne) ?_;simp;exact yP hR
 | ok q =>
  rw[hq] at hQ;have hQ:∀id,A2 Tryz.prog 16 [.str text] [] id (.tup [.sl (q.map D7),.int .i64 0]) []:=hQ;have hS:=A6J ho.types;have hqz:szL q<=300:=C5R hq;have hq2:V3 q=0:=C3g hq;have hS5:=hS.len;have hF:=fun id=>C1b l q id hS.linked (by omega) (fun t ht=>by have:=hS.fields t ht; omega) (by omega);have hev:=fun j id=>A9s j (.sl ((opS l d).types.map J3)) (.sl ((opS l d).things.map X2)) (by simp[AV.pureB]) (by simp[AV.pureB]) (H0 d.seg) m (by omega) id (by omega) fun b hb=>(A25 (hbs.2 b hb)).1;unfold bxQ at hev;by_cases hf:A1w l q=0
  rotate_left
  ·have hb:(A1w l q==0)=false:=(by simpa using hf);simp only[if_pos hf];refine w20.e.1 fun E hP hR hl hid=>?_;simp[w20];(refine yH rfl (hO _) ?_; simp);refine A0 (by simp; omega) ?_;simp;(refine yH rfl (hQ _) ?_; simp);(refine yH rfl (hF _) ?_; simp);refine B2 (by simpa using hf) ?_;simp;exact yP hR
  rw[hf] at hF;simp only[hf,ne_eq,not_true_eq_false,if_false];obtain⟨hrt,hty,hal⟩:=C0k h m;have hAll:=fun id=>B9V l (P1 ((H0 d.seg).take m)) id (A8F fun b hb=>hbs.2 b (List.mem_of_mem_take hb)) (by
   have:=A86 (l:=(H0 d.seg).take m) fun b hb=>(A25 (hbs.2 b (List.mem_of_mem_take hb))).1;rw[List.length_take] at this; omega)
  have hat:atE l (P1 ((H0 d.seg).take m)) ((P1 ((H0 d.seg).take m)).length:Int)=0:=by
   unfold atE;rw[if_neg (by simpa using ho.types),if_neg (by omega)];simpa using hal
  have has:atS l (P1 ((H0 d.seg).take m)) ((P1 ((H0 d.seg).take m)).length:Int)=z7 l d m:=by
   unfold atS z7;simp
  rw[hat,has] at hAll;have hRaw:=fun id=>C3o (C03 hrt.st) q (by rw[hty]; exact hf) (by omega) id;rw[show A1d 0 (z7 l d m)=I2 (z7 l d m) from rfl] at hAll;rw[show I2 (z7 l d m) = .agg [.sl ((z7 l d m).types.map J3),.sl ((z7 l d m).things.map X2)] from rfl] at hAll;simp only[show I2 (z7 l d m) = .agg [.sl ((z7 l d m).types.map J3),.sl ((z7 l d m).things.map X2)] from rfl] at hRaw;by_cases hw:qW (z7 l d m) q<=2000
  ·have hJ:=fun id=>A5w ((qO (z7 l d m) q).sz+1) (qO (z7 l d m) q) id (by omega) (C5Q hw) (C2K hrt hq2);rw[if_pos hw];rw[show B1G (z7 l d m) q=eO (qO (z7 l d m) q) by unfold B1G; rw[if_pos hw],decide_eq_true hw] at hRaw;generalize qO (z7 l d m) q=o at *;obtain⟨ok,on,ot,oks,ols,hoe⟩:∃(a b:Int) (c:List UInt8) (d:List (List UInt8)) (e:List H4),eO o = .agg [.int .i64 a,.int .i64 b,.str c,.sl (d.map .str),.sl (e.map eO)]:=by
    cases o with|mk a b c d e=>exact⟨a,b,c,d,e,A1T a b c d e⟩
   rw[hoe] at hRaw hJ;refine w20.e.1 fun E hP hR hl hid=>?_;simp[w20];(refine yH rfl (hO _) ?_; simp);refine A0 (by simp; omega) ?_;simp;(refine yH rfl (hQ _) ?_; simp);(refine yH rfl (hF _) ?_; simp);(refine yH rfl (hev _ _) ?_; simp);(refine yH rfl (hAll _) ?_; simp);(refine yH rfl (hRaw _) ?_; simp);(refine yH rfl (hJ _) ?_; simp);exact yP hR
  ·rw[if_neg hw];rw[show B1G (z7 l d m) q=s8 by unfold B1G; rw[if_neg hw],decide_eq_false hw] at hRaw;unfold s8 at hRaw;refine w20.e.1 fun E hP hR hl hid=>?_;simp[w20];(refine yH rfl (hO _) ?_; simp);refine A0 (by simp; omega) ?_;simp;(refine yH rfl (hQ _) ?_; simp);(refine yH rfl (hF _) ?_; simp);(refine yH rfl (hev _ _) ?_; simp);(refine yH rfl (hAll _) ?_; simp);(refine yH rfl (hRaw _) ?_; simp);exact yP hR
def B1W(s:I4)(bs:List Bt)(d:Dk)(n:Int)(text:List UInt8):ApS :=
 match A3p text with
 | .error e=>⟨⟨[],0⟩,e⟩
 | .ok q=>if cdE s q≠0 then ⟨⟨[],0⟩,cdE s q⟩ else if bs.length=20 then ⟨⟨[],0⟩,2⟩
  else if (F1 ⟨(whole d.seg).seg,(whole d.seg).syn⟩ ⟨n,I8 s.types q⟩).e≠0 then ⟨⟨[],0⟩,(F1 ⟨(whole d.seg).seg,(whole d.seg).syn⟩ ⟨n,I8 s.types q⟩).e⟩
  else A0S (F1 ⟨(whole d.seg).seg,(whole d.seg).syn⟩ ⟨n,I8 s.types q⟩).d
theorem C45(s:I4)(bs:List Bt)(d:Dk)(n:Int)(text:List UInt8)(j:Nat)(id:Nat)(hI:B9P s)(hl8:bs.length<=1000000)(h8:d.seg.length<=8)(h4:(B3 d.seg).length<=400):A2 Tryz.prog 51 [.ptr j 0 0,eDk d,.int .i64 n,.str text] [(j,bxO s bs)] id (.tup [eDk (B1W s bs d n text).d,.int .i64 (B1W s bs d n text).e]) []:=by
 have hQ:=fun id=>B3O text id;have hW:=fun id=>A7b d.seg d.syn id h8 h4;unfold eDk at *;rw[B1T];unfold B1W;cases hq:A3p text with
 | error e =>
  have hne:e≠0:=B1V hq;rw[hq] at hQ;have hQ:∀id,A2 Tryz.prog 16 [.str text] [] id (.tup [.nils,.int .i64 e]) []:=hQ;show A2 _ _ _ _ _ (.tup [.agg [.sl [],.int .i64 0],.int .i64 e]) _;refine w51.e.1 fun E hP hR hl hid=>?_;simp[w51];have hj:=hl (j,_) (List.mem_cons_self ..);simp only at hj;have j1:=lf hj;(refine yC rfl (hQ _) ?_; simp[j1]);refine B2 (by simpa using hne) ?_;simp[j1];refine yE hR [] (by simp[j1,A4 hid]) fun hrn=>⟨?_,?_,?_,?_,?_,?_⟩<;>(try simp[j1,A4 hid])
 | ok q =>
  rw[hq] at hQ;have hQ:∀id,A2 Tryz.prog 16 [.str text] [] id (.tup [.sl (q.map D7),.int .i64 0]) []:=hQ;have hqz:szL q<=300:=C5R hq;have hD:=fun id=>C3d s q id hI (by omega);rw[show I2 s = .agg [.sl (s.types.map J3),.sl (s.things.map X2)] from rfl] at hD;show A2 _ _ _ _ _ (.tup [.agg [.sl ((if cdE s q≠0 then _ else _:ApS).d.seg.map AV.str),.int .i64 (if cdE s q≠0 then _ else _:ApS).d.syn],.int .i64 (if cdE s q≠0 then _ else _:ApS).e]) _;by_cases h1:cdE s q=0
  rotate_left
  ·rw[if_pos h1];rw[A02,if_neg h1,show evV (cdE s q) (I8 s.types q) = .nils by unfold evV; rw[if_neg h1]] at hD;rw[show eS0 = .agg [.nils,.nils] from rfl] at hD;refine w51.e.1 fun E hP hR hl hid=>?_;simp[w51];have hj:=hl (j,_) (List.mem_cons_self ..);simp only at hj;have j1:=lf hj;(refine yC rfl (hQ _) ?_; simp[j1]);(refine yC rfl (hD _) ?_; simp[j1]);refine B2 (by simpa using h1) ?_;simp[j1];refine yE hR [] (by simp[j1,A4 hid]) fun hrn=>⟨?_,?_,?_,?_,?_,?_⟩<;>(try simp[j1,A4 hid])
  rw[h1] at hD;rw[A02,if_pos rfl,show evV 0 (I8 s.types q) = .sl ((I8 s.types q).map R4) from rfl] at hD;rw[show I2 (o6 s (I8 s.types q)) = .agg [.sl ((o6 s (I8 s.types q)).types.map J3),.sl ((o6 s (I8 s.types q)).things.map X2)] from rfl] at hD;generalize o6 s (I8 s.types q)=s2 at *;rw[if_neg (by simpa using h1)];by_cases h2:bs.length=20
  ·rw[if_pos h2];refine w51.e.1 fun E hP hR hl hid=>?_;simp[w51];have hj:=hl (j,_) (List.mem_cons_self ..);simp only at hj;have j1:=lf hj;(refine yC rfl (hQ _) ?_; simp[j1]);(refine yC rfl (hD _) ?_; simp[j1]);refine B2 (by simp[h2]) ?_;simp[j1];refine yE hR [] (by simp[j1,A4 hid]) fun hrn=>⟨?_,?_,?_,?_,?_,?_⟩<;>(try simp[j1,A4 hid])
  rw[if_neg h2];have hA:=fun id=>A5X ⟨(whole d.seg).seg,(whole d.seg).syn⟩ ⟨n,I8 s.types q⟩ id;have hS:=fun id=>B5D (F1 ⟨(whole d.seg).seg,(whole d.seg).syn⟩ ⟨n,I8 s.types q⟩).d id;have h2b:((bs.length:Int)==20)=false:=by simp; omega
  simp only[eDk,p7] at hA hS;by_cases h3:(F1 ⟨(whole d.seg).seg,(whole d.seg).syn⟩ ⟨n,I8 s.types q⟩).e=0
  rotate_left
  ·rw[if_pos h3];generalize F1 ⟨(whole d.seg).seg,(whole d.seg).syn⟩ ⟨n,I8 s.types q⟩=r at *;refine w51.e.1 fun E hP hR hl hid=>?_;simp[w51];have hj:=hl (j,_) (List.mem_cons_self ..);simp only at hj;have j1:=lf hj;(refine yC rfl (hQ _) ?_; simp[j1]);(refine yC rfl (hD _) ?_; simp[j1]);refine A0 (by simp; omega) ?_;simp[j1];(refine yC rfl (hW _) ?_; simp[j1]);(refine yC rfl (hA _) ?_; simp[j1]);refine B2 (by simpa using h3) ?_;simp[j1];refine yE hR [] (by simp[j1,A4 hid]) fun hrn=>⟨?_,?_,?_,?_,?_,?_⟩<;>(try simp[j1,A4 hid])
  rw[if_neg (by simpa using h3)];rw[h3] at hA;generalize F1 ⟨(whole d.seg).seg,(whole d.seg).syn⟩ ⟨n,I8 s.types q⟩=r at *;generalize A0S r.d=z at *;refine w51.e.1 fun E hP hR hl hid=>?_;simp[w51];have hj:=hl (j,_) (List.mem_cons_self ..);simp only at hj;have j1:=lf hj;(refine yC rfl (hQ _) ?_; simp[j1]);(refine yC rfl (hD _) ?_; simp[j1]);refine A0 (by simp; omega) ?_;simp[j1];(refine yC rfl (hW _) ?_; simp[j1]);(refine yC rfl (hA _) ?_; simp[j1]);(refine yC rfl (hS _) ?_; simp[j1]);refine yE hR [] (by simp[j1,A4 hid]) fun hrn=>⟨?_,?_,?_,?_,?_,?_⟩<;>(try simp[j1,A4 hid])
def A0n(l:List Ty)(d:Dk)(n:Int)(text:List UInt8):ApS :=
 if opE l d≠0 then ⟨⟨[],0⟩,opE l d⟩
 else if ¬(1<=n/\n<=65535) then ⟨⟨[],0⟩,3⟩
 else if (H0 d.seg).any (fun b=>b.number==n)=true then ⟨⟨(whole d.seg).seg,(whole d.seg).syn⟩,0⟩
 else B1W (opS l d) (H0 d.seg) d n text
theorem A2e(l:List Ty)(d:Dk)(n:Int)(text:List UInt8)(id:Nat):A2 Tryz.prog 15 [.sl (l.map J3),eDk d,.int .i64 n,.str text] [] id (.tup [eDk (A0n l d n text).d,.int .i64 (A0n l d n text).e]) []:=by
 have hO:=fun id=>B14 l d id;have hN:=fun id=>A7X n id;unfold eDk at hO ⊢;by_cases h:opE l d=0
 rotate_left
 ·have e:A0n l d n text=⟨⟨[],0⟩,opE l d⟩:=by unfold A0n; rw[if_pos h]
  rw[e];simp only[B4d h,B4e h] at hO;have hb:(opE l d==0)=false:=by simpa using h
  refine w15.e.1 fun E hP hR hl hid=>?_;simp[w15];(refine yH rfl (hO _) ?_; simp);refine B2 (by simpa using h) ?_;simp;refine yE hR [] (by simp[A4 hid]) fun hrn=>⟨?_,?_,?_,?_,?_,?_⟩<;>(try simp[A4 hid])
 rw[h] at hO;simp only[C0g,C0h] at hO;have ho:=A23.1 h;have hbs:=A6y ho.disk;have hsz:=x6 (d:=d) (by rw[ho.disk]; decide);have h4:=A1v hsz.2;have hI:=(C5O h).1.idsI;have hW:=fun id=>A7b d.seg d.syn id hsz.1 h4;have hC:=fun j id=>A9Z 49 j (.int .i64 n) (.int .i64 n) n rfl (fun x id=>C1W x n j id) (H0 d.seg) id (by omega);have hA:=fun j id=>C45 (opS l d) (H0 d.seg) d n text j id hI (by omega) hsz.1 h4;simp only[B1T,eDk] at hO hA;by_cases h1:1<=n/\n<=65535
 rotate_left
 ·have e:A0n l d n text=⟨⟨[],0⟩,3⟩:=by unfold A0n; rw[if_neg (by simpa using h),if_pos h1]
  rw[e];have hb:(decide (1<=n)&&decide (n<=65535))=false:=by
   rw[Bool.and_eq_false_iff,decide_eq_false_iff_not,decide_eq_false_iff_not]; omega
  rw[hb] at hN;refine w15.e.1 fun E hP hR hl hid=>?_;simp[w15];(refine yH rfl (hO _) ?_; simp);(refine yH rfl (hN _) ?_; simp);refine yE hR [] (by simp[A4 hid]) fun hrn=>⟨?_,?_,?_,?_,?_,?_⟩<;>(try simp[A4 hid])
 have hb:(decide (1<=n)&&decide (n<=65535))=true:=by
  rw[Bool.and_eq_true,decide_eq_true_eq,decide_eq_true_eq]; exact h1
 rw[hb] at hN;by_cases h2:(H0 d.seg).any (fun b=>b.number==n)=true
 ·have e:A0n l d n text=⟨⟨(whole d.seg).seg,(whole d.seg).syn⟩,0⟩:=by unfold A0n; rw[if_neg (by simpa using h),if_neg (by simpa using h1),if_pos h2]
  rw[e];simp only[h2] at hC;refine w15.e.1 fun E hP hR hl hid=>?_;simp[w15];(refine yH rfl (hO _) ?_; simp);(refine yH rfl (hN _) ?_; simp);(refine yH rfl (hC _ _) ?_; simp);(refine yH rfl (hW _) ?_; simp);exact yP hR
 have e:A0n l d n text=B1W (opS l d) (H0 d.seg) d n text:=by unfold A0n; rw[if_neg (by simpa using h),if_neg (by simpa using h1),if_neg h2]
 rw[e];have h2:(H0 d.seg).any (fun b=>b.number==n)=false:=by simpa using h2
 simp only[h2] at hC;generalize B1W (opS l d) (H0 d.seg) d n text=z at *;refine w15.e.1 fun E hP hR hl hid=>?_;simp[w15];(refine yH rfl (hO _) ?_; simp);(refine yH rfl (hN _) ?_; simp);(refine yH rfl (hC _ _) ?_; simp);(refine yH rfl (hA _ _) ?_; simp);exact yP hR
theorem B3Q{l:List (List UInt8)}{syn:Int}{b:Bt}(g:A2R l)(hc:C6 ⟨l,syn⟩=0)(he:(F1 ⟨l,syn⟩ b).e=0):
  A2R (F1 ⟨l,syn⟩ b).d.seg/\C6 (F1 ⟨l,syn⟩ b).d=0/\H0 (F1 ⟨l,syn⟩ b).d.seg=H0 l++[b]/\(C5 (B3 (F1 ⟨l,syn⟩ b).d.seg) 0).last=(B3 (F1 ⟨l,syn⟩ b).d.seg).length/\H8 b=0/\(C5 (B3 l) 0).last=(B3 l).length /\
  ((F1 ⟨l,syn⟩ b).d=⟨A0h l (B3 l++A7 b),syn⟩/\l≠[]\/(F1 ⟨l,syn⟩ b).d=⟨l++[A7 b],0⟩):=by
 obtain⟨z1,z2,z3,z4⟩:=p8 hc;simp only at z2 z3 z4;unfold F1 at he ⊢;simp only at he ⊢;rw[hc] at he ⊢;rw[if_neg (by decide)] at he ⊢;split at he
 ·rename_i h; exact (h he).elim
 ·rename_i hb;rw[if_neg hb];have hb:H8 b=0:=Classical.byContradiction hb;split at he
  ·simp at he
  ·rename_i hw;rw[if_neg hw];have hwl:(C5 (B3 l) 0).last=(B3 l).length:=by
    have:=(M8 (B3 l) 0 (by omega)).2.1;omega
   split at he
   ·rename_i hp;rw[if_pos hp];obtain⟨c1,c2,c3⟩:=C1V (B3 l) b hb hwl;have g':A2R (A0h l (B3 l++A7 b)):=g.set (by simp; omega) c3;have hls:=A7f hp.1 (B3 l++A7 b);refine⟨g',?_,?_,by simp only[hls]; exact c2,hb,hwl,.inl ⟨rfl,hp.1⟩⟩
    ·have e:syn=(syn.toNat:Int):=(by omega);rw[e];refine g'.check syn.toNat ?_;rw[hls];have h1:=B2M (B3 l++A7 b) syn.toNat (by simp; omega) 0 (by omega);rw[List.take_append_of_le_length (by omega)] at h1;rw[←h1,B2M (B3 l) syn.toNat (by omega) 0 (by omega)];exact z4
    ·simp only;rw[B2R hp.1,c1,A9Y hp.1,List.append_assoc]
   ·rename_i hp;rw[if_neg hp];split at he
    ·simp at he
    ·rename_i h8;rw[if_neg h8];have hbl:(A7 b).length<=400:=(by have:=A1J b hb; simp[A7]; omega);have hone:=B5E b hb;have hl8:=g.h8;have g':A2R (l++[A7 b]):=g.snoc (by omega) hbl (by rw[hone]) fun _=>hwl;refine⟨g',?_,?_,?_,hb,hwl,.inr rfl⟩
     ·refine g'.check 0 ?_;rw[A7g,hone]; simp
     ·simp[H0,hone]
     ·simp only[A7g,hone]
end Go.Am
namespace Go.Am
open Go Go.RowKit
end Go.Am
namespace Go.Am
open Go Go.Proofs Go.RowKit
theorem B3R(l:List (List UInt8))(n k:Int)(hk:0<=k)(hn:n=(B3 l).length):A7e ⟨l,n⟩ k=⟨l,n⟩:=by
 unfold A7e;rw[if_neg (by rintro⟨_,h⟩; simp only at h; omega)]
structure C5r(l:List Ty)(d x:Dk)(n:Int):Prop where
 was:DOk l d
 now:DOk l x
 syn:x.syn=(B3 x.seg).length
 lst:(C5 (B3 x.seg) 0).last=(B3 x.seg).length
 rng:1<=n/\n<=65535
 bts:((H0 d.seg).any (fun b=>b.number==n)=true/\H0 x.seg=H0 d.seg)\/((H0 d.seg).any (fun b=>b.number==n)=false/\∃ev,H0 x.seg=H0 d.seg++[⟨n,ev⟩])
theorem B7c{d:Dk}(h:(A0S d).e=0):(A0S d).d=⟨d.seg,(B3 d.seg).length⟩:=by
 unfold A0S at h ⊢;split at h
 ·exact absurd h (by assumption)
 rename_i h1;rw[if_neg h1];split at h
 ·cases h
 rename_i h2;rw[if_neg h2]
theorem C46{l:List Ty}{d:Dk}{n:Int}{text:List UInt8}(h:(A0n l d n text).e=0):C5r l d (A0n l d n text).d n:=by
 have hc:A0n l d n text=if opE l d≠0 then ⟨⟨[],0⟩,opE l d⟩ else if ¬(1<=n/\n<=65535) then ⟨⟨[],0⟩,3⟩ else if (H0 d.seg).any (fun b=>b.number==n)=true then ⟨⟨(whole d.seg).seg,(whole d.seg).syn⟩,0⟩ else B1W (opS l d) (H0 d.seg) d n text:=rfl
 rw[hc] at h ⊢;by_cases h0:opE l d=0
 rotate_left
 ·rw[if_pos h0] at h; exact absurd h h0
 rw[if_neg (by simpa using h0)] at h ⊢;by_cases h1:1<=n/\n<=65535
 rotate_left
 ·rw[if_pos h1] at h; cases h
 rw[if_neg (by simpa using h1)] at h ⊢;have ho:=A23.1 h0;have g:=B5G ho.disk;obtain⟨w1,w2,w3,w4,w5,w6⟩:=B42 g;by_cases h2:(H0 d.seg).any (fun b=>b.number==n)=true
 ·rw[if_pos h2] at h ⊢;exact⟨ho,⟨ho.types,w2,by rw[w3]; exact ho.once,by rw[w3]; exact ho.all⟩,by show ((whole d.seg).syn:Int)=_; rw[w6],w5,h1,.inl ⟨h2,w3⟩⟩
 rw[if_neg h2] at h ⊢;have h2:(H0 d.seg).any (fun b=>b.number==n)=false:=by simpa using h2
 unfold B1W at h ⊢;cases hq:A3p text with
 | error e=>rw[hq] at h; exact absurd h (B1V hq)
 | ok q =>
  rw[hq] at h;simp only at h ⊢;by_cases h3:cdE (opS l d) q=0
  rotate_left
  ·rw[if_pos h3] at h; exact absurd h h3
  rw[if_neg (by simpa using h3)] at h ⊢;by_cases h4:(H0 d.seg).length=20
  ·rw[if_pos h4] at h; cases h
  rw[if_neg h4] at h ⊢;by_cases h5:(F1 ⟨(whole d.seg).seg,(whole d.seg).syn⟩ ⟨n,I8 (opS l d).types q⟩).e=0
  rotate_left
  ·rw[if_pos h5] at h; exact absurd h h5
  rw[if_neg (by simpa using h5)] at h ⊢;obtain⟨a1,a2,a3,a4,_⟩:=B3Q w1 w2 h5;rw[B7c h];have hall:H0 (F1 ⟨(whole d.seg).seg,(whole d.seg).syn⟩ ⟨n,I8 (opS l d).types q⟩).d.seg=H0 d.seg++[⟨n,I8 (opS l d).types q⟩]:=by rw[a3,w3]
  refine⟨ho,⟨ho.types,a1.check _ ?_,?_,?_⟩,rfl,a4,h1,.inr ⟨h2,_,hall⟩⟩
  ·rw[←a4]; exact B2Q _
  ·show A5r [] (H0 (F1 _ _).d.seg)=false;rw[hall,B9t,ho.once]; simpa using h2
  ·show T9 ⟨l,[]⟩ (P1 (H0 (F1 _ _).d.seg))=0;rw[hall,B33,B9s,B9q ho.all];exact (B9h h3).2
theorem C0o{l:List Ty}{d x:Dk}{r:List Bt}(h:H0 x.seg=H0 d.seg++r){m:Nat}(hm:m<=(H0 d.seg).length):z7 l x m=z7 l d m:=by
 unfold z7;rw[h,List.take_append_of_le_length hm]
theorem B3S{l:List Ty}{d x:Dk}{r:List Bt}(hd:opE l d=0)(hx:opE l x=0)(h:H0 x.seg=H0 d.seg++r){text:List UInt8}{n:Int}(h0:(A0Q l d text n).2=0):A0Q l x text n=A0Q l d text n:=by
 unfold A0Q at h0 ⊢;rw[if_neg (show ¬opE l d≠0 from fun g=>g hd)] at h0 ⊢;rw[if_neg (show ¬opE l x≠0 from fun g=>g hx)];by_cases hr:n<0\/((H0 d.seg).length:Int)<n
 ·rw[if_pos hr] at h0; cases h0
 have hl:(H0 x.seg).length=(H0 d.seg).length+r.length:=by rw[h,List.length_append]
 rw[if_neg hr,if_neg (by rw[hl]; omega),C0o h (by omega)]
theorem B7d{x:Dk}(h:x.syn=(B3 x.seg).length){k:Int}(hk:0<=k):A7e x k=x:=by
 cases x with|mk l n=>exact B3R l n k hk h
end Go.Am
