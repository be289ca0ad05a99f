/- Parts of the proof: an abstract machine for Go functions, and what functions of the program give back (Qr10, Qr11, Qr12, Qr13, Dw4, Dp2, Dp3, Dw5, Dw6, Dw7, Dk13, Dk14, Dk15, Dk16, Dp4). No condition. -/
import Derived.Test.YtphjabjjnncebaaGreatDoorXT
import Derived.Test.YtphjabjjnncebaaGreatDoorXQ
import Derived.Test.YtphjabjjnncebaaGreatDoorXR
import Derived.Test.YtphjabjjnncebaaGreatDoorXS
import Derived.Test.YtphjabjjnncebaaGreatDoorXP
import Derived.Test.YtphjabjjnncebaaGreatDoorXI
set_option maxRecDepth 100000
set_option linter.all false
set_option maxHeartbeats 16000000
namespace Go.Am
open Go Go.Proofs Go.RowKit
theorem C0s(E:R4)(e:Int)(y:Int)(J:Nat)(h4:J<E.n0)(hR:∀fr bx k,bk bx J=some (F1 e)->(∀q∈bx,q.1=J\/E.n0<=q.1)->E.Rt ⟨fr,bx,k⟩):
  Wk E [.code B1G] ⟨[(0,true,.ptr J 0 0),(1,true,erV e)],[(J,some (F1 y))],0⟩:=by
 unfold erV F1;have e4:∀t,(J=E.n0+t)=False:=fun t=>by simp; omega
 refine A3 4000 ?_;simp[B1G,e4];refine hR _ _ _ ?_ ?_
 ·simp[e4,F1]
 ·simp
theorem C5k{x x' z:Code}{X:Operand}{Y:Code}(h:Tryz.f109.body=some (.seq x (.seq x' (.cond X Y z)))):D3 Tryz.prog Tryz.f109.ntmps Y=B1G:=by
 have h0:=C43;rw[h] at h0;simp only[vf,zd,C2v] at h0;obtain⟨_,_,e1,_,h1⟩:=H4 h0;injection e1 with _ e1
 subst e1;obtain⟨_,_,e2,_,h2⟩:=H4 h1;injection e2 with _ e2
 subst e2;obtain⟨_,_,_,e3,_,h3,_⟩:=A13 h2;injection e3 with _ e3 _
 subst e3;exact h3
theorem C0t(C:Cx Tryz.prog)(G:Gh)(B:Nat->Option Bx)(w:World)(er:Int)(y:Int)(n0 J:Nat)(v4 u:Value)(hs:RS C G B w)(hv4:RV G w (.ptr J 0 0) v4)(hu:RV G w (erV er) u)
  (h4:B J=some (F1 y)) (hold:∀x,G.used x->x<n0) (how:∀x,n0<=x->B x=none) :
  CallsD Tryz.prog 109 #[v4] (.panicking [{ v:=u,recovered:=false }]) w fun e u' w'=>u' = .panicking [{ v:=u,recovered:=true }]/\(∃v,e = .returned v) /\
   ∃G' l k,RS C G' (ov B l) w'/\M0 G w G' w'/\bk l J=some (F1 er)/\(∀q∈l,q.1=J\/n0<=q.1)/\(∀x,x<n0->G'.used x->G.used x)/\∀x,G'.used x->x<n0+k:=by
 obtain⟨q,rfl⟩:∃q,u = .iface 31 q:=by
  unfold erV at hu;cases hu with|iface _ _ q h=>exact⟨q,rfl⟩
 refine callsD_of_wpS Tryz.func109 rfl fun c₀ cs hm=>?_;apply wpS_seq;apply wpS_region;simp[wpOpsS,go_sem,recoverD,hm,Tryz.ntmps109,Exit.thenS];apply wpS_seq;apply wpS_region;simp[wpOpsS,go_sem,Exit.thenS];refine wpS_cond (t:=true) (by simp[Act.eval,Array.replicate]) ?_;apply wpS_of_wp;simp only[if_true];let E:R4:=⟨Tryz.prog,C,B,Tryz.f109.ntmps,n0,G,w,how,hold,hs,[],fun σ=>bk σ.bx J=some (F1 er)/\∀q∈σ.bx,q.1=J\/n0<=q.1,fun _ _=>False⟩
 have l4:=hold J (hs.boxNames h4).1;have hW:=C0s E er y J l4 fun fr bx k h1 h2=>⟨h1,h2⟩;refine wp_mono (hW _ (C5k rfl) G _ w ?_) fun e a w' hq=>?_
 ·refine⟨M0.refl G w,?_,fun i hi=>by have:=hold i hi; show i<n0+0; omega,fun i _ hi=>hi,fun n c v hl=>?_,?_,rfl⟩
  ·have hh:K5 B [(J,F1 y)]:=fun q hq=>by
    simp at hq;obtain rfl:=hq;exact h4
   have:=A23 hh;simp only[C9] at this;show RS C G (ov B _) w;rw[this]; exact hs
  ·simp only[lk] at hl;repeat' split at hl
   all_goals first|cases hl|skip
   all_goals rename_i hn<;>subst hn<;>refine⟨fun _=>?_,fun h=>by cases h⟩
   ·simpa [zk] using hv4
   ·simpa [zk] using hu
  ·simp[E,Tryz.ntmps109]
 ·have fin:∀σ G',S5 E σ G' a w'->E.Rt σ->∀(cs':List Frame),a.defers=[]/\(∃v,(results Tryz.f109 a.tmps).run Tryz.prog w' = .ok v w')/\∃G' l k,RS C G' (ov B l) w'/\M0 G w G' w'/\bk l J=some (F1 er)/\(∀q∈l,q.1=J\/n0<=q.1)/\(∀x,x<n0->G'.used x->G.used x)/\∀x,G'.used x->x<n0+k:=fun σ G' hD hR _=>by
   refine⟨hD.defers,⟨_,by simp[results,Tryz.results83]; rfl⟩,G',σ.bx,σ.k,hD.rs,hD.ev,hR.1,hR.2,hD.old,hD.used⟩
  cases e with
  | normal =>
   obtain⟨σ,G',h1,h2⟩:=hq;obtain⟨f1,⟨v,f2⟩,g1,g2,g3,d1,d2,d3,d4,d5,d6⟩:=fin σ G' h1 h2 cs;exact⟨f1,_,rfl,v,f2,rfl,⟨v,rfl⟩,g1,g2,d1,d2,d3,fun x y h=>d4 (x,y) h,d5,g3,d6⟩
  | ret =>
   obtain⟨σ,G',h1,h2⟩:=hq;obtain⟨f1,⟨v,f2⟩,g1,g2,g3,d1,d2,d3,d4,d5,d6⟩:=fin σ G' h1 h2 cs;exact⟨f1,_,rfl,v,f2,rfl,⟨v,rfl⟩,g1,g2,d1,d2,d3,fun x y h=>d4 (x,y) h,d5,g3,d6⟩
  | exit id=>obtain⟨σ,G',h1,h2⟩:=hq; exact h2.elim
  | panic chain =>
   obtain⟨pv,u,σ,F,B,U,G',rfl,h1,h2,h3,h4⟩:=hq;exact h4.elim
  | _=>exact hq.elim
theorem C0u(v1:Value)(w:World):CallsD Tryz.prog 109 #[v1] .returning w fun e u' w'=>u' = .returning/\(∃v,e = .returned v)/\w'=w:=by
 refine callsD_of_wpS Tryz.func109 rfl fun c₀ cs hu=>?_;apply wpS_seq;apply wpS_region;simp[wpOpsS,go_sem,recoverD,hu,Tryz.ntmps109,Exit.thenS];apply wpS_seq;apply wpS_region;simp[wpOpsS,go_sem,Exit.thenS];refine wpS_cond (t:=false) (by simp[Act.eval,Array.replicate]) ?_;simp only[xi,if_false];apply wpS_of_wp;refine wp_skip ?_;exact⟨rfl,_,by rw[←hu],_,by simp[results,Tryz.results83]; rfl,rfl,⟨_,rfl⟩,rfl⟩
theorem C6J{a b t u sk m c d e f r:Code}{X:Operand}(h:Tryz.f52.body=some (.seq a (.seq b (.seq (.seq t (.cond X u sk)) (.seq m (.seq c (.seq d (.seq e (.seq f r))))))))):
  D3 Tryz.prog Tryz.f52.ntmps a=B5t/\D3 Tryz.prog Tryz.f52.ntmps b=B5u/\D3 Tryz.prog Tryz.f52.ntmps t=B5v/\D3 Tryz.prog Tryz.f52.ntmps u=B5y/\D3 Tryz.prog Tryz.f52.ntmps c=B5w/\D3 Tryz.prog Tryz.f52.ntmps d=A5G/\D3 Tryz.prog Tryz.f52.ntmps e=A5H/\D3 Tryz.prog Tryz.f52.ntmps (.seq f r) = .seq B5x CC.ret:=by
 have h0:=C5R;rw[h] at h0;simp only[vf,zd,C5O] at h0;obtain⟨_,_,e1,k1,h1⟩:=H4 h0;injection e1 with e1 e1'
 subst e1 e1';obtain⟨_,_,e2,k2,h2⟩:=H4 h1;injection e2 with e2 e2'
 subst e2 e2';obtain⟨_,_,e3,k3,h3⟩:=H4 h2;injection e3 with e3 e3'
 subst e3 e3';obtain⟨_,_,e4,k4,h4⟩:=H4 k3;injection e4 with e4 e4'
 subst e4 e4';obtain⟨_,_,_,e5,_,k5,_⟩:=A13 h4;injection e5 with _ e5 _
 subst e5;obtain⟨_,_,e6,_,h6⟩:=H4 h3;injection e6 with _ e6
 subst e6;obtain⟨_,_,e7,k7,h7⟩:=H4 h6;injection e7 with e7 e7'
 subst e7 e7';obtain⟨_,_,e8,k8,h8⟩:=H4 h7;injection e8 with e8 e8'
 subst e8 e8';obtain⟨_,_,e9,k9,h9⟩:=H4 h8;injection e9 with e9 e9'
 subst e9 e9';exact⟨k1,k2,k4,k5,k7,k8,k9,h9⟩
theorem C4K{a b t m r:Code}(h:Tryz.f52.body=some (.seq a (.seq b (.seq t (.seq m r))))){Q:Exit->Act->World->Prop}{t:Array Value}{w:World}(hsz:15<t.size)
  (hQ:Q .normal ⟨t.setIfInBounds 15 (.func (.func 109) #[] #[t[4]?.getD undef]),[⟨.fn (.func 109) #[t[4]?.getD undef],#[]⟩]⟩ w):m.wp Tryz.prog Q ⟨t,[]⟩ w:=by
 have e:Tryz.f52.body=some (.seq _ (.seq _ (.seq _ (.seq _ _)))):=rfl;rw[e] at h;injection h with h
 injection h with _ h
 injection h with _ h
 injection h with _ h
 injection h with h _
 subst h;refine wp_region ?_;have hmf:∀(fn:Fn) (first cap:Array Value) (w:World),(Instr.makeFunc fn first cap).run Tryz.prog w = .ok (.func fn first cap) w:=fun _ _ _ _=>rfl;simp[wpOps,wpOp,go_sem,hmf,Exit.then,hsz];exact .inl (.inl hQ)
theorem B1c{C:Cx Tryz.prog}{D:List Deferred}{G G':Gh}{w w':World}{bx:Nat->Option Bx}{n0 k id J K:Nat}{F:Fr}{l:List (Nat×Option Bx)}{a:Act}{e:Int}{b0:Bx}{X:Option Bx}(own:∀i,n0<=i->bx i=none)(old:∀i,G.used i->i<n0)(hs:RS C G bx w)(hid:∀x,id<=x->x<id+1024->¬G.used x)
  (hD:F7 C Tryz.f52.ntmps D n0 G w F (ov bx l) (· < n0+k) G' a w') (f4:F 4=some (true,.ptr J 0 0)) (h4:ov bx l J=some (F1 e)) (hK:ov bx l K=X) (hX:∀b,X=some b->F9 b.xs=true) (hb0:bx K=some b0) (hl:∀q∈l,q.1=K\/n0<=q.1) (j4:n0<=J) (hKn:K<n0) :
  ∃v,(results Tryz.f52 a.tmps).run Tryz.prog w' = .ok v w'/\∃G1,RS C G1 (F4 bx [(K,X)]) w'/\M0 G w G1 w'/\RV G1 w' (.int .i64 e) v/\∀x,G1.used x->G.used x\/(id<=x/\x<id+1024):=by
 let E:R4:=⟨Tryz.prog,C,bx,Tryz.f52.ntmps,n0,G,w,own,old,hs,D,fun _=>True,fun _ _=>False⟩
 have hD':S5 E ⟨[(4,true,.ptr J 0 0)],(J,some (F1 e))::(K,X)::l,k⟩ G' a w':=by
  refine⟨hD.ev,?_,hD.used,hD.old,fun n c v hl=>?_,hD.size,hD.defers⟩
  ·show RS C G' (ov bx _) w';simp only[ov];rw[Y2 (f:=ov bx l) hK,Y2 h4];exact hD.rs
  ·simp only[lk] at hl;repeat' split at hl
   all_goals first|cases hl|skip
   all_goals rename_i hn<;>subst hn
   exact hD.fr _ _ _ f4
 have hh:K5 E.β [(K,b0)]:=fun q hq=>by
  simp at hq;obtain rfl:=hq;exact hb0
 refine A7Z (E:=E) (id:=id) (rd:=[(K,b0)]) (wr:=[(K,X)]) (C5Q) hh hid hD' ?_;simp only[C5P];have hJK:J≠K:=by omega
 refine E8 (vs:=[.int .i64 e]) (by simp[F1]) [] trivial ⟨.same _ (I4 _ rfl),?_,?_,?_,trivial,?_⟩
 ·have one:∀b',X=some b'->∃x b,(Q0 n0 [] trivial).ρ K=some x/\bk ((J,some (F1 e))::(K,X)::l) x=some b/\BxR (Q0 n0 [] trivial) G.used b b':=fun b hb=>by
   refine⟨K,b,?_,?_,BxR.same fun i x hx=>I4 _ (A93 (hX b hb) hx)⟩
   ·show rnF n0 [] K=some K;simp[rnF,lkN,hKn]
   ·simp[bk,zt hJK,hb]
  clear hD hD' h4 hK;have hap:F4 (bk (C9 [(K,b0)])) [(K,X)] K=X:=by simp[F4,U8]
  have one':match F4 (bk (C9 [(K,b0)])) [(K,X)] K with
    | none=>True
    | some b'=>∃x b,(Q0 n0 [] trivial).ρ K=some x/\bk ((J,some (F1 e))::(K,X)::l) x=some b/\BxR (Q0 n0 [] trivial) G.used b b':=by
   rw[hap];cases X with
   | none=>trivial
   | some b=>exact one b rfl
  exact⟨one',one',trivial⟩
 ·refine⟨.inl j4,.inr (.inl rfl),?_⟩;clear hD hD' h4 hK;induction l with
  | nil=>trivial
  | cons q l ih =>
   obtain⟨q1,q2⟩:=q;refine⟨?_,ih fun x hx=>hl x (zb _ hx)⟩;rcases hl (q1,q2) (za ..) with h|h
   ·exact .inr (.inl h)
   ·exact .inl h
 ·exact⟨.inl (.inl rfl),trivial⟩
 ·trivial
theorem C2f{c:UInt8}{r:List UInt8}{e:Int}(h:A0Y c r = .error e):e≠0:=by
 unfold A0Y at h;split at h
 ·split at h
  ·cases h
  ·injection h with h; rw[←h]; assumption
 split at h
 ·split at h
  ·injection h with h; omega
  ·cases h
 split at h
 ·split at h
  ·injection h with h; omega
  ·split at h
   ·injection h with h; omega
   ·cases h
 split at h
 ·cases h
 ·injection h with h; omega
theorem B3R:∀(n:Nat) (acc:List Tk) (s:List UInt8) (e:Int),p8 n acc s = .error e->e≠0
 | 0,_,_,e,h=>by unfold p8 at h; injection h with h; omega
 | n+1,acc,s,e,h=>by
  unfold p8 at h;split at h
  ·cases h
  ·split at h
   ·rename_i he;injection h with h
    rw[←h]; exact C2f he
   ·split at h
    ·injection h with h; omega
    ·exact B3R n _ _ _ h
theorem B1d{s:List UInt8}{e:Int}(h:A5E s = .error e):e≠0:=by
 unfold A5E at h;split at h
 ·injection h with h; omega
 ·exact B3R _ _ _ _ h
def A2o(pr:List Tk->Option (AV×List Tk))(s:List UInt8):Int:=match A5E s with
 | .error e=>e
 | .ok l=>match pr l with
  | none=>1
  | some (_,u)=>if u=[] then 0 else 1
def A4Z(pr:List Tk->Option (AV×List Tk))(s:List UInt8):Option Bx:=match A5E s with
 | .error _=>some (lK .nils)
 | .ok l=>match pr l with
  | none=>none
  | some (v,_)=>some (lK v)
def doR(J K:Nat)(z:List Tk):Option (AV×List Tk)->Except AV (AV×List (Nat×Option Bx))
 | none=>.error (erV 1)
 | some (v,u)=>.ok (.tup [],[(J,some (tB z u)),(K,some (lK v))])
def B7n(E:R4)(f n0 K:Nat)(l:List Tk):St :=
 ⟨[(1,true,.fn f [.ptr K 0 0]),(4,true,.ptr n0 0 0),(6,true,.ptr E.n0 0 0)],[(E.n0,some (tB l l)),(n0,some (F1 0)),(K,some (lK .nils))],1⟩
def A5M(E:R4)(n0 K:Nat)(l u:List Tk)(v:AV):St :=
 ⟨[(4,true,.ptr n0 0 0),(6,true,.ptr E.n0 0 0)],[(E.n0,some (tB l u)),(n0,some (F1 0)),(K,some (lK v))],1⟩
def rBg(E:R4)(f K:Nat)(V:AV)(e:Int):St :=
 ⟨[(1,true,.fn f [.ptr K 0 0]),(4,true,.ptr E.n0 0 0),(5,true,V)],[(E.n0,some (F1 e)),(K,some (lK .nils))],1⟩
section
variable (E:R4) (hP:E.P=Tryz.prog) (f K:Nat) (h5:K<E.n0) (s:List UInt8)
include hP h5
theorem C0v(V:AV)(e:Int)(hV:V.pureB=true)(hre:∀id,A2 Tryz.prog 108 [.str s] [] id (.tup [V,.int .i64 e]) []):
  Wk E [.code B5u,.post fun σ=>E4 E σ (rBg E f K V e)] ⟨[(4,true,.ptr E.n0 0 0),(0,true,.str s),(1,true,.fn f [.ptr K 0 0])],[(E.n0,some (F1 0)),(K,some (lK .nils))],1024⟩:=by
 have K1:=S7 h5; have K2:=N9 h5; have K3:=O0 h5; have K4:=L8 h5;unfold F1 lK;refine A3 4000 ?_;simp[B5u,K1,K2,K3,K4,h5];(refine yC rfl (hre _) ?_; simp[K1,K2,K3,K4,h5]);unfold rBg;refine yV [(E.n0,E.n0)] (by simp[F1,lK,K1,K2,K3,K4,h5]) fun hrn=>⟨?_,?_,?_,?_,?_⟩<;>(try simp[F1,lK,K1,K2,K3,K4,h5]);all_goals exact .same _ (I4 _ hV)
theorem C34(V:AV)(e:Int)(b:Bool)(hb:(e != 0)=b)(hV:V.pureB=true):
  Wk E [.code B5v,.post fun σ=>lk σ.fr 13=some (true,.bool b)/\E4 E σ (rBg E f K V e)] (rBg E f K V e):=by
 have K1:=S7 h5; have K2:=N9 h5; have K3:=O0 h5; have K4:=L8 h5;unfold rBg F1 lK;refine A3 4000 ?_;simp[B5v,hb,K1,K2,K3,K4,h5];refine yV [(E.n0,E.n0)] (by simp[F1,lK,K1,K2,K3,K4,h5]) fun hrn=>⟨?_,?_,?_,?_,?_⟩<;>(try simp[F1,lK,K1,K2,K3,K4,h5]);all_goals exact .same _ (I4 _ hV)
theorem C5l(V:AV)(e:Int)(hR:∀σ,bk σ.bx E.n0=some (F1 e)->bk σ.bx K=some (lK .nils)->lk σ.fr 4=some (true,.ptr E.n0 0 0)->(∀x∈σ.bx,x.1=K\/E.n0<=x.1)->E.Rt σ):
  Wk E [.code B5y,.post (fun _=>False)] (rBg E f K V e):=by
 have K1:=S7 h5; have K2:=N9 h5; have K3:=O0 h5; have K4:=L8 h5;unfold rBg F1 lK;refine A3 4000 ?_;simp[B5y,K1,K2,K3,K4,h5];refine hR _ ?_ ?_ ?_ ?_
 ·simp[F1,K1,K2,K3,K4]
 ·simp[lK,K1,K2,K3,K4]
 ·simp
 ·simp
end
section
variable (E:R4) (hP:E.P=Tryz.prog) (f n0 K:Nat) (h4:n0<E.n0) (h5:K<E.n0) (d:n0≠K) (l u:List Tk)
include hP h4 h5 d
theorem C5m(fr:List (Nat×Bool×AV))(k:Nat)(e1:lk fr 1=some (true,.fn f [.ptr K 0 0]))(e4:lk fr 4=some (true,.ptr n0 0 0))(e5:lk fr 5=some (true,.sl (l.map m7))):
  Wk E [.code B5w,.post fun σ=>E4 E σ (B7n E f n0 K l)] ⟨fr,[(n0,some (F1 0)),(K,some (lK .nils))],k⟩:=by
 have N1:=S7 h4; have N2:=N9 h4; have N3:=O0 h4; have N4:=L8 h4;have K1:=S7 h5; have K2:=N9 h5; have K3:=O0 h5; have K4:=L8 h5;unfold F1 lK;refine A3 4000 ?_;simp[B5w,e1,e4,e5,N1,N2,N3,N4,K1,K2,K3,K4,d,zt d];unfold B7n;refine yV [(E.n0,E.n0+(k+2048))] (by simp[tB,F1,lK,e1,e4,N1,N2,N3,N4,h4,K1,K2,K3,K4,h5,d,zt d]) fun hrn=>⟨?_,?_,?_,?_,?_⟩<;>(try simp[tB,F1,lK,e1,e4,N1,N2,N3,N4,h4,K1,K2,K3,K4,h5,d,zt d])
theorem C5n(v:AV)(hv:v.pureB=true)(hF:∀id,A2 Tryz.prog f [.ptr E.n0 0 0,.ptr K 0 0] [(E.n0,tB l l),(K,lK .nils)] id (.tup []) [(E.n0,some (tB l u)),(K,some (lK v))]):
  Wk E [.code A5G,.post fun σ=>E4 E σ (A5M E n0 K l u v)] (B7n E f n0 K l):=by
 have N1:=S7 h4; have N2:=N9 h4; have N3:=O0 h4; have N4:=L8 h4;have K1:=S7 h5; have K2:=N9 h5; have K3:=O0 h5; have K4:=L8 h5;rw[B5,B5,S3,S3] at hF;unfold B7n F1 lK tB;refine A3 4000 ?_;simp[A5G,N1,N2,N3,N4,h4,K1,K2,K3,K4,h5,d,zt d];(refine L5 hP (by simp<;>exact⟨rfl,rfl⟩) rfl (hF _) (by simp[N1,N2,N3,N4,h4,K1,K2,K3,K4,h5,d,zt d]) (by simp[N1,N2,N3,N4,h4,K1,K2,K3,K4,h5,d,zt d]<;>rfl) ?_; refine A3 4000 ?_; simp[N1,N2,N3,N4,h4,K1,K2,K3,K4,h5,d,zt d]);unfold A5M;have hpl:F9 [v]=true:=by simp[F9,hv]
 refine yV [(E.n0,E.n0)] (by simp[tB,F1,lK,hv,N1,N2,N3,N4,h4,K1,K2,K3,K4,h5,d,zt d]) fun hrn=>⟨?_,?_,?_,?_,?_⟩<;>(try simp[tB,F1,lK,hv,N1,N2,N3,N4,h4,K1,K2,K3,K4,h5,d,zt d]);all_goals exact .same _ (I4 _ hv)
theorem C4L(hF:∀id,Y5 Tryz.prog f [.ptr E.n0 0 0,.ptr K 0 0] [(E.n0,tB l l),(K,lK .nils)] id (.error (erV 1)))
  (hPn:∀σ,bk σ.bx n0=some (F1 0)->ov E.β σ.bx K=none->lk σ.fr 4=some (true,.ptr n0 0 0)->(∀x∈σ.bx,x.1=K\/x.1=n0\/E.n0<=x.1)->E.Pn (erV 1) σ) :
  Wk E [.ops (P9 A5G) 0 [] [],.post (fun _=>False)] (B7n E f n0 K l):=by
 have N1:=S7 h4; have N2:=N9 h4; have N3:=O0 h4; have N4:=L8 h4;have K1:=S7 h5; have K2:=N9 h5; have K3:=O0 h5; have K4:=L8 h5;rw[B5,S3] at hF;unfold B7n F1 lK tB;refine A3 4000 ?_;simp[P9,A5G,N1,N2,N3,N4,h4,K1,K2,K3,K4,h5,d,zt d];refine A28 hP (by simp<;>exact⟨rfl,rfl⟩) rfl (hF _) (by simp) (by simp[N1,N2,N3,N4,h4,K1,K2,K3,K4,h5,d,zt d]<;>rfl) (fun pv hpv=>⟨by simp[N1,N2,N3,N4,h4,K1,K2,K3,K4,h5,d,zt d],by injection hpv with hpv; subst hpv; exact hPn _ (by simp[F1,N1,N2,N3,N4,h4,K1,K2,K3,K4,h5,d,zt d]) (by simp[ov,U8,N1,N2,N3,N4,h4,K1,K2,K3,K4,h5,d,zt d]) (by simp) (by simp)⟩) (fun v wr h=>by cases h)
theorem C4M(v:AV)(hu:u≠[])(hPn:∀σ,bk σ.bx n0=some (F1 0)->ov E.β σ.bx K=some (lK v)->lk σ.fr 4=some (true,.ptr n0 0 0)->(∀x∈σ.bx,x.1=K\/x.1=n0\/E.n0<=x.1)->E.Pn (erV 1) σ):
  Wk E [.ops (P9 A5H) 0 [] [],.post (fun _=>False)] (A5M E n0 K l u v):=by
 have N1:=S7 h4; have N2:=N9 h4; have N3:=O0 h4; have N4:=L8 h4;have K1:=S7 h5; have K2:=N9 h5; have K3:=O0 h5; have K4:=L8 h5;have hE:=fun id=>C0i l u E.n0 id;rw[zf hu] at hE;rw[B5] at hE;unfold A5M F1 lK tB;refine A3 4000 ?_;simp[P9,A5H,N1,N2,N3,N4,h4,K1,K2,K3,K4,h5,d,zt d];refine D5 hP rfl (hE _) (by simp) (by simp[N1,N2,N3,N4,h4,K1,K2,K3,K4,h5,d,zt d]<;>rfl) (fun pv hpv=>⟨by simp[N1,N2,N3,N4,h4,K1,K2,K3,K4,h5,d,zt d],by injection hpv with hpv; subst hpv; exact hPn _ (by simp[F1,N1,N2,N3,N4,h4,K1,K2,K3,K4,h5,d,zt d]) (by simp[lK,ov,U8,N1,N2,N3,N4,h4,K1,K2,K3,K4,h5,d,zt d]) (by simp) (by simp)⟩) (fun v wr h=>by cases h)
theorem C5o(v:AV)(hv:v.pureB=true)(hu:u=[]):
  Wk E [.code A5H,.post fun σ=>E4 E σ (A5M E n0 K l u v)] (A5M E n0 K l u v):=by
 have N1:=S7 h4; have N2:=N9 h4; have N3:=O0 h4; have N4:=L8 h4;have K1:=S7 h5; have K2:=N9 h5; have K3:=O0 h5; have K4:=L8 h5;have hE:=fun id=>C0i l u E.n0 id;rw[zj hu] at hE;have hE:∀id,A2 Tryz.prog 110 [.ptr E.n0 0 0] [(E.n0,tB l u)] id (.tup []) []:=hE;rw[B5] at hE;unfold A5M F1 lK tB;refine A3 4000 ?_;simp[A5H,N1,N2,N3,N4,h4,K1,K2,K3,K4,h5,d,zt d];(refine yC rfl (hE _) ?_; simp[N1,N2,N3,N4,h4,K1,K2,K3,K4,h5,d,zt d]);refine yV [(E.n0,E.n0)] (by simp[tB,F1,lK,hv,N1,N2,N3,N4,h4,K1,K2,K3,K4,h5,d,zt d]) fun hrn=>⟨?_,?_,?_,?_,?_⟩<;>(try simp[tB,F1,lK,hv,N1,N2,N3,N4,h4,K1,K2,K3,K4,h5,d,zt d]);all_goals exact .same _ (I4 _ hv)
theorem C5p(v:AV)(hR:∀σ,bk σ.bx n0=some (F1 0)->bk σ.bx K=some (lK v)->lk σ.fr 4=some (true,.ptr n0 0 0)->(∀x∈σ.bx,x.1=K\/x.1=n0\/E.n0<=x.1)->E.Rt σ):
  Wk E [.code (.seq B5x CC.ret)] (A5M E n0 K l u v):=by
 have N1:=S7 h4; have N2:=N9 h4; have N3:=O0 h4; have N4:=L8 h4;have K1:=S7 h5; have K2:=N9 h5; have K3:=O0 h5; have K4:=L8 h5;unfold A5M F1 lK tB;refine A3 4000 ?_;simp[B5x,N1,N2,N3,N4,h4,K1,K2,K3,K4,h5,d,zt d];refine hR _ ?_ ?_ ?_ ?_
 ·simp[F1,N1,N2,N3,N4,h4,K1,K2,K3,K4,h5,d,zt d]
 ·simp[lK,N1,N2,N3,N4,h4,K1,K2,K3,K4,h5,d,zt d]
 ·simp
 ·simp
end
theorem C4N(f K id:Nat)(s:List UInt8)(pr:List Tk->Option (AV×List Tk))
  (hF:∀z J id,J≠K->z.length<=300->Y5 Tryz.prog f [.ptr J 0 0,.ptr K 0 0] [(J,tB z z),(K,lK .nils)] id (doR J K z (pr z))) (hpv:∀z v u,pr z=some (v,u)->v.pureB=true) :
  A2 Tryz.prog 52 [.str s,.fn f [.ptr K 0 0]] [(K,lK .nils)] id (.int .i64 (A2o pr s)) [(K,A4Z pr s)]:=by
 refine⟨⟨_,Tryz.func52,by decide,rfl⟩,fun C G bx w vs nb hs hv hh hnb hid=>calls_of_wp_defers Tryz.func52 rfl ?_⟩;obtain⟨ka,kb,kt,ku,kc,kd,ke,kf⟩:=C6J rfl;have own:∀i,max nb (id+1024)<=i->bx i=none:=fun i hi=>by
  cases hbi:bx i with
  | none=>rfl
  | some b=>exact (hnb i (by omega) (hs.boxNames hbi).1).elim
 have old:∀i,G.used i->i<max nb (id+1024):=fun i hi=>by
  rcases yh i nb with h|h
  ·omega
  ·exact (hnb i h hi).elim
 generalize max nb (id+1024)=n0 at own old;have hKb:bx K=some (lK .nils):=hh _ (za ..);have hKn:K<n0:=old K (hs.boxNames hKb).1;have hre:=fun id=>C2Y s id;let E:R4:=⟨Tryz.prog,C,bx,Tryz.f52.ntmps,n0,G,w,own,old,hs,[],fun _=>False,fun _ _=>False⟩
 have hN:E.n0=n0:=rfl;have hPE:E.P=Tryz.prog:=rfl;have hD:S5 E ⟨A24 0 [.str s,.fn f [.ptr K 0 0]],[(K,some (lK .nils))],0⟩ G { tmps:=vs++Array.replicate (Tryz.f52.ntmps - vs.size) undef,defers:=[] } w:=by
  refine⟨M0.refl G w,?_,fun i hi=>by have:=old i hi; show i<n0+0; omega,fun i _ hi=>hi,fun n c v hl=>?_,?_,rfl⟩
  ·have:=A23 hh;simp only[C9] at this;show RS C G (ov bx _) w;rw[this]; exact hs
  ·obtain⟨rfl,_,h3⟩:=A4q hl;simp only[rf] at h3;refine⟨fun _=>?_,fun h=>by cases h⟩;have:=hv.2 n v h3;rw[zk] at this ⊢;rw[xv (by rw[←hv.1]; exact (ze.1 h3).1)];exact this
  ·have:=hv.1;simp[Tryz.ntmps52] at this ⊢;show _=Tryz.f52.ntmps;simp[Tryz.ntmps52]; omega
 have K1:=S7 hKn; have K2:=N9 hKn; have K3:=O0 hKn; have K4:=L8 hKn;have hWa:Wk E [.code B5t,.post (fun σ=>σ=⟨[(4,true,.ptr n0 0 0),(0,true,.str s),(1,true,.fn f [.ptr K 0 0])],[(n0,some (F1 0)),(K,some (lK .nils))],1024⟩)] ⟨A24 0 [.str s,.fn f [.ptr K 0 0]],[(K,some (lK .nils))],0⟩:=by
  refine A3 4000 ?_;simp[B5t,E,F1,lK]
 refine wp_seq (wkN (E:=E) ka hWa (fun _ h=>h) (fun _ _ h=>h) hD fun τ G1 a1 w1 hD1 hτ=>?_);subst hτ;clear hWa hD;have hEnd:∀{v:Value} {G':Gh} {w':World} {e:Int} {X:Option Bx},A2o pr s=e->A4Z pr s=X->RS C G' (F4 bx [(K,X)]) w'->M0 G w G' w'->RV G' w' (.int .i64 e) v->(∀x,G'.used x->G.used x\/(id<=x/\x<id+1024)) ->
   ∃v' G',Ending.returned v = .returned v'/\RS C G' (F4 bx [(K,A4Z pr s)]) w'/\M0 G w G' w'/\RV G' w' (.int .i64 (A2o pr s)) v'/\∀x,G'.used x->G.used x\/(id<=x/\x<id+1024):=fun {v G' w' e X} h1 h2 r1 r2 r3 r4=>by
  rw[h1,h2];exact⟨v,G',rfl,r1,r2,r3,r4⟩
 have ev13:∀{a:Act} {b:Bool} {G':Gh} {w':World} {τ:St},S5 E τ G' a w'->lk τ.fr 13=some (true,.bool b)->a.eval (.tmp 13) = .bool b:=fun {a b G' w' τ} h h13=>by
  have hr:=(h.fr 13 true _ h13).1 rfl;show a.tmps.getD 13 undef=_;generalize a.tmps.getD 13 undef=v at hr;cases hr; rfl
 cases hl:A5E s with
 | error e =>
  have hne:=B1d hl;rw[hl] at hre;have hre:∀id,A2 Tryz.prog 108 [.str s] [] id (.tup [.nils,.int .i64 e]) []:=hre;have e1:A2o pr s=e:=by unfold A2o; rw[hl]
  have e2:A4Z pr s=some (lK .nils):=by unfold A4Z; rw[hl]
  refine wp_seq (wkN (E:=E) kb (C0v E hPE f K hKn s .nils e rfl hre) (fun _ h=>h) (fun _ _ h=>h) hD1 fun τ G2 a2 w2 hD2 hτ=>?_);obtain⟨G3,hD3⟩:=hτ G2 a2 w2 hD2;refine wp_seq ?_;refine wp_seq (wkN (E:=E) kt (C34 E hPE f K hKn .nils e true (by simp[hne]) rfl) (fun _ h=>h) (fun _ _ h=>h) hD3 fun τ G4 a4 w4 hD4 hτ=>?_);obtain⟨h13,hcv⟩:=hτ;obtain⟨G5,hD5⟩:=hcv G4 a4 w4 hD4;refine wp_cond_split (ev13 hD4 h13) (fun _=>?_) (fun hb=>by cases hb);let E':R4:={ E with Rt:=fun σ=>bk σ.bx n0=some (F1 e)/\bk σ.bx K=some (lK .nils)/\lk σ.fr 4=some (true,.ptr n0 0 0)/\∀x∈σ.bx,x.1=K\/n0<=x.1 }
  have hW:=C5l E' hPE f K hKn .nils e fun σ h1 h2 h3 h4=>⟨h1,h2,h3,h4⟩;refine wp_mono (hW _ ku G5 _ w4 hD5) fun e' a' w' hq=>?_;cases e' with
  | ret =>
   obtain⟨σ,G6,h1,b4,bK,f4,hl'⟩:=hq;show Leaves Tryz.prog Tryz.f52 a'.tmps _ a'.defers .returning w';rw[show a'.defers=[] from h1.defers];obtain⟨v,r1,G7,r2,r3,r4,r5⟩:=B1c own old hs hid h1 f4 (Q5 _ b4) (Q5 _ bK) (fun b hb=>by injection hb with hb; subst hb; rfl) hKb hl' (ya _) hKn;exact⟨v,r1,hEnd e1 e2 r2 r3 r4 r5⟩
  | normal=>obtain⟨_,_,_,h⟩:=hq; exact h.elim
  | exit id=>obtain⟨_,_,_,h⟩:=hq; exact h.elim
  | panic chain=>obtain⟨_,_,_,_,_,_,_,_,_,_,_,h⟩:=hq; exact h.elim
  | _=>exact hq.elim
 | ok l =>
  have hl300:l.length<=300:=((B1D s l).1 hl).2.2;rw[hl] at hre;have hre:∀id,A2 Tryz.prog 108 [.str s] [] id (.tup [.sl (l.map m7),.int .i64 0]) []:=hre;have hVp:(AV.sl (l.map m7)).pureB=true:=by simp[AV.pureB]
  refine wp_seq (wkN (E:=E) kb (C0v E hPE f K hKn s (.sl (l.map m7)) 0 hVp hre) (fun _ h=>h) (fun _ _ h=>h) hD1 fun τ G2 a2 w2 hD2 hτ=>?_);obtain⟨G3,hD3⟩:=hτ G2 a2 w2 hD2;refine wp_seq ?_;refine wp_seq (wkN (E:=E) kt (C34 E hPE f K hKn (.sl (l.map m7)) 0 false rfl hVp) (fun _ h=>h) (fun _ _ h=>h) hD3 fun τ G4 a4 w4 hD4 hτ=>?_);obtain⟨h13,hcv⟩:=hτ;obtain⟨G5,hD5⟩:=hcv G4 a4 w4 hD4;refine wp_cond_split (ev13 hD4 h13) (fun hb=>by cases hb) (fun _=>?_);refine wp_skip ?_;obtain⟨at1,ad1⟩:=a4;have hd0:ad1=[]:=hD5.defers;subst hd0;have hsz:15<at1.size:=by have:=hD5.size; simp only at this; rw[this]; show 15<Tryz.f52.ntmps; simp[Tryz.ntmps52]
  show (Code.seq _ _).wp _ _ _ _;refine wp_seq (C4K rfl hsz ?_);obtain⟨v4,hv4⟩:∃v4,at1[4]?.getD undef=v4:=⟨_,rfl⟩;have g4:RV G5 w4 (.ptr n0 0 0) v4:=by
   have:=(hD5.fr 4 true _ rfl).1 rfl;rw[zk] at this;rw[←hv4]; exact this
  rw[hv4];have own1:∀i,n0+1<=i->ov bx [(n0,some (F1 0)),(K,some (lK .nils))] i=none:=fun i hi=>by
   simp only[ov,U8];rw[zf (by omega),zf (by omega)];exact own i (by omega)
  have hev:M0 G w G5 w4:=hD5.ev;have hrs:RS C G5 (ov bx [(n0,some (F1 0)),(K,some (lK .nils))]) w4:=hD5.rs;have hus:∀i,G5.used i->i<n0+1:=hD5.used;have hol:∀i,i<n0->G5.used i->G.used i:=hD5.old;let D:List Deferred:=[⟨.fn (.func 109) #[v4],#[]⟩]
  let E2:R4:=⟨Tryz.prog,C,ov bx [(n0,some (F1 0)),(K,some (lK .nils))],Tryz.f52.ntmps,n0+1,G5,w4,own1,hus,hrs,D,fun _=>False,fun _ _=>False⟩
  have hN2:E2.n0=n0+1:=rfl;have hP2:E2.P=Tryz.prog:=rfl;have hE2:∀m,ov E2.β m=ov bx (m++[(n0,some (F1 0)),(K,some (lK .nils))]):=fun m=>(Y8 bx m _).symm;have hD6:S5 E2 ⟨[(1,true,.fn f [.ptr K 0 0]),(4,true,.ptr n0 0 0),(5,true,.sl (l.map m7))],[(n0,some (F1 0)),(K,some (lK .nils))],0⟩ G5 ⟨at1.setIfInBounds 15 (.func (.func 109) #[] #[v4]),D⟩ w4:=by
   refine⟨M0.refl G5 w4,?_,fun i hi=>by have:=hus i hi; show i<n0+1+0; omega,fun i _ hi=>hi,fun n c v hl=>?_,?_,rfl⟩
   ·show RS C G5 (ov (ov bx _) _) w4;simp only[ov];rw[Y2 (f:=U8 (U8 bx K _) n0 _) (i:=K) (by simp[U8]; omega),Y2 (i:=n0) (by simp[U8])];exact hrs
   ·have:=hD5.fr n c v hl;have hn:n≠15:=fun h=>by subst h; simp at hl
    simp only[zk] at this ⊢;rw[vp (zt hn)];exact this
   ·have:=hD5.size;simp only[uw];exact this
  have hinv:∀w3,(invoke (.fn (.func 109) #[v4]) #[]).run Tryz.prog w3 = .ok (.enter 109 #[v4]) w3:=fun w3=>by simp[go_sem]
  have hw4:n0<E2.n0:=by omega
  have hw5:K<E2.n0:=by omega
  have hwd:n0≠K:=by omega
  have pnk:∀{R:Ending->World->Prop} {X:Option Bx} {k:Nat} {F:Fr} {m:List (Nat×Option Bx)} {G3:Gh} {a3:Act} {w3:World} {u:Value},(∀b,X=some b->F9 b.xs=true)->(∀v G4 w4,RS C G4 (F4 bx [(K,X)]) w4->M0 G w G4 w4->RV G4 w4 (.int .i64 1) v->(∀x,G4.used x->G.used x\/(id<=x/\x<id+1024))->R (.returned v) w4) ->
    F7 C Tryz.f52.ntmps D (n0+1) G5 w4 F (ov E2.β m) (· < n0+1+k) G3 a3 w3->RV G3 w3 (erV 1) u->F 4=some (true,.ptr n0 0 0) ->
    ov E2.β m n0=some (F1 0)->ov E2.β m K=X->(∀x∈m,x.1=K\/x.1=n0\/n0+1<=x.1)->Leaves Tryz.prog Tryz.f52 a3.tmps R a3.defers (.panicking [{ v:=u,recovered:=false }]) w3:=fun {R X k F m G3 a3 w3 u} hX hR h1 h2 f4 h4 hK hm=>by
   rw[show a3.defers=D from h1.defers];have hus3:=h1.used;have hrs3:=h1.rs;refine leaves_cons (by simp) (hinv w3) ((C0t C G3 _ w3 1 0 _ n0 v4 u hrs3 (g4.mono h1.ev) h2 h4 hus3 (fun x hx=>?_)).mono ?_)
   ·cases hb:ov E2.β m x with
    | none=>rfl
    | some b=>have:=hus3 x (hrs3.boxNames hb).1; omega
   rintro e' u' w' ⟨rfl,⟨v,rfl⟩,G4,l',k',r1,r2,r3,r5,r6,r7⟩;have hx:=F7.step h1 r1 r2 (U':=fun x=>x<n0+(1+k+k')) (fun x hx=>by have:=r7 x hx; omega) (fun x hx hu=>r6 x (by omega) hu);have e4:=Q5 (ov E2.β m) r3;have eK:ov (ov E2.β m) l' K=X:=by
    rw[←hK];have key:∀l':List (Nat×Option Bx),(∀q∈l',q.1≠K)->ov (ov E2.β m) l' K=ov E2.β m K:=fun l'=>by
     induction l' with
     | nil=>intro _; rfl
     | cons q l' ih =>
      intro h;obtain⟨q1,q2⟩:=q;simp only[ov,U8];rw[zf (fun h2=>h (q1,q2) (za ..) h2.symm)];exact ih fun x hx=>h x (zb _ hx)
    refine key l' fun q hq h=>?_;rcases r5 q hq with h2|h2<;>omega
   rw[←Y8] at hx e4 eK;have h':=hx.rebase (n0:=n0) (by omega) hev hol;rw[hE2] at h' e4 eK;obtain⟨v,s1,G7,s2,s3,s4,s5⟩:=B1c own old hs hid h' f4 e4 eK hX hKb (fun x hx=>by
    rcases zo.1 hx with hx|hx
    ·rcases zo.1 hx with hx|hx
     ·rcases r5 x hx with h|h
      ·exact .inr (by omega)
      ·exact .inr (by omega)
     ·rcases hm x hx with h|h|h
      ·exact .inl h
      ·exact .inr (by omega)
      ·exact .inr (by omega)
    ·simp at hx;rcases hx with rfl|rfl
     ·exact .inr (ya _)
     ·exact .inl rfl) (ya _) hKn
   exact⟨v,s1,hR v G7 w' s2 s3 s4 s5⟩
  show (Code.seq _ _).wp _ _ _ _;refine wp_seq (wkN (E:=E2) kc (C5m E2 hP2 f n0 K hw4 hw5 hwd l _ _ rfl rfl rfl) (fun _ h=>h) (fun _ _ h=>h) hD6 fun τ G7 a7 w7 hD7 hτ=>?_);obtain⟨G8,hD8⟩:=hτ G7 a7 w7 hD7;show (Code.seq _ _).wp _ _ _ _;have hFl:=fun id=>hF l E2.n0 id (by omega) hl300;cases hp:pr l with
  | none =>
   have e1:A2o pr s=1:=(by unfold A2o; rw[hl]; simp only; rw[hp]);have e2:A4Z pr s=none:=(by unfold A4Z; rw[hl]; simp only; rw[hp]);rw[hp] at hFl;have hFl:∀id,Y5 Tryz.prog f [.ptr E2.n0 0 0,.ptr K 0 0] [(E2.n0,tB l l),(K,lK .nils)] id (.error (erV 1)):=hFl;let E1:R4:={ E2 with Pn:=fun pv σ=>pv=erV 1/\bk σ.bx n0=some (F1 0)/\ov E2.β σ.bx K=none/\lk σ.fr 4=some (true,.ptr n0 0 0)/\∀x∈σ.bx,x.1=K\/x.1=n0\/n0+1<=x.1 }
   have hW:=C4L E1 hP2 f n0 K hw4 hw5 hwd l hFl fun σ h1 h2 h3 h4=>⟨rfl,h1,h2,h3,h4⟩;refine wp_seq (B0m (E:=E1) (crs:=P9 A5G) (kd.trans rfl) hW hD8 (fun σ G3 a3 w3 h1 h2=>h2.elim) (fun pv u σ G9 a9 w9 h1 h2 h3=>?_));obtain⟨rfl,b4,bK,f4,hm⟩:=h3;exact pnk (k:=1+1024*(P9 A5G).length) (fun b hb=>by cases hb) (fun v G4 w4 r1 r2 r3 r4=>hEnd e1 e2 r1 r2 r3 r4) (h1.weak fun x hx=>by have:x<n0+1+1+1024*(P9 A5G).length:=hx; omega) h2 f4 (Q5 _ b4) bK hm
  | some q =>
   obtain⟨v,u⟩:=q;have hvp:=hpv l v u hp;rw[hp] at hFl;have hFl:∀id,A2 Tryz.prog f [.ptr E2.n0 0 0,.ptr K 0 0] [(E2.n0,tB l l),(K,lK .nils)] id (.tup []) [(E2.n0,some (tB l u)),(K,some (lK v))]:=hFl;have e2:A4Z pr s=some (lK v):=(by unfold A4Z; rw[hl]; simp only; rw[hp]);have hXv:∀b,some (lK v)=some b->F9 b.xs=true:=fun b hb=>by injection hb with hb; subst hb; simp[lK,F9,hvp]
   refine wp_seq (wkN (E:=E2) kd (C5n E2 hP2 f n0 K hw4 hw5 hwd l u v hvp hFl) (fun _ h=>h) (fun _ _ h=>h) hD8 fun τ G9 a9 w9 hD9 hτ=>?_);obtain⟨G10,hD10⟩:=hτ G9 a9 w9 hD9;show (Code.seq _ _).wp _ _ _ _;by_cases hu:u=[]
   ·have e1:A2o pr s=0:=(by unfold A2o; rw[hl]; simp only; rw[hp]; simp only; rw[zj hu]);refine wp_seq (wkN (E:=E2) ke (C5o E2 hP2 n0 K hw4 hw5 hwd l u v hvp hu) (fun _ h=>h) (fun _ _ h=>h) hD10 fun τ G11 a11 w11 hD11 hτ=>?_);obtain⟨G12,hD12⟩:=hτ G11 a11 w11 hD11;let E3:R4:={ E2 with Rt:=fun σ=>bk σ.bx n0=some (F1 0)/\bk σ.bx K=some (lK v)/\lk σ.fr 4=some (true,.ptr n0 0 0)/\∀x∈σ.bx,x.1=K\/x.1=n0\/n0+1<=x.1 }
    have hW:=C5p E3 hP2 n0 K hw4 hw5 hwd l u v fun σ h1 h2 h3 h4=>⟨h1,h2,h3,h4⟩;have ends:∀{R:Ending->World->Prop} {σ:St} {G8:Gh} {a7:Act} {w7:World},(∀v G4 w4,RS C G4 (F4 bx [(K,some (lK v))]) w4->True)->(∀z G4 w4,RS C G4 (F4 bx [(K,some (lK v))]) w4->M0 G w G4 w4->RV G4 w4 (.int .i64 0) z->(∀x,G4.used x->G.used x\/(id<=x/\x<id+1024))->R (.returned z) w4)->S5 E3 σ G8 a7 w7->E3.Rt σ->Leaves Tryz.prog Tryz.f52 a7.tmps R a7.defers .returning w7:=fun {R σ G8 a7 w7} _ hR h1 h2=>by
     obtain⟨b4,bK,f4,hm⟩:=h2;rw[show a7.defers=D from h1.defers];refine leaves_cons (by simp) (hinv w7) ((C0u v4 w7).mono ?_);rintro e u' w' ⟨rfl,⟨v',rfl⟩,rfl⟩;have h1':=h1.weak (U':=fun x=>x<n0+(1+σ.k)) (fun x hx=>by have:x<n0+1+σ.k:=hx; omega);have h':=h1'.rebase (n0:=n0) (show n0<=n0+1 from Nat.le_succ n0) hev hol;have e4:=Q5 E2.β b4;have eK:=Q5 E2.β bK;have h':F7 C Tryz.f52.ntmps D n0 G w (lk σ.fr) (ov bx (σ.bx++[(n0,some (F1 0)),(K,some (lK .nils))])) (fun x=>x<n0+(1+σ.k)) G8 a7 w':=(by rw[←hE2]; exact h');rw[hE2] at e4 eK;obtain⟨z,s1,G7,s2,s3,s4,s5⟩:=B1c own old hs hid h' f4 e4 eK hXv hKb (fun x hx=>by
      rcases zo.1 hx with hx|hx
      ·rcases hm x hx with h|h|h
       ·exact .inl h
       ·exact .inr (by omega)
       ·exact .inr (by omega)
      ·simp at hx;rcases hx with rfl|rfl
       ·exact .inr (ya _)
       ·exact .inl rfl) (ya _) hKn
     exact⟨z,s1,hR z G7 w' s2 s3 s4 s5⟩
    refine wp_mono (hW _ kf G12 _ w11 hD12) fun e a7 w7 hq=>?_;cases e with
    | ret =>
     obtain⟨σ,G8,h1,h2⟩:=hq;exact ends (fun _ _ _ _=>trivial) (fun z G4 w4 r1 r2 r3 r4=>hEnd e1 e2 r1 r2 r3 r4) h1 h2
    | normal =>
     obtain⟨σ,G8,h1,h2⟩:=hq;exact ends (fun _ _ _ _=>trivial) (fun z G4 w4 r1 r2 r3 r4=>hEnd e1 e2 r1 r2 r3 r4) h1 h2
    | exit id=>obtain⟨_,_,_,h2⟩:=hq; exact h2.elim
    | panic chain=>obtain⟨_,_,_,_,_,_,_,_,_,_,_,h⟩:=hq; exact h.elim
    | _=>exact hq.elim
   ·have e1:A2o pr s=1:=(by unfold A2o; rw[hl]; simp only; rw[hp]; simp only; rw[zf hu]);let E1:R4:={ E2 with Pn:=fun pv σ=>pv=erV 1/\bk σ.bx n0=some (F1 0)/\ov E2.β σ.bx K=some (lK v)/\lk σ.fr 4=some (true,.ptr n0 0 0)/\∀x∈σ.bx,x.1=K\/x.1=n0\/n0+1<=x.1 }
    have hW:=C4M E1 hP2 n0 K hw4 hw5 hwd l u v hu fun σ h1 h2 h3 h4=>⟨rfl,h1,h2,h3,h4⟩;refine wp_seq (B0m (E:=E1) (crs:=P9 A5H) (ke.trans rfl) hW hD10 (fun σ G3 a3 w3 h1 h2=>h2.elim) (fun pv u σ G9 a9 w9 h1 h2 h3=>?_));obtain⟨rfl,b4,bK,f4,hm⟩:=h3;exact pnk (k:=1+1024*(P9 A5H).length) hXv (fun v G4 w4 r1 r2 r3 r4=>hEnd e1 e2 r1 r2 r3 r4) (h1.weak fun x hx=>by have:x<n0+1+1+1024*(P9 A5H).length:=hx; omega) h2 f4 (Q5 _ b4) bK hm
theorem B3S(l:List F6)(s:F6):szL (l++[s])=szL l+s.sz:=by
 induction l with
 | nil=>simp[szL]
 | cons x r ih=>simp only[yv,szL,ih]; omega
theorem B6H:∀(n:Nat) (acc:List Ag) (t u:List Tk) (l:List Ag),A1t n acc t=some (l,u)->l.length+u.length<=acc.length+t.length
 | 0,_,_,_,_,h=>by cases h
 | n+1,acc,t,u,l,h=>by
  simp only[A1t] at h;split at h
  ·cases h
  rename_i p hp;have h1:=B1Z (a:=p.1) (u:=p.2) hp;split at h
  ·simp only[zd,zi] at h;rw[←h.1,←h.2,zx]; simp; omega
  ·have:=B6H n _ _ _ _ h;simp at this; omega
theorem C0w{t u:List Tk}{l:List Ag}(h:A2v t=some (l,u)):l.length+u.length<=t.length:=by
 unfold A2v at h;split at h
 ·have:=B6H _ _ _ _ _ h;rw[zx] at this; simp at this; omega
 ·simp only[zd,zi] at h;rw[←h.1,h.2]; simp
theorem A8e:∀n:Nat,(∀t s u,A1u n t=some (s,u)->s.sz+u.length<=t.length)/\(∀t s u,u9 n t=some (s,u)->szL s+u.length<=t.length)/\(∀acc t s u,U3 n acc t=some (s,u)->szL s+u.length<=szL acc+t.length)
 | 0=>⟨fun _ _ _ h=>by simp[A1u] at h,fun _ _ _ h=>by simp[u9] at h,fun _ _ _ _ h=>by simp[U3] at h⟩
 | n+1=>by
  obtain⟨h1,h2,h3⟩:=A8e n;refine⟨fun t s u h=>?_,fun t s u h=>?_,fun acc t s u h=>?_⟩
  ·simp only[A1u] at h;split at h
   ·cases h
   rename_i a nm v hv;have e1:=B4s hv;split at h
   ·cases h
   rename_i xs w hw;have e2:=C0w hw;split at h
   ·split at h
    ·cases h
    rename_i k y hy;have:=h2 _ _ _ hy;simp only[zd,zi] at h;rw[←h.1,←h.2]; simp only[F6.sz]; omega
   ·simp only[zd,zi] at h;rw[←h.1,←h.2]; simp only[F6.sz,szL]; omega
  ·simp only[u9] at h;split at h
   ·have:=h3 _ _ _ _ h;rw[zx] at this; simp only[szL] at this; omega
   ·cases h
  ·simp only[U3] at h;split at h
   ·cases h
   rename_i s' v hv;have e1:=h1 _ _ _ hv;split at h
   ·simp only[zd,zi] at h;rw[←h.1,←h.2,zx,B3S]; omega
   ·have:=h3 _ _ _ _ h;rw[B3S] at this; omega
def prQ(z:List Tk):Option (AV×List Tk):=B0I (u9 (3*z.length+3) z)
theorem C0x(z:List Tk)(v:AV)(u:List Tk)(h:prQ z=some (v,u)):v.pureB=true:=by
 unfold prQ B0I at h;obtain⟨p,hp,h2⟩:=zm.1 h;simp only[zi] at h2;rw[←h2.1]; simp[AV.pureB]
theorem C4O(z:List Tk)(J K id:Nat)(d:J≠K)(h8:z.length<=300):Y5 Tryz.prog 53 [.ptr J 0 0,.ptr K 0 0] [(J,tB z z),(K,lK .nils)] id (doR J K z (prQ z)):=by
 have hS:=fun id=>(C4J (3*z.length+3)).2 z z J id (by omega) (by omega);unfold prQ;cases hp:u9 (3*z.length+3) z with
 | none =>
  rw[hp] at hS;change ∀id,Y5 _ _ _ _ _ (.error (erV 1)) at hS;show Y5 _ _ _ _ _ (.error (erV 1));rw[B5] at *;rw[S3];refine w53.x.1 fun E hP hR hPn hl hid hB hu=>?_;simp[w53];have hJ:=hl (J,_) (za ..);simp only at hJ;have J1:=lf hJ;have hK:=hl (K,_) (zb _ (za ..));simp only at hK;have K1:=lf hK;refine D5 hP rfl (hS _) (by simp[J1,K1,d,zt d]) (by simp[J1,K1,d,zt d]<;>rfl) (fun pv hpv=>⟨by simp[J1,K1,d,zt d],by injection hpv with hpv; subst hpv; exact hPn _ _ (rfl) rfl (by simp[J1,K1,d,zt d])⟩) (fun v wr h=>by cases h)
 | some q =>
  obtain⟨ss,u⟩:=q;rw[hp] at hS;have hS:∀id,A2 Tryz.prog 54 [.ptr J 0 0] [(J,tB z z)] id (.sl (ss.map E0)) [(J,some (tB z u))]:=hS;show A2 _ _ _ _ _ (.tup []) [(J,some (tB z u)),(K,some (lK (.sl (ss.map E0))))];rw[B5,B5] at hS;rw[B5,B5,S3,S3];refine w53.e.1 fun E hP hR hl hid=>?_;simp[w53];have hJ:=hl (J,_) (za ..);simp only at hJ;have J1:=lf hJ;have hK:=hl (K,_) (zb _ (za ..));simp only at hK;have K1:=lf hK;(refine yC rfl (hS _) ?_; simp[J1,K1,d,zt d]);refine yE hR [] (by simp[J1,K1,d,zt d,A4 hid]) fun hrn=>⟨?_,?_,?_,?_,?_,?_⟩<;>(try simp[J1,K1,d,zt d,A4 hid])
def B7o:Except Int (List F6)->AV
 | .ok q=>.tup [.sl (q.map E0),.int .i64 0]
 | .error e=>.tup [.nils,.int .i64 e]
theorem B3T(s:List UInt8)(id:Nat):A2 Tryz.prog 16 [.str s] [] id (B7o (A4W s)) []:=by
 have hRun:=fun K id=>C4N 53 K id s prQ (fun z J id hd h8=>C4O z J K id hd h8) C0x;unfold A4W;cases hx:A5E s with
 | error e =>
  have hne:=B1d hx;have e1:A2o prQ s=e:=by unfold A2o; rw[hx]
  have e2:A4Z prQ s=some (lK .nils):=by unfold A4Z; rw[hx]
  rw[e1,e2] at hRun;show A2 _ _ _ _ _ (.tup [.nils,.int .i64 e]) _;simp only[S3] at hRun;refine w16.e.1 fun E hP hR hl hid=>?_;simp[w16];(refine yH rfl (hRun _ _) ?_; simp);refine A0 (by simpa using hne) ?_;simp;refine A9 (by simpa using hne) ?_;simp;exact yP hR
 | ok l =>
  have h300:l.length<=300:=((B1D s l).1 hx).2.2;show A2 _ _ _ _ _ (B7o (A3S (B1E l))) _;unfold B1E;cases hp:u9 (3*l.length+3) l with
  | none =>
   have e1:A2o prQ s=1:=(by unfold A2o prQ; rw[hx]; simp only; rw[hp]; rfl);have e2:A4Z prQ s=none:=(by unfold A4Z prQ; rw[hx]; simp only; rw[hp]; rfl);rw[e1,e2] at hRun;show A2 _ _ _ _ _ (.tup [.nils,.int .i64 1]) _;simp only[S3] at hRun;refine w16.e.1 fun E hP hR hl hid=>?_;simp[w16];(refine yH rfl (hRun _ _) ?_; simp);exact yP hR
  | some w =>
   obtain⟨q,u⟩:=w;have e2:A4Z prQ s=some (lK (.sl (q.map E0))):=(by unfold A4Z prQ; rw[hx]; simp only; rw[hp]; rfl);by_cases hu:u=[]
   ·have e1:A2o prQ s=0:=(by unfold A2o prQ; rw[hx]; simp only; rw[hp]; simp[B0I,hu]);have hsz:=(A8e _).2.1 _ _ _ hp;have hC:=fun id=>A9j q id (by omega);rw[e1,e2] at hRun;show A2 _ _ _ _ _ (B7o (A3S (if u=[] then some q else none))) _;rw[zj hu];by_cases h0:V8 q=0
    ·have e:B7o (A3S (some q)) = .tup [.sl (q.map E0),.int .i64 0]:=(by unfold A3S; simp only; rw[zj h0]; rfl);rw[e];rw[h0] at hC;simp only[S3] at hRun;refine w16.e.1 fun E hP hR hl hid=>?_;simp[w16];(refine yH rfl (hRun _ _) ?_; simp);(refine yH rfl (hC _) ?_; simp);exact yP hR
    ·have e:B7o (A3S (some q)) = .tup [.nils,.int .i64 (V8 q)]:=(by unfold A3S; simp only; rw[zf h0]; rfl);rw[e];simp only[S3] at hRun;refine w16.e.1 fun E hP hR hl hid=>?_;simp[w16];(refine yH rfl (hRun _ _) ?_; simp);(refine yH rfl (hC _) ?_; simp);refine A9 (by simpa using h0) ?_;simp;exact yP hR
   ·have e1:A2o prQ s=1:=(by unfold A2o prQ; rw[hx]; simp only; rw[hp]; simp[B0I,hu]);rw[e1,e2] at hRun;show A2 _ _ _ _ _ (B7o (A3S (if u=[] then some q else none))) _;rw[zf hu];show A2 _ _ _ _ _ (.tup [.nils,.int .i64 1]) _;simp only[S3] at hRun;refine w16.e.1 fun E hP hR hl hid=>?_;simp[w16];(refine yH rfl (hRun _ _) ?_; simp);exact yP hR
def B4t(e:Int)(bs:List Bt):AV:=if e=0 then .sl (bs.map Y9) else .nils
theorem C0y(id:Nat):opV 0 id = .ptr id 0 0:=rfl
theorem B4u{e:Int}(h:e≠0)(id:Nat):opV e id = .nilp:=by unfold opV; rw[zf h]
theorem C0z(s:H0)(bs:List Bt)(id:Nat):opW 0 s bs id=[(id,some (bxO s bs))]:=rfl
theorem B4v{e:Int}(h:e≠0)(s:H0)(bs:List Bt)(id:Nat):opW e s bs id=[]:=by unfold opW; rw[zf h]
theorem B1e(s:H0)(bs:List Bt):bxO s bs=⟨[.agg [.sl (s.types.map I8),.sl (s.things.map T4),.sl (bs.map Y9)]],.agg [.nils,.nils,.sl (bs.map Y9)],false,false⟩:=rfl
theorem A8f(l:List Ty)(d:Dk)(id:Nat):A2 Tryz.prog 14 [.sl (l.map I8),eDk d] [] id (.tup [A1H (opE l d) (opS l d),B4t (opE l d) (H3 d.seg),.int .i64 (opE l d)]) []:=by
 have hO:=fun id=>B1F l d id;unfold eDk at hO ⊢;by_cases h:opE l d=0
 ·rw[h] at hO ⊢;simp only[C0y,C0z,B1e] at hO;rw[show B4t 0 (H3 d.seg) = .sl ((H3 d.seg).map Y9) from rfl];rw[show A1H 0 (opS l d) = .agg [.sl ((opS l d).types.map I8),.sl ((opS l d).things.map T4)] from rfl];generalize opS l d=s at *;refine w14.e.1 fun E hP hR hl hid=>?_;simp[w14];(refine yH rfl (hO _) ?_; simp);exact yP hR
 ·simp only[B4u h,B4v h] at hO;rw[show B4t (opE l d) (H3 d.seg) = .nils by unfold B4t; rw[zf h],show A1H (opE l d) (opS l d) = .agg [.nils,.nils] by rw[A0C,zf h]; rfl];refine w14.e.1 fun E hP hR hl hid=>?_;simp[w14];(refine yH rfl (hO _) ?_; simp);refine A9 (by simpa using h) ?_;simp;exact yP hR
def A90(l:List Ty)(d:Dk)(text:List UInt8)(n:Int):List UInt8×Int :=
 if opE l d≠0 then ([],opE l d)
 else if n<0\/((H3 d.seg).length:Int)<n then ([],3)
 else match A4W text with
  | .error e=>([],e)
  | .ok q=>if A29 l q≠0 then ([],A29 l q) else if qW (A0y l d n.toNat) q<=2000 then (jS (qO (A0y l d n.toNat) q),0) else ([],2)
theorem C10:∀(l:List Ev) {s:H0},Rt s->(∀e∈l,I64 e.n)->U7 s l=0->Rt (r8 s l)/\(r8 s l).types=s.types
 | [],s,h,_,_=>⟨h,rfl⟩
 | x::l,s,h,hn,ha=>by
  rw[A2G] at ha;by_cases g:U6 s x=0
  ·rw[zf (by simpa using g)] at ha;obtain⟨a,b⟩:=B4Y h (hn x (za ..)) g;obtain⟨c,d⟩:=C10 l a (fun e he=>hn e (zb _ he)) ha;exact⟨c,d.trans b⟩
  ·rw[zj g] at ha;exact absurd ha g
theorem B7p(l:List Bt)(n:Nat):∃r,P3 l=P3 (l.take n)++r:=⟨P3 (l.drop n),by rw[←B38,yx]⟩
theorem C11{l:List Ty}{d:Dk}(h:opE l d=0)(n:Nat):Rt (A0y l d n)/\(A0y l d n).types=l/\U7 ⟨l,[]⟩ (P3 ((H3 d.seg).take n))=0:=by
 have ho:=A0Q.1 h;have hf:=A8P (A3y ho.disk).2;have ha:=ho.all;obtain⟨r,hr⟩:=B7p (H3 d.seg) n;rw[hr] at ha hf;have h0:=C0A ha;obtain⟨a,b⟩:=C10 _ (B9n ho.types) (fun e he=>hf e (yp _ he)) h0;exact⟨a,b,h0⟩
theorem C35{l:List Ty}{d:Dk}(h:opE l d=0):Rt (opS l d)/\(opS l d).types=l:=by
 obtain⟨a,b,_⟩:=C11 h (H3 d.seg).length;unfold A0y at a b;rw[uo] at a b;exact⟨a,b⟩
theorem C12(s:H0)(x:F6)(t:Tg):oS s x t=if x.name=tId then A0z t.id else match A8U s t x.name with
  | none=>A1h
  | some (f,c)=>if f.kind=1 then A0z c.n else if f.kind=2 then p9 c.text
   else if f.kind=4 then V3 ((A3T x.args c.ids).map (thO s (x.kids.map D4) (oL s x.kids) (C3 s.types f.of)))
   else match c.ids with
    | []=>A1h
    | y::_=>thO s (x.kids.map D4) (oL s x.kids) (C3 s.types f.of) y:=by cases x; rfl
theorem A2O{α:Type}(f:α->H6)(w:α->Nat):∀l:List α,(∀x∈l,(f x).sz+1<=2*w x)->A1I (l.map f)+l.length<=2*(l.map w).sum
 | [],_=>by simp[A1I]
 | x::r,h=>by
  have h1:=A2O f w r fun y hy=>h y (zb _ hy);have h2:=h x (za ..);simp only[ym,A1I,yd,sm];omega
theorem B1f{s:H0}{kids:List F6}(h:∀u,A1I (oL s kids u)+kids.length<=2*wL s kids u)(kd y:Int):(thO s (kids.map D4) (oL s kids) kd y).sz+1<=2*thW s (wL s kids) kd y:=by
 unfold thO thW;cases thA s kd y with
 | none=>simp[A1h,H6.sz,A1I]
 | some u =>
  have:=h u;simp only[A0a,H6.sz,xg];omega
theorem C36(s:H0):∀(m:Nat) (x:F6) (t:Tg),x.sz<m->(oS s x t).sz+1<=2*wS s x t
 | 0,x,t,h=>by omega
 | m+1,x,t,h=>by
  have hz:=A4x x;have hk:∀u,A1I (oL s x.kids u)+x.kids.length<=2*wL s x.kids u:=fun u=>by
   rw[A3U,B1M];exact A2O _ _ _ fun z hz'=>C36 s m z u (by have:=A1Z hz'; omega)
  rw[C12,C0I];split
  ·simp[A0z,H6.sz,A1I]
  cases hfc:A8U s t x.name with
  | none=>simp[A1h,H6.sz,A1I]
  | some fc =>
  obtain⟨f,c⟩:=fc;simp only;by_cases h1:f.kind=1
  ·rw[zj h1,zj (.inl h1)]; simp[A0z,H6.sz,A1I]
  rw[zf h1];by_cases h2:f.kind=2
  ·rw[zj h2,zj (.inr h2)]; simp[p9,H6.sz,A1I]
  have h12:¬(f.kind=1\/f.kind=2):=by omega
  rw[zf h2,zf h12];split
  ·have:=A2O (thO s (x.kids.map D4) (oL s x.kids) (C3 s.types f.of)) (thW s (wL s x.kids) (C3 s.types f.of)) (A3T x.args c.ids) fun y _=>B1f hk _ _;simp only[V3,H6.sz,rq];omega
  cases hci:c.ids with
  | nil=>simp[A1h,H6.sz,A1I]
  | cons y r=>exact B1f hk _ _
theorem C37(s:H0)(l:List F6)(u:Tg):A1I (oL s l u)+l.length<=2*wL s l u:=by
 rw[A3U,B1M];exact A2O _ _ _ fun z hz'=>C36 s (z.sz+1) z u (wk _)
theorem C4P(s:H0)(x:F6):(rtO s x).sz+1<=2*rtW s x:=by
 unfold rtO rtW;cases x.args with
 | nil =>
  have:=A2O (thO s (x.kids.map D4) (oL s x.kids) (C3 s.types x.name)) (thW s (wL s x.kids) (C3 s.types x.name)) (A0R s (C3 s.types x.name) s.things) fun y _=>B1f (C37 s x.kids) _ _;simp only[V3,H6.sz,rq];omega
 | cons a r=>exact B1f (C37 s x.kids) _ _
theorem C5q(s:H0)(q:List F6):(qO s q).sz+1<=2*qW s q:=by
 have:=A2O (rtO s) (fun x=>rtW s x) q fun x _=>C4P s x;unfold qO qW C0N;simp only[A0a,H6.sz,xg] at *;omega
theorem B7q{l:List H6}(h:∀o∈l,V4 o=0):A4X l=0:=by
 induction l with
 | nil=>rfl
 | cons x r ih =>
  simp only[A4X];rw[zf (by simp[h x (za ..)])];exact ih fun o ho=>h o (zb _ ho)
theorem A3Z{o:H6}(h1:B1S o=0)(h2:∀x∈o.kids,V4 x=0):V4 o=0:=by
 rw[B3F,zf (by simp[h1])];exact B7q h2
theorem A8g{o:H6}(h1:¬(o.kind<1\/5<o.kind))(h2:¬((o.kind≠2/\o.n≠0)\/(o.kind≠3/\o.text≠[])\/(o.kind≠5/\o.keys≠[])\/(o.kind<4/\o.kids≠[])))
  (h3:¬¬(-999999999<=o.n/\o.n<=999999999)) (h4:¬40<o.text.length) (h5:¬(o.kind=5/\o.keys.length≠o.kids.length)) (h6:B3E o.keys=0):B1S o=0:=by
 unfold B1S;rw[zf h1,zf h2,zf h3,zf h4,zf h5];exact h6
theorem A8h:V4 A1h=0:=A3Z (A8g (by decide) (by decide) (by decide) (by decide) (by decide) rfl) fun x hx=>by cases hx
theorem B6I{n:Int}(h : -999999999<=n/\n<=999999999):V4 (A0z n)=0 :=
 A3Z (A8g (by simp[A0z,p9,V3,A0a,H6.kind,H6.n,H6.text,H6.keys,H6.kids]) (by simp[A0z,H6.kind,H6.n,H6.text,H6.keys,H6.kids]) (by simpa [A0z,H6.n] using h) (by simp[A0z,p9,V3,A0a,H6.kind,H6.n,H6.text,H6.keys,H6.kids]) (by simp[A0z,p9,V3,A0a,H6.kind,H6.n,H6.text,H6.keys,H6.kids]) rfl) fun x hx=>by cases hx
theorem C13{t:List UInt8}(h:t.length<=40):V4 (p9 t)=0 :=
 A3Z (A8g (by simp[A0z,p9,V3,A0a,H6.kind,H6.n,H6.text,H6.keys,H6.kids]) (by simp[p9,H6.kind,H6.n,H6.text,H6.keys,H6.kids]) (by simp[A0z,p9,V3,A0a,H6.kind,H6.n,H6.text,H6.keys,H6.kids]) (by simpa [p9,H6.text] using h) (by simp[A0z,p9,V3,A0a,H6.kind,H6.n,H6.text,H6.keys,H6.kids]) rfl) fun x hx=>by cases hx
theorem B3U{l:List H6}(h:∀o∈l,V4 o=0):V4 (V3 l)=0 :=
 A3Z (A8g (by simp[A0z,p9,V3,A0a,H6.kind,H6.n,H6.text,H6.keys,H6.kids]) (by simp[V3,H6.kind,H6.n,H6.text,H6.keys,H6.kids]) (by simp[A0z,p9,V3,A0a,H6.kind,H6.n,H6.text,H6.keys,H6.kids]) (by simp[A0z,p9,V3,A0a,H6.kind,H6.n,H6.text,H6.keys,H6.kids]) (by simp[V3,H6.kind]) rfl) h
theorem B6J{ks:List (List UInt8)}{l:List H6}(h0:B3E ks=0)(h1:ks.length=l.length)(h:∀o∈l,V4 o=0):V4 (A0a ks l)=0 :=
 A3Z (A8g (by simp[A0z,p9,V3,A0a,H6.kind,H6.n,H6.text,H6.keys,H6.kids]) (by simp[A0a,H6.kind,H6.n,H6.text,H6.keys,H6.kids]) (by simp[A0z,p9,V3,A0a,H6.kind,H6.n,H6.text,H6.keys,H6.kids]) (by simp[A0z,p9,V3,A0a,H6.kind,H6.n,H6.text,H6.keys,H6.kids]) (by simp[A0a,H6.kind,H6.keys,H6.kids,h1]) h0) h
theorem A6V{α:Type}{f:Nat->α->Int}:∀{l:List α} {i:Nat},(∀(k:Nat) x,l[k]?=some x->f (i+k) x=0)->D9 f l i=0
 | [],i,_=>rfl
 | y::l,i,h=>by
  simp only[D9];rw[zf (by simpa using h 0 y rfl)];exact A6V fun k x hx=>by have:=h (k+1) x (by simpa using hx); rwa [show i+(k+1)=i+1+k by omega] at this
theorem A5N:∀{l ah:List F6},x9 l ah=0->∀(i:Nat) x,l[i]?=some x->A81 x (ah++l.take i)=0/\x9 x.kids []=0
 | [],ah,_,i,x,hx=>by simp at hx
 | y::l,ah,h,i,x,hx=>by
  simp only[x9] at h;split at h
  ·rename_i g; exact (g h).elim
  rename_i g1;split at h
  ·rename_i g; exact (g h).elim
  rename_i g2;cases i with
  | zero =>
   simp at hx;subst hx;refine⟨?_,?_⟩
   ·simpa using g1
   ·rw[←B2n]; exact zl g2
  | succ i =>
   have:=A5N h i x (by simpa using hx);simpa using this
theorem A8i{l:List F6}(h:x9 l []=0):B3E (l.map D4)=0:=by
 refine A6V fun k s hs=>?_;rw[yi] at hs;obtain⟨x,hx,rfl⟩:=zm.1 hs;have h1:=(A5N h k x hx).1;rw[xm,B2m] at h1;split at h1
 ·rename_i g; exact (g h1).elim
 rename_i g;have g:fNm x=0:=zl g;split at h1
 ·rename_i g; exact (g h1).elim
 split at h1
 ·cases h1
 rename_i g3;unfold B4p C4B;have hn:L7 (D4 x)=0:=by
  unfold fNm at g;split at g
  ·rename_i g4; exact (g4 g).elim
  rename_i g4;unfold D4;split
  ·rename_i ha; rwa [zj ha] at g
  ·exact zl g4
 rw[zf (by simp[hn]),yy,←yu,List.any_map];rw[zf (by simpa using g3)]
theorem B7r{s:H0}{t:Tg}{name:List UInt8}{f:Fd}{c:Cl}(ht:A4O s t)(h:A8U s t name=some (f,c)):A1Y f c=0:=by
 unfold A8U at h;split at h
 ·rename_i f' c' hf hc;have h0:=ht.cell _ c' hc;unfold s9 at h0;rw[hf] at h0;simp only[zd,zi] at h;obtain⟨rfl,rfl⟩:=h;exact h0
 ·cases h
theorem A79{s:H0}(hs:RtS s){l:List F6}(hl:x9 l []=0)(h:∀u∈s.things,∀x∈l,V4 (oS s x u)=0){kd:Int}(hk : -1<=kd/\kd<=5)(y:Int):V4 (thO s (l.map D4) (oL s l) kd y)=0:=by
 unfold thO;cases hu:thA s kd y with
 | none=>exact A8h
 | some u =>
  have hm:=(B1O hs hk hu).1;refine B6J (A8i hl) (by rw[A3U]; simp) fun o ho=>?_;rw[A3U] at ho;obtain⟨x,hx,rfl⟩:=zu.1 ho;exact h u hm x hx
theorem C14{s:H0}(hs:RtS s):∀(n:Nat) (x:F6) (t:Tg),x.sz<n->t∈s.things->x9 x.kids []=0->V4 (oS s x t)=0
 | 0,x,t,h,_,_=>by omega
 | n+1,x,t,h,ht,hx=>by
  have hz:=A4x x;have hto:=hs.tg t ht;have hkid:∀u∈s.things,∀z∈x.kids,V4 (oS s z u)=0:=fun u hu z hz'=>by
   obtain⟨i,hi⟩:=ye.1 hz';exact C14 hs n z u (by have:=A1Z hz'; omega) hu (A5N hx i z hi).2
  rw[C12];split
  ·have:=hto.id1; have:=hto.id2; exact B6I (by omega)
  cases hfc:A8U s t x.name with
  | none=>exact A8h
  | some fc =>
  obtain⟨f,c⟩:=fc;simp only;have hc:=B7r hto hfc;unfold A1Y at hc;split at hc
  ·cases hc
  split at hc
  ·cases hc
  rename_i c2;split at hc
  ·cases hc
  rename_i c3;split
  ·exact B6I (zl c2)
  split
  ·exact C13 (by omega)
  split
  ·refine B3U fun o ho=>?_;obtain⟨y,hy,rfl⟩:=zu.1 ho;exact A79 hs hx hkid (A19 _ _ hs.sch.len) y
  split
  ·exact A8h
  ·exact A79 hs hx hkid (A19 _ _ hs.sch.len) _
theorem C4Q{s:H0}(hs:RtS s){q:List F6}(hq:x9 q []=0):V4 (qO s q)=0:=by
 refine B6J (A8i hq) (by simp) fun o ho=>?_;obtain⟨x,hx,rfl⟩:=zu.1 ho;obtain⟨i,hi⟩:=ye.1 hx;have hl:=(A5N hq i x hi).2;have hkid:∀u∈s.things,∀z∈x.kids,V4 (oS s z u)=0:=fun u hu z hz'=>by
  obtain⟨i,hi⟩:=ye.1 hz';exact C14 hs (z.sz+1) z u (wk _) hu (A5N hl i z hi).2
 unfold rtO;split
 ·refine B3U fun o ho=>?_;obtain⟨y,hy,rfl⟩:=zu.1 ho;exact A79 hs hl hkid (A19 _ _ hs.sch.len) y
 ·exact A79 hs hl hkid (A19 _ _ hs.sch.len) _
theorem C5r{s:H0}{q:List F6}(hw:qW s q<=2000):(qO s q).sz<=100000000000:=by
 have:=C5q s q; omega
theorem B1g{s:List UInt8}{e:Int}(h:A4W s = .error e):e≠0:=by
 unfold A4W at h;split at h
 ·rename_i hl;injection h with h
  exact h▸B1d hl
 ·unfold A3S at h;split at h
  ·injection h with h; omega
  ·split at h
   ·cases h
   ·rename_i hn;injection h with h
    exact h▸hn
theorem C5s{s:List UInt8}{m:List F6}(h:A4W s = .ok m):szL m<=300:=by
 unfold A4W at h;split at h
 ·cases h
 rename_i l hl;have h3:=((B1D s l).1 hl).2.2;unfold A3S at h;split at h
 ·cases h
 rename_i q hq;unfold B1E at hq;split at hq
 ·cases hq
 rename_i q' u hp;have:=(A8e _).2.1 _ _ _ hp;split at hq
 ·injection hq with hq
  subst hq;split at h
  ·injection h with h
   subst h; omega
  ·cases h
 ·cases hq
theorem A8j{E:R4}{σ:St}{k:List Itm}{dst:Option Nat}{g:Option (Nat×Bool)}{us:List Nat}{op:COp}{l:List CR}{j:Nat}{acc:List RR}{ps:List (Nat×Nat)}(hg:A2z (lk σ.fr) g)(hc:Y6 (lk σ.fr) g=false)
  (h:Wk E (.ops l (j+1) (A1M ps ⟨false,.nilp,[],[]⟩ acc) ps::k) (σ.app dst ⟨false,.nilp,[],[]⟩)):Wk E (.ops (⟨dst,g,us,op⟩::l) j acc ps::k) σ :=
 A6c (r:=⟨false,.nilp,[],[]⟩) ⟨hg,hc.symm,(fun h=>by cases h),fun _=>rfl⟩ (A0W h)
theorem C2g{s:H0}{q:List F6}(h:Rt s)(hq:V8 q=0):V4 (qO s q)=0:=C4Q (C0M h.st) (A2j hq).2.2.1
theorem B6K(l:List Ty)(d:Dk)(text:List UInt8)(n:Int)(id:Nat):A2 Tryz.prog 20 [.sl (l.map I8),eDk d,.str text,.int .i64 n] [] id (.tup [.str (A90 l d text n).1,.int .i64 (A90 l d text n).2]) []:=by
 have hO:=fun id=>B1F l d id;have hQ:=fun id=>B3T text id;unfold eDk at hO ⊢;by_cases h:opE l d=0
 rotate_left
 ·have e:A90 l d text n=([],opE l d):=by unfold A90; rw[zj h]
  rw[e];simp only[B4u h,B4v h] at hO;have hb:(opE l d==0)=false:=by simpa using h
  refine w20.e.1 fun E hP hR hl hid=>?_;simp[w20];refine D8 hP rfl (hO _) (by simp) (by simp<;>rfl) ?_;refine A3 56 ?_;simp[hb];refine A8j (by simp[hb]) (by simp[hb]) (A8j (by simp[hb]) (by simp[hb]) (A8j (by simp[hb]) (by simp[hb]) (A8j (by simp[hb]) (by simp[hb]) (A8j (by simp[hb]) (by simp[hb]) ?_))));refine A3 4000 ?_;simp[hb];refine A9 (by simpa using h) ?_;simp;exact yP hR
 rw[h] at hO;simp only[C0y,C0z,B1e] at hO;have ho:=A0Q.1 h;have hbs:=A3y ho.disk;by_cases hr:n<0\/((H3 d.seg).length:Int)<n
 ·have e:A90 l d text n=([],3):=by unfold A90; rw[zf (by simpa using h),zj hr]
  rw[e];refine w20.e.1 fun E hP hR hl hid=>?_;simp[w20];(refine yH rfl (hO _) ?_; simp);refine A9 (by rw[ud,decide_eq_true_eq,decide_eq_true_eq]; exact hr) ?_;simp;exact yP hR
 have hA:A90 l d text n=match A4W text with
  | .error e=>([],e)
  | .ok q=>if A29 l q≠0 then ([],A29 l q) else if qW (A0y l d n.toNat) q<=2000 then (jS (qO (A0y l d n.toNat) q),0) else ([],2):=by
  unfold A90; rw[zf (by simpa using h),zf hr]<;>rfl
 rw[hA];have hcond:(decide (n<0)||decide (((H3 d.seg).length:Int)<n))=false:=by
  rw[we,decide_eq_false_iff_not,decide_eq_false_iff_not]; omega
 obtain⟨m,rfl⟩:∃m:Nat,n=(m:Int):=⟨n.toNat,by omega⟩;rw[wb];cases hq:A4W text with
 | error e =>
  have hne:e≠0:=B1g hq;rw[hq] at hQ;have hQ:∀id,A2 Tryz.prog 16 [.str text] [] id (.tup [.nils,.int .i64 e]) []:=hQ;show A2 _ _ _ _ _ (.tup [.str [],.int .i64 e]) _;have hb:(e==0)=false:=by simpa using hne
  refine w20.e.1 fun E hP hR hl hid=>?_;simp[w20];(refine yH rfl (hO _) ?_; simp);refine A0 (by simp; omega) ?_;simp;(refine yC rfl (hQ _) ?_; simp[hb]);refine A9 (by simpa using hne) ?_;simp;exact yP hR
 | ok q =>
  rw[hq] at hQ;have hQ:∀id,A2 Tryz.prog 16 [.str text] [] id (.tup [.sl (q.map E0),.int .i64 0]) []:=hQ;have hS:=A6P ho.types;have hqz:szL q<=300:=C5s hq;have hq2:V8 q=0:=C42 hq;have hS5:=hS.len;have hF:=fun id=>C1v l q id hS.linked (by omega) (fun t ht=>by have:=hS.fields t ht; omega) (by omega);have hev:=fun j id=>A9y j (.sl ((opS l d).types.map I8)) (.sl ((opS l d).things.map T4)) (by simp[AV.pureB]) (by simp[AV.pureB]) (H3 d.seg) m (by omega) id (by omega) fun b hb=>(A18 (hbs.2 b hb)).1;unfold bxQ at hev;by_cases hf:A29 l q=0
  rotate_left
  ·have hb:(A29 l q==0)=false:=(by simpa using hf);simp only[zj hf];refine w20.e.1 fun E hP hR hl hid=>?_;simp[w20];(refine yH rfl (hO _) ?_; simp);refine A0 (by simp; omega) ?_;simp;(refine yH rfl (hQ _) ?_; simp);(refine yH rfl (hF _) ?_; simp);refine A9 (by simpa using hf) ?_;simp;exact yP hR
  rw[hf] at hF;simp only[hf,ne_eq,not_true_eq_false,if_false];obtain⟨hrt,hty,hal⟩:=C11 h m;have hAll:=fun id=>B9o l (P3 ((H3 d.seg).take m)) id (A8P fun b hb=>hbs.2 b (xh hb)) (by
   have:=A8G (l:=(H3 d.seg).take m) fun b hb=>(A18 (hbs.2 b (xh hb))).1;rw[zw] at this; omega)
  have hat:atE l (P3 ((H3 d.seg).take m)) ((P3 ((H3 d.seg).take m)).length:Int)=0:=by
   unfold atE;rw[zf (by simpa using ho.types),zf (by omega)];simpa using hal
  have has:atS l (P3 ((H3 d.seg).take m)) ((P3 ((H3 d.seg).take m)).length:Int)=A0y l d m:=by
   unfold atS A0y;simp
  rw[hat,has] at hAll;have hRaw:=fun id=>C4A (C0M hrt.st) q (by rw[hty]; exact hf) (by omega) id;rw[show A1H 0 (A0y l d m)=D7 (A0y l d m) from rfl] at hAll;rw[show D7 (A0y l d m) = .agg [.sl ((A0y l d m).types.map I8),.sl ((A0y l d m).things.map T4)] from rfl] at hAll;simp only[show D7 (A0y l d m) = .agg [.sl ((A0y l d m).types.map I8),.sl ((A0y l d m).things.map T4)] from rfl] at hRaw;by_cases hw:qW (A0y l d m) q<=2000
  ·have hJ:=fun id=>A65 ((qO (A0y l d m) q).sz+1) (qO (A0y l d m) q) id (by omega) (C5r hw) (C2g hrt hq2);rw[zj hw];rw[show B1R (A0y l d m) q=eO (qO (A0y l d m) q) by unfold B1R; rw[zj hw],decide_eq_true hw] at hRaw;generalize qO (A0y l d m) q=o at *;obtain⟨ok,on,ot,oks,ols,hoe⟩:∃(a b:Int) (c:List UInt8) (d:List (List UInt8)) (e:List H6),eO o = .agg [.int .i64 a,.int .i64 b,.str c,.sl (d.map .str),.sl (e.map eO)]:=by
    cases o with|mk a b c d e=>exact⟨a,b,c,d,e,A1g a b c d e⟩
   rw[hoe] at hRaw hJ;refine w20.e.1 fun E hP hR hl hid=>?_;simp[w20];(refine yH rfl (hO _) ?_; simp);refine A0 (by simp; omega) ?_;simp;(refine yH rfl (hQ _) ?_; simp);(refine yH rfl (hF _) ?_; simp);(refine yH rfl (hev _ _) ?_; simp);(refine yH rfl (hAll _) ?_; simp);(refine yH rfl (hRaw _) ?_; simp);(refine yH rfl (hJ _) ?_; simp);exact yP hR
  ·rw[zf hw];rw[show B1R (A0y l d m) q=v7 by unfold B1R; rw[zf hw],decide_eq_false hw] at hRaw;unfold v7 at hRaw;refine w20.e.1 fun E hP hR hl hid=>?_;simp[w20];(refine yH rfl (hO _) ?_; simp);refine A0 (by simp; omega) ?_;simp;(refine yH rfl (hQ _) ?_; simp);(refine yH rfl (hF _) ?_; simp);(refine yH rfl (hev _ _) ?_; simp);(refine yH rfl (hAll _) ?_; simp);(refine yH rfl (hRaw _) ?_; simp);exact yP hR
def B1h(s:H0)(bs:List Bt)(d:Dk)(n:Int)(text:List UInt8):ApS :=
 match A4W text with
 | .error e=>⟨⟨[],0⟩,e⟩
 | .ok q=>if cdE s q≠0 then ⟨⟨[],0⟩,cdE s q⟩ else if bs.length=20 then ⟨⟨[],0⟩,2⟩
  else if (H7 ⟨(whole d.seg).seg,(whole d.seg).syn⟩ ⟨n,J0 s.types q⟩).e≠0 then ⟨⟨[],0⟩,(H7 ⟨(whole d.seg).seg,(whole d.seg).syn⟩ ⟨n,J0 s.types q⟩).e⟩
  else A1W (H7 ⟨(whole d.seg).seg,(whole d.seg).syn⟩ ⟨n,J0 s.types q⟩).d
theorem C4R(s:H0)(bs:List Bt)(d:Dk)(n:Int)(text:List UInt8)(j:Nat)(id:Nat)(hI:B4W s)(hl8:bs.length<=1000000)(h8:d.seg.length<=8)(h4:(B6 d.seg).length<=400):A2 Tryz.prog 51 [.ptr j 0 0,eDk d,.int .i64 n,.str text] [(j,bxO s bs)] id (.tup [eDk (B1h s bs d n text).d,.int .i64 (B1h s bs d n text).e]) []:=by
 have hQ:=fun id=>B3T text id;have hW:=fun id=>A7l d.seg d.syn id h8 h4;unfold eDk at *;rw[B1e];unfold B1h;cases hq:A4W text with
 | error e =>
  have hne:e≠0:=B1g hq;rw[hq] at hQ;have hQ:∀id,A2 Tryz.prog 16 [.str text] [] id (.tup [.nils,.int .i64 e]) []:=hQ;show A2 _ _ _ _ _ (.tup [.agg [.sl [],.int .i64 0],.int .i64 e]) _;refine w51.e.1 fun E hP hR hl hid=>?_;simp[w51];have hj:=hl (j,_) (za ..);simp only at hj;have j1:=lf hj;(refine yC rfl (hQ _) ?_; simp[j1]);refine A9 (by simpa using hne) ?_;simp[j1];refine yE hR [] (by simp[j1,A4 hid]) fun hrn=>⟨?_,?_,?_,?_,?_,?_⟩<;>(try simp[j1,A4 hid])
 | ok q =>
  rw[hq] at hQ;have hQ:∀id,A2 Tryz.prog 16 [.str text] [] id (.tup [.sl (q.map E0),.int .i64 0]) []:=hQ;have hqz:szL q<=300:=C5s hq;have hD:=fun id=>C3z s q id hI (by omega);rw[show D7 s = .agg [.sl (s.types.map I8),.sl (s.things.map T4)] from rfl] at hD;show A2 _ _ _ _ _ (.tup [.agg [.sl ((if cdE s q≠0 then _ else _:ApS).d.seg.map AV.str),.int .i64 (if cdE s q≠0 then _ else _:ApS).d.syn],.int .i64 (if cdE s q≠0 then _ else _:ApS).e]) _;by_cases h1:cdE s q=0
  rotate_left
  ·rw[zj h1];rw[A0C,zf h1,show evV (cdE s q) (J0 s.types q) = .nils by unfold evV; rw[zf h1]] at hD;rw[show eS0 = .agg [.nils,.nils] from rfl] at hD;refine w51.e.1 fun E hP hR hl hid=>?_;simp[w51];have hj:=hl (j,_) (za ..);simp only at hj;have j1:=lf hj;(refine yC rfl (hQ _) ?_; simp[j1]);(refine yC rfl (hD _) ?_; simp[j1]);refine A9 (by simpa using h1) ?_;simp[j1];refine yE hR [] (by simp[j1,A4 hid]) fun hrn=>⟨?_,?_,?_,?_,?_,?_⟩<;>(try simp[j1,A4 hid])
  rw[h1] at hD;rw[A0C,zj rfl,show evV 0 (J0 s.types q) = .sl ((J0 s.types q).map K7) from rfl] at hD;rw[show D7 (r8 s (J0 s.types q)) = .agg [.sl ((r8 s (J0 s.types q)).types.map I8),.sl ((r8 s (J0 s.types q)).things.map T4)] from rfl] at hD;generalize r8 s (J0 s.types q)=s2 at *;rw[zf (by simpa using h1)];by_cases h2:bs.length=20
  ·rw[zj h2];refine w51.e.1 fun E hP hR hl hid=>?_;simp[w51];have hj:=hl (j,_) (za ..);simp only at hj;have j1:=lf hj;(refine yC rfl (hQ _) ?_; simp[j1]);(refine yC rfl (hD _) ?_; simp[j1]);refine A9 (by simp[h2]) ?_;simp[j1];refine yE hR [] (by simp[j1,A4 hid]) fun hrn=>⟨?_,?_,?_,?_,?_,?_⟩<;>(try simp[j1,A4 hid])
  rw[zf h2];have hA:=fun id=>B6t ⟨(whole d.seg).seg,(whole d.seg).syn⟩ ⟨n,J0 s.types q⟩ id;have hS:=fun id=>C1n (H7 ⟨(whole d.seg).seg,(whole d.seg).syn⟩ ⟨n,J0 s.types q⟩).d id;have h2b:((bs.length:Int)==20)=false:=by simp; omega
  simp only[eDk,Y9] at hA hS;by_cases h3:(H7 ⟨(whole d.seg).seg,(whole d.seg).syn⟩ ⟨n,J0 s.types q⟩).e=0
  rotate_left
  ·rw[zj h3];generalize H7 ⟨(whole d.seg).seg,(whole d.seg).syn⟩ ⟨n,J0 s.types q⟩=r at *;refine w51.e.1 fun E hP hR hl hid=>?_;simp[w51];have hj:=hl (j,_) (za ..);simp only at hj;have j1:=lf hj;(refine yC rfl (hQ _) ?_; simp[j1]);(refine yC rfl (hD _) ?_; simp[j1]);refine A0 (by simp; omega) ?_;simp[j1];(refine yC rfl (hW _) ?_; simp[j1]);(refine yC rfl (hA _) ?_; simp[j1]);refine A9 (by simpa using h3) ?_;simp[j1];refine yE hR [] (by simp[j1,A4 hid]) fun hrn=>⟨?_,?_,?_,?_,?_,?_⟩<;>(try simp[j1,A4 hid])
  rw[zf (by simpa using h3)];rw[h3] at hA;generalize H7 ⟨(whole d.seg).seg,(whole d.seg).syn⟩ ⟨n,J0 s.types q⟩=r at *;generalize A1W r.d=z at *;refine w51.e.1 fun E hP hR hl hid=>?_;simp[w51];have hj:=hl (j,_) (za ..);simp only at hj;have j1:=lf hj;(refine yC rfl (hQ _) ?_; simp[j1]);(refine yC rfl (hD _) ?_; simp[j1]);refine A0 (by simp; omega) ?_;simp[j1];(refine yC rfl (hW _) ?_; simp[j1]);(refine yC rfl (hA _) ?_; simp[j1]);(refine yC rfl (hS _) ?_; simp[j1]);refine yE hR [] (by simp[j1,A4 hid]) fun hrn=>⟨?_,?_,?_,?_,?_,?_⟩<;>(try simp[j1,A4 hid])
def A0T(l:List Ty)(d:Dk)(n:Int)(text:List UInt8):ApS :=
 if opE l d≠0 then ⟨⟨[],0⟩,opE l d⟩
 else if ¬(1<=n/\n<=65535) then ⟨⟨[],0⟩,3⟩
 else if (H3 d.seg).any (fun b=>b.number==n)=true then ⟨⟨(whole d.seg).seg,(whole d.seg).syn⟩,0⟩
 else B1h (opS l d) (H3 d.seg) d n text
theorem A1K(l:List Ty)(d:Dk)(n:Int)(text:List UInt8)(id:Nat):A2 Tryz.prog 15 [.sl (l.map I8),eDk d,.int .i64 n,.str text] [] id (.tup [eDk (A0T l d n text).d,.int .i64 (A0T l d n text).e]) []:=by
 have hO:=fun id=>B1F l d id;have hN:=fun id=>A7f n id;unfold eDk at hO ⊢;by_cases h:opE l d=0
 rotate_left
 ·have e:A0T l d n text=⟨⟨[],0⟩,opE l d⟩:=by unfold A0T; rw[zj h]
  rw[e];simp only[B4u h,B4v h] at hO;have hb:(opE l d==0)=false:=by simpa using h
  refine w15.e.1 fun E hP hR hl hid=>?_;simp[w15];(refine yH rfl (hO _) ?_; simp);refine A9 (by simpa using h) ?_;simp;refine yE hR [] (by simp[A4 hid]) fun hrn=>⟨?_,?_,?_,?_,?_,?_⟩<;>(try simp[A4 hid])
 rw[h] at hO;simp only[C0y,C0z] at hO;have ho:=A0Q.1 h;have hbs:=A3y ho.disk;have hsz:=A02 (d:=d) (by rw[ho.disk]; decide);have h4:=A3D hsz.2;have hI:=(C35 h).1.idsI;have hW:=fun id=>A7l d.seg d.syn id hsz.1 h4;have hC:=fun j id=>A9g 49 j (.int .i64 n) (.int .i64 n) n rfl (fun x id=>C1q x n j id) (H3 d.seg) id (by omega);have hA:=fun j id=>C4R (opS l d) (H3 d.seg) d n text j id hI (by omega) hsz.1 h4;simp only[B1e,eDk] at hO hA;by_cases h1:1<=n/\n<=65535
 rotate_left
 ·have e:A0T l d n text=⟨⟨[],0⟩,3⟩:=by unfold A0T; rw[zf (by simpa using h),zj h1]
  rw[e];have hb:(decide (1<=n)&&decide (n<=65535))=false:=by
   rw[Bool.and_eq_false_iff,decide_eq_false_iff_not,decide_eq_false_iff_not]; omega
  rw[hb] at hN;refine w15.e.1 fun E hP hR hl hid=>?_;simp[w15];(refine yH rfl (hO _) ?_; simp);(refine yH rfl (hN _) ?_; simp);refine yE hR [] (by simp[A4 hid]) fun hrn=>⟨?_,?_,?_,?_,?_,?_⟩<;>(try simp[A4 hid])
 have hb:(decide (1<=n)&&decide (n<=65535))=true:=by
  rw[yg,decide_eq_true_eq,decide_eq_true_eq]; exact h1
 rw[hb] at hN;by_cases h2:(H3 d.seg).any (fun b=>b.number==n)=true
 ·have e:A0T l d n text=⟨⟨(whole d.seg).seg,(whole d.seg).syn⟩,0⟩:=by unfold A0T; rw[zf (by simpa using h),zf (by simpa using h1),zj h2]
  rw[e];simp only[h2] at hC;refine w15.e.1 fun E hP hR hl hid=>?_;simp[w15];(refine yH rfl (hO _) ?_; simp);(refine yH rfl (hN _) ?_; simp);(refine yH rfl (hC _ _) ?_; simp);(refine yH rfl (hW _) ?_; simp);exact yP hR
 have e:A0T l d n text=B1h (opS l d) (H3 d.seg) d n text:=by unfold A0T; rw[zf (by simpa using h),zf (by simpa using h1),zf h2]
 rw[e];have h2:(H3 d.seg).any (fun b=>b.number==n)=false:=by simpa using h2
 simp only[h2] at hC;generalize B1h (opS l d) (H3 d.seg) d n text=z at *;refine w15.e.1 fun E hP hR hl hid=>?_;simp[w15];(refine yH rfl (hO _) ?_; simp);(refine yH rfl (hN _) ?_; simp);(refine yH rfl (hC _ _) ?_; simp);(refine yH rfl (hA _ _) ?_; simp);exact yP hR
theorem B3V{l:List (List UInt8)}{syn:Int}{b:Bt}(g:A2c l)(hc:F2 ⟨l,syn⟩=0)(he:(H7 ⟨l,syn⟩ b).e=0):
  A2c (H7 ⟨l,syn⟩ b).d.seg/\F2 (H7 ⟨l,syn⟩ b).d=0/\H3 (H7 ⟨l,syn⟩ b).d.seg=H3 l++[b]/\(C6 (B6 (H7 ⟨l,syn⟩ b).d.seg) 0).last=(B6 (H7 ⟨l,syn⟩ b).d.seg).length/\I2 b=0/\(C6 (B6 l) 0).last=(B6 l).length /\
  ((H7 ⟨l,syn⟩ b).d=⟨A1E l (B6 l++C5 b),syn⟩/\l≠[]\/(H7 ⟨l,syn⟩ b).d=⟨l++[C5 b],0⟩):=by
 obtain⟨z1,z2,z3,z4⟩:=A4v hc;simp only at z2 z3 z4;unfold H7 at he ⊢;simp only at he ⊢;rw[hc] at he ⊢;rw[zf (by decide)] at he ⊢;split at he
 ·rename_i h; exact (h he).elim
 ·rename_i hb;rw[zf hb];have hb:I2 b=0:=zl hb;split at he
  ·simp at he
  ·rename_i hw;rw[zf hw];have hwl:(C6 (B6 l) 0).last=(B6 l).length:=by
    have:=(M9 (B6 l) 0 (by omega)).2.1;omega
   split at he
   ·rename_i hp;rw[zj hp];obtain⟨c1,c2,c3⟩:=C1p (B6 l) b hb hwl;have g':A2c (A1E l (B6 l++C5 b)):=g.set (by simp; omega) c3;have hls:=A7o hp.1 (B6 l++C5 b);refine⟨g',?_,?_,by simp only[hls]; exact c2,hb,hwl,.inl ⟨rfl,hp.1⟩⟩
    ·have e:syn=(syn.toNat:Int):=(by omega);rw[e];refine g'.check syn.toNat ?_;rw[hls];have h1:=B2W (B6 l++C5 b) syn.toNat (by simp; omega) 0 (by omega);rw[xz (by omega)] at h1;rw[←h1,B2W (B6 l) syn.toNat (by omega) 0 (by omega)];exact z4
    ·simp only;rw[B2b hp.1,c1,A9f hp.1,yk]
   ·rename_i hp;rw[zf hp];split at he
    ·simp at he
    ·rename_i h8;rw[zf h8];have hbl:(C5 b).length<=400:=(by have:=A1U b hb; simp[C5]; omega);have hone:=C1o b hb;have hl8:=g.h8;have g':A2c (l++[C5 b]):=g.snoc (by omega) hbl (by rw[hone]) fun _=>hwl;refine⟨g',?_,?_,?_,hb,hwl,.inr rfl⟩
     ·refine g'.check 0 ?_;rw[A7p,hone]; simp
     ·simp[H3,hone]
     ·simp only[A7p,hone]
end Go.Am
namespace Go.Am
open Go Go.RowKit
end Go.Am
namespace Go.Am
open Go Go.Proofs Go.RowKit
structure C5t(l:List Ty)(d x:Dk)(n:Int):Prop where
 was:DOk l d
 now:DOk l x
 syn:x.syn=(B6 x.seg).length
 lst:(C6 (B6 x.seg) 0).last=(B6 x.seg).length
 rng:1<=n/\n<=65535
 bts:((H3 d.seg).any (fun b=>b.number==n)=true/\H3 x.seg=H3 d.seg)\/((H3 d.seg).any (fun b=>b.number==n)=false/\∃ev,H3 x.seg=H3 d.seg++[⟨n,ev⟩])
theorem B7s{d:Dk}(h:(A1W d).e=0):(A1W d).d=⟨d.seg,(B6 d.seg).length⟩:=by
 unfold A1W at h ⊢;split at h
 ·exact absurd h (by assumption)
 rename_i h1;rw[zf h1];split at h
 ·cases h
 rename_i h2;rw[zf h2]
theorem C4S{l:List Ty}{d:Dk}{n:Int}{text:List UInt8}(h:(A0T l d n text).e=0):C5t l d (A0T l d n text).d n:=by
 have hc:A0T l d n text=if opE l d≠0 then ⟨⟨[],0⟩,opE l d⟩ else if ¬(1<=n/\n<=65535) then ⟨⟨[],0⟩,3⟩ else if (H3 d.seg).any (fun b=>b.number==n)=true then ⟨⟨(whole d.seg).seg,(whole d.seg).syn⟩,0⟩ else B1h (opS l d) (H3 d.seg) d n text:=rfl
 rw[hc] at h ⊢;by_cases h0:opE l d=0
 rotate_left
 ·rw[zj h0] at h; exact absurd h h0
 rw[zf (by simpa using h0)] at h ⊢;by_cases h1:1<=n/\n<=65535
 rotate_left
 ·rw[zj h1] at h; cases h
 rw[zf (by simpa using h1)] at h ⊢;have ho:=A0Q.1 h0;have g:=B5R ho.disk;obtain⟨w1,w2,w3,w4,w5,w6⟩:=B4D g;by_cases h2:(H3 d.seg).any (fun b=>b.number==n)=true
 ·rw[zj h2] at h ⊢;exact⟨ho,⟨ho.types,w2,by rw[w3]; exact ho.once,by rw[w3]; exact ho.all⟩,by show ((whole d.seg).syn:Int)=_; rw[w6],w5,h1,.inl ⟨h2,w3⟩⟩
 rw[zf h2] at h ⊢;have h2:(H3 d.seg).any (fun b=>b.number==n)=false:=by simpa using h2
 unfold B1h at h ⊢;cases hq:A4W text with
 | error e=>rw[hq] at h; exact absurd h (B1g hq)
 | ok q =>
  rw[hq] at h;simp only at h ⊢;by_cases h3:cdE (opS l d) q=0
  rotate_left
  ·rw[zj h3] at h; exact absurd h h3
  rw[zf (by simpa using h3)] at h ⊢;by_cases h4:(H3 d.seg).length=20
  ·rw[zj h4] at h; cases h
  rw[zf h4] at h ⊢;by_cases h5:(H7 ⟨(whole d.seg).seg,(whole d.seg).syn⟩ ⟨n,J0 (opS l d).types q⟩).e=0
  rotate_left
  ·rw[zj h5] at h; exact absurd h h5
  rw[zf (by simpa using h5)] at h ⊢;obtain⟨a1,a2,a3,a4,_⟩:=B3V w1 w2 h5;rw[B7s h];have hall:H3 (H7 ⟨(whole d.seg).seg,(whole d.seg).syn⟩ ⟨n,J0 (opS l d).types q⟩).d.seg=H3 d.seg++[⟨n,J0 (opS l d).types q⟩]:=by rw[a3,w3]
  refine⟨ho,⟨ho.types,a1.check _ ?_,?_,?_⟩,rfl,a4,h1,.inr ⟨h2,_,hall⟩⟩
  ·rw[←a4]; exact B2a _
  ·show A60 [] (H3 (H7 _ _).d.seg)=false;rw[hall,C0C,ho.once]; simpa using h2
  ·show U7 ⟨l,[]⟩ (P3 (H3 (H7 _ _).d.seg))=0;rw[hall,B38,C0B,C09 ho.all];exact (C00 h3).2
end Go.Am
