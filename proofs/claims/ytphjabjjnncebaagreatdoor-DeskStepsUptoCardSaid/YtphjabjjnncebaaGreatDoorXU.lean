/- Parts of the proof: an abstract machine for Go functions, and what functions of the program give back (Qr10, Qr11, Qr12, Qr13, Dw4, Dp2, Dp3, Am64, Dw5, Dw6, Dw7, Dk13, Dk14, Dk15, Dk16). No condition. -/
import Derived.Test.YtphjabjjnncebaaGreatDoorXT
import Derived.Test.YtphjabjjnncebaaGreatDoorXQ
import Derived.Test.YtphjabjjnncebaaGreatDoorXR
import Derived.Test.YtphjabjjnncebaaGreatDoorXS
import Derived.Test.YtphjabjjnncebaaGreatDoorXG
import Derived.Test.YtphjabjjnncebaaGreatDoorXP
import Derived.Test.YtphjabjjnncebaaGreatDoorXI
set_option maxRecDepth 100000
set_option linter.all false
set_option maxHeartbeats 16000000
namespace Go.Am
open Go Go.Proofs Go.RowKit Go.Proofs.Tryz
def C2u(E:O8)(e:Int)(y:Int)(J:Nat)(h4:J<E.n0)(hR:∀fr bx k,bk bx J=some (E7 e)->(∀q∈bx,q.1=J\/E.n0<=q.1)->E.Rt ⟨fr,bx,k⟩):
  Wk E [.code B27] ⟨[(0,true,.ptr J 0 0),(1,true,erV e)],[(J,some (E7 y))],0⟩:=by
 unfold erV E7;have e4:∀t,(J=E.n0+t)=False:=λt=>by simp; omega
 refine A3 4000 ?_;simp[B27,e4];refine hR _ _ _ ?_ ?_
 ·simp[e4,E7]
 ·simp
def C8d{x x' z:Code}{X:Operand}{Y:Code}(h:f109.body=some (.seq x (.seq x' (.cond X Y z)))):C9 prog f109.ntmps Y=B27:=by
 have h0:=C6u;rw[h] at h0;simp only[vd,zd,C5e] at h0;obtain⟨_,_,e1,_,h1⟩:=H2 h0;injection e1 with _ e1
 subst e1;obtain⟨_,_,e2,_,h2⟩:=H2 h1;injection e2 with _ e2
 subst e2;obtain⟨_,_,_,e3,_,h3,_⟩:=A1F h2;injection e3 with _ e3 _
 subst e3;exact h3
def C2v(C:Cx prog)(G:Gh)(B:Nat->Option Bx)(w:World)(er:Int)(y:Int)(n0 J:Nat)(v4 u:Value)(hs:RS C G B w)(hv4:RV G w (.ptr J 0 0) v4)(hu:RV G w (erV er) u)
  (h4:B J=some (E7 y)) (hold:∀x,G.used x->x<n0) (how:∀x,n0<=x->B x=none) :
  CallsD prog 109 #[v4] (.panicking [{ v:=u,recovered:=false }]) w λe u' w'=>u' = .panicking [{ v:=u,recovered:=true }]/\(∃v,e = .returned v) /\
   ∃G' l k,RS C G' (ov B l) w'/\L4 G w G' w'/\bk l J=some (E7 er)/\(∀q∈l,q.1=J\/n0<=q.1)/\(∀x,x<n0->G'.used x->G.used x)/\∀x,G'.used x->x<n0+k:=by
 obtain⟨q,rfl⟩:∃q,u = .iface 31 q:=by
  unfold erV at hu;cases hu with|iface _ _ q h=>exact⟨q,rfl⟩
 refine callsD_of_wpS func109 rfl λc₀ cs hm=>?_;apply wpS_seq;apply wpS_region;simp[wpOpsS,go_sem,recoverD,hm,ntmps109,Exit.thenS];apply wpS_seq;apply wpS_region;simp[wpOpsS,go_sem,Exit.thenS];refine wpS_cond (t:=true) (by simp[Act.eval,Array.replicate]) ?_;apply wpS_of_wp;simp only[if_true];let E:O8:=⟨prog,C,B,f109.ntmps,n0,G,w,how,hold,hs,[],λσ=>bk σ.bx J=some (E7 er)/\∀q∈σ.bx,q.1=J\/n0<=q.1,λ_ _=>False⟩
 have l4:=hold J (hs.boxNames h4).1;have hW:=C2u E er y J l4 λfr bx k h1 h2=>⟨h1,h2⟩;refine wp_mono (hW _ (C8d rfl) G _ w ?_) λe a w' hq=>?_
 ·refine⟨L4.refl G w,?_,λi hi=>by have:=hold i hi; show i<n0+0; omega,λi _ hi=>hi,λn c v hl=>?_,?_,rfl⟩
  ·have hh:K8 B [(J,E7 y)]:=λq hq=>by
    simp at hq;obtain rfl:=hq;exact h4
   have:=A2M hh;simp only[D4] at this;show RS C G (ov B _) w;rw[this]; exact hs
  ·simp only[lk] at hl;repeat' split at hl
   all_goals first|cases hl|skip
   all_goals rename_i hn<;>subst hn<;>refine⟨λ_=>?_,λh=>by cases h⟩
   ·simpa [zl] using hv4
   ·simpa [zl] using hu
  ·simp[E,ntmps109]
 ·have fin:∀σ G',Q5 E σ G' a w'->E.Rt σ->∀(cs':List Frame),a.defers=[]/\(∃v,(results f109 a.tmps).run prog w' = .ok v w')/\∃G' l k,RS C G' (ov B l) w'/\L4 G w G' w'/\bk l J=some (E7 er)/\(∀q∈l,q.1=J\/n0<=q.1)/\(∀x,x<n0->G'.used x->G.used x)/\∀x,G'.used x->x<n0+k:=λσ G' hD hR _=>by
   refine⟨hD.defers,⟨_,by simp[results,results83]; rfl⟩,G',σ.bx,σ.k,hD.rs,hD.ev,hR.1,hR.2,hD.old,hD.used⟩
  cases e with
  | normal =>
   obtain⟨σ,G',h1,h2⟩:=hq;obtain⟨f1,⟨v,f2⟩,g1,g2,g3,d1,d2,d3,d4,d5,d6⟩:=fin σ G' h1 h2 cs;exact⟨f1,_,rfl,v,f2,rfl,⟨v,rfl⟩,g1,g2,d1,d2,d3,λx y h=>d4 (x,y) h,d5,g3,d6⟩
  | ret =>
   obtain⟨σ,G',h1,h2⟩:=hq;obtain⟨f1,⟨v,f2⟩,g1,g2,g3,d1,d2,d3,d4,d5,d6⟩:=fin σ G' h1 h2 cs;exact⟨f1,_,rfl,v,f2,rfl,⟨v,rfl⟩,g1,g2,d1,d2,d3,λx y h=>d4 (x,y) h,d5,g3,d6⟩
  | exit id=>obtain⟨σ,G',h1,h2⟩:=hq; exact h2.elim
  | panic chain =>
   obtain⟨pv,u,σ,F,B,U,G',rfl,h1,h2,h3,h4⟩:=hq;exact h4.elim
  | _=>exact hq.elim
def C2w(v1:Value)(w:World):CallsD prog 109 #[v1] .returning w λe u' w'=>u' = .returning/\(∃v,e = .returned v)/\w'=w:=by
 refine callsD_of_wpS func109 rfl λc₀ cs hu=>?_;apply wpS_seq;apply wpS_region;simp[wpOpsS,go_sem,recoverD,hu,ntmps109,Exit.thenS];apply wpS_seq;apply wpS_region;simp[wpOpsS,go_sem,Exit.thenS];refine wpS_cond (t:=false) (by simp[Act.eval,Array.replicate]) ?_;simp only[xm,if_false];apply wpS_of_wp;refine wp_skip ?_;exact⟨rfl,_,by rw[←hu],_,by simp[results,results83]; rfl,rfl,⟨_,rfl⟩,rfl⟩
def C9T{a b t u sk m c d e f r:Code}{X:Operand}(h:f52.body=some (.seq a (.seq b (.seq (.seq t (.cond X u sk)) (.seq m (.seq c (.seq d (.seq e (.seq f r))))))))):
  C9 prog f52.ntmps a=B7J/\C9 prog f52.ntmps b=B7K/\C9 prog f52.ntmps t=B7L/\C9 prog f52.ntmps u=B7O/\C9 prog f52.ntmps c=B7M/\C9 prog f52.ntmps d=A5q/\C9 prog f52.ntmps e=A5r/\C9 prog f52.ntmps (.seq f r) = .seq B7N CC.ret:=by
 have h0:=C8J;rw[h] at h0;simp only[vd,zd,C8G] at h0;obtain⟨_,_,e1,k1,h1⟩:=H2 h0;injection e1 with e1 e1'
 subst e1 e1';obtain⟨_,_,e2,k2,h2⟩:=H2 h1;injection e2 with e2 e2'
 subst e2 e2';obtain⟨_,_,e3,k3,h3⟩:=H2 h2;injection e3 with e3 e3'
 subst e3 e3';obtain⟨_,_,e4,k4,h4⟩:=H2 k3;injection e4 with e4 e4'
 subst e4 e4';obtain⟨_,_,_,e5,_,k5,_⟩:=A1F h4;injection e5 with _ e5 _
 subst e5;obtain⟨_,_,e6,_,h6⟩:=H2 h3;injection e6 with _ e6
 subst e6;obtain⟨_,_,e7,k7,h7⟩:=H2 h6;injection e7 with e7 e7'
 subst e7 e7';obtain⟨_,_,e8,k8,h8⟩:=H2 h7;injection e8 with e8 e8'
 subst e8 e8';obtain⟨_,_,e9,k9,h9⟩:=H2 h8;injection e9 with e9 e9'
 subst e9 e9';exact⟨k1,k2,k4,k5,k7,k8,k9,h9⟩
def C7A{a b t m r:Code}(h:f52.body=some (.seq a (.seq b (.seq t (.seq m r))))){Q:Exit->Act->World->Prop}{t:Array Value}{w:World}(hsz:15<t.size)
  (hQ:Q .normal ⟨t.setIfInBounds 15 (.func (.func 109) #[] #[t[4]?.getD undef]),[⟨.fn (.func 109) #[t[4]?.getD undef],#[]⟩]⟩ w):m.wp prog Q ⟨t,[]⟩ w:=by
 have e:f52.body=some (.seq _ (.seq _ (.seq _ (.seq _ _)))):=rfl;rw[e] at h;injection h with h
 injection h with _ h
 injection h with _ h
 injection h with _ h
 injection h with h _
 subst h;refine wp_region ?_;have hmf:∀(fn:Fn) (first cap:Array Value) (w:World),(Instr.makeFunc fn first cap).run prog w = .ok (.func fn first cap) w:=λ_ _ _ _=>rfl;simp[wpOps,wpOp,go_sem,hmf,Exit.then,hsz];exact .inl (.inl hQ)
def B2R{C:Cx prog}{D:List Deferred}{G G':Gh}{w w':World}{bx:Nat->Option Bx}{n0 k id J K:Nat}{F:Fr}{l:List (Nat×Option Bx)}{a:Act}{e:Int}{b0:Bx}{X:Option Bx}(own:∀i,n0<=i->bx i=none)(old:∀i,G.used i->i<n0)(hs:RS C G bx w)(hid:∀x,id<=x->x<id+1024->¬G.used x)
  (hD:F9 C f52.ntmps D n0 G w F (ov bx l) (· < n0+k) G' a w') (f4:F 4=some (true,.ptr J 0 0)) (h4:ov bx l J=some (E7 e)) (hK:ov bx l K=X) (hX:∀b,X=some b->F8 b.xs=true) (hb0:bx K=some b0) (hl:∀q∈l,q.1=K\/n0<=q.1) (j4:n0<=J) (hKn:K<n0) :
  ∃v,(results f52 a.tmps).run prog w' = .ok v w'/\∃G1,RS C G1 (F6 bx [(K,X)]) w'/\L4 G w G1 w'/\RV G1 w' (.int .i64 e) v/\∀x,G1.used x->G.used x\/(id<=x/\x<id+1024):=by
 let E:O8:=⟨prog,C,bx,f52.ntmps,n0,G,w,own,old,hs,D,λ_=>True,λ_ _=>False⟩
 have hD':Q5 E ⟨[(4,true,.ptr J 0 0)],(J,some (E7 e))::(K,X)::l,k⟩ G' a w':=by
  refine⟨hD.ev,?_,hD.used,hD.old,λn c v hl=>?_,hD.size,hD.defers⟩
  ·show RS C G' (ov bx _) w';simp only[ov];rw[Y7 (f:=ov bx l) hK,Y7 h4];exact hD.rs
  ·simp only[lk] at hl;repeat' split at hl
   all_goals first|cases hl|skip
   all_goals rename_i hn<;>subst hn
   exact hD.fr _ _ _ f4
 have hh:K8 E.β [(K,b0)]:=λq hq=>by
  simp at hq;obtain rfl:=hq;exact hb0
 refine A6L (E:=E) (id:=id) (rd:=[(K,b0)]) (wr:=[(K,X)]) (C8I) hh hid hD' ?_;simp only[C8H];have hJK:J≠K:=by omega
 refine F5 (vs:=[.int .i64 e]) (by simp[E7]) [] trivial ⟨.same _ (H7 _ rfl),?_,?_,?_,trivial,?_⟩
 ·have one:∀b',X=some b'->∃x b,(P2 n0 [] trivial).ρ K=some x/\bk ((J,some (E7 e))::(K,X)::l) x=some b/\BxR (P2 n0 [] trivial) G.used b b':=λb hb=>by
   refine⟨K,b,?_,?_,BxR.same λi x hx=>H7 _ (A6A (hX b hb) hx)⟩
   ·show rnF n0 [] K=some K;simp[rnF,lkN,hKn]
   ·simp[bk,yc hJK,hb]
  clear hD hD' h4 hK;have hap:F6 (bk (D4 [(K,b0)])) [(K,X)] K=X:=by simp[F6,T6]
  have one':match F6 (bk (D4 [(K,b0)])) [(K,X)] K with
    | none=>True
    | some b'=>∃x b,(P2 n0 [] trivial).ρ K=some x/\bk ((J,some (E7 e))::(K,X)::l) x=some b/\BxR (P2 n0 [] trivial) G.used b b':=by
   rw[hap];cases X with
   | none=>trivial
   | some b=>exact one b rfl
  exact⟨one',one',trivial⟩
 ·refine⟨.inl j4,.inr (.inl rfl),?_⟩;clear hD hD' h4 hK;induction l with
  | nil=>trivial
  | cons q l ih =>
   obtain⟨q1,q2⟩:=q;refine⟨?_,ih λx hx=>hl x (zb _ hx)⟩;rcases hl (q1,q2) (za ..) with h|h
   ·exact .inr (.inl h)
   ·exact .inl h
 ·exact⟨.inl (.inl rfl),trivial⟩
 ·trivial
def C52{c:UInt8}{r:List UInt8}{e:Int}(h:A0k c r = .error e):e≠0:=by
 unfold A0k at h;split at h
 ·split at h
  ·cases h
  ·injection h with h; rw[←h]; assumption
 split at h
 ·split at h
  ·injection h with h; omega
  ·cases h
 split at h
 ·split at h
  ·injection h with h; omega
  ·split at h
   ·injection h with h; omega
   ·cases h
 split at h
 ·cases h
 ·injection h with h; omega
def B4f:∀(n:Nat) (acc:List Tk) (s:List UInt8) (e:Int),s9 n acc s = .error e->e≠0
 | 0,_,_,e,h=>by unfold s9 at h; injection h with h; omega
 | n+1,acc,s,e,h=>by
  unfold s9 at h;split at h
  ·cases h
  ·split at h
   ·rename_i he;injection h with h
    rw[←h]; exact C52 he
   ·split at h
    ·injection h with h; omega
    ·exact B4f n _ _ _ h
def B2S{s:List UInt8}{e:Int}(h:A5n s = .error e):e≠0:=by
 unfold A5n at h;split at h
 ·injection h with h; omega
 ·exact B4f _ _ _ _ h
def A38(pr:List Tk->Option (AV×List Tk))(s:List UInt8):Int:=match A5n s with
 | .error e=>e
 | .ok l=>match pr l with
  | none=>1
  | some (_,u)=>if u=[] then 0 else 1
def A56(pr:List Tk->Option (AV×List Tk))(s:List UInt8):Option Bx:=match A5n s with
 | .error _=>some (lK .nils)
 | .ok l=>match pr l with
  | none=>none
  | some (v,_)=>some (lK v)
def doR(J K:Nat)(z:List Tk):Option (AV×List Tk)->Except AV (AV×List (Nat×Option Bx))
 | none=>.error (erV 1)
 | some (v,u)=>.ok (.tup [],[(J,some (tB z u)),(K,some (lK v))])
def B9V(E:O8)(f n0 K:Nat)(l:List Tk):St :=
 ⟨[(1,true,.fn f [.ptr K 0 0]),(4,true,.ptr n0 0 0),(6,true,.ptr E.n0 0 0)],[(E.n0,some (tB l l)),(n0,some (E7 0)),(K,some (lK .nils))],1⟩
def A5y(E:O8)(n0 K:Nat)(l u:List Tk)(v:AV):St :=
 ⟨[(4,true,.ptr n0 0 0),(6,true,.ptr E.n0 0 0)],[(E.n0,some (tB l u)),(n0,some (E7 0)),(K,some (lK v))],1⟩
def rBg(E:O8)(f K:Nat)(V:AV)(e:Int):St :=
 ⟨[(1,true,.fn f [.ptr K 0 0]),(4,true,.ptr E.n0 0 0),(5,true,V)],[(E.n0,some (E7 e)),(K,some (lK .nils))],1⟩
section
variable (E:O8) (hP:E.P=Tryz.prog) (f K:Nat) (h5:K<E.n0) (s:List UInt8)
include hP h5
theorem C2x(V:AV)(e:Int)(hV:V.pureB=true)(hre:∀id,A2 prog 108 [.str s] [] id (.tup [V,.int .i64 e]) []):
  Wk E [.code B7K,.post λσ=>D9 E σ (rBg E f K V e)] ⟨[(4,true,.ptr E.n0 0 0),(0,true,.str s),(1,true,.fn f [.ptr K 0 0])],[(E.n0,some (E7 0)),(K,some (lK .nils))],1024⟩:=by
 have K1:=T2 h5; have K2:=O0 h5; have K3:=O1 h5; have K4:=L8 h5;unfold E7 lK;refine A3 4000 ?_;simp[B7K,K1,K2,K3,K4,h5];(refine yC rfl (hre _) ?_; simp[K1,K2,K3,K4,h5]);unfold rBg;refine yV [(E.n0,E.n0)] (by simp[E7,lK,K1,K2,K3,K4,h5]) λhrn=>⟨?_,?_,?_,?_,?_⟩<;>(try simp[E7,lK,K1,K2,K3,K4,h5]);all_goals exact .same _ (H7 _ hV)
theorem C5n(V:AV)(e:Int)(b:Bool)(hb:(e != 0)=b)(hV:V.pureB=true):
  Wk E [.code B7L,.post λσ=>lk σ.fr 13=some (true,.bool b)/\D9 E σ (rBg E f K V e)] (rBg E f K V e):=by
 have K1:=T2 h5; have K2:=O0 h5; have K3:=O1 h5; have K4:=L8 h5;unfold rBg E7 lK;refine A3 4000 ?_;simp[B7L,hb,K1,K2,K3,K4,h5];refine yV [(E.n0,E.n0)] (by simp[E7,lK,K1,K2,K3,K4,h5]) λhrn=>⟨?_,?_,?_,?_,?_⟩<;>(try simp[E7,lK,K1,K2,K3,K4,h5]);all_goals exact .same _ (H7 _ hV)
theorem C8e(V:AV)(e:Int)(hR:∀σ,bk σ.bx E.n0=some (E7 e)->bk σ.bx K=some (lK .nils)->lk σ.fr 4=some (true,.ptr E.n0 0 0)->(∀x∈σ.bx,x.1=K\/E.n0<=x.1)->E.Rt σ):
  Wk E [.code B7O,.post (λ_=>False)] (rBg E f K V e):=by
 have K1:=T2 h5; have K2:=O0 h5; have K3:=O1 h5; have K4:=L8 h5;unfold rBg E7 lK;refine A3 4000 ?_;simp[B7O,K1,K2,K3,K4,h5];refine hR _ ?_ ?_ ?_ ?_
 ·simp[E7,K1,K2,K3,K4]
 ·simp[lK,K1,K2,K3,K4]
 ·simp
 ·simp
end
section
variable (E:O8) (hP:E.P=Tryz.prog) (f n0 K:Nat) (h4:n0<E.n0) (h5:K<E.n0) (d:n0≠K) (l u:List Tk)
include hP h4 h5 d
theorem C8f(fr:List (Nat×Bool×AV))(k:Nat)(e1:lk fr 1=some (true,.fn f [.ptr K 0 0]))(e4:lk fr 4=some (true,.ptr n0 0 0))(e5:lk fr 5=some (true,.sl (l.map S7))):
  Wk E [.code B7M,.post λσ=>D9 E σ (B9V E f n0 K l)] ⟨fr,[(n0,some (E7 0)),(K,some (lK .nils))],k⟩:=by
 have N1:=T2 h4; have N2:=O0 h4; have N3:=O1 h4; have N4:=L8 h4;have K1:=T2 h5; have K2:=O0 h5; have K3:=O1 h5; have K4:=L8 h5;unfold E7 lK;refine A3 4000 ?_;simp[B7M,e1,e4,e5,N1,N2,N3,N4,K1,K2,K3,K4,d,yc d];unfold B9V;refine yV [(E.n0,E.n0+(k+2048))] (by simp[tB,E7,lK,e1,e4,N1,N2,N3,N4,h4,K1,K2,K3,K4,h5,d,yc d]) λhrn=>⟨?_,?_,?_,?_,?_⟩<;>(try simp[tB,E7,lK,e1,e4,N1,N2,N3,N4,h4,K1,K2,K3,K4,h5,d,yc d])
theorem C8g(v:AV)(hv:v.pureB=true)(hF:∀id,A2 prog f [.ptr E.n0 0 0,.ptr K 0 0] [(E.n0,tB l l),(K,lK .nils)] id (.tup []) [(E.n0,some (tB l u)),(K,some (lK v))]):
  Wk E [.code A5q,.post λσ=>D9 E σ (A5y E n0 K l u v)] (B9V E f n0 K l):=by
 have N1:=T2 h4; have N2:=O0 h4; have N3:=O1 h4; have N4:=L8 h4;have K1:=T2 h5; have K2:=O0 h5; have K3:=O1 h5; have K4:=L8 h5;rw[B5,B5,M3,M3] at hF;unfold B9V E7 lK tB;refine A3 4000 ?_;simp[A5q,N1,N2,N3,N4,h4,K1,K2,K3,K4,h5,d,yc d];(refine E8 hP (by simp<;>exact⟨rfl,rfl⟩) rfl (hF _) (by simp[N1,N2,N3,N4,h4,K1,K2,K3,K4,h5,d,yc d]) (by simp[N1,N2,N3,N4,h4,K1,K2,K3,K4,h5,d,yc d]<;>rfl) ?_; refine A3 4000 ?_; simp[N1,N2,N3,N4,h4,K1,K2,K3,K4,h5,d,yc d]);unfold A5y;have hpl:F8 [v]=true:=by simp[F8,hv]
 refine yV [(E.n0,E.n0)] (by simp[tB,E7,lK,hv,N1,N2,N3,N4,h4,K1,K2,K3,K4,h5,d,yc d]) λhrn=>⟨?_,?_,?_,?_,?_⟩<;>(try simp[tB,E7,lK,hv,N1,N2,N3,N4,h4,K1,K2,K3,K4,h5,d,yc d]);all_goals exact .same _ (H7 _ hv)
theorem C7B(hF:∀id,Z0 prog f [.ptr E.n0 0 0,.ptr K 0 0] [(E.n0,tB l l),(K,lK .nils)] id (.error (erV 1)))
  (hPn:∀σ,bk σ.bx n0=some (E7 0)->ov E.β σ.bx K=none->lk σ.fr 4=some (true,.ptr n0 0 0)->(∀x∈σ.bx,x.1=K\/x.1=n0\/E.n0<=x.1)->E.Pn (erV 1) σ) :
  Wk E [.ops (Q4 A5q) 0 [] [],.post (λ_=>False)] (B9V E f n0 K l):=by
 have N1:=T2 h4; have N2:=O0 h4; have N3:=O1 h4; have N4:=L8 h4;have K1:=T2 h5; have K2:=O0 h5; have K3:=O1 h5; have K4:=L8 h5;rw[B5,M3] at hF;unfold B9V E7 lK tB;refine A3 4000 ?_;simp[Q4,A5q,N1,N2,N3,N4,h4,K1,K2,K3,K4,h5,d,yc d];refine A2P hP (by simp<;>exact⟨rfl,rfl⟩) rfl (hF _) s_ (by simp[N1,N2,N3,N4,h4,K1,K2,K3,K4,h5,d,yc d]<;>rfl) (λpv hpv=>⟨by simp[N1,N2,N3,N4,h4,K1,K2,K3,K4,h5,d,yc d],by injection hpv with hpv; subst hpv; exact hPn _ (by simp[E7,N1,N2,N3,N4,h4,K1,K2,K3,K4,h5,d,yc d]) (by simp[ov,T6,N1,N2,N3,N4,h4,K1,K2,K3,K4,h5,d,yc d]) s_ s_⟩) (λv wr h=>by cases h)
theorem C7C(v:AV)(hu:u≠[])(hPn:∀σ,bk σ.bx n0=some (E7 0)->ov E.β σ.bx K=some (lK v)->lk σ.fr 4=some (true,.ptr n0 0 0)->(∀x∈σ.bx,x.1=K\/x.1=n0\/E.n0<=x.1)->E.Pn (erV 1) σ):
  Wk E [.ops (Q4 A5r) 0 [] [],.post (λ_=>False)] (A5y E n0 K l u v):=by
 have N1:=T2 h4; have N2:=O0 h4; have N3:=O1 h4; have N4:=L8 h4;have K1:=T2 h5; have K2:=O0 h5; have K3:=O1 h5; have K4:=L8 h5;have hE:=λid=>C2k l u E.n0 id;rw[zf hu] at hE;rw[B5] at hE;unfold A5y E7 lK tB;refine A3 4000 ?_;simp[Q4,A5r,N1,N2,N3,N4,h4,K1,K2,K3,K4,h5,d,yc d];refine D6 hP rfl (hE _) s_ (by simp[N1,N2,N3,N4,h4,K1,K2,K3,K4,h5,d,yc d]<;>rfl) (λpv hpv=>⟨by simp[N1,N2,N3,N4,h4,K1,K2,K3,K4,h5,d,yc d],by injection hpv with hpv; subst hpv; exact hPn _ (by simp[E7,N1,N2,N3,N4,h4,K1,K2,K3,K4,h5,d,yc d]) (by simp[lK,ov,T6,N1,N2,N3,N4,h4,K1,K2,K3,K4,h5,d,yc d]) s_ s_⟩) (λv wr h=>by cases h)
theorem C8h(v:AV)(hv:v.pureB=true)(hu:u=[]):
  Wk E [.code A5r,.post λσ=>D9 E σ (A5y E n0 K l u v)] (A5y E n0 K l u v):=by
 have N1:=T2 h4; have N2:=O0 h4; have N3:=O1 h4; have N4:=L8 h4;have K1:=T2 h5; have K2:=O0 h5; have K3:=O1 h5; have K4:=L8 h5;have hE:=λid=>C2k l u E.n0 id;rw[zj hu] at hE;have hE:∀id,A2 prog 110 [.ptr E.n0 0 0] [(E.n0,tB l u)] id (.tup []) []:=hE;rw[B5] at hE;unfold A5y E7 lK tB;refine A3 4000 ?_;simp[A5r,N1,N2,N3,N4,h4,K1,K2,K3,K4,h5,d,yc d];(refine yC rfl (hE _) ?_; simp[N1,N2,N3,N4,h4,K1,K2,K3,K4,h5,d,yc d]);refine yV [(E.n0,E.n0)] (by simp[tB,E7,lK,hv,N1,N2,N3,N4,h4,K1,K2,K3,K4,h5,d,yc d]) λhrn=>⟨?_,?_,?_,?_,?_⟩<;>(try simp[tB,E7,lK,hv,N1,N2,N3,N4,h4,K1,K2,K3,K4,h5,d,yc d]);all_goals exact .same _ (H7 _ hv)
theorem C8i(v:AV)(hR:∀σ,bk σ.bx n0=some (E7 0)->bk σ.bx K=some (lK v)->lk σ.fr 4=some (true,.ptr n0 0 0)->(∀x∈σ.bx,x.1=K\/x.1=n0\/E.n0<=x.1)->E.Rt σ):
  Wk E [.code (.seq B7N CC.ret)] (A5y E n0 K l u v):=by
 have N1:=T2 h4; have N2:=O0 h4; have N3:=O1 h4; have N4:=L8 h4;have K1:=T2 h5; have K2:=O0 h5; have K3:=O1 h5; have K4:=L8 h5;unfold A5y E7 lK tB;refine A3 4000 ?_;simp[B7N,N1,N2,N3,N4,h4,K1,K2,K3,K4,h5,d,yc d];refine hR _ ?_ ?_ ?_ ?_
 ·simp[E7,N1,N2,N3,N4,h4,K1,K2,K3,K4,h5,d,yc d]
 ·simp[lK,N1,N2,N3,N4,h4,K1,K2,K3,K4,h5,d,yc d]
 ·simp
 ·simp
end
def C7D(f K id:Nat)(s:List UInt8)(pr:List Tk->Option (AV×List Tk))
  (hF:∀z J id,J≠K->z.length<=300->Z0 prog f [.ptr J 0 0,.ptr K 0 0] [(J,tB z z),(K,lK .nils)] id (doR J K z (pr z))) (hpv:∀z v u,pr z=some (v,u)->v.pureB=true) :
  A2 prog 52 [.str s,.fn f [.ptr K 0 0]] [(K,lK .nils)] id (.int .i64 (A38 pr s)) [(K,A56 pr s)]:=by
 refine⟨⟨_,func52,d_,rfl⟩,λC G bx w vs nb hs hv hh hnb hid=>calls_of_wp_defers func52 rfl ?_⟩;obtain⟨ka,kb,kt,ku,kc,kd,ke,kf⟩:=C9T rfl;have own:∀i,max nb (id+1024)<=i->bx i=none:=λi hi=>by
  cases hbi:bx i with
  | none=>rfl
  | some b=>exact (hnb i o_ (hs.boxNames hbi).1).elim
 have old:∀i,G.used i->i<max nb (id+1024):=λi hi=>by
  rcases yd i nb with h|h
  ·omega
  ·exact (hnb i h hi).elim
 generalize max nb (id+1024)=n0 at own old;have hKb:bx K=some (lK .nils):=hh _ (za ..);have hKn:K<n0:=old K (hs.boxNames hKb).1;have hre:=λid=>C4v s id;let E:O8:=⟨prog,C,bx,f52.ntmps,n0,G,w,own,old,hs,[],λ_=>False,λ_ _=>False⟩
 have hN:E.n0=n0:=rfl;have hPE:E.P=prog:=rfl;have hD:Q5 E ⟨A1g 0 [.str s,.fn f [.ptr K 0 0]],[(K,some (lK .nils))],0⟩ G { tmps:=vs++Array.replicate (f52.ntmps - vs.size) undef,defers:=[] } w:=by
  refine⟨L4.refl G w,?_,λi hi=>by have:=old i hi; show i<n0+0; omega,λi _ hi=>hi,λn c v hl=>?_,?_,rfl⟩
  ·have:=A2M hh;simp only[D4] at this;show RS C G (ov bx _) w;rw[this]; exact hs
  ·obtain⟨rfl,_,h3⟩:=A4C hl;simp only[ra] at h3;refine⟨λ_=>?_,λh=>by cases h⟩;have:=hv.2 n v h3;rw[zl] at this ⊢;rw[xu (by rw[←hv.1]; exact (ze.1 h3).1)];exact this
  ·have:=hv.1;simp[ntmps52] at this ⊢;show _=f52.ntmps;simp[ntmps52]; omega
 have K1:=T2 hKn; have K2:=O0 hKn; have K3:=O1 hKn; have K4:=L8 hKn;have hWa:Wk E [.code B7J,.post (λσ=>σ=⟨[(4,true,.ptr n0 0 0),(0,true,.str s),(1,true,.fn f [.ptr K 0 0])],[(n0,some (E7 0)),(K,some (lK .nils))],1024⟩)] ⟨A1g 0 [.str s,.fn f [.ptr K 0 0]],[(K,some (lK .nils))],0⟩:=by
  refine A3 4000 ?_;simp[B7J,E,E7,lK]
 refine wp_seq (wkN (E:=E) ka hWa (λ_ h=>h) (λ_ _ h=>h) hD λτ G1 a1 w1 hD1 hτ=>?_);subst hτ;clear hWa hD;have hEnd:∀{v:Value} {G':Gh} {w':World} {e:Int} {X:Option Bx},A38 pr s=e->A56 pr s=X->RS C G' (F6 bx [(K,X)]) w'->L4 G w G' w'->RV G' w' (.int .i64 e) v->(∀x,G'.used x->G.used x\/(id<=x/\x<id+1024)) ->
   ∃v' G',Ending.returned v = .returned v'/\RS C G' (F6 bx [(K,A56 pr s)]) w'/\L4 G w G' w'/\RV G' w' (.int .i64 (A38 pr s)) v'/\∀x,G'.used x->G.used x\/(id<=x/\x<id+1024):=λ{v G' w' e X} h1 h2 r1 r2 r3 r4=>by
  rw[h1,h2];exact⟨v,G',rfl,r1,r2,r3,r4⟩
 have ev13:∀{a:Act} {b:Bool} {G':Gh} {w':World} {τ:St},Q5 E τ G' a w'->lk τ.fr 13=some (true,.bool b)->a.eval (.tmp 13) = .bool b:=λ{a b G' w' τ} h h13=>by
  have hr:=(h.fr 13 true _ h13).1 rfl;show a.tmps.getD 13 undef=_;generalize a.tmps.getD 13 undef=v at hr;cases hr; rfl
 cases hl:A5n s with
 | error e =>
  have hne:=B2S hl;rw[hl] at hre;have hre:∀id,A2 prog 108 [.str s] [] id (.tup [.nils,.int .i64 e]) []:=hre;have e1:A38 pr s=e:=by unfold A38; rw[hl]
  have e2:A56 pr s=some (lK .nils):=by unfold A56; rw[hl]
  refine wp_seq (wkN (E:=E) kb (C2x E hPE f K hKn s .nils e rfl hre) (λ_ h=>h) (λ_ _ h=>h) hD1 λτ G2 a2 w2 hD2 hτ=>?_);obtain⟨G3,hD3⟩:=hτ G2 a2 w2 hD2;refine wp_seq ?_;refine wp_seq (wkN (E:=E) kt (C5n E hPE f K hKn .nils e true (t_ hne) rfl) (λ_ h=>h) (λ_ _ h=>h) hD3 λτ G4 a4 w4 hD4 hτ=>?_);obtain⟨h13,hcv⟩:=hτ;obtain⟨G5,hD5⟩:=hcv G4 a4 w4 hD4;refine wp_cond_split (ev13 hD4 h13) (λ_=>?_) (λhb=>by cases hb);let E':O8:={ E with Rt:=λσ=>bk σ.bx n0=some (E7 e)/\bk σ.bx K=some (lK .nils)/\lk σ.fr 4=some (true,.ptr n0 0 0)/\∀x∈σ.bx,x.1=K\/n0<=x.1 }
  have hW:=C8e E' hPE f K hKn .nils e λσ h1 h2 h3 h4=>⟨h1,h2,h3,h4⟩;refine wp_mono (hW _ ku G5 _ w4 hD5) λe' a' w' hq=>?_;cases e' with
  | ret =>
   obtain⟨σ,G6,h1,b4,bK,f4,hl'⟩:=hq;show Leaves prog f52 a'.tmps _ a'.defers .returning w';rw[show a'.defers=[] from h1.defers];obtain⟨v,r1,G7,r2,r3,r4,r5⟩:=B2R own old hs hid h1 f4 (P5 _ b4) (P5 _ bK) (λb hb=>by injection hb with hb; subst hb; rfl) hKb hl' (zx _) hKn;exact⟨v,r1,hEnd e1 e2 r2 r3 r4 r5⟩
  | normal=>obtain⟨_,_,_,h⟩:=hq; exact h.elim
  | exit id=>obtain⟨_,_,_,h⟩:=hq; exact h.elim
  | panic chain=>obtain⟨_,_,_,_,_,_,_,_,_,_,_,h⟩:=hq; exact h.elim
  | _=>exact hq.elim
 | ok l =>
  have hl300:l.length<=300:=((B1x s l).1 hl).2.2;rw[hl] at hre;have hre:∀id,A2 prog 108 [.str s] [] id (.tup [.sl (l.map S7),.int .i64 0]) []:=hre;have hVp:(AV.sl (l.map S7)).pureB=true:=by simp[AV.pureB]
  refine wp_seq (wkN (E:=E) kb (C2x E hPE f K hKn s (.sl (l.map S7)) 0 hVp hre) (λ_ h=>h) (λ_ _ h=>h) hD1 λτ G2 a2 w2 hD2 hτ=>?_);obtain⟨G3,hD3⟩:=hτ G2 a2 w2 hD2;refine wp_seq ?_;refine wp_seq (wkN (E:=E) kt (C5n E hPE f K hKn (.sl (l.map S7)) 0 false rfl hVp) (λ_ h=>h) (λ_ _ h=>h) hD3 λτ G4 a4 w4 hD4 hτ=>?_);obtain⟨h13,hcv⟩:=hτ;obtain⟨G5,hD5⟩:=hcv G4 a4 w4 hD4;refine wp_cond_split (ev13 hD4 h13) (λhb=>by cases hb) (λ_=>?_);refine wp_skip ?_;obtain⟨at1,ad1⟩:=a4;have hd0:ad1=[]:=hD5.defers;subst hd0;have hsz:15<at1.size:=by have:=hD5.size; simp only at this; rw[this]; show 15<f52.ntmps; simp[ntmps52]
  show (Code.seq _ _).wp _ _ _ _;refine wp_seq (C7A rfl hsz ?_);obtain⟨v4,hv4⟩:∃v4,at1[4]?.getD undef=v4:=⟨_,rfl⟩;have g4:RV G5 w4 (.ptr n0 0 0) v4:=by
   have:=(hD5.fr 4 true _ rfl).1 rfl;rw[zl] at this;rw[←hv4]; exact this
  rw[hv4];have own1:∀i,n0+1<=i->ov bx [(n0,some (E7 0)),(K,some (lK .nils))] i=none:=λi hi=>by
   simp only[ov,T6];rw[zf o_,zf o_];exact own i o_
  have hev:L4 G w G5 w4:=hD5.ev;have hrs:RS C G5 (ov bx [(n0,some (E7 0)),(K,some (lK .nils))]) w4:=hD5.rs;have hus:∀i,G5.used i->i<n0+1:=hD5.used;have hol:∀i,i<n0->G5.used i->G.used i:=hD5.old;let D:List Deferred:=[⟨.fn (.func 109) #[v4],#[]⟩]
  let E2:O8:=⟨prog,C,ov bx [(n0,some (E7 0)),(K,some (lK .nils))],f52.ntmps,n0+1,G5,w4,own1,hus,hrs,D,λ_=>False,λ_ _=>False⟩
  have hN2:E2.n0=n0+1:=rfl;have hP2:E2.P=prog:=rfl;have hE2:∀m,ov E2.β m=ov bx (m++[(n0,some (E7 0)),(K,some (lK .nils))]):=λm=>(V3 bx m _).symm;have hD6:Q5 E2 ⟨[(1,true,.fn f [.ptr K 0 0]),(4,true,.ptr n0 0 0),(5,true,.sl (l.map S7))],[(n0,some (E7 0)),(K,some (lK .nils))],0⟩ G5 ⟨at1.setIfInBounds 15 (.func (.func 109) #[] #[v4]),D⟩ w4:=by
   refine⟨L4.refl G5 w4,?_,λi hi=>by have:=hus i hi; show i<n0+1+0; omega,λi _ hi=>hi,λn c v hl=>?_,?_,rfl⟩
   ·show RS C G5 (ov (ov bx _) _) w4;simp only[ov];rw[Y7 (f:=T6 (T6 bx K _) n0 _) (i:=K) (by simp[T6]; omega),Y7 (i:=n0) (by simp[T6])];exact hrs
   ·have:=hD5.fr n c v hl;have hn:n≠15:=λh=>by subst h; simp at hl
    simp only[zl] at this ⊢;rw[wz (yc hn)];exact this
   ·have:=hD5.size;simp only[ua];exact this
  have hinv:∀w3,(invoke (.fn (.func 109) #[v4]) #[]).run prog w3 = .ok (.enter 109 #[v4]) w3:=λw3=>by simp[go_sem]
  have hw4:n0<E2.n0:=by omega
  have hw5:K<E2.n0:=by omega
  have hwd:n0≠K:=by omega
  have pnk:∀{R:Ending->World->Prop} {X:Option Bx} {k:Nat} {F:Fr} {m:List (Nat×Option Bx)} {G3:Gh} {a3:Act} {w3:World} {u:Value},(∀b,X=some b->F8 b.xs=true)->(∀v G4 w4,RS C G4 (F6 bx [(K,X)]) w4->L4 G w G4 w4->RV G4 w4 (.int .i64 1) v->(∀x,G4.used x->G.used x\/(id<=x/\x<id+1024))->R (.returned v) w4) ->
    F9 C f52.ntmps D (n0+1) G5 w4 F (ov E2.β m) (· < n0+1+k) G3 a3 w3->RV G3 w3 (erV 1) u->F 4=some (true,.ptr n0 0 0) ->
    ov E2.β m n0=some (E7 0)->ov E2.β m K=X->(∀x∈m,x.1=K\/x.1=n0\/n0+1<=x.1)->Leaves prog f52 a3.tmps R a3.defers (.panicking [{ v:=u,recovered:=false }]) w3:=λ{R X k F m G3 a3 w3 u} hX hR h1 h2 f4 h4 hK hm=>by
   rw[show a3.defers=D from h1.defers];have hus3:=h1.used;have hrs3:=h1.rs;refine leaves_cons s_ (hinv w3) ((C2v C G3 _ w3 1 0 _ n0 v4 u hrs3 (g4.mono h1.ev) h2 h4 hus3 (λx hx=>?_)).mono ?_)
   ·cases hb:ov E2.β m x with
    | none=>rfl
    | some b=>have:=hus3 x (hrs3.boxNames hb).1; omega
   rintro e' u' w' ⟨rfl,⟨v,rfl⟩,G4,l',k',r1,r2,r3,r5,r6,r7⟩;have hx:=F9.step h1 r1 r2 (U':=λx=>x<n0+(1+k+k')) (λx hx=>by have:=r7 x hx; omega) (λx hx hu=>r6 x o_ hu);have e4:=P5 (ov E2.β m) r3;have eK:ov (ov E2.β m) l' K=X:=by
    rw[←hK];have key:∀l':List (Nat×Option Bx),(∀q∈l',q.1≠K)->ov (ov E2.β m) l' K=ov E2.β m K:=λl'=>by
     induction l' with
     | nil=>intro _; rfl
     | cons q l' ih =>
      intro h;obtain⟨q1,q2⟩:=q;simp only[ov,T6];rw[zf (λh2=>h (q1,q2) (za ..) h2.symm)];exact ih λx hx=>h x (zb _ hx)
    refine key l' λq hq h=>?_;rcases r5 q hq with h2|h2<;>omega
   rw[←V3] at hx e4 eK;have h':=hx.rebase (n0:=n0) o_ hev hol;rw[hE2] at h' e4 eK;obtain⟨v,s1,G7,s2,s3,s4,s5⟩:=B2R own old hs hid h' f4 e4 eK hX hKb (λx hx=>by
    rcases zr.1 hx with hx|hx
    ·rcases zr.1 hx with hx|hx
     ·rcases r5 x hx with h|h
      ·exact .inr o_
      ·exact .inr o_
     ·rcases hm x hx with h|h|h
      ·exact .inl h
      ·exact .inr o_
      ·exact .inr o_
    ·simp at hx;rcases hx with rfl|rfl
     ·exact .inr (zx _)
     ·exact .inl rfl) (zx _) hKn
   exact⟨v,s1,hR v G7 w' s2 s3 s4 s5⟩
  show (Code.seq _ _).wp _ _ _ _;refine wp_seq (wkN (E:=E2) kc (C8f E2 hP2 f n0 K hw4 hw5 hwd l _ _ rfl rfl rfl) (λ_ h=>h) (λ_ _ h=>h) hD6 λτ G7 a7 w7 hD7 hτ=>?_);obtain⟨G8,hD8⟩:=hτ G7 a7 w7 hD7;show (Code.seq _ _).wp _ _ _ _;have hFl:=λid=>hF l E2.n0 id o_ hl300;cases hp:pr l with
  | none =>
   have e1:A38 pr s=1:=(by unfold A38; rw[hl]; simp only; rw[hp]);have e2:A56 pr s=none:=(by unfold A56; rw[hl]; simp only; rw[hp]);rw[hp] at hFl;have hFl:∀id,Z0 prog f [.ptr E2.n0 0 0,.ptr K 0 0] [(E2.n0,tB l l),(K,lK .nils)] id (.error (erV 1)):=hFl;let E1:O8:={ E2 with Pn:=λpv σ=>pv=erV 1/\bk σ.bx n0=some (E7 0)/\ov E2.β σ.bx K=none/\lk σ.fr 4=some (true,.ptr n0 0 0)/\∀x∈σ.bx,x.1=K\/x.1=n0\/n0+1<=x.1 }
   have hW:=C7B E1 hP2 f n0 K hw4 hw5 hwd l hFl λσ h1 h2 h3 h4=>⟨rfl,h1,h2,h3,h4⟩;refine wp_seq (B1X (E:=E1) (crs:=Q4 A5q) (kd.trans rfl) hW hD8 (λσ G3 a3 w3 h1 h2=>h2.elim) (λpv u σ G9 a9 w9 h1 h2 h3=>?_));obtain⟨rfl,b4,bK,f4,hm⟩:=h3;exact pnk (k:=1+1024*(Q4 A5q).length) (λb hb=>by cases hb) (λv G4 w4 r1 r2 r3 r4=>hEnd e1 e2 r1 r2 r3 r4) (h1.weak λx hx=>by have:x<n0+1+1+1024*(Q4 A5q).length:=hx; omega) h2 f4 (P5 _ b4) bK hm
  | some q =>
   obtain⟨v,u⟩:=q;have hvp:=hpv l v u hp;rw[hp] at hFl;have hFl:∀id,A2 prog f [.ptr E2.n0 0 0,.ptr K 0 0] [(E2.n0,tB l l),(K,lK .nils)] id (.tup []) [(E2.n0,some (tB l u)),(K,some (lK v))]:=hFl;have e2:A56 pr s=some (lK v):=(by unfold A56; rw[hl]; simp only; rw[hp]);have hXv:∀b,some (lK v)=some b->F8 b.xs=true:=λb hb=>by injection hb with hb; subst hb; simp[lK,F8,hvp]
   refine wp_seq (wkN (E:=E2) kd (C8g E2 hP2 f n0 K hw4 hw5 hwd l u v hvp hFl) (λ_ h=>h) (λ_ _ h=>h) hD8 λτ G9 a9 w9 hD9 hτ=>?_);obtain⟨G10,hD10⟩:=hτ G9 a9 w9 hD9;show (Code.seq _ _).wp _ _ _ _;by_cases hu:u=[]
   ·have e1:A38 pr s=0:=(by unfold A38; rw[hl]; simp only; rw[hp]; simp only; rw[zj hu]);refine wp_seq (wkN (E:=E2) ke (C8h E2 hP2 n0 K hw4 hw5 hwd l u v hvp hu) (λ_ h=>h) (λ_ _ h=>h) hD10 λτ G11 a11 w11 hD11 hτ=>?_);obtain⟨G12,hD12⟩:=hτ G11 a11 w11 hD11;let E3:O8:={ E2 with Rt:=λσ=>bk σ.bx n0=some (E7 0)/\bk σ.bx K=some (lK v)/\lk σ.fr 4=some (true,.ptr n0 0 0)/\∀x∈σ.bx,x.1=K\/x.1=n0\/n0+1<=x.1 }
    have hW:=C8i E3 hP2 n0 K hw4 hw5 hwd l u v λσ h1 h2 h3 h4=>⟨h1,h2,h3,h4⟩;have ends:∀{R:Ending->World->Prop} {σ:St} {G8:Gh} {a7:Act} {w7:World},(∀v G4 w4,RS C G4 (F6 bx [(K,some (lK v))]) w4->True)->(∀z G4 w4,RS C G4 (F6 bx [(K,some (lK v))]) w4->L4 G w G4 w4->RV G4 w4 (.int .i64 0) z->(∀x,G4.used x->G.used x\/(id<=x/\x<id+1024))->R (.returned z) w4)->Q5 E3 σ G8 a7 w7->E3.Rt σ->Leaves prog f52 a7.tmps R a7.defers .returning w7:=λ{R σ G8 a7 w7} _ hR h1 h2=>by
     obtain⟨b4,bK,f4,hm⟩:=h2;rw[show a7.defers=D from h1.defers];refine leaves_cons s_ (hinv w7) ((C2w v4 w7).mono ?_);rintro e u' w' ⟨rfl,⟨v',rfl⟩,rfl⟩;have h1':=h1.weak (U':=λx=>x<n0+(1+σ.k)) (λx hx=>by have:x<n0+1+σ.k:=hx; omega);have h':=h1'.rebase (n0:=n0) (show n0<=n0+1 from Nat.le_succ n0) hev hol;have e4:=P5 E2.β b4;have eK:=P5 E2.β bK;have h':F9 C f52.ntmps D n0 G w (lk σ.fr) (ov bx (σ.bx++[(n0,some (E7 0)),(K,some (lK .nils))])) (λx=>x<n0+(1+σ.k)) G8 a7 w':=(by rw[←hE2]; exact h');rw[hE2] at e4 eK;obtain⟨z,s1,G7,s2,s3,s4,s5⟩:=B2R own old hs hid h' f4 e4 eK hXv hKb (λx hx=>by
      rcases zr.1 hx with hx|hx
      ·rcases hm x hx with h|h|h
       ·exact .inl h
       ·exact .inr o_
       ·exact .inr o_
      ·simp at hx;rcases hx with rfl|rfl
       ·exact .inr (zx _)
       ·exact .inl rfl) (zx _) hKn
     exact⟨z,s1,hR z G7 w' s2 s3 s4 s5⟩
    refine wp_mono (hW _ kf G12 _ w11 hD12) λe a7 w7 hq=>?_;cases e with
    | ret =>
     obtain⟨σ,G8,h1,h2⟩:=hq;exact ends (λ_ _ _ _=>trivial) (λz G4 w4 r1 r2 r3 r4=>hEnd e1 e2 r1 r2 r3 r4) h1 h2
    | normal =>
     obtain⟨σ,G8,h1,h2⟩:=hq;exact ends (λ_ _ _ _=>trivial) (λz G4 w4 r1 r2 r3 r4=>hEnd e1 e2 r1 r2 r3 r4) h1 h2
    | exit id=>obtain⟨_,_,_,h2⟩:=hq; exact h2.elim
    | panic chain=>obtain⟨_,_,_,_,_,_,_,_,_,_,_,h⟩:=hq; exact h.elim
    | _=>exact hq.elim
   ·have e1:A38 pr s=1:=(by unfold A38; rw[hl]; simp only; rw[hp]; simp only; rw[zf hu]);let E1:O8:={ E2 with Pn:=λpv σ=>pv=erV 1/\bk σ.bx n0=some (E7 0)/\ov E2.β σ.bx K=some (lK v)/\lk σ.fr 4=some (true,.ptr n0 0 0)/\∀x∈σ.bx,x.1=K\/x.1=n0\/n0+1<=x.1 }
    have hW:=C7C E1 hP2 n0 K hw4 hw5 hwd l u v hu λσ h1 h2 h3 h4=>⟨rfl,h1,h2,h3,h4⟩;refine wp_seq (B1X (E:=E1) (crs:=Q4 A5r) (ke.trans rfl) hW hD10 (λσ G3 a3 w3 h1 h2=>h2.elim) (λpv u σ G9 a9 w9 h1 h2 h3=>?_));obtain⟨rfl,b4,bK,f4,hm⟩:=h3;exact pnk (k:=1+1024*(Q4 A5r).length) hXv (λv G4 w4 r1 r2 r3 r4=>hEnd e1 e2 r1 r2 r3 r4) (h1.weak λx hx=>by have:x<n0+1+1+1024*(Q4 A5r).length:=hx; omega) h2 f4 (P5 _ b4) bK hm
def B4g(l:List C5)(s:C5):p7 (l++[s])=p7 l+s.sz:=by
 induction l with
 | nil=>simp[p7]
 | cons x r ih=>simp only[yw,p7,ih]; omega
def B7k:∀(n:Nat) (acc:List Ag) (t u:List Tk) (l:List Ag),A2A n acc t=some (l,u)->l.length+u.length<=acc.length+t.length
 | 0,_,_,_,_,h=>by cases h
 | n+1,acc,t,u,l,h=>by
  simp only[A2A] at h;split at h
  ·cases h
  rename_i p hp;have h1:=B2O (a:=p.1) (u:=p.2) hp;split at h
  ·simp only[zd,zh] at h;rw[←h.1,←h.2,ya]; simp; omega
  ·have:=B7k n _ _ _ _ h;simp at this; omega
def C2y{t u:List Tk}{l:List Ag}(h:A3I t=some (l,u)):l.length+u.length<=t.length:=by
 unfold A3I at h;split at h
 ·have:=B7k _ _ _ _ _ h;rw[ya] at this; simp at this; omega
 ·simp only[zd,zh] at h;rw[←h.1,h.2]; simp
def A9Q:∀n:Nat,(∀t s u,A2B n t=some (s,u)->s.sz+u.length<=t.length)/\(∀t s u,z6 n t=some (s,u)->p7 s+u.length<=t.length)/\(∀acc t s u,U0 n acc t=some (s,u)->p7 s+u.length<=p7 acc+t.length)
 | 0=>⟨λ_ _ _ h=>by simp[A2B] at h,λ_ _ _ h=>by simp[z6] at h,λ_ _ _ _ h=>by simp[U0] at h⟩
 | n+1=>by
  obtain⟨h1,h2,h3⟩:=A9Q n;refine⟨λt s u h=>?_,λt s u h=>?_,λacc t s u h=>?_⟩
  ·simp only[A2B] at h;split at h
   ·cases h
   rename_i a nm v hv;have e1:=B69 hv;split at h
   ·cases h
   rename_i xs w hw;have e2:=C2y hw;split at h
   ·split at h
    ·cases h
    rename_i k y hy;have:=h2 _ _ _ hy;simp only[zd,zh] at h;rw[←h.1,←h.2]; simp only[C5.sz]; omega
   ·simp only[zd,zh] at h;rw[←h.1,←h.2]; simp only[C5.sz,p7]; omega
  ·simp only[z6] at h;split at h
   ·have:=h3 _ _ _ _ h;rw[ya] at this; simp only[p7] at this; omega
   ·cases h
  ·simp only[U0] at h;split at h
   ·cases h
   rename_i s' v hv;have e1:=h1 _ _ _ hv;split at h
   ·simp only[zd,zh] at h;rw[←h.1,←h.2,ya,B4g]; omega
   ·have:=h3 _ _ _ _ h;rw[B4g] at this; omega
def prQ(z:List Tk):Option (AV×List Tk):=B10 (z6 (3*z.length+3) z)
def C2z(z:List Tk)(v:AV)(u:List Tk)(h:prQ z=some (v,u)):v.pureB=true:=by
 unfold prQ B10 at h;obtain⟨p,hp,h2⟩:=zn.1 h;simp only[zh] at h2;rw[←h2.1]; simp[AV.pureB]
def C7E(z:List Tk)(J K id:Nat)(d:J≠K)(h8:z.length<=300):Z0 prog 53 [.ptr J 0 0,.ptr K 0 0] [(J,tB z z),(K,lK .nils)] id (doR J K z (prQ z)):=by
 have hS:=λid=>(C79 (3*z.length+3)).2 z z J id o_ o_;unfold prQ;cases hp:z6 (3*z.length+3) z with
 | none =>
  rw[hp] at hS;change ∀id,Z0 _ _ _ _ _ (.error (erV 1)) at hS;show Z0 _ _ _ _ _ (.error (erV 1));rw[B5] at *;rw[M3];refine w53.x.1 λE hP hR hPn hl hid hB hu=>?_;simp[w53];have hJ:=hl (J,_) (za ..);simp only at hJ;have J1:=lf hJ;have hK:=hl (K,_) (zb _ (za ..));simp only at hK;have K1:=lf hK;refine D6 hP rfl (hS _) (by simp[J1,K1,d,yc d]) (by simp[J1,K1,d,yc d]<;>rfl) (λpv hpv=>⟨by simp[J1,K1,d,yc d],by injection hpv with hpv; subst hpv; exact hPn _ _ (rfl) rfl (by simp[J1,K1,d,yc d])⟩) (λv wr h=>by cases h)
 | some q =>
  obtain⟨ss,u⟩:=q;rw[hp] at hS;have hS:∀id,A2 prog 54 [.ptr J 0 0] [(J,tB z z)] id (.sl (ss.map C6)) [(J,some (tB z u))]:=hS;show A2 _ _ _ _ _ (.tup []) [(J,some (tB z u)),(K,some (lK (.sl (ss.map C6))))];rw[B5,B5] at hS;rw[B5,B5,M3,M3];refine w53.e.1 λE hP hR hl hid=>?_;simp[w53];have hJ:=hl (J,_) (za ..);simp only at hJ;have J1:=lf hJ;have hK:=hl (K,_) (zb _ (za ..));simp only at hK;have K1:=lf hK;(refine yC rfl (hS _) ?_; simp[J1,K1,d,yc d]);exact yF hR [] (a_ J1 (a_ K1 (a_ d (a_ (yc d) (I5 hid)))))
def B9W:Except Int (List C5)->AV
 | .ok q=>.tup [.sl (q.map C6),.int .i64 0]
 | .error e=>.tup [.nils,.int .i64 e]
def A2i(s:List UInt8)(id:Nat):A2 prog 16 [.str s] [] id (B9W (A1a s)) []:=by
 have hRun:=λK id=>C7D 53 K id s prQ (λz J id hd h8=>C7E z J K id hd h8) C2z;unfold A1a;cases hx:A5n s with
 | error e =>
  have hne:=B2S hx;have e1:A38 prQ s=e:=by unfold A38; rw[hx]
  have e2:A56 prQ s=some (lK .nils):=by unfold A56; rw[hx]
  rw[e1,e2] at hRun;show A2 _ _ _ _ _ (.tup [.nils,.int .i64 e]) _;simp only[M3] at hRun;refine w16.e.1 λE hP hR hl hid=>?_;simp[w16];(refine yH rfl (hRun _ _) ?_; simp);refine A0 (v_ hne) ?_;simp;refine A7 (v_ hne) ?_;simp;exact yP hR
 | ok l =>
  have h300:l.length<=300:=((B1x s l).1 hx).2.2;show A2 _ _ _ _ _ (B9W (A3r (B1z l))) _;unfold B1z;cases hp:z6 (3*l.length+3) l with
  | none =>
   have e1:A38 prQ s=1:=(by unfold A38 prQ; rw[hx]; simp only; rw[hp]; rfl);have e2:A56 prQ s=none:=(by unfold A56 prQ; rw[hx]; simp only; rw[hp]; rfl);rw[e1,e2] at hRun;show A2 _ _ _ _ _ (.tup [.nils,.int .i64 1]) _;simp only[M3] at hRun;refine w16.e.1 λE hP hR hl hid=>?_;simp[w16];(refine yH rfl (hRun _ _) ?_; simp);exact yP hR
  | some w =>
   obtain⟨q,u⟩:=w;have e2:A56 prQ s=some (lK (.sl (q.map C6))):=(by unfold A56 prQ; rw[hx]; simp only; rw[hp]; rfl);by_cases hu:u=[]
   ·have e1:A38 prQ s=0:=(by unfold A38 prQ; rw[hx]; simp only; rw[hp]; simp[B10,hu]);have hsz:=(A9Q _).2.1 _ _ _ hp;have hC:=λid=>A2S q id o_;rw[e1,e2] at hRun;show A2 _ _ _ _ _ (B9W (A3r (if u=[] then some q else none))) _;rw[zj hu];by_cases h0:J6 q=0
    ·have e:B9W (A3r (some q)) = .tup [.sl (q.map C6),.int .i64 0]:=(by unfold A3r; simp only; rw[zj h0]; rfl);rw[e];rw[h0] at hC;simp only[M3] at hRun;refine w16.e.1 λE hP hR hl hid=>?_;simp[w16];(refine yH rfl (hRun _ _) ?_; simp);(refine yH rfl (hC _) ?_; simp);exact yP hR
    ·have e:B9W (A3r (some q)) = .tup [.nils,.int .i64 (J6 q)]:=(by unfold A3r; simp only; rw[zf h0]; rfl);rw[e];simp only[M3] at hRun;refine w16.e.1 λE hP hR hl hid=>?_;simp[w16];(refine yH rfl (hRun _ _) ?_; simp);(refine yH rfl (hC _) ?_; simp);refine A7 (v_ h0) ?_;simp;exact yP hR
   ·have e1:A38 prQ s=1:=(by unfold A38 prQ; rw[hx]; simp only; rw[hp]; simp[B10,hu]);rw[e1,e2] at hRun;show A2 _ _ _ _ _ (B9W (A3r (if u=[] then some q else none))) _;rw[zf hu];show A2 _ _ _ _ _ (.tup [.nils,.int .i64 1]) _;simp only[M3] at hRun;refine w16.e.1 λE hP hR hl hid=>?_;simp[w16];(refine yH rfl (hRun _ _) ?_; simp);exact yP hR
def B2T(e:Int)(bs:List Bt):AV:=if e=0 then .sl (bs.map v7) else .nils
theorem C30(id:Nat):opV 0 id = .ptr id 0 0:=rfl
def B6A{e:Int}(h:e≠0)(id:Nat):opV e id = .nilp:=by unfold opV; rw[zf h]
theorem C31(s:H6)(bs:List Bt)(id:Nat):opW 0 s bs id=[(id,some (bxO s bs))]:=rfl
def B6B{e:Int}(h:e≠0)(s:H6)(bs:List Bt)(id:Nat):opW e s bs id=[]:=by unfold opW; rw[zf h]
theorem B2U(s:H6)(bs:List Bt):bxO s bs=⟨[.agg [.sl (s.types.map I9),.sl (s.things.map Q9),.sl (bs.map v7)]],.agg [.nils,.nils,.sl (bs.map v7)],false,false⟩:=rfl
def A9R(l:List Ty)(d:Dk)(id:Nat):A2 prog 14 [.sl (l.map I9),eDk d] [] id (.tup [A17 (opE l d) (opS l d),B2T (opE l d) (F1 d.seg),.int .i64 (opE l d)]) []:=by
 have hO:=λid=>B20 l d id;unfold eDk at hO ⊢;by_cases h:opE l d=0
 ·rw[h] at hO ⊢;simp only[C30,C31,B2U] at hO;rw[show B2T 0 (F1 d.seg) = .sl ((F1 d.seg).map v7) from rfl];rw[show A17 0 (opS l d) = .agg [.sl ((opS l d).types.map I9),.sl ((opS l d).things.map Q9)] from rfl];generalize opS l d=s at *;refine w14.e.1 λE hP hR hl hid=>?_;simp[w14];(refine yH rfl (hO _) ?_; simp);exact yP hR
 ·simp only[B6A h,B6B h] at hO;rw[show B2T (opE l d) (F1 d.seg) = .nils by unfold B2T; rw[zf h],show A17 (opE l d) (opS l d) = .agg [.nils,.nils] by rw[y9,zf h]; rfl];refine w14.e.1 λE hP hR hl hid=>?_;simp[w14];(refine yH rfl (hO _) ?_; simp);refine A7 (v_ h) ?_;simp;exact yP hR
def A5z(l:List Ty)(d:Dk)(text:List UInt8)(n:Int):List UInt8×Int :=
 if opE l d≠0 then ([],opE l d)
 else if n<0\/((F1 d.seg).length:Int)<n then ([],3)
 else match A1a text with
  | .error e=>([],e)
  | .ok q=>if A08 l q≠0 then ([],A08 l q) else if qW (o5 l d n.toNat) q<=2000 then (jS (qO (o5 l d n.toNat) q),0) else ([],2)
def C32:∀(l:List Ev) {s:H6},Rt s->(∀e∈l,I64 e.n)->V0 s l=0->Rt (Z4 s l)/\(Z4 s l).types=s.types
 | [],s,h,_,_=>⟨h,rfl⟩
 | x::l,s,h,hn,ha=>by
  rw[A2Z] at ha;by_cases g:A14 s x=0
  ·rw[zf (v_ g)] at ha;obtain⟨a,b⟩:=C1Y h (hn x (za ..)) g;obtain⟨c,d⟩:=C32 l a (λe he=>hn e (zb _ he)) ha;exact⟨c,d.trans b⟩
  ·rw[zj g] at ha;exact absurd ha g
def B9X(l:List Bt)(n:Nat):∃r,P3 l=P3 (l.take n)++r:=⟨P3 (l.drop n),by rw[←A9B,yu]⟩
def B6C{l:List Ty}{d:Dk}(h:opE l d=0)(n:Nat):Rt (o5 l d n)/\(o5 l d n).types=l/\V0 ⟨l,[]⟩ (P3 ((F1 d.seg).take n))=0:=by
 have ho:=z7.1 h;have hf:=A9C (A5p ho.disk).2;have ha:=ho.all;obtain⟨r,hr⟩:=B9X (F1 d.seg) n;rw[hr] at ha hf;have h0:=C27 ha;obtain⟨a,b⟩:=C32 _ (C1c ho.types) (λe he=>hf e (yq _ he)) h0;exact⟨a,b,h0⟩
def C33{l:List Ty}{d:Dk}(h:opE l d=0):Rt (opS l d)/\(opS l d).types=l:=by
 obtain⟨a,b,_⟩:=B6C h (F1 d.seg).length;unfold o5 at a b;rw[uh] at a b;exact⟨a,b⟩
def B2V(s:H6)(x:C5)(t:Tg):oS s x t=if x.name=tId then j9 t.id else match A5s s t x.name with
  | none=>Y5
  | some (f,c)=>if f.kind=1 then j9 c.n else if f.kind=2 then Y6 c.text
   else if f.kind=4 then N7 ((A1z x.args c.ids).map (thO s (x.kids.map C8) (oL s x.kids) (B8 s.types f.of)))
   else match c.ids with
    | []=>Y5
    | y::_=>thO s (x.kids.map C8) (oL s x.kids) (B8 s.types f.of) y:=by cases x; rfl
def A2j{α:Type}(f:α->D8)(w:α->Nat):∀l:List α,(∀x∈l,(f x).sz+1<=2*w x)->o6 (l.map f)+l.length<=2*(l.map w).sum
 | [],_=>by simp[o6]
 | x::r,h=>by
  have h1:=A2j f w r λy hy=>h y (zb _ hy);have h2:=h x (za ..);simp only[yg,o6,zt,vq];omega
def B2W{s:H6}{kids:List C5}(h:∀u,o6 (oL s kids u)+kids.length<=2*wL s kids u)(kd y:Int):(thO s (kids.map C8) (oL s kids) kd y).sz+1<=2*thW s (wL s kids) kd y:=by
 unfold thO thW;cases thA s kd y with
 | none=>simp[Y5,D8.sz,o6]
 | some u =>
  have:=h u;simp only[W5,D8.sz,xf];omega
def C5o(s:H6):∀(m:Nat) (x:C5) (t:Tg),x.sz<m->(oS s x t).sz+1<=2*wS s x t
 | 0,x,t,h=>by omega
 | m+1,x,t,h=>by
  have hz:=A2R x;have hk:∀u,o6 (oL s x.kids u)+x.kids.length<=2*wL s x.kids u:=λu=>by
   rw[A1b,A6p];exact A2j _ _ _ λz hz'=>C5o s m z u (by have:=x4 hz'; omega)
  rw[B2V,B7V];split
  ·simp[j9,D8.sz,o6]
  cases hfc:A5s s t x.name with
  | none=>simp[Y5,D8.sz,o6]
  | some fc =>
  obtain⟨f,c⟩:=fc;simp only;by_cases h1:f.kind=1
  ·rw[zj h1,zj (.inl h1)]; simp[j9,D8.sz,o6]
  rw[zf h1];by_cases h2:f.kind=2
  ·rw[zj h2,zj (.inr h2)]; simp[Y6,D8.sz,o6]
  have h12:¬(f.kind=1\/f.kind=2):=by omega
  rw[zf h2,zf h12];split
  ·have:=A2j (thO s (x.kids.map C8) (oL s x.kids) (B8 s.types f.of)) (thW s (wL s x.kids) (B8 s.types f.of)) (A1z x.args c.ids) λy _=>B2W hk _ _;simp only[N7,D8.sz,xy];omega
  cases hci:c.ids with
  | nil=>simp[Y5,D8.sz,o6]
  | cons y r=>exact B2W hk _ _
def C5p(s:H6)(l:List C5)(u:Tg):o6 (oL s l u)+l.length<=2*wL s l u:=by
 rw[A1b,A6p];exact A2j _ _ _ λz hz'=>C5o s (z.sz+1) z u (xx _)
def C7F(s:H6)(x:C5):(rtO s x).sz+1<=2*rtW s x:=by
 unfold rtO rtW;cases x.args with
 | nil =>
  have:=A2j (thO s (x.kids.map C8) (oL s x.kids) (B8 s.types x.name)) (thW s (wL s x.kids) (B8 s.types x.name)) (t6 s (B8 s.types x.name) s.things) λy _=>B2W (C5p s x.kids) _ _;simp only[N7,D8.sz,xy];omega
 | cons a r=>exact B2W (C5p s x.kids) _ _
def C8j(s:H6)(q:List C5):(qO s q).sz+1<=2*qW s q:=by
 have:=A2j (rtO s) (λx=>rtW s x) q λx _=>C7F s x;unfold qO qW B5y;simp only[W5,D8.sz,xf] at *;omega
def HsL:Nat->List C5->Prop
 | 0,l=>l=[]
 | k+1,l=>∀x∈l,HsL k x.kids
def HoL:Nat->List D8->Prop
 | 0,l=>l=[]
 | k+1,l=>∀x∈l,HoL k x.kids
def HoL.nil:∀k,HoL k []
 | 0=>rfl
 | k+1=>λx hx=>by cases hx
def HoL.mono:∀{k:Nat} {l:List D8},HoL k l->HoL (k+1) l
 | 0,l,h=>by subst h; exact HoL.nil 1
 | k+1,l,h=>λx hx=>HoL.mono (h x hx)
def A39{α:Type}(f:α->Nat):∀(l:List α) (a k:Nat),l.foldl (λd s=>max d (f s)) a<=k↔a<=k/\∀x∈l,f x<=k
 | [],a,k=>by simp
 | y::l,a,k=>by
  simp only[wc,zi,forall_eq_or_imp];rw[A39 f l];exact⟨λh=>⟨o_,o_,h.2⟩,λh=>⟨o_,h.2.2⟩⟩
def B4h:∀(m:Nat) (l:List C5),deepL m l<=m->HsL m l
 | 0,l,h=>by
  simp only[deepL] at h;exact ug.1 o_
 | m+1,l,h=>by
  simp only[deepL] at h;intro x hx;exact B4h m _ (by have:=((A39 _ _ _ _).1 h).2 x hx; omega)
def B7l:∀(k m:Nat) (l:List D8),HoL k l->A00 m l<=k
 | 0,m,l,h=>by
  simp only[HoL] at h;subst h;cases m<;>simp[A00]
 | k+1,0,l,h=>by simp only[A00]; omega
 | k+1,m+1,l,h=>by
  simp only[A00];refine (A39 _ _ _ _).2 ⟨o_,λx hx=>?_⟩;have:=B7l k m _ (h x hx);omega
def B2X{s:H6}{k:Nat}{ks:List (List UInt8)}{g:Tg->List D8}(h:∀u,HoL k (g u))(kd y:Int):HoL k (thO s ks g kd y).kids:=by
 unfold thO;split
 ·exact HoL.nil k
 ·exact h _
def C5q(s:H6):∀(k:Nat) (l:List C5) (t:Tg),HsL k l->HoL (2*k) (oL s l t)
 | 0,l,t,h=>by
  simp only[HsL] at h;subst h;simp[oL,HoL]
 | k+1,l,t,h=>by
  rw[A1b,show 2*(k+1)=2*k+1+1 by omega];intro o ho;obtain⟨x,hx,rfl⟩:=zw.1 ho;have hk:∀u,HoL (2*k) (oL s x.kids u):=λu=>C5q s k x.kids u (h x hx);rw[B2V];split
  ·exact HoL.nil _
  split
  ·exact HoL.nil _
  split
  ·exact HoL.nil _
  split
  ·exact HoL.nil _
  split
  ·intro o ho;obtain⟨y,hy,rfl⟩:=zw.1 ho;exact B2X hk _ _
  split
  ·exact HoL.nil _
  ·exact HoL.mono (B2X hk _ _)
def C8k(s:H6)(k:Nat)(q:List C5)(h:HsL (k+1) q):HoL (2*k+3) [qO s q]:=by
 intro o ho;obtain rfl:o=qO s q:=by simpa using ho
 intro o ho;obtain⟨x,hx,rfl⟩:=zw.1 (show o∈q.map (rtO s) from ho);have hk:∀u,HoL (2*k) (oL s x.kids u):=λu=>C5q s k x.kids u (h x hx);unfold rtO;split
 ·intro o ho;obtain⟨y,hy,rfl⟩:=zw.1 ho;exact B2X hk _ _
 ·exact HoL.mono (B2X hk _ _)
def A42{α:Type}(f:α->D8)(w:α->Nat)(l:List α)(h:∀x∈l,∀m,O9 m (f x).kids+1<=w x)(m:Nat):O9 m (l.map f)<=(l.map w).sum:=by
 have h0:∀l:List α,(∀x∈l,∀m,O9 m (f x).kids+1<=w x)->l.length+((l.map f).map λs=>O9 (m - 1) s.kids).sum<=(l.map w).sum:=λl=>by
  induction l with
  | nil=>intro _; simp
  | cons x r ih =>
   intro h;have h1:=h x (za ..) (m - 1);have h2:=ih λy hy=>h y (zb _ hy);simp only[zt,yg,vq];omega
 have h1:=h0 l h;cases m with
 | zero=>simp only[O9,xf]; omega
 | succ m=>simp only[O9,xf]; simpa using h1
def A1M(m:Nat):O9 m []=0:=by cases m<;>simp[O9]
def A60{s:H6}{ks:List (List UInt8)}{g:Tg->List D8}{w:Tg->Nat}(h:∀u m,O9 m (g u)<=w u)(kd y:Int)(m:Nat):O9 m (thO s ks g kd y).kids+1<=thW s w kd y:=by
 unfold thO thW;cases thA s kd y with
 | none=>simp[Y5,D8.kids,A1M]
 | some u=>have:=h u m; simp only[W5,D8.kids]; omega
def B7m(s:H6):∀(n:Nat) (x:C5) (t:Tg),x.sz<n->∀m,O9 m (oS s x t).kids+1<=wS s x t
 | 0,x,t,h,m=>by omega
 | n+1,x,t,h,m=>by
  have hz:=A2R x;have hk:∀u m,O9 m (oL s x.kids u)<=wL s x.kids u:=λu m=>by
   rw[A1b,A6p];exact A42 _ _ _ (λz hz' m=>B7m s n z u (by have:=x4 hz'; omega) m) m
  rw[B2V,B7V];split
  ·simp[j9,D8.kids,A1M]
  cases hfc:A5s s t x.name with
  | none=>simp[Y5,D8.kids,A1M]
  | some fc =>
  obtain⟨f,c⟩:=fc;simp only;by_cases h1:f.kind=1
  ·rw[zj h1,zj (.inl h1)]; simp[j9,D8.kids,A1M]
  rw[zf h1];by_cases h2:f.kind=2
  ·rw[zj h2,zj (.inr h2)]; simp[Y6,D8.kids,A1M]
  have h12:¬(f.kind=1\/f.kind=2):=by omega
  rw[zf h2,zf h12];split
  ·have:=A42 (thO s (x.kids.map C8) (oL s x.kids) (B8 s.types f.of)) (thW s (wL s x.kids) (B8 s.types f.of)) (A1z x.args c.ids) (λy _ m=>A60 hk _ _ m) m;simp only[N7,D8.kids];omega
  cases hci:c.ids with
  | nil=>simp[Y5,D8.kids,A1M]
  | cons y r=>exact A60 hk _ _ m
def C34(s:H6)(x:C5)(m:Nat):O9 m (rtO s x).kids+1<=rtW s x:=by
 have hk:∀u m,O9 m (oL s x.kids u)<=wL s x.kids u:=λu m=>by
  rw[A1b,A6p];exact A42 _ _ _ (λz hz' m=>B7m s (z.sz+1) z u (xx _) m) m
 unfold rtO rtW;cases x.args with
 | nil =>
  have:=A42 (thO s (x.kids.map C8) (oL s x.kids) (B8 s.types x.name)) (thW s (wL s x.kids) (B8 s.types x.name)) (t6 s (B8 s.types x.name) s.things) (λy _ m=>A60 hk _ _ m) m;simp only[N7,D8.kids];omega
 | cons a r=>exact A60 hk _ _ m
def C53(s:H6)(q:List C5)(m:Nat):O9 m [qO s q]<=qW s q:=by
 have h:=λm=>A42 (rtO s) (λx=>rtW s x) q (λx _ m=>C34 s x m) m;unfold qW B5y;cases m with
 | zero=>simp[O9]
 | succ m =>
  have:=h m;simp only[O9,yg,uc,vq,List.sum_nil,zt,xy,qO,W5,D8.kids];omega
def B9Y{l:List D8}(h:∀o∈l,P0 o=0):A1d l=0:=by
 induction l with
 | nil=>rfl
 | cons x r ih =>
  simp only[A1d];rw[zf (by simp[h x (za ..)])];exact ih λo ho=>h o (zb _ ho)
def A43{o:D8}(h1:A19 o=0)(h2:∀x∈o.kids,P0 x=0):P0 o=0:=by
 rw[A9J,zf (t_ h1)];exact B9Y h2
def A9S{o:D8}(h1:¬(o.kind<1\/5<o.kind))(h2:¬((o.kind≠2/\o.n≠0)\/(o.kind≠3/\o.text≠[])\/(o.kind≠5/\o.keys≠[])\/(o.kind<4/\o.kids≠[])))
  (h3:¬¬(-999999999<=o.n/\o.n<=999999999)) (h4:¬40<o.text.length) (h5:¬(o.kind=5/\o.keys.length≠o.kids.length)) (h6:A5t o.keys=0):A19 o=0:=by
 unfold A19;rw[zf h1,zf h2,zf h3,zf h4,zf h5];exact h6
def A9T:P0 Y5=0:=A43 (A9S d_ d_ d_ d_ d_ rfl) λx hx=>by cases hx
def B7n{n:Int}(h : -999999999<=n/\n<=999999999):P0 (j9 n)=0 :=
 A43 (A9S (by simp[j9,Y6,N7,W5,D8.kind,D8.n,D8.text,D8.keys,D8.kids]) (by simp[j9,D8.kind,D8.n,D8.text,D8.keys,D8.kids]) (by simpa [j9,D8.n] using h) (by simp[j9,Y6,N7,W5,D8.kind,D8.n,D8.text,D8.keys,D8.kids]) (by simp[j9,Y6,N7,W5,D8.kind,D8.n,D8.text,D8.keys,D8.kids]) rfl) λx hx=>by cases hx
def C35{t:List UInt8}(h:t.length<=40):P0 (Y6 t)=0 :=
 A43 (A9S (by simp[j9,Y6,N7,W5,D8.kind,D8.n,D8.text,D8.keys,D8.kids]) (by simp[Y6,D8.kind,D8.n,D8.text,D8.keys,D8.kids]) (by simp[j9,Y6,N7,W5,D8.kind,D8.n,D8.text,D8.keys,D8.kids]) (by simpa [Y6,D8.text] using h) (by simp[j9,Y6,N7,W5,D8.kind,D8.n,D8.text,D8.keys,D8.kids]) rfl) λx hx=>by cases hx
def B4i{l:List D8}(h:∀o∈l,P0 o=0):P0 (N7 l)=0 :=
 A43 (A9S (by simp[j9,Y6,N7,W5,D8.kind,D8.n,D8.text,D8.keys,D8.kids]) (by simp[N7,D8.kind,D8.n,D8.text,D8.keys,D8.kids]) (by simp[j9,Y6,N7,W5,D8.kind,D8.n,D8.text,D8.keys,D8.kids]) (by simp[j9,Y6,N7,W5,D8.kind,D8.n,D8.text,D8.keys,D8.kids]) (by simp[N7,D8.kind]) rfl) h
def B7o{ks:List (List UInt8)}{l:List D8}(h0:A5t ks=0)(h1:ks.length=l.length)(h:∀o∈l,P0 o=0):P0 (W5 ks l)=0 :=
 A43 (A9S (by simp[j9,Y6,N7,W5,D8.kind,D8.n,D8.text,D8.keys,D8.kids]) (by simp[W5,D8.kind,D8.n,D8.text,D8.keys,D8.kids]) (by simp[j9,Y6,N7,W5,D8.kind,D8.n,D8.text,D8.keys,D8.kids]) (by simp[j9,Y6,N7,W5,D8.kind,D8.n,D8.text,D8.keys,D8.kids]) (by simp[W5,D8.kind,D8.keys,D8.kids,h1]) h0) h
def A7N{α:Type}{f:Nat->α->Int}:∀{l:List α} {i:Nat},(∀(k:Nat) x,l[k]?=some x->f (i+k) x=0)->D2 f l i=0
 | [],i,_=>rfl
 | y::l,i,h=>by
  simp only[D2];rw[zf (by simpa using h 0 y rfl)];exact A7N λk x hx=>by have:=h (k+1) x (v_ hx); rwa [show i+(k+1)=i+1+k by omega] at this
def A61:∀{l ah:List C5},S4 l ah=0->∀(i:Nat) x,l[i]?=some x->A3i x (ah++l.take i)=0/\S4 x.kids []=0
 | [],ah,_,i,x,hx=>by simp at hx
 | y::l,ah,h,i,x,hx=>by
  simp only[S4] at h;split at h
  ·rename_i g; exact (g h).elim
  rename_i g1;split at h
  ·rename_i g; exact (g h).elim
  rename_i g2;cases i with
  | zero =>
   simp at hx;subst hx;refine⟨?_,?_⟩
   ·simpa using g1
   ·rw[←A8p]; exact zk g2
  | succ i =>
   have:=A61 h i x (v_ hx);simpa using this
def A9U{l:List C5}(h:S4 l []=0):A5t (l.map C8)=0:=by
 refine A7N λk s hs=>?_;rw[yj] at hs;obtain⟨x,hx,rfl⟩:=zn.1 hs;have h1:=(A61 h k x hx).1;rw[xq,A8o] at h1;split at h1
 ·rename_i g; exact (g h1).elim
 rename_i g;have g:fNm x=0:=zk g;split at h1
 ·rename_i g; exact (g h1).elim
 split at h1
 ·cases h1
 rename_i g3;unfold A2D B9G;have hn:H8 (C8 x)=0:=by
  unfold fNm at g;split at g
  ·rename_i g4; exact (g4 g).elim
  rename_i g4;unfold C8;split
  ·rename_i ha; rwa [zj ha] at g
  ·exact zk g4
 rw[zf (t_ hn),yy,←yt,List.any_map];rw[zf (v_ g3)]
def B9Z{s:H6}{t:Tg}{name:List UInt8}{f:Fd}{c:Cl}(ht:A4w s t)(h:A5s s t name=some (f,c)):A2Q f c=0:=by
 unfold A5s at h;split at h
 ·rename_i f' c' hf hc;have h0:=ht.cell _ c' hc;unfold A0E at h0;rw[hf] at h0;simp only[zd,zh] at h;obtain⟨rfl,rfl⟩:=h;exact h0
 ·cases h
def A7z{s:H6}(hs:RtS s){l:List C5}(hl:S4 l []=0)(h:∀u∈s.things,∀x∈l,P0 (oS s x u)=0){kd:Int}(hk : -1<=kd/\kd<=5)(y:Int):P0 (thO s (l.map C8) (oL s l) kd y)=0:=by
 unfold thO;cases hu:thA s kd y with
 | none=>exact A9T
 | some u =>
  have hm:=(B2F hs hk hu).1;refine B7o (A9U hl) (by rw[A1b]; simp) λo ho=>?_;rw[A1b] at ho;obtain⟨x,hx,rfl⟩:=zw.1 ho;exact h u hm x hx
def C36{s:H6}(hs:RtS s):∀(n:Nat) (x:C5) (t:Tg),x.sz<n->t∈s.things->S4 x.kids []=0->P0 (oS s x t)=0
 | 0,x,t,h,_,_=>by omega
 | n+1,x,t,h,ht,hx=>by
  have hz:=A2R x;have hto:=hs.tg t ht;have hkid:∀u∈s.things,∀z∈x.kids,P0 (oS s z u)=0:=λu hu z hz'=>by
   obtain⟨i,hi⟩:=yi.1 hz';exact C36 hs n z u (by have:=x4 hz'; omega) hu (A61 hx i z hi).2
  rw[B2V];split
  ·have:=hto.id1; have:=hto.id2; exact B7n o_
  cases hfc:A5s s t x.name with
  | none=>exact A9T
  | some fc =>
  obtain⟨f,c⟩:=fc;simp only;have hc:=B9Z hto hfc;unfold A2Q at hc;split at hc
  ·cases hc
  split at hc
  ·cases hc
  rename_i c2;split at hc
  ·cases hc
  rename_i c3;split
  ·exact B7n (zk c2)
  split
  ·exact C35 o_
  split
  ·refine B4i λo ho=>?_;obtain⟨y,hy,rfl⟩:=zw.1 ho;exact A7z hs hx hkid (A1L _ _ hs.sch.len) y
  split
  ·exact A9T
  ·exact A7z hs hx hkid (A1L _ _ hs.sch.len) _
def C37{s:H6}(hs:RtS s){q:List C5}(hq:S4 q []=0):P0 (qO s q)=0:=by
 refine B7o (A9U hq) s_ λo ho=>?_;obtain⟨x,hx,rfl⟩:=zw.1 ho;obtain⟨i,hi⟩:=yi.1 hx;have hl:=(A61 hq i x hi).2;have hkid:∀u∈s.things,∀z∈x.kids,P0 (oS s z u)=0:=λu hu z hz'=>by
  obtain⟨i,hi⟩:=yi.1 hz';exact C36 hs (z.sz+1) z u (xx _) hu (A61 hl i z hi).2
 unfold rtO;split
 ·refine B4i λo ho=>?_;obtain⟨y,hy,rfl⟩:=zw.1 ho;exact A7z hs hl hkid (A1L _ _ hs.sch.len) y
 ·exact A7z hs hl hkid (A1L _ _ hs.sch.len) _
def C5r{s:H6}{q:List C5}(hw:qW s q<=2000):(qO s q).sz<=100000000000:=by
 have:=C8j s q; omega
end Go.Am
namespace Go.Am
open Go Go.RowKit Go.Proofs.Tryz
section
variable {E:O8} {σ:St} {k:List Itm} {P:Program}
end
def A9V{E:O8}{σ:St}{k:List Itm}{dst:Option Nat}{g:Option (Nat×Bool)}{us:List Nat}{op:COp}{l:List CR}{j:Nat}{acc:List RR}{ps:List (Nat×Nat)}(hg:A3P (lk σ.fr) g)(hc:Z1 (lk σ.fr) g=false)
  (h:Wk E (.ops l (j+1) (A1R ps ⟨false,.nilp,[],[]⟩ acc) ps::k) (σ.app dst ⟨false,.nilp,[],[]⟩)):Wk E (.ops (⟨dst,g,us,op⟩::l) j acc ps::k) σ :=
 A7U (r:=⟨false,.nilp,[],[]⟩) ⟨hg,hc.symm,(λh=>by cases h),λ_=>rfl⟩ (A0j h)
end Go.Am
namespace Go.Am
open Go Go.Proofs Go.RowKit Go.Proofs.Tryz
def A62{s:List UInt8}{e:Int}(h:A1a s = .error e):e≠0:=by
 unfold A1a at h;split at h
 ·rename_i hl;injection h with h
  exact h▸B2S hl
 ·unfold A3r at h;split at h
  ·injection h with h; omega
  ·split at h
   ·cases h
   ·rename_i hn;injection h with h
    exact h▸hn
def C38{s:List UInt8}{m:List C5}(h:A1a s = .ok m):p7 m<=300:=by
 unfold A1a at h;split at h
 ·cases h
 rename_i l hl;have h3:=((B1x s l).1 hl).2.2;unfold A3r at h;split at h
 ·cases h
 rename_i q hq;unfold B1z at hq;split at hq
 ·cases hq
 rename_i q' u hp;have:=(A9Q _).2.1 _ _ _ hp;split at hq
 ·injection hq with hq
  subst hq;split at h
  ·injection h with h
   subst h; omega
  ·cases h
 ·cases hq
def C54{s:H6}{q:List C5}(h:Rt s)(hq:J6 q=0):P0 (qO s q)=0:=C37 (B2E h.st) (A33 hq).2.2.1
def B2Y(l:List Ty)(d:Dk)(text:List UInt8)(n:Int)(id:Nat):A2 prog 20 [.sl (l.map I9),eDk d,.str text,.int .i64 n] [] id (.tup [.str (A5z l d text n).1,.int .i64 (A5z l d text n).2]) []:=by
 have hO:=λid=>B20 l d id;have hQ:=λid=>A2i text id;unfold eDk at hO ⊢;by_cases h:opE l d=0
 rotate_left
 ·have e:A5z l d text n=([],opE l d):=by unfold A5z; rw[zj h]
  rw[e];simp only[B6A h,B6B h] at hO;have hb:(opE l d==0)=false:=by simpa using h
  refine w20.e.1 λE hP hR hl hid=>?_;simp[w20];refine E5 hP rfl (hO _) s_ f_ ?_;refine A3 56 ?_;simp[hb];refine A9V (t_ hb) (t_ hb) (A9V (t_ hb) (t_ hb) (A9V (t_ hb) (t_ hb) (A9V (t_ hb) (t_ hb) (A9V (t_ hb) (t_ hb) ?_))));refine A3 4000 ?_;simp[hb];refine A7 (v_ h) ?_;simp;exact yP hR
 rw[h] at hO;simp only[C30,C31,B2U] at hO;have ho:=z7.1 h;have hbs:=A5p ho.disk;by_cases hr:n<0\/((F1 d.seg).length:Int)<n
 ·have e:A5z l d text n=([],3):=by unfold A5z; rw[zf (v_ h),zj hr]
  rw[e];refine w20.e.1 λE hP hR hl hid=>?_;simp[w20];(refine yH rfl (hO _) ?_; simp);refine A7 (by rw[ul,decide_eq_true_eq,decide_eq_true_eq]; exact hr) ?_;simp;exact yP hR
 have hA:A5z l d text n=match A1a text with
  | .error e=>([],e)
  | .ok q=>if A08 l q≠0 then ([],A08 l q) else if qW (o5 l d n.toNat) q<=2000 then (jS (qO (o5 l d n.toNat) q),0) else ([],2):=by
  unfold A5z; rw[zf (v_ h),zf hr]<;>rfl
 rw[hA];have hcond:(decide (n<0)||decide (((F1 d.seg).length:Int)<n))=false:=by
  rw[wm,decide_eq_false_iff_not,decide_eq_false_iff_not]; omega
 obtain⟨m,rfl⟩:∃m:Nat,n=(m:Int):=⟨n.toNat,o_⟩;rw[wh];cases hq:A1a text with
 | error e =>
  have hne:e≠0:=A62 hq;rw[hq] at hQ;have hQ:∀id,A2 prog 16 [.str text] [] id (.tup [.nils,.int .i64 e]) []:=hQ;show A2 _ _ _ _ _ (.tup [.str [],.int .i64 e]) _;have hb:(e==0)=false:=by simpa using hne
  refine w20.e.1 λE hP hR hl hid=>?_;simp[w20];(refine yH rfl (hO _) ?_; simp);refine A0 m_ ?_;simp;(refine yC rfl (hQ _) ?_; simp[hb]);refine A7 (v_ hne) ?_;simp;exact yP hR
 | ok q =>
  rw[hq] at hQ;have hQ:∀id,A2 prog 16 [.str text] [] id (.tup [.sl (q.map C6),.int .i64 0]) []:=hQ;have hS:=A5W ho.types;have hqz:p7 q<=300:=C38 hq;have hq2:J6 q=0:=C25 hq;have hS5:=hS.len;have hF:=λid=>B6w l q id hS.linked o_ (λt ht=>by have:=hS.fields t ht; omega) o_;have hev:=λj id=>B0j j (.sl ((opS l d).types.map I9)) (.sl ((opS l d).things.map Q9)) (by simp[AV.pureB]) (by simp[AV.pureB]) (F1 d.seg) m o_ id o_ λb hb=>(A2a (hbs.2 b hb)).1;unfold bxQ at hev;by_cases hf:A08 l q=0
  rotate_left
  ·have hb:(A08 l q==0)=false:=(v_ hf);simp only[zj hf];refine w20.e.1 λE hP hR hl hid=>?_;simp[w20];(refine yH rfl (hO _) ?_; simp);refine A0 m_ ?_;simp;(refine yH rfl (hQ _) ?_; simp);(refine yH rfl (hF _) ?_; simp);refine A7 (v_ hf) ?_;simp;exact yP hR
  rw[hf] at hF;simp only[hf,ne_eq,not_true_eq_false,if_false];obtain⟨hrt,hty,hal⟩:=B6C h m;have hAll:=λid=>C1d l (P3 ((F1 d.seg).take m)) id (A9C λb hb=>hbs.2 b (xn hb)) (by
   have:=A91 (l:=(F1 d.seg).take m) λb hb=>(A2a (hbs.2 b (xn hb))).1;rw[zy] at this; omega)
  have hat:atE l (P3 ((F1 d.seg).take m)) ((P3 ((F1 d.seg).take m)).length:Int)=0:=by
   unfold atE;rw[zf (v_ ho.types),zf o_];simpa using hal
  have has:atS l (P3 ((F1 d.seg).take m)) ((P3 ((F1 d.seg).take m)).length:Int)=o5 l d m:=by
   unfold atS o5;simp
  rw[hat,has] at hAll;have hRaw:=λid=>C2K (B2E hrt.st) q (by rw[hty]; exact hf) o_ id;rw[show A17 0 (o5 l d m)=H4 (o5 l d m) from rfl] at hAll;rw[show H4 (o5 l d m) = .agg [.sl ((o5 l d m).types.map I9),.sl ((o5 l d m).things.map Q9)] from rfl] at hAll;simp only[show H4 (o5 l d m) = .agg [.sl ((o5 l d m).types.map I9),.sl ((o5 l d m).things.map Q9)] from rfl] at hRaw;by_cases hw:qW (o5 l d m) q<=2000
  ·have hJ:=λid=>A4S ((qO (o5 l d m) q).sz+1) (qO (o5 l d m) q) id o_ (C5r hw) (C54 hrt hq2);rw[zj hw];rw[show A3u (o5 l d m) q=eO (qO (o5 l d m) q) by unfold A3u; rw[zj hw],se hw] at hRaw;generalize qO (o5 l d m) q=o at *;obtain⟨ok,on,ot,oks,ols,hoe⟩:∃(a b:Int) (c:List UInt8) (d:List (List UInt8)) (e:List D8),eO o = .agg [.int .i64 a,.int .i64 b,.str c,.sl (d.map .str),.sl (e.map eO)]:=by
    cases o with|mk a b c d e=>exact⟨a,b,c,d,e,A0q a b c d e⟩
   rw[hoe] at hRaw hJ;refine w20.e.1 λE hP hR hl hid=>?_;simp[w20];(refine yH rfl (hO _) ?_; simp);refine A0 m_ ?_;simp;(refine yH rfl (hQ _) ?_; simp);(refine yH rfl (hF _) ?_; simp);(refine yH rfl (hev _ _) ?_; simp);(refine yH rfl (hAll _) ?_; simp);(refine yH rfl (hRaw _) ?_; simp);(refine yH rfl (hJ _) ?_; simp);exact yP hR
  ·rw[zf hw];rw[show A3u (o5 l d m) q=zOut by unfold A3u; rw[zf hw],uo hw] at hRaw;unfold zOut at hRaw;refine w20.e.1 λE hP hR hl hid=>?_;simp[w20];(refine yH rfl (hO _) ?_; simp);refine A0 m_ ?_;simp;(refine yH rfl (hQ _) ?_; simp);(refine yH rfl (hF _) ?_; simp);(refine yH rfl (hev _ _) ?_; simp);(refine yH rfl (hAll _) ?_; simp);(refine yH rfl (hRaw _) ?_; simp);exact yP hR
def A9W(s:H6)(bs:List Bt)(d:Dk)(n:Int)(text:List UInt8):ApS :=
 match A1a text with
 | .error e=>⟨⟨[],0⟩,e⟩
 | .ok q=>if cdE s q≠0 then ⟨⟨[],0⟩,cdE s q⟩ else if bs.length=20 then ⟨⟨[],0⟩,2⟩
  else if (H3 ⟨(whole d.seg).seg,(whole d.seg).syn⟩ ⟨n,I2 s.types q⟩).e≠0 then ⟨⟨[],0⟩,(H3 ⟨(whole d.seg).seg,(whole d.seg).syn⟩ ⟨n,I2 s.types q⟩).e⟩
  else A1q (H3 ⟨(whole d.seg).seg,(whole d.seg).syn⟩ ⟨n,I2 s.types q⟩).d
def C7G(s:H6)(bs:List Bt)(d:Dk)(n:Int)(text:List UInt8)(j:Nat)(id:Nat)(hI:B90 s)(hl8:bs.length<=1000000)(h8:d.seg.length<=8)(h4:(B7 d.seg).length<=400):A2 prog 51 [.ptr j 0 0,eDk d,.int .i64 n,.str text] [(j,bxO s bs)] id (.tup [eDk (A9W s bs d n text).d,.int .i64 (A9W s bs d n text).e]) []:=by
 have hQ:=λid=>A2i text id;have hW:=λid=>A8Z d.seg d.syn id h8 h4;unfold eDk at *;rw[B2U];unfold A9W;cases hq:A1a text with
 | error e =>
  have hne:e≠0:=A62 hq;rw[hq] at hQ;have hQ:∀id,A2 prog 16 [.str text] [] id (.tup [.nils,.int .i64 e]) []:=hQ;show A2 _ _ _ _ _ (.tup [.agg [.sl [],.int .i64 0],.int .i64 e]) _;refine w51.e.1 λE hP hR hl hid=>?_;simp[w51];have hj:=hl (j,_) (za ..);simp only at hj;have j1:=lf hj;(refine yC rfl (hQ _) ?_; simp[j1]);refine A7 (v_ hne) ?_;simp[j1];exact yF hR [] (a_ j1 (I5 hid))
 | ok q =>
  rw[hq] at hQ;have hQ:∀id,A2 prog 16 [.str text] [] id (.tup [.sl (q.map C6),.int .i64 0]) []:=hQ;have hqz:p7 q<=300:=C38 hq;have hD:=λid=>B5p s q id hI o_;rw[show H4 s = .agg [.sl (s.types.map I9),.sl (s.things.map Q9)] from rfl] at hD;show A2 _ _ _ _ _ (.tup [.agg [.sl ((if cdE s q≠0 then _ else _:ApS).d.seg.map AV.str),.int .i64 (if cdE s q≠0 then _ else _:ApS).d.syn],.int .i64 (if cdE s q≠0 then _ else _:ApS).e]) _;by_cases h1:cdE s q=0
  rotate_left
  ·rw[zj h1];rw[y9,zf h1,show evV (cdE s q) (I2 s.types q) = .nils by unfold evV; rw[zf h1]] at hD;rw[show eS0 = .agg [.nils,.nils] from rfl] at hD;refine w51.e.1 λE hP hR hl hid=>?_;simp[w51];have hj:=hl (j,_) (za ..);simp only at hj;have j1:=lf hj;(refine yC rfl (hQ _) ?_; simp[j1]);(refine yC rfl (hD _) ?_; simp[j1]);refine A7 (v_ h1) ?_;simp[j1];exact yF hR [] (a_ j1 (I5 hid))
  rw[h1] at hD;rw[y9,zj rfl,show evV 0 (I2 s.types q) = .sl ((I2 s.types q).map S1) from rfl] at hD;rw[show H4 (Z4 s (I2 s.types q)) = .agg [.sl ((Z4 s (I2 s.types q)).types.map I9),.sl ((Z4 s (I2 s.types q)).things.map Q9)] from rfl] at hD;generalize Z4 s (I2 s.types q)=s2 at *;rw[zf (v_ h1)];by_cases h2:bs.length=20
  ·rw[zj h2];refine w51.e.1 λE hP hR hl hid=>?_;simp[w51];have hj:=hl (j,_) (za ..);simp only at hj;have j1:=lf hj;(refine yC rfl (hQ _) ?_; simp[j1]);(refine yC rfl (hD _) ?_; simp[j1]);refine A7 (t_ h2) ?_;simp[j1];exact yF hR [] (a_ j1 (I5 hid))
  rw[zf h2];have hA:=λid=>B8U ⟨(whole d.seg).seg,(whole d.seg).syn⟩ ⟨n,I2 s.types q⟩ id;have hS:=λid=>C44 (H3 ⟨(whole d.seg).seg,(whole d.seg).syn⟩ ⟨n,I2 s.types q⟩).d id;have h2b:((bs.length:Int)==20)=false:=by simp; omega
  simp only[eDk,v7] at hA hS;by_cases h3:(H3 ⟨(whole d.seg).seg,(whole d.seg).syn⟩ ⟨n,I2 s.types q⟩).e=0
  rotate_left
  ·rw[zj h3];generalize H3 ⟨(whole d.seg).seg,(whole d.seg).syn⟩ ⟨n,I2 s.types q⟩=r at *;refine w51.e.1 λE hP hR hl hid=>?_;simp[w51];have hj:=hl (j,_) (za ..);simp only at hj;have j1:=lf hj;(refine yC rfl (hQ _) ?_; simp[j1]);(refine yC rfl (hD _) ?_; simp[j1]);refine A0 m_ ?_;simp[j1];(refine yC rfl (hW _) ?_; simp[j1]);(refine yC rfl (hA _) ?_; simp[j1]);refine A7 (v_ h3) ?_;simp[j1];exact yF hR [] (a_ j1 (I5 hid))
  rw[zf (v_ h3)];rw[h3] at hA;generalize H3 ⟨(whole d.seg).seg,(whole d.seg).syn⟩ ⟨n,I2 s.types q⟩=r at *;generalize A1q r.d=z at *;refine w51.e.1 λE hP hR hl hid=>?_;simp[w51];have hj:=hl (j,_) (za ..);simp only at hj;have j1:=lf hj;(refine yC rfl (hQ _) ?_; simp[j1]);(refine yC rfl (hD _) ?_; simp[j1]);refine A0 m_ ?_;simp[j1];(refine yC rfl (hW _) ?_; simp[j1]);(refine yC rfl (hA _) ?_; simp[j1]);(refine yC rfl (hS _) ?_; simp[j1]);exact yF hR [] (a_ j1 (I5 hid))
def u6(l:List Ty)(d:Dk)(n:Int)(text:List UInt8):ApS :=
 if opE l d≠0 then ⟨⟨[],0⟩,opE l d⟩
 else if ¬(1<=n/\n<=65535) then ⟨⟨[],0⟩,3⟩
 else if (F1 d.seg).any (λb=>b.number==n)=true then ⟨⟨(whole d.seg).seg,(whole d.seg).syn⟩,0⟩
 else A9W (opS l d) (F1 d.seg) d n text
def A3A(l:List Ty)(d:Dk)(n:Int)(text:List UInt8)(id:Nat):A2 prog 15 [.sl (l.map I9),eDk d,.int .i64 n,.str text] [] id (.tup [eDk (u6 l d n text).d,.int .i64 (u6 l d n text).e]) []:=by
 have hO:=λid=>B20 l d id;have hN:=λid=>A8T n id;unfold eDk at hO ⊢;by_cases h:opE l d=0
 rotate_left
 ·have e:u6 l d n text=⟨⟨[],0⟩,opE l d⟩:=by unfold u6; rw[zj h]
  rw[e];simp only[B6A h,B6B h] at hO;have hb:(opE l d==0)=false:=by simpa using h
  refine w15.e.1 λE hP hR hl hid=>?_;simp[w15];(refine yH rfl (hO _) ?_; simp);refine A7 (v_ h) ?_;simp;exact yF hR [] (I5 hid)
 rw[h] at hO;simp only[C30,C31] at hO;have ho:=z7.1 h;have hbs:=A5p ho.disk;have hsz:=A1U (d:=d) (by rw[ho.disk]; decide);have h4:=A3d hsz.2;have hI:=(C33 h).1.idsI;have hW:=λid=>A8Z d.seg d.syn id hsz.1 h4;have hC:=λj id=>B0R 49 j (.int .i64 n) (.int .i64 n) n rfl (λx id=>C47 x n j id) (F1 d.seg) id o_;have hA:=λj id=>C7G (opS l d) (F1 d.seg) d n text j id hI o_ hsz.1 h4;simp only[B2U,eDk] at hO hA;by_cases h1:1<=n/\n<=65535
 rotate_left
 ·have e:u6 l d n text=⟨⟨[],0⟩,3⟩:=by unfold u6; rw[zf (v_ h),zj h1]
  rw[e];have hb:(decide (1<=n)&&decide (n<=65535))=false:=by
   rw[Bool.and_eq_false_iff,decide_eq_false_iff_not,decide_eq_false_iff_not]; omega
  rw[hb] at hN;refine w15.e.1 λE hP hR hl hid=>?_;simp[w15];(refine yH rfl (hO _) ?_; simp);(refine yH rfl (hN _) ?_; simp);exact yF hR [] (I5 hid)
 have hb:(decide (1<=n)&&decide (n<=65535))=true:=by
  rw[yk,decide_eq_true_eq,decide_eq_true_eq]; exact h1
 rw[hb] at hN;by_cases h2:(F1 d.seg).any (λb=>b.number==n)=true
 ·have e:u6 l d n text=⟨⟨(whole d.seg).seg,(whole d.seg).syn⟩,0⟩:=by unfold u6; rw[zf (v_ h),zf (v_ h1),zj h2]
  rw[e];simp only[h2] at hC;refine w15.e.1 λE hP hR hl hid=>?_;simp[w15];(refine yH rfl (hO _) ?_; simp);(refine yH rfl (hN _) ?_; simp);(refine yH rfl (hC _ _) ?_; simp);(refine yH rfl (hW _) ?_; simp);exact yP hR
 have e:u6 l d n text=A9W (opS l d) (F1 d.seg) d n text:=by unfold u6; rw[zf (v_ h),zf (v_ h1),zf h2]
 rw[e];have h2:(F1 d.seg).any (λb=>b.number==n)=false:=by simpa using h2
 simp only[h2] at hC;generalize A9W (opS l d) (F1 d.seg) d n text=z at *;refine w15.e.1 λE hP hR hl hid=>?_;simp[w15];(refine yH rfl (hO _) ?_; simp);(refine yH rfl (hN _) ?_; simp);(refine yH rfl (hC _ _) ?_; simp);(refine yH rfl (hA _ _) ?_; simp);exact yP hR
def A7O{l:List (List UInt8)}{syn:Int}{b:Bt}(g:A2v l)(hc:F3 ⟨l,syn⟩=0)(he:(H3 ⟨l,syn⟩ b).e=0):
  A2v (H3 ⟨l,syn⟩ b).d.seg/\F3 (H3 ⟨l,syn⟩ b).d=0/\F1 (H3 ⟨l,syn⟩ b).d.seg=F1 l++[b]/\(C4 (B7 (H3 ⟨l,syn⟩ b).d.seg) 0).last=(B7 (H3 ⟨l,syn⟩ b).d.seg).length/\I7 b=0/\(C4 (B7 l) 0).last=(B7 l).length /\
  ((H3 ⟨l,syn⟩ b).d=⟨A1h l (B7 l++C2 b),syn⟩/\l≠[]\/(H3 ⟨l,syn⟩ b).d=⟨l++[C2 b],0⟩):=by
 obtain⟨z1,z2,z3,z4⟩:=A5T hc;simp only at z2 z3 z4;unfold H3 at he ⊢;simp only at he ⊢;rw[hc] at he ⊢;rw[zf d_] at he ⊢;split at he
 ·rename_i h; exact (h he).elim
 ·rename_i hb;rw[zf hb];have hb:I7 b=0:=zk hb;split at he
  ·simp at he
  ·rename_i hw;rw[zf hw];have hwl:(C4 (B7 l) 0).last=(B7 l).length:=by
    have:=(M9 (B7 l) 0 o_).2.1;omega
   split at he
   ·rename_i hp;rw[zj hp];obtain⟨c1,c2,c3⟩:=C46 (B7 l) b hb hwl;have g':A2v (A1h l (B7 l++C2 b)):=g.set m_ c3;have hls:=A8b hp.1 (B7 l++C2 b);refine⟨g',?_,?_,by simp only[hls]; exact c2,hb,hwl,.inl ⟨rfl,hp.1⟩⟩
    ·have e:syn=(syn.toNat:Int):=o_;rw[e];refine g'.check syn.toNat ?_;rw[hls];have h1:=B3a (B7 l++C2 b) syn.toNat m_ 0 o_;rw[we o_] at h1;rw[←h1,B3a (B7 l) syn.toNat o_ 0 o_];exact z4
    ·simp only;rw[B3g hp.1,c1,B0Q hp.1,ym]
   ·rename_i hp;rw[zf hp];split at he
    ·simp at he
    ·rename_i h8;rw[zf h8];have hbl:(C2 b).length<=400:=(by have:=A1o b hb; simp[C2]; omega);have hone:=C45 b hb;have hl8:=g.h8;have g':A2v (l++[C2 b]):=g.snoc o_ hbl (by rw[hone]) λ_=>hwl;refine⟨g',?_,?_,?_,hb,hwl,.inr rfl⟩
     ·refine g'.check 0 ?_;rw[A8c,hone]; simp
     ·simp[F1,hone]
     ·simp only[A8c,hone]
end Go.Am
namespace Go.Am
open Go Go.RowKit Go.Proofs.Tryz
end Go.Am
namespace Go.Am
open Go Go.Proofs Go.RowKit Go.Proofs.Tryz
end Go.Am
