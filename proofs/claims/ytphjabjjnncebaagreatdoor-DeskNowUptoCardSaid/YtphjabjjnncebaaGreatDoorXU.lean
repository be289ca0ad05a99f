/- Parts of the proof: an abstract machine for Go functions, and what functions of the program give back (Qr10, Qr11, Qr12, Qr13, Dw4, Dp2, Dp3, Am64, Dw5, Dw6, Dw7, Dk13, Dk14, Dk15, Dk16). No condition. -/
import Derived.Test.YtphjabjjnncebaaGreatDoorXT
import Derived.Test.YtphjabjjnncebaaGreatDoorXQ
import Derived.Test.YtphjabjjnncebaaGreatDoorXR
import Derived.Test.YtphjabjjnncebaaGreatDoorXS
import Derived.Test.YtphjabjjnncebaaGreatDoorXG
import Derived.Test.YtphjabjjnncebaaGreatDoorXP
import Derived.Test.YtphjabjjnncebaaGreatDoorXI
set_option maxRecDepth 100000
set_option linter.all false
set_option maxHeartbeats 16000000
namespace Go.Am
open Go Go.Proofs Go.RowKit Go.Proofs.Tryz
def C21(E:O8)(e:Int)(y:Int)(J:Nat)(h4:J<E.n0)(hR:∀fr bx k,bk bx J=some (E7 e)->(∀q∈bx,q.1=J\/E.n0<=q.1)->E.Rt ⟨fr,bx,k⟩):
  Wk E [.code B1f] ⟨[(0,true,.ptr J 0 0),(1,true,erV e)],[(J,some (E7 y))],0⟩:=by
 unfold erV E7;have e4:∀t,(J=E.n0+t)=False:=λt=>by simp; omega
 refine A3 4000 ?_;simp[B1f,e4];refine hR _ _ _ ?_ ?_
 ·simp[e4,E7]
 ·simp
def C7Z{x x' z:Code}{X:Operand}{Y:Code}(h:f109.body=some (.seq x (.seq x' (.cond X Y z)))):C8 prog f109.ntmps Y=B1f:=by
 have h0:=C5p;rw[h] at h0;simp only[vj,zd,C4b] at h0;obtain⟨_,_,e1,_,h1⟩:=F7 h0;injection e1 with _ e1
 subst e1;obtain⟨_,_,e2,_,h2⟩:=F7 h1;injection e2 with _ e2
 subst e2;obtain⟨_,_,_,e3,_,h3,_⟩:=A18 h2;injection e3 with _ e3 _
 subst e3;exact h3
def C22(C:Cx prog)(G:Gh)(B:Nat->Option Bx)(w:World)(er:Int)(y:Int)(n0 J:Nat)(v4 u:Value)(hs:RS C G B w)(hv4:RV G w (.ptr J 0 0) v4)(hu:RV G w (erV er) u)
  (h4:B J=some (E7 y)) (hold:∀x,G.used x->x<n0) (how:∀x,n0<=x->B x=none) :
  CallsD prog 109 #[v4] (.panicking [{ v:=u,recovered:=false }]) w λe u' w'=>u' = .panicking [{ v:=u,recovered:=true }]/\(∃v,e = .returned v) /\
   ∃G' l k,RS C G' (ov B l) w'/\L0 G w G' w'/\bk l J=some (E7 er)/\(∀q∈l,q.1=J\/n0<=q.1)/\(∀x,x<n0->G'.used x->G.used x)/\∀x,G'.used x->x<n0+k:=by
 obtain⟨q,rfl⟩:∃q,u = .iface 31 q:=by
  unfold erV at hu;cases hu with|iface _ _ q h=>exact⟨q,rfl⟩
 refine callsD_of_wpS func109 rfl λc₀ cs hm=>?_;apply wpS_seq;apply wpS_region;simp[wpOpsS,go_sem,recoverD,hm,ntmps109,Exit.thenS];apply wpS_seq;apply wpS_region;simp[wpOpsS,go_sem,Exit.thenS];refine wpS_cond (t:=true) (by simp[Act.eval,Array.replicate]) ?_;apply wpS_of_wp;simp only[if_true];let E:O8:=⟨prog,C,B,f109.ntmps,n0,G,w,how,hold,hs,[],λσ=>bk σ.bx J=some (E7 er)/\∀q∈σ.bx,q.1=J\/n0<=q.1,λ_ _=>False⟩
 have l4:=hold J (hs.boxNames h4).1;have hW:=C21 E er y J l4 λfr bx k h1 h2=>⟨h1,h2⟩;refine wp_mono (hW _ (C7Z rfl) G _ w ?_) λe a w' hq=>?_
 ·refine⟨L0.refl G w,?_,λi hi=>by have:=hold i hi; show i<n0+0; omega,λi _ hi=>hi,λn c v hl=>?_,?_,rfl⟩
  ·have hh:J8 B [(J,E7 y)]:=λq hq=>by
    simp at hq;obtain rfl:=hq;exact h4
   have:=A2B hh;simp only[C5] at this;show RS C G (ov B _) w;rw[this]; exact hs
  ·simp only[lk] at hl;repeat' split at hl
   all_goals first|cases hl|skip
   all_goals rename_i hn<;>subst hn<;>refine⟨λ_=>?_,λh=>by cases h⟩
   ·simpa [zk] using hv4
   ·simpa [zk] using hu
  ·simp[E,ntmps109]
 ·have fin:∀σ G',Q3 E σ G' a w'->E.Rt σ->∀(cs':List Frame),a.defers=[]/\(∃v,(results f109 a.tmps).run prog w' = .ok v w')/\∃G' l k,RS C G' (ov B l) w'/\L0 G w G' w'/\bk l J=some (E7 er)/\(∀q∈l,q.1=J\/n0<=q.1)/\(∀x,x<n0->G'.used x->G.used x)/\∀x,G'.used x->x<n0+k:=λσ G' hD hR _=>by
   refine⟨hD.defers,⟨_,by simp[results,results83]; rfl⟩,G',σ.bx,σ.k,hD.rs,hD.ev,hR.1,hR.2,hD.old,hD.used⟩
  cases e with
  | normal =>
   obtain⟨σ,G',h1,h2⟩:=hq;obtain⟨f1,⟨v,f2⟩,g1,g2,g3,d1,d2,d3,d4,d5,d6⟩:=fin σ G' h1 h2 cs;exact⟨f1,_,rfl,v,f2,rfl,⟨v,rfl⟩,g1,g2,d1,d2,d3,λx y h=>d4 (x,y) h,d5,g3,d6⟩
  | ret =>
   obtain⟨σ,G',h1,h2⟩:=hq;obtain⟨f1,⟨v,f2⟩,g1,g2,g3,d1,d2,d3,d4,d5,d6⟩:=fin σ G' h1 h2 cs;exact⟨f1,_,rfl,v,f2,rfl,⟨v,rfl⟩,g1,g2,d1,d2,d3,λx y h=>d4 (x,y) h,d5,g3,d6⟩
  | exit id=>obtain⟨σ,G',h1,h2⟩:=hq; exact h2.elim
  | panic chain =>
   obtain⟨pv,u,σ,F,B,U,G',rfl,h1,h2,h3,h4⟩:=hq;exact h4.elim
  | _=>exact hq.elim
def C23(v1:Value)(w:World):CallsD prog 109 #[v1] .returning w λe u' w'=>u' = .returning/\(∃v,e = .returned v)/\w'=w:=by
 refine callsD_of_wpS func109 rfl λc₀ cs hu=>?_;apply wpS_seq;apply wpS_region;simp[wpOpsS,go_sem,recoverD,hu,ntmps109,Exit.thenS];apply wpS_seq;apply wpS_region;simp[wpOpsS,go_sem,Exit.thenS];refine wpS_cond (t:=false) (by simp[Act.eval,Array.replicate]) ?_;simp only[xr,if_false];apply wpS_of_wp;refine wp_skip ?_;exact⟨rfl,_,by rw[←hu],_,by simp[results,results83]; rfl,rfl,⟨_,rfl⟩,rfl⟩
def C8O{a b t u sk m c d e f r:Code}{X:Operand}(h:f52.body=some (.seq a (.seq b (.seq (.seq t (.cond X u sk)) (.seq m (.seq c (.seq d (.seq e (.seq f r))))))))):
  C8 prog f52.ntmps a=B6a/\C8 prog f52.ntmps b=B6b/\C8 prog f52.ntmps t=B6c/\C8 prog f52.ntmps u=B6f/\C8 prog f52.ntmps c=B6d/\C8 prog f52.ntmps d=A5f/\C8 prog f52.ntmps e=A5g/\C8 prog f52.ntmps (.seq f r) = .seq B6e CC.ret:=by
 have h0:=C7F;rw[h] at h0;simp only[vj,zd,C7C] at h0;obtain⟨_,_,e1,k1,h1⟩:=F7 h0;injection e1 with e1 e1'
 subst e1 e1';obtain⟨_,_,e2,k2,h2⟩:=F7 h1;injection e2 with e2 e2'
 subst e2 e2';obtain⟨_,_,e3,k3,h3⟩:=F7 h2;injection e3 with e3 e3'
 subst e3 e3';obtain⟨_,_,e4,k4,h4⟩:=F7 k3;injection e4 with e4 e4'
 subst e4 e4';obtain⟨_,_,_,e5,_,k5,_⟩:=A18 h4;injection e5 with _ e5 _
 subst e5;obtain⟨_,_,e6,_,h6⟩:=F7 h3;injection e6 with _ e6
 subst e6;obtain⟨_,_,e7,k7,h7⟩:=F7 h6;injection e7 with e7 e7'
 subst e7 e7';obtain⟨_,_,e8,k8,h8⟩:=F7 h7;injection e8 with e8 e8'
 subst e8 e8';obtain⟨_,_,e9,k9,h9⟩:=F7 h8;injection e9 with e9 e9'
 subst e9 e9';exact⟨k1,k2,k4,k5,k7,k8,k9,h9⟩
def C65{a b t m r:Code}(h:f52.body=some (.seq a (.seq b (.seq t (.seq m r))))){Q:Exit->Act->World->Prop}{t:Array Value}{w:World}(hsz:15<t.size)
  (hQ:Q .normal ⟨t.setIfInBounds 15 (.func (.func 109) #[] #[t[4]?.getD undef]),[⟨.fn (.func 109) #[t[4]?.getD undef],#[]⟩]⟩ w):m.wp prog Q ⟨t,[]⟩ w:=by
 have e:f52.body=some (.seq _ (.seq _ (.seq _ (.seq _ _)))):=rfl;rw[e] at h;injection h with h
 injection h with _ h
 injection h with _ h
 injection h with _ h
 injection h with h _
 subst h;refine wp_region ?_;have hmf:∀(fn:Fn) (first cap:Array Value) (w:World),(Instr.makeFunc fn first cap).run prog w = .ok (.func fn first cap) w:=λ_ _ _ _=>rfl;simp[wpOps,wpOp,go_sem,hmf,Exit.then,hsz];exact .inl (.inl hQ)
def B1z{C:Cx prog}{D:List Deferred}{G G':Gh}{w w':World}{bx:Nat->Option Bx}{n0 k id J K:Nat}{F:Fr}{l:List (Nat×Option Bx)}{a:Act}{e:Int}{b0:Bx}{X:Option Bx}(own:∀i,n0<=i->bx i=none)(old:∀i,G.used i->i<n0)(hs:RS C G bx w)(hid:∀x,id<=x->x<id+1024->¬G.used x)
  (hD:F2 C f52.ntmps D n0 G w F (ov bx l) (· < n0+k) G' a w') (f4:F 4=some (true,.ptr J 0 0)) (h4:ov bx l J=some (E7 e)) (hK:ov bx l K=X) (hX:∀b,X=some b->F1 b.xs=true) (hb0:bx K=some b0) (hl:∀q∈l,q.1=K\/n0<=q.1) (j4:n0<=J) (hKn:K<n0) :
  ∃v,(results f52 a.tmps).run prog w' = .ok v w'/\∃G1,RS C G1 (E9 bx [(K,X)]) w'/\L0 G w G1 w'/\RV G1 w' (.int .i64 e) v/\∀x,G1.used x->G.used x\/(id<=x/\x<id+1024):=by
 let E:O8:=⟨prog,C,bx,f52.ntmps,n0,G,w,own,old,hs,D,λ_=>True,λ_ _=>False⟩
 have hD':Q3 E ⟨[(4,true,.ptr J 0 0)],(J,some (E7 e))::(K,X)::l,k⟩ G' a w':=by
  refine⟨hD.ev,?_,hD.used,hD.old,λn c v hl=>?_,hD.size,hD.defers⟩
  ·show RS C G' (ov bx _) w';simp only[ov];rw[Y1 (f:=ov bx l) hK,Y1 h4];exact hD.rs
  ·simp only[lk] at hl;repeat' split at hl
   all_goals first|cases hl|skip
   all_goals rename_i hn<;>subst hn
   exact hD.fr _ _ _ f4
 have hh:J8 E.β [(K,b0)]:=λq hq=>by
  simp at hq;obtain rfl:=hq;exact hb0
 refine A68 (E:=E) (id:=id) (rd:=[(K,b0)]) (wr:=[(K,X)]) (C7E) hh hid hD' ?_;simp only[C7D];have hJK:J≠K:=by omega
 refine E6 (vs:=[.int .i64 e]) (by simp[E7]) [] trivial ⟨.same _ (I3 _ rfl),?_,?_,?_,trivial,?_⟩
 ·have one:∀b',X=some b'->∃x b,(P0 n0 [] trivial).ρ K=some x/\bk ((J,some (E7 e))::(K,X)::l) x=some b/\BxR (P0 n0 [] trivial) G.used b b':=λb hb=>by
   refine⟨K,b,?_,?_,BxR.same λi x hx=>I3 _ (A5y (hX b hb) hx)⟩
   ·show rnF n0 [] K=some K;simp[rnF,lkN,hKn]
   ·simp[bk,zu hJK,hb]
  clear hD hD' h4 hK;have hap:E9 (bk (C5 [(K,b0)])) [(K,X)] K=X:=by simp[E9,T4]
  have one':match E9 (bk (C5 [(K,b0)])) [(K,X)] K with
    | none=>True
    | some b'=>∃x b,(P0 n0 [] trivial).ρ K=some x/\bk ((J,some (E7 e))::(K,X)::l) x=some b/\BxR (P0 n0 [] trivial) G.used b b':=by
   rw[hap];cases X with
   | none=>trivial
   | some b=>exact one b rfl
  exact⟨one',one',trivial⟩
 ·refine⟨.inl j4,.inr (.inl rfl),?_⟩;clear hD hD' h4 hK;induction l with
  | nil=>trivial
  | cons q l ih =>
   obtain⟨q1,q2⟩:=q;refine⟨?_,ih λx hx=>hl x (zb _ hx)⟩;rcases hl (q1,q2) (za ..) with h|h
   ·exact .inr (.inl h)
   ·exact .inl h
 ·exact⟨.inl (.inl rfl),trivial⟩
 ·trivial
def C45{c:UInt8}{r:List UInt8}{e:Int}(h:A0i c r = .error e):e≠0:=by
 unfold A0i at h;split at h
 ·split at h
  ·cases h
  ·injection h with h; rw[←h]; assumption
 split at h
 ·split at h
  ·injection h with h; omega
  ·cases h
 split at h
 ·split at h
  ·injection h with h; omega
  ·split at h
   ·injection h with h; omega
   ·cases h
 split at h
 ·cases h
 ·injection h with h; omega
def B3y:∀(n:Nat) (acc:List Tk) (s:List UInt8) (e:Int),s0 n acc s = .error e->e≠0
 | 0,_,_,e,h=>by unfold s0 at h; injection h with h; omega
 | n+1,acc,s,e,h=>by
  unfold s0 at h;split at h
  ·cases h
  ·split at h
   ·rename_i he;injection h with h
    rw[←h]; exact C45 he
   ·split at h
    ·injection h with h; omega
    ·exact B3y n _ _ _ h
def B20{s:List UInt8}{e:Int}(h:A5c s = .error e):e≠0:=by
 unfold A5c at h;split at h
 ·injection h with h; omega
 ·exact B3y _ _ _ _ h
def A2r(pr:List Tk->Option (AV×List Tk))(s:List UInt8):Int:=match A5c s with
 | .error e=>e
 | .ok l=>match pr l with
  | none=>1
  | some (_,u)=>if u=[] then 0 else 1
def A4s(pr:List Tk->Option (AV×List Tk))(s:List UInt8):Option Bx:=match A5c s with
 | .error _=>some (lK .nils)
 | .ok l=>match pr l with
  | none=>none
  | some (v,_)=>some (lK v)
def doR(J K:Nat)(z:List Tk):Option (AV×List Tk)->Except AV (AV×List (Nat×Option Bx))
 | none=>.error (erV 1)
 | some (v,u)=>.ok (.tup [],[(J,some (tB z u)),(K,some (lK v))])
def B8l(E:O8)(f n0 K:Nat)(l:List Tk):St :=
 ⟨[(1,true,.fn f [.ptr K 0 0]),(4,true,.ptr n0 0 0),(6,true,.ptr E.n0 0 0)],[(E.n0,some (tB l l)),(n0,some (E7 0)),(K,some (lK .nils))],1⟩
def A5n(E:O8)(n0 K:Nat)(l u:List Tk)(v:AV):St :=
 ⟨[(4,true,.ptr n0 0 0),(6,true,.ptr E.n0 0 0)],[(E.n0,some (tB l u)),(n0,some (E7 0)),(K,some (lK v))],1⟩
def rBg(E:O8)(f K:Nat)(V:AV)(e:Int):St :=
 ⟨[(1,true,.fn f [.ptr K 0 0]),(4,true,.ptr E.n0 0 0),(5,true,V)],[(E.n0,some (E7 e)),(K,some (lK .nils))],1⟩
section
variable (E:O8) (hP:E.P=Tryz.prog) (f K:Nat) (h5:K<E.n0) (s:List UInt8)
include hP h5
theorem C24(V:AV)(e:Int)(hV:V.pureB=true)(hre:∀id,A2 prog 108 [.str s] [] id (.tup [V,.int .i64 e]) []):
  Wk E [.code B6b,.post λσ=>D5 E σ (rBg E f K V e)] ⟨[(4,true,.ptr E.n0 0 0),(0,true,.str s),(1,true,.fn f [.ptr K 0 0])],[(E.n0,some (E7 0)),(K,some (lK .nils))],1024⟩:=by
 have K1:=S5 h5; have K2:=O0 h5; have K3:=O1 h5; have K4:=L6 h5;unfold E7 lK;refine A3 4000 ?_;simp[B6b,K1,K2,K3,K4,h5];(refine yC rfl (hre _) ?_; simp[K1,K2,K3,K4,h5]);unfold rBg;refine yV [(E.n0,E.n0)] (by simp[E7,lK,K1,K2,K3,K4,h5]) λhrn=>⟨?_,?_,?_,?_,?_⟩<;>(try simp[E7,lK,K1,K2,K3,K4,h5]);all_goals exact .same _ (I3 _ hV)
theorem C4k(V:AV)(e:Int)(b:Bool)(hb:(e != 0)=b)(hV:V.pureB=true):
  Wk E [.code B6c,.post λσ=>lk σ.fr 13=some (true,.bool b)/\D5 E σ (rBg E f K V e)] (rBg E f K V e):=by
 have K1:=S5 h5; have K2:=O0 h5; have K3:=O1 h5; have K4:=L6 h5;unfold rBg E7 lK;refine A3 4000 ?_;simp[B6c,hb,K1,K2,K3,K4,h5];refine yV [(E.n0,E.n0)] (by simp[E7,lK,K1,K2,K3,K4,h5]) λhrn=>⟨?_,?_,?_,?_,?_⟩<;>(try simp[E7,lK,K1,K2,K3,K4,h5]);all_goals exact .same _ (I3 _ hV)
theorem C7a(V:AV)(e:Int)(hR:∀σ,bk σ.bx E.n0=some (E7 e)->bk σ.bx K=some (lK .nils)->lk σ.fr 4=some (true,.ptr E.n0 0 0)->(∀x∈σ.bx,x.1=K\/E.n0<=x.1)->E.Rt σ):
  Wk E [.code B6f,.post (λ_=>False)] (rBg E f K V e):=by
 have K1:=S5 h5; have K2:=O0 h5; have K3:=O1 h5; have K4:=L6 h5;unfold rBg E7 lK;refine A3 4000 ?_;simp[B6f,K1,K2,K3,K4,h5];refine hR _ ?_ ?_ ?_ ?_
 ·simp[E7,K1,K2,K3,K4]
 ·simp[lK,K1,K2,K3,K4]
 ·simp
 ·simp
end
section
variable (E:O8) (hP:E.P=Tryz.prog) (f n0 K:Nat) (h4:n0<E.n0) (h5:K<E.n0) (d:n0≠K) (l u:List Tk)
include hP h4 h5 d
theorem C7b(fr:List (Nat×Bool×AV))(k:Nat)(e1:lk fr 1=some (true,.fn f [.ptr K 0 0]))(e4:lk fr 4=some (true,.ptr n0 0 0))(e5:lk fr 5=some (true,.sl (l.map Q5))):
  Wk E [.code B6d,.post λσ=>D5 E σ (B8l E f n0 K l)] ⟨fr,[(n0,some (E7 0)),(K,some (lK .nils))],k⟩:=by
 have N1:=S5 h4; have N2:=O0 h4; have N3:=O1 h4; have N4:=L6 h4;have K1:=S5 h5; have K2:=O0 h5; have K3:=O1 h5; have K4:=L6 h5;unfold E7 lK;refine A3 4000 ?_;simp[B6d,e1,e4,e5,N1,N2,N3,N4,K1,K2,K3,K4,d,zu d];unfold B8l;refine yV [(E.n0,E.n0+(k+2048))] (by simp[tB,E7,lK,e1,e4,N1,N2,N3,N4,h4,K1,K2,K3,K4,h5,d,zu d]) λhrn=>⟨?_,?_,?_,?_,?_⟩<;>(try simp[tB,E7,lK,e1,e4,N1,N2,N3,N4,h4,K1,K2,K3,K4,h5,d,zu d])
theorem C7c(v:AV)(hv:v.pureB=true)(hF:∀id,A2 prog f [.ptr E.n0 0 0,.ptr K 0 0] [(E.n0,tB l l),(K,lK .nils)] id (.tup []) [(E.n0,some (tB l u)),(K,some (lK v))]):
  Wk E [.code A5f,.post λσ=>D5 E σ (A5n E n0 K l u v)] (B8l E f n0 K l):=by
 have N1:=S5 h4; have N2:=O0 h4; have N3:=O1 h4; have N4:=L6 h4;have K1:=S5 h5; have K2:=O0 h5; have K3:=O1 h5; have K4:=L6 h5;rw[B5,B5,M3,M3] at hF;unfold B8l E7 lK tB;refine A3 4000 ?_;simp[A5f,N1,N2,N3,N4,h4,K1,K2,K3,K4,h5,d,zu d];(refine F9 hP (by simp<;>exact⟨rfl,rfl⟩) rfl (hF _) (by simp[N1,N2,N3,N4,h4,K1,K2,K3,K4,h5,d,zu d]) (by simp[N1,N2,N3,N4,h4,K1,K2,K3,K4,h5,d,zu d]<;>rfl) ?_; refine A3 4000 ?_; simp[N1,N2,N3,N4,h4,K1,K2,K3,K4,h5,d,zu d]);unfold A5n;have hpl:F1 [v]=true:=by simp[F1,hv]
 refine yV [(E.n0,E.n0)] (by simp[tB,E7,lK,hv,N1,N2,N3,N4,h4,K1,K2,K3,K4,h5,d,zu d]) λhrn=>⟨?_,?_,?_,?_,?_⟩<;>(try simp[tB,E7,lK,hv,N1,N2,N3,N4,h4,K1,K2,K3,K4,h5,d,zu d]);all_goals exact .same _ (I3 _ hv)
theorem C66(hF:∀id,Y4 prog f [.ptr E.n0 0 0,.ptr K 0 0] [(E.n0,tB l l),(K,lK .nils)] id (.error (erV 1)))
  (hPn:∀σ,bk σ.bx n0=some (E7 0)->ov E.β σ.bx K=none->lk σ.fr 4=some (true,.ptr n0 0 0)->(∀x∈σ.bx,x.1=K\/x.1=n0\/E.n0<=x.1)->E.Pn (erV 1) σ) :
  Wk E [.ops (Q2 A5f) 0 [] [],.post (λ_=>False)] (B8l E f n0 K l):=by
 have N1:=S5 h4; have N2:=O0 h4; have N3:=O1 h4; have N4:=L6 h4;have K1:=S5 h5; have K2:=O0 h5; have K3:=O1 h5; have K4:=L6 h5;rw[B5,M3] at hF;unfold B8l E7 lK tB;refine A3 4000 ?_;simp[Q2,A5f,N1,N2,N3,N4,h4,K1,K2,K3,K4,h5,d,zu d];refine A2D hP (by simp<;>exact⟨rfl,rfl⟩) rfl (hF _) s_ (by simp[N1,N2,N3,N4,h4,K1,K2,K3,K4,h5,d,zu d]<;>rfl) (λpv hpv=>⟨by simp[N1,N2,N3,N4,h4,K1,K2,K3,K4,h5,d,zu d],by injection hpv with hpv; subst hpv; exact hPn _ (by simp[E7,N1,N2,N3,N4,h4,K1,K2,K3,K4,h5,d,zu d]) (by simp[ov,T4,N1,N2,N3,N4,h4,K1,K2,K3,K4,h5,d,zu d]) s_ s_⟩) (λv wr h=>by cases h)
theorem C67(v:AV)(hu:u≠[])(hPn:∀σ,bk σ.bx n0=some (E7 0)->ov E.β σ.bx K=some (lK v)->lk σ.fr 4=some (true,.ptr n0 0 0)->(∀x∈σ.bx,x.1=K\/x.1=n0\/E.n0<=x.1)->E.Pn (erV 1) σ):
  Wk E [.ops (Q2 A5g) 0 [] [],.post (λ_=>False)] (A5n E n0 K l u v):=by
 have N1:=S5 h4; have N2:=O0 h4; have N3:=O1 h4; have N4:=L6 h4;have K1:=S5 h5; have K2:=O0 h5; have K3:=O1 h5; have K4:=L6 h5;have hE:=λid=>C1r l u E.n0 id;rw[zf hu] at hE;rw[B5] at hE;unfold A5n E7 lK tB;refine A3 4000 ?_;simp[Q2,A5g,N1,N2,N3,N4,h4,K1,K2,K3,K4,h5,d,zu d];refine D3 hP rfl (hE _) s_ (by simp[N1,N2,N3,N4,h4,K1,K2,K3,K4,h5,d,zu d]<;>rfl) (λpv hpv=>⟨by simp[N1,N2,N3,N4,h4,K1,K2,K3,K4,h5,d,zu d],by injection hpv with hpv; subst hpv; exact hPn _ (by simp[E7,N1,N2,N3,N4,h4,K1,K2,K3,K4,h5,d,zu d]) (by simp[lK,ov,T4,N1,N2,N3,N4,h4,K1,K2,K3,K4,h5,d,zu d]) s_ s_⟩) (λv wr h=>by cases h)
theorem C7d(v:AV)(hv:v.pureB=true)(hu:u=[]):
  Wk E [.code A5g,.post λσ=>D5 E σ (A5n E n0 K l u v)] (A5n E n0 K l u v):=by
 have N1:=S5 h4; have N2:=O0 h4; have N3:=O1 h4; have N4:=L6 h4;have K1:=S5 h5; have K2:=O0 h5; have K3:=O1 h5; have K4:=L6 h5;have hE:=λid=>C1r l u E.n0 id;rw[zj hu] at hE;have hE:∀id,A2 prog 110 [.ptr E.n0 0 0] [(E.n0,tB l u)] id (.tup []) []:=hE;rw[B5] at hE;unfold A5n E7 lK tB;refine A3 4000 ?_;simp[A5g,N1,N2,N3,N4,h4,K1,K2,K3,K4,h5,d,zu d];(refine yC rfl (hE _) ?_; simp[N1,N2,N3,N4,h4,K1,K2,K3,K4,h5,d,zu d]);refine yV [(E.n0,E.n0)] (by simp[tB,E7,lK,hv,N1,N2,N3,N4,h4,K1,K2,K3,K4,h5,d,zu d]) λhrn=>⟨?_,?_,?_,?_,?_⟩<;>(try simp[tB,E7,lK,hv,N1,N2,N3,N4,h4,K1,K2,K3,K4,h5,d,zu d]);all_goals exact .same _ (I3 _ hv)
theorem C7e(v:AV)(hR:∀σ,bk σ.bx n0=some (E7 0)->bk σ.bx K=some (lK v)->lk σ.fr 4=some (true,.ptr n0 0 0)->(∀x∈σ.bx,x.1=K\/x.1=n0\/E.n0<=x.1)->E.Rt σ):
  Wk E [.code (.seq B6e CC.ret)] (A5n E n0 K l u v):=by
 have N1:=S5 h4; have N2:=O0 h4; have N3:=O1 h4; have N4:=L6 h4;have K1:=S5 h5; have K2:=O0 h5; have K3:=O1 h5; have K4:=L6 h5;unfold A5n E7 lK tB;refine A3 4000 ?_;simp[B6e,N1,N2,N3,N4,h4,K1,K2,K3,K4,h5,d,zu d];refine hR _ ?_ ?_ ?_ ?_
 ·simp[E7,N1,N2,N3,N4,h4,K1,K2,K3,K4,h5,d,zu d]
 ·simp[lK,N1,N2,N3,N4,h4,K1,K2,K3,K4,h5,d,zu d]
 ·simp
 ·simp
end
def C68(f K id:Nat)(s:List UInt8)(pr:List Tk->Option (AV×List Tk))
  (hF:∀z J id,J≠K->z.length<=300->Y4 prog f [.ptr J 0 0,.ptr K 0 0] [(J,tB z z),(K,lK .nils)] id (doR J K z (pr z))) (hpv:∀z v u,pr z=some (v,u)->v.pureB=true) :
  A2 prog 52 [.str s,.fn f [.ptr K 0 0]] [(K,lK .nils)] id (.int .i64 (A2r pr s)) [(K,A4s pr s)]:=by
 refine⟨⟨_,func52,d_,rfl⟩,λC G bx w vs nb hs hv hh hnb hid=>calls_of_wp_defers func52 rfl ?_⟩;obtain⟨ka,kb,kt,ku,kc,kd,ke,kf⟩:=C8O rfl;have own:∀i,max nb (id+1024)<=i->bx i=none:=λi hi=>by
  cases hbi:bx i with
  | none=>rfl
  | some b=>exact (hnb i o_ (hs.boxNames hbi).1).elim
 have old:∀i,G.used i->i<max nb (id+1024):=λi hi=>by
  rcases yi i nb with h|h
  ·omega
  ·exact (hnb i h hi).elim
 generalize max nb (id+1024)=n0 at own old;have hKb:bx K=some (lK .nils):=hh _ (za ..);have hKn:K<n0:=old K (hs.boxNames hKb).1;have hre:=λid=>C3y s id;let E:O8:=⟨prog,C,bx,f52.ntmps,n0,G,w,own,old,hs,[],λ_=>False,λ_ _=>False⟩
 have hN:E.n0=n0:=rfl;have hPE:E.P=prog:=rfl;have hD:Q3 E ⟨A1Y 0 [.str s,.fn f [.ptr K 0 0]],[(K,some (lK .nils))],0⟩ G { tmps:=vs++Array.replicate (f52.ntmps - vs.size) undef,defers:=[] } w:=by
  refine⟨L0.refl G w,?_,λi hi=>by have:=old i hi; show i<n0+0; omega,λi _ hi=>hi,λn c v hl=>?_,?_,rfl⟩
  ·have:=A2B hh;simp only[C5] at this;show RS C G (ov bx _) w;rw[this]; exact hs
  ·obtain⟨rfl,_,h3⟩:=A3y hl;simp only[rj] at h3;refine⟨λ_=>?_,λh=>by cases h⟩;have:=hv.2 n v h3;rw[zk] at this ⊢;rw[xy (by rw[←hv.1]; exact (ze.1 h3).1)];exact this
  ·have:=hv.1;simp[ntmps52] at this ⊢;show _=f52.ntmps;simp[ntmps52]; omega
 have K1:=S5 hKn; have K2:=O0 hKn; have K3:=O1 hKn; have K4:=L6 hKn;have hWa:Wk E [.code B6a,.post (λσ=>σ=⟨[(4,true,.ptr n0 0 0),(0,true,.str s),(1,true,.fn f [.ptr K 0 0])],[(n0,some (E7 0)),(K,some (lK .nils))],1024⟩)] ⟨A1Y 0 [.str s,.fn f [.ptr K 0 0]],[(K,some (lK .nils))],0⟩:=by
  refine A3 4000 ?_;simp[B6a,E,E7,lK]
 refine wp_seq (wkN (E:=E) ka hWa (λ_ h=>h) (λ_ _ h=>h) hD λτ G1 a1 w1 hD1 hτ=>?_);subst hτ;clear hWa hD;have hEnd:∀{v:Value} {G':Gh} {w':World} {e:Int} {X:Option Bx},A2r pr s=e->A4s pr s=X->RS C G' (E9 bx [(K,X)]) w'->L0 G w G' w'->RV G' w' (.int .i64 e) v->(∀x,G'.used x->G.used x\/(id<=x/\x<id+1024)) ->
   ∃v' G',Ending.returned v = .returned v'/\RS C G' (E9 bx [(K,A4s pr s)]) w'/\L0 G w G' w'/\RV G' w' (.int .i64 (A2r pr s)) v'/\∀x,G'.used x->G.used x\/(id<=x/\x<id+1024):=λ{v G' w' e X} h1 h2 r1 r2 r3 r4=>by
  rw[h1,h2];exact⟨v,G',rfl,r1,r2,r3,r4⟩
 have ev13:∀{a:Act} {b:Bool} {G':Gh} {w':World} {τ:St},Q3 E τ G' a w'->lk τ.fr 13=some (true,.bool b)->a.eval (.tmp 13) = .bool b:=λ{a b G' w' τ} h h13=>by
  have hr:=(h.fr 13 true _ h13).1 rfl;show a.tmps.getD 13 undef=_;generalize a.tmps.getD 13 undef=v at hr;cases hr; rfl
 cases hl:A5c s with
 | error e =>
  have hne:=B20 hl;rw[hl] at hre;have hre:∀id,A2 prog 108 [.str s] [] id (.tup [.nils,.int .i64 e]) []:=hre;have e1:A2r pr s=e:=by unfold A2r; rw[hl]
  have e2:A4s pr s=some (lK .nils):=by unfold A4s; rw[hl]
  refine wp_seq (wkN (E:=E) kb (C24 E hPE f K hKn s .nils e rfl hre) (λ_ h=>h) (λ_ _ h=>h) hD1 λτ G2 a2 w2 hD2 hτ=>?_);obtain⟨G3,hD3⟩:=hτ G2 a2 w2 hD2;refine wp_seq ?_;refine wp_seq (wkN (E:=E) kt (C4k E hPE f K hKn .nils e true (t_ hne) rfl) (λ_ h=>h) (λ_ _ h=>h) hD3 λτ G4 a4 w4 hD4 hτ=>?_);obtain⟨h13,hcv⟩:=hτ;obtain⟨G5,hD5⟩:=hcv G4 a4 w4 hD4;refine wp_cond_split (ev13 hD4 h13) (λ_=>?_) (λhb=>by cases hb);let E':O8:={ E with Rt:=λσ=>bk σ.bx n0=some (E7 e)/\bk σ.bx K=some (lK .nils)/\lk σ.fr 4=some (true,.ptr n0 0 0)/\∀x∈σ.bx,x.1=K\/n0<=x.1 }
  have hW:=C7a E' hPE f K hKn .nils e λσ h1 h2 h3 h4=>⟨h1,h2,h3,h4⟩;refine wp_mono (hW _ ku G5 _ w4 hD5) λe' a' w' hq=>?_;cases e' with
  | ret =>
   obtain⟨σ,G6,h1,b4,bK,f4,hl'⟩:=hq;show Leaves prog f52 a'.tmps _ a'.defers .returning w';rw[show a'.defers=[] from h1.defers];obtain⟨v,r1,G7,r2,r3,r4,r5⟩:=B1z own old hs hid h1 f4 (P3 _ b4) (P3 _ bK) (λb hb=>by injection hb with hb; subst hb; rfl) hKb hl' (zy _) hKn;exact⟨v,r1,hEnd e1 e2 r2 r3 r4 r5⟩
  | normal=>obtain⟨_,_,_,h⟩:=hq; exact h.elim
  | exit id=>obtain⟨_,_,_,h⟩:=hq; exact h.elim
  | panic chain=>obtain⟨_,_,_,_,_,_,_,_,_,_,_,h⟩:=hq; exact h.elim
  | _=>exact hq.elim
 | ok l =>
  have hl300:l.length<=300:=((B1V s l).1 hl).2.2;rw[hl] at hre;have hre:∀id,A2 prog 108 [.str s] [] id (.tup [.sl (l.map Q5),.int .i64 0]) []:=hre;have hVp:(AV.sl (l.map Q5)).pureB=true:=by simp[AV.pureB]
  refine wp_seq (wkN (E:=E) kb (C24 E hPE f K hKn s (.sl (l.map Q5)) 0 hVp hre) (λ_ h=>h) (λ_ _ h=>h) hD1 λτ G2 a2 w2 hD2 hτ=>?_);obtain⟨G3,hD3⟩:=hτ G2 a2 w2 hD2;refine wp_seq ?_;refine wp_seq (wkN (E:=E) kt (C4k E hPE f K hKn (.sl (l.map Q5)) 0 false rfl hVp) (λ_ h=>h) (λ_ _ h=>h) hD3 λτ G4 a4 w4 hD4 hτ=>?_);obtain⟨h13,hcv⟩:=hτ;obtain⟨G5,hD5⟩:=hcv G4 a4 w4 hD4;refine wp_cond_split (ev13 hD4 h13) (λhb=>by cases hb) (λ_=>?_);refine wp_skip ?_;obtain⟨at1,ad1⟩:=a4;have hd0:ad1=[]:=hD5.defers;subst hd0;have hsz:15<at1.size:=by have:=hD5.size; simp only at this; rw[this]; show 15<f52.ntmps; simp[ntmps52]
  show (Code.seq _ _).wp _ _ _ _;refine wp_seq (C65 rfl hsz ?_);obtain⟨v4,hv4⟩:∃v4,at1[4]?.getD undef=v4:=⟨_,rfl⟩;have g4:RV G5 w4 (.ptr n0 0 0) v4:=by
   have:=(hD5.fr 4 true _ rfl).1 rfl;rw[zk] at this;rw[←hv4]; exact this
  rw[hv4];have own1:∀i,n0+1<=i->ov bx [(n0,some (E7 0)),(K,some (lK .nils))] i=none:=λi hi=>by
   simp only[ov,T4];rw[zf o_,zf o_];exact own i o_
  have hev:L0 G w G5 w4:=hD5.ev;have hrs:RS C G5 (ov bx [(n0,some (E7 0)),(K,some (lK .nils))]) w4:=hD5.rs;have hus:∀i,G5.used i->i<n0+1:=hD5.used;have hol:∀i,i<n0->G5.used i->G.used i:=hD5.old;let D:List Deferred:=[⟨.fn (.func 109) #[v4],#[]⟩]
  let E2:O8:=⟨prog,C,ov bx [(n0,some (E7 0)),(K,some (lK .nils))],f52.ntmps,n0+1,G5,w4,own1,hus,hrs,D,λ_=>False,λ_ _=>False⟩
  have hN2:E2.n0=n0+1:=rfl;have hP2:E2.P=prog:=rfl;have hE2:∀m,ov E2.β m=ov bx (m++[(n0,some (E7 0)),(K,some (lK .nils))]):=λm=>(V0 bx m _).symm;have hD6:Q3 E2 ⟨[(1,true,.fn f [.ptr K 0 0]),(4,true,.ptr n0 0 0),(5,true,.sl (l.map Q5))],[(n0,some (E7 0)),(K,some (lK .nils))],0⟩ G5 ⟨at1.setIfInBounds 15 (.func (.func 109) #[] #[v4]),D⟩ w4:=by
   refine⟨L0.refl G5 w4,?_,λi hi=>by have:=hus i hi; show i<n0+1+0; omega,λi _ hi=>hi,λn c v hl=>?_,?_,rfl⟩
   ·show RS C G5 (ov (ov bx _) _) w4;simp only[ov];rw[Y1 (f:=T4 (T4 bx K _) n0 _) (i:=K) (by simp[T4]; omega),Y1 (i:=n0) (by simp[T4])];exact hrs
   ·have:=hD5.fr n c v hl;have hn:n≠15:=λh=>by subst h; simp at hl
    simp only[zk] at this ⊢;rw[vf (zu hn)];exact this
   ·have:=hD5.size;simp only[ud];exact this
  have hinv:∀w3,(invoke (.fn (.func 109) #[v4]) #[]).run prog w3 = .ok (.enter 109 #[v4]) w3:=λw3=>by simp[go_sem]
  have hw4:n0<E2.n0:=by omega
  have hw5:K<E2.n0:=by omega
  have hwd:n0≠K:=by omega
  have pnk:∀{R:Ending->World->Prop} {X:Option Bx} {k:Nat} {F:Fr} {m:List (Nat×Option Bx)} {G3:Gh} {a3:Act} {w3:World} {u:Value},(∀b,X=some b->F1 b.xs=true)->(∀v G4 w4,RS C G4 (E9 bx [(K,X)]) w4->L0 G w G4 w4->RV G4 w4 (.int .i64 1) v->(∀x,G4.used x->G.used x\/(id<=x/\x<id+1024))->R (.returned v) w4) ->
    F2 C f52.ntmps D (n0+1) G5 w4 F (ov E2.β m) (· < n0+1+k) G3 a3 w3->RV G3 w3 (erV 1) u->F 4=some (true,.ptr n0 0 0) ->
    ov E2.β m n0=some (E7 0)->ov E2.β m K=X->(∀x∈m,x.1=K\/x.1=n0\/n0+1<=x.1)->Leaves prog f52 a3.tmps R a3.defers (.panicking [{ v:=u,recovered:=false }]) w3:=λ{R X k F m G3 a3 w3 u} hX hR h1 h2 f4 h4 hK hm=>by
   rw[show a3.defers=D from h1.defers];have hus3:=h1.used;have hrs3:=h1.rs;refine leaves_cons s_ (hinv w3) ((C22 C G3 _ w3 1 0 _ n0 v4 u hrs3 (g4.mono h1.ev) h2 h4 hus3 (λx hx=>?_)).mono ?_)
   ·cases hb:ov E2.β m x with
    | none=>rfl
    | some b=>have:=hus3 x (hrs3.boxNames hb).1; omega
   rintro e' u' w' ⟨rfl,⟨v,rfl⟩,G4,l',k',r1,r2,r3,r5,r6,r7⟩;have hx:=F2.step h1 r1 r2 (U':=λx=>x<n0+(1+k+k')) (λx hx=>by have:=r7 x hx; omega) (λx hx hu=>r6 x o_ hu);have e4:=P3 (ov E2.β m) r3;have eK:ov (ov E2.β m) l' K=X:=by
    rw[←hK];have key:∀l':List (Nat×Option Bx),(∀q∈l',q.1≠K)->ov (ov E2.β m) l' K=ov E2.β m K:=λl'=>by
     induction l' with
     | nil=>intro _; rfl
     | cons q l' ih =>
      intro h;obtain⟨q1,q2⟩:=q;simp only[ov,T4];rw[zf (λh2=>h (q1,q2) (za ..) h2.symm)];exact ih λx hx=>h x (zb _ hx)
    refine key l' λq hq h=>?_;rcases r5 q hq with h2|h2<;>omega
   rw[←V0] at hx e4 eK;have h':=hx.rebase (n0:=n0) o_ hev hol;rw[hE2] at h' e4 eK;obtain⟨v,s1,G7,s2,s3,s4,s5⟩:=B1z own old hs hid h' f4 e4 eK hX hKb (λx hx=>by
    rcases zp.1 hx with hx|hx
    ·rcases zp.1 hx with hx|hx
     ·rcases r5 x hx with h|h
      ·exact .inr o_
      ·exact .inr o_
     ·rcases hm x hx with h|h|h
      ·exact .inl h
      ·exact .inr o_
      ·exact .inr o_
    ·simp at hx;rcases hx with rfl|rfl
     ·exact .inr (zy _)
     ·exact .inl rfl) (zy _) hKn
   exact⟨v,s1,hR v G7 w' s2 s3 s4 s5⟩
  show (Code.seq _ _).wp _ _ _ _;refine wp_seq (wkN (E:=E2) kc (C7b E2 hP2 f n0 K hw4 hw5 hwd l _ _ rfl rfl rfl) (λ_ h=>h) (λ_ _ h=>h) hD6 λτ G7 a7 w7 hD7 hτ=>?_);obtain⟨G8,hD8⟩:=hτ G7 a7 w7 hD7;show (Code.seq _ _).wp _ _ _ _;have hFl:=λid=>hF l E2.n0 id o_ hl300;cases hp:pr l with
  | none =>
   have e1:A2r pr s=1:=(by unfold A2r; rw[hl]; simp only; rw[hp]);have e2:A4s pr s=none:=(by unfold A4s; rw[hl]; simp only; rw[hp]);rw[hp] at hFl;have hFl:∀id,Y4 prog f [.ptr E2.n0 0 0,.ptr K 0 0] [(E2.n0,tB l l),(K,lK .nils)] id (.error (erV 1)):=hFl;let E1:O8:={ E2 with Pn:=λpv σ=>pv=erV 1/\bk σ.bx n0=some (E7 0)/\ov E2.β σ.bx K=none/\lk σ.fr 4=some (true,.ptr n0 0 0)/\∀x∈σ.bx,x.1=K\/x.1=n0\/n0+1<=x.1 }
   have hW:=C66 E1 hP2 f n0 K hw4 hw5 hwd l hFl λσ h1 h2 h3 h4=>⟨rfl,h1,h2,h3,h4⟩;refine wp_seq (B19 (E:=E1) (crs:=Q2 A5f) (kd.trans rfl) hW hD8 (λσ G3 a3 w3 h1 h2=>h2.elim) (λpv u σ G9 a9 w9 h1 h2 h3=>?_));obtain⟨rfl,b4,bK,f4,hm⟩:=h3;exact pnk (k:=1+1024*(Q2 A5f).length) (λb hb=>by cases hb) (λv G4 w4 r1 r2 r3 r4=>hEnd e1 e2 r1 r2 r3 r4) (h1.weak λx hx=>by have:x<n0+1+1+1024*(Q2 A5f).length:=hx; omega) h2 f4 (P3 _ b4) bK hm
  | some q =>
   obtain⟨v,u⟩:=q;have hvp:=hpv l v u hp;rw[hp] at hFl;have hFl:∀id,A2 prog f [.ptr E2.n0 0 0,.ptr K 0 0] [(E2.n0,tB l l),(K,lK .nils)] id (.tup []) [(E2.n0,some (tB l u)),(K,some (lK v))]:=hFl;have e2:A4s pr s=some (lK v):=(by unfold A4s; rw[hl]; simp only; rw[hp]);have hXv:∀b,some (lK v)=some b->F1 b.xs=true:=λb hb=>by injection hb with hb; subst hb; simp[lK,F1,hvp]
   refine wp_seq (wkN (E:=E2) kd (C7c E2 hP2 f n0 K hw4 hw5 hwd l u v hvp hFl) (λ_ h=>h) (λ_ _ h=>h) hD8 λτ G9 a9 w9 hD9 hτ=>?_);obtain⟨G10,hD10⟩:=hτ G9 a9 w9 hD9;show (Code.seq _ _).wp _ _ _ _;by_cases hu:u=[]
   ·have e1:A2r pr s=0:=(by unfold A2r; rw[hl]; simp only; rw[hp]; simp only; rw[zj hu]);refine wp_seq (wkN (E:=E2) ke (C7d E2 hP2 n0 K hw4 hw5 hwd l u v hvp hu) (λ_ h=>h) (λ_ _ h=>h) hD10 λτ G11 a11 w11 hD11 hτ=>?_);obtain⟨G12,hD12⟩:=hτ G11 a11 w11 hD11;let E3:O8:={ E2 with Rt:=λσ=>bk σ.bx n0=some (E7 0)/\bk σ.bx K=some (lK v)/\lk σ.fr 4=some (true,.ptr n0 0 0)/\∀x∈σ.bx,x.1=K\/x.1=n0\/n0+1<=x.1 }
    have hW:=C7e E3 hP2 n0 K hw4 hw5 hwd l u v λσ h1 h2 h3 h4=>⟨h1,h2,h3,h4⟩;have ends:∀{R:Ending->World->Prop} {σ:St} {G8:Gh} {a7:Act} {w7:World},(∀v G4 w4,RS C G4 (E9 bx [(K,some (lK v))]) w4->True)->(∀z G4 w4,RS C G4 (E9 bx [(K,some (lK v))]) w4->L0 G w G4 w4->RV G4 w4 (.int .i64 0) z->(∀x,G4.used x->G.used x\/(id<=x/\x<id+1024))->R (.returned z) w4)->Q3 E3 σ G8 a7 w7->E3.Rt σ->Leaves prog f52 a7.tmps R a7.defers .returning w7:=λ{R σ G8 a7 w7} _ hR h1 h2=>by
     obtain⟨b4,bK,f4,hm⟩:=h2;rw[show a7.defers=D from h1.defers];refine leaves_cons s_ (hinv w7) ((C23 v4 w7).mono ?_);rintro e u' w' ⟨rfl,⟨v',rfl⟩,rfl⟩;have h1':=h1.weak (U':=λx=>x<n0+(1+σ.k)) (λx hx=>by have:x<n0+1+σ.k:=hx; omega);have h':=h1'.rebase (n0:=n0) (show n0<=n0+1 from Nat.le_succ n0) hev hol;have e4:=P3 E2.β b4;have eK:=P3 E2.β bK;have h':F2 C f52.ntmps D n0 G w (lk σ.fr) (ov bx (σ.bx++[(n0,some (E7 0)),(K,some (lK .nils))])) (λx=>x<n0+(1+σ.k)) G8 a7 w':=(by rw[←hE2]; exact h');rw[hE2] at e4 eK;obtain⟨z,s1,G7,s2,s3,s4,s5⟩:=B1z own old hs hid h' f4 e4 eK hXv hKb (λx hx=>by
      rcases zp.1 hx with hx|hx
      ·rcases hm x hx with h|h|h
       ·exact .inl h
       ·exact .inr o_
       ·exact .inr o_
      ·simp at hx;rcases hx with rfl|rfl
       ·exact .inr (zy _)
       ·exact .inl rfl) (zy _) hKn
     exact⟨z,s1,hR z G7 w' s2 s3 s4 s5⟩
    refine wp_mono (hW _ kf G12 _ w11 hD12) λe a7 w7 hq=>?_;cases e with
    | ret =>
     obtain⟨σ,G8,h1,h2⟩:=hq;exact ends (λ_ _ _ _=>trivial) (λz G4 w4 r1 r2 r3 r4=>hEnd e1 e2 r1 r2 r3 r4) h1 h2
    | normal =>
     obtain⟨σ,G8,h1,h2⟩:=hq;exact ends (λ_ _ _ _=>trivial) (λz G4 w4 r1 r2 r3 r4=>hEnd e1 e2 r1 r2 r3 r4) h1 h2
    | exit id=>obtain⟨_,_,_,h2⟩:=hq; exact h2.elim
    | panic chain=>obtain⟨_,_,_,_,_,_,_,_,_,_,_,h⟩:=hq; exact h.elim
    | _=>exact hq.elim
   ·have e1:A2r pr s=1:=(by unfold A2r; rw[hl]; simp only; rw[hp]; simp only; rw[zf hu]);let E1:O8:={ E2 with Pn:=λpv σ=>pv=erV 1/\bk σ.bx n0=some (E7 0)/\ov E2.β σ.bx K=some (lK v)/\lk σ.fr 4=some (true,.ptr n0 0 0)/\∀x∈σ.bx,x.1=K\/x.1=n0\/n0+1<=x.1 }
    have hW:=C67 E1 hP2 n0 K hw4 hw5 hwd l u v hu λσ h1 h2 h3 h4=>⟨rfl,h1,h2,h3,h4⟩;refine wp_seq (B19 (E:=E1) (crs:=Q2 A5g) (ke.trans rfl) hW hD10 (λσ G3 a3 w3 h1 h2=>h2.elim) (λpv u σ G9 a9 w9 h1 h2 h3=>?_));obtain⟨rfl,b4,bK,f4,hm⟩:=h3;exact pnk (k:=1+1024*(Q2 A5g).length) hXv (λv G4 w4 r1 r2 r3 r4=>hEnd e1 e2 r1 r2 r3 r4) (h1.weak λx hx=>by have:x<n0+1+1+1024*(Q2 A5g).length:=hx; omega) h2 f4 (P3 _ b4) bK hm
def B3z(l:List C4)(s:C4):m9 (l++[s])=m9 l+s.sz:=by
 induction l with
 | nil=>simp[m9]
 | cons x r ih=>simp only[yz,m9,ih]; omega
def B71:∀(n:Nat) (acc:List Ag) (t u:List Tk) (l:List Ag),A21 n acc t=some (l,u)->l.length+u.length<=acc.length+t.length
 | 0,_,_,_,_,h=>by cases h
 | n+1,acc,t,u,l,h=>by
  simp only[A21] at h;split at h
  ·cases h
  rename_i p hp;have h1:=B1w (a:=p.1) (u:=p.2) hp;split at h
  ·simp only[zd,zi] at h;rw[←h.1,←h.2,ye]; simp; omega
  ·have:=B71 n _ _ _ _ h;simp at this; omega
def C25{t u:List Tk}{l:List Ag}(h:A32 t=some (l,u)):l.length+u.length<=t.length:=by
 unfold A32 at h;split at h
 ·have:=B71 _ _ _ _ _ h;rw[ye] at this; simp at this; omega
 ·simp only[zd,zi] at h;rw[←h.1,h.2]; simp
def A9A:∀n:Nat,(∀t s u,A22 n t=some (s,u)->s.sz+u.length<=t.length)/\(∀t s u,x7 n t=some (s,u)->m9 s+u.length<=t.length)/\(∀acc t s u,U0 n acc t=some (s,u)->m9 s+u.length<=m9 acc+t.length)
 | 0=>⟨λ_ _ _ h=>by simp[A22] at h,λ_ _ _ h=>by simp[x7] at h,λ_ _ _ _ h=>by simp[U0] at h⟩
 | n+1=>by
  obtain⟨h1,h2,h3⟩:=A9A n;refine⟨λt s u h=>?_,λt s u h=>?_,λacc t s u h=>?_⟩
  ·simp only[A22] at h;split at h
   ·cases h
   rename_i a nm v hv;have e1:=B5N hv;split at h
   ·cases h
   rename_i xs w hw;have e2:=C25 hw;split at h
   ·split at h
    ·cases h
    rename_i k y hy;have:=h2 _ _ _ hy;simp only[zd,zi] at h;rw[←h.1,←h.2]; simp only[C4.sz]; omega
   ·simp only[zd,zi] at h;rw[←h.1,←h.2]; simp only[C4.sz,m9]; omega
  ·simp only[x7] at h;split at h
   ·have:=h3 _ _ _ _ h;rw[ye] at this; simp only[m9] at this; omega
   ·cases h
  ·simp only[U0] at h;split at h
   ·cases h
   rename_i s' v hv;have e1:=h1 _ _ _ hv;split at h
   ·simp only[zd,zi] at h;rw[←h.1,←h.2,ye,B3z]; omega
   ·have:=h3 _ _ _ _ h;rw[B3z] at this; omega
def prQ(z:List Tk):Option (AV×List Tk):=B0b (x7 (3*z.length+3) z)
def C26(z:List Tk)(v:AV)(u:List Tk)(h:prQ z=some (v,u)):v.pureB=true:=by
 unfold prQ B0b at h;obtain⟨p,hp,h2⟩:=zn.1 h;simp only[zi] at h2;rw[←h2.1]; simp[AV.pureB]
def C69(z:List Tk)(J K id:Nat)(d:J≠K)(h8:z.length<=300):Y4 prog 53 [.ptr J 0 0,.ptr K 0 0] [(J,tB z z),(K,lK .nils)] id (doR J K z (prQ z)):=by
 have hS:=λid=>(C64 (3*z.length+3)).2 z z J id o_ o_;unfold prQ;cases hp:x7 (3*z.length+3) z with
 | none =>
  rw[hp] at hS;change ∀id,Y4 _ _ _ _ _ (.error (erV 1)) at hS;show Y4 _ _ _ _ _ (.error (erV 1));rw[B5] at *;rw[M3];refine w53.x.1 λE hP hR hPn hl hid hB hu=>?_;simp[w53];have hJ:=hl (J,_) (za ..);simp only at hJ;have J1:=lf hJ;have hK:=hl (K,_) (zb _ (za ..));simp only at hK;have K1:=lf hK;refine D3 hP rfl (hS _) (by simp[J1,K1,d,zu d]) (by simp[J1,K1,d,zu d]<;>rfl) (λpv hpv=>⟨by simp[J1,K1,d,zu d],by injection hpv with hpv; subst hpv; exact hPn _ _ (rfl) rfl (by simp[J1,K1,d,zu d])⟩) (λv wr h=>by cases h)
 | some q =>
  obtain⟨ss,u⟩:=q;rw[hp] at hS;have hS:∀id,A2 prog 54 [.ptr J 0 0] [(J,tB z z)] id (.sl (ss.map C6)) [(J,some (tB z u))]:=hS;show A2 _ _ _ _ _ (.tup []) [(J,some (tB z u)),(K,some (lK (.sl (ss.map C6))))];rw[B5,B5] at hS;rw[B5,B5,M3,M3];refine w53.e.1 λE hP hR hl hid=>?_;simp[w53];have hJ:=hl (J,_) (za ..);simp only at hJ;have J1:=lf hJ;have hK:=hl (K,_) (zb _ (za ..));simp only at hK;have K1:=lf hK;(refine yC rfl (hS _) ?_; simp[J1,K1,d,zu d]);exact yF hR [] (a_ J1 (a_ K1 (a_ d (a_ (zu d) (A4 hid)))))
def B8m:Except Int (List C4)->AV
 | .ok q=>.tup [.sl (q.map C6),.int .i64 0]
 | .error e=>.tup [.nils,.int .i64 e]
def A3n(s:List UInt8)(id:Nat):A2 prog 16 [.str s] [] id (B8m (A36 s)) []:=by
 have hRun:=λK id=>C68 53 K id s prQ (λz J id hd h8=>C69 z J K id hd h8) C26;unfold A36;cases hx:A5c s with
 | error e =>
  have hne:=B20 hx;have e1:A2r prQ s=e:=by unfold A2r; rw[hx]
  have e2:A4s prQ s=some (lK .nils):=by unfold A4s; rw[hx]
  rw[e1,e2] at hRun;show A2 _ _ _ _ _ (.tup [.nils,.int .i64 e]) _;simp only[M3] at hRun;refine w16.e.1 λE hP hR hl hid=>?_;simp[w16];(refine yH rfl (hRun _ _) ?_; simp);refine A0 (v_ hne) ?_;simp;refine A7 (v_ hne) ?_;simp;exact yP hR
 | ok l =>
  have h300:l.length<=300:=((B1V s l).1 hx).2.2;show A2 _ _ _ _ _ (B8m (A3d (B1X l))) _;unfold B1X;cases hp:x7 (3*l.length+3) l with
  | none =>
   have e1:A2r prQ s=1:=(by unfold A2r prQ; rw[hx]; simp only; rw[hp]; rfl);have e2:A4s prQ s=none:=(by unfold A4s prQ; rw[hx]; simp only; rw[hp]; rfl);rw[e1,e2] at hRun;show A2 _ _ _ _ _ (.tup [.nils,.int .i64 1]) _;simp only[M3] at hRun;refine w16.e.1 λE hP hR hl hid=>?_;simp[w16];(refine yH rfl (hRun _ _) ?_; simp);exact yP hR
  | some w =>
   obtain⟨q,u⟩:=w;have e2:A4s prQ s=some (lK (.sl (q.map C6))):=(by unfold A4s prQ; rw[hx]; simp only; rw[hp]; rfl);by_cases hu:u=[]
   ·have e1:A2r prQ s=0:=(by unfold A2r prQ; rw[hx]; simp only; rw[hp]; simp[B0b,hu]);have hsz:=(A9A _).2.1 _ _ _ hp;have hC:=λid=>A2I q id o_;rw[e1,e2] at hRun;show A2 _ _ _ _ _ (B8m (A3d (if u=[] then some q else none))) _;rw[zj hu];by_cases h0:I8 q=0
    ·have e:B8m (A3d (some q)) = .tup [.sl (q.map C6),.int .i64 0]:=(by unfold A3d; simp only; rw[zj h0]; rfl);rw[e];rw[h0] at hC;simp only[M3] at hRun;refine w16.e.1 λE hP hR hl hid=>?_;simp[w16];(refine yH rfl (hRun _ _) ?_; simp);(refine yH rfl (hC _) ?_; simp);exact yP hR
    ·have e:B8m (A3d (some q)) = .tup [.nils,.int .i64 (I8 q)]:=(by unfold A3d; simp only; rw[zf h0]; rfl);rw[e];simp only[M3] at hRun;refine w16.e.1 λE hP hR hl hid=>?_;simp[w16];(refine yH rfl (hRun _ _) ?_; simp);(refine yH rfl (hC _) ?_; simp);refine A7 (v_ h0) ?_;simp;exact yP hR
   ·have e1:A2r prQ s=1:=(by unfold A2r prQ; rw[hx]; simp only; rw[hp]; simp[B0b,hu]);rw[e1,e2] at hRun;show A2 _ _ _ _ _ (B8m (A3d (if u=[] then some q else none))) _;rw[zf hu];show A2 _ _ _ _ _ (.tup [.nils,.int .i64 1]) _;simp only[M3] at hRun;refine w16.e.1 λE hP hR hl hid=>?_;simp[w16];(refine yH rfl (hRun _ _) ?_; simp);exact yP hR
def B40(e:Int)(bs:List Bt):AV:=if e=0 then .sl (bs.map eBt) else .nils
theorem C27(id:Nat):opV 0 id = .ptr id 0 0:=rfl
def B5O{e:Int}(h:e≠0)(id:Nat):opV e id = .nilp:=by unfold opV; rw[zf h]
theorem C28(s:H7)(bs:List Bt)(id:Nat):opW 0 s bs id=[(id,some (bxO s bs))]:=rfl
def B5P{e:Int}(h:e≠0)(s:H7)(bs:List Bt)(id:Nat):opW e s bs id=[]:=by unfold opW; rw[zf h]
theorem B21(s:H7)(bs:List Bt):bxO s bs=⟨[.agg [.sl (s.types.map I7),.sl (s.things.map W3),.sl (bs.map eBt)]],.agg [.nils,.nils,.sl (bs.map eBt)],false,false⟩:=rfl
def B41(l:List Ty)(d:Dk)(id:Nat):A2 prog 14 [.sl (l.map I7),eDk d] [] id (.tup [A1a (opE l d) (opS l d),B40 (opE l d) (L7 d.seg),.int .i64 (opE l d)]) []:=by
 have hO:=λid=>B1Y l d id;unfold eDk at hO ⊢;by_cases h:opE l d=0
 ·rw[h] at hO ⊢;simp only[C27,C28,B21] at hO;rw[show B40 0 (L7 d.seg) = .sl ((L7 d.seg).map eBt) from rfl];rw[show A1a 0 (opS l d) = .agg [.sl ((opS l d).types.map I7),.sl ((opS l d).things.map W3)] from rfl];generalize opS l d=s at *;refine w14.e.1 λE hP hR hl hid=>?_;simp[w14];(refine yH rfl (hO _) ?_; simp);exact yP hR
 ·simp only[B5O h,B5P h] at hO;rw[show B40 (opE l d) (L7 d.seg) = .nils by unfold B40; rw[zf h],show A1a (opE l d) (opS l d) = .agg [.nils,.nils] by rw[A0O,zf h]; rfl];refine w14.e.1 λE hP hR hl hid=>?_;simp[w14];(refine yH rfl (hO _) ?_; simp);refine A7 (v_ h) ?_;simp;exact yP hR
def A5o(l:List Ty)(d:Dk)(text:List UInt8)(n:Int):List UInt8×Int :=
 if opE l d≠0 then ([],opE l d)
 else if n<0\/((L7 d.seg).length:Int)<n then ([],3)
 else match A36 text with
  | .error e=>([],e)
  | .ok q=>if A02 l q≠0 then ([],A02 l q) else if qW (Z1 l d n.toNat) q<=2000 then (jS (qO (Z1 l d n.toNat) q),0) else ([],2)
def C29:∀(l:List Ev) {s:H7},Rt s->(∀e∈l,I64 e.n)->Z0 s l=0->Rt (x6 s l)/\(x6 s l).types=s.types
 | [],s,h,_,_=>⟨h,rfl⟩
 | x::l,s,h,hn,ha=>by
  rw[A6Z] at ha;by_cases g:A2L s x=0
  ·rw[zf (v_ g)] at ha;obtain⟨a,b⟩:=B50 h (hn x (za ..)) g;obtain⟨c,d⟩:=C29 l a (λe he=>hn e (zb _ he)) ha;exact⟨c,d.trans b⟩
  ·rw[zj g] at ha;exact absurd ha g
def B8n(l:List Bt)(n:Nat):∃r,Q4 l=Q4 (l.take n)++r:=⟨Q4 (l.drop n),by rw[←C1G,xf]⟩
def B5Q{l:List Ty}{d:Dk}(h:opE l d=0)(n:Nat):Rt (Z1 l d n)/\(Z1 l d n).types=l/\Z0 ⟨l,[]⟩ (Q4 ((L7 d.seg).take n))=0:=by
 have ho:=A5e.1 h;have hf:=A8t (A7h ho.disk).2;have ha:=ho.all;obtain⟨r,hr⟩:=B8n (L7 d.seg) n;rw[hr] at ha hf;have h0:=C1F ha;obtain⟨a,b⟩:=C29 _ (C0m ho.types) (λe he=>hf e (yw _ he)) h0;exact⟨a,b,h0⟩
def C7f{l:List Ty}{d:Dk}(h:opE l d=0):Rt (opS l d)/\(opS l d).types=l:=by
 obtain⟨a,b,_⟩:=B5Q h (L7 d.seg).length;unfold Z1 at a b;rw[sr] at a b;exact⟨a,b⟩
def B22(s:H7)(x:C4)(t:Tg):oS s x t=if x.name=tId then j0 t.id else match A5h s t x.name with
  | none=>X9
  | some (f,c)=>if f.kind=1 then j0 c.n else if f.kind=2 then Y0 c.text
   else if f.kind=4 then N7 ((A1q x.args c.ids).map (thO s (x.kids.map C7) (oL s x.kids) (B7 s.types f.of)))
   else match c.ids with
    | []=>X9
    | y::_=>thO s (x.kids.map C7) (oL s x.kids) (B7 s.types f.of) y:=by cases x; rfl
def A2Y{α:Type}(f:α->D6)(w:α->Nat):∀l:List α,(∀x∈l,(f x).sz+1<=2*w x)->l8 (l.map f)+l.length<=2*(l.map w).sum
 | [],_=>by simp[l8]
 | x::r,h=>by
  have h1:=A2Y f w r λy hy=>h y (zb _ hy);have h2:=h x (za ..);simp only[yj,l8,zt,vu];omega
def B23{s:H7}{kids:List C4}(h:∀u,l8 (oL s kids u)+kids.length<=2*wL s kids u)(kd y:Int):(thO s (kids.map C7) (oL s kids) kd y).sz+1<=2*thW s (wL s kids) kd y:=by
 unfold thO thW;cases thA s kd y with
 | none=>simp[X9,D6.sz,l8]
 | some u =>
  have:=h u;simp only[V9,D6.sz,xj];omega
def C4l(s:H7):∀(m:Nat) (x:C4) (t:Tg),x.sz<m->(oS s x t).sz+1<=2*wS s x t
 | 0,x,t,h=>by omega
 | m+1,x,t,h=>by
  have hz:=A2H x;have hk:∀u,l8 (oL s x.kids u)+x.kids.length<=2*wL s x.kids u:=λu=>by
   rw[A1T,A6c];exact A2Y _ _ _ λz hz'=>C4l s m z u (by have:=u9 hz'; omega)
  rw[B22,B6m];split
  ·simp[j0,D6.sz,l8]
  cases hfc:A5h s t x.name with
  | none=>simp[X9,D6.sz,l8]
  | some fc =>
  obtain⟨f,c⟩:=fc;simp only;by_cases h1:f.kind=1
  ·rw[zj h1,zj (.inl h1)]; simp[j0,D6.sz,l8]
  rw[zf h1];by_cases h2:f.kind=2
  ·rw[zj h2,zj (.inr h2)]; simp[Y0,D6.sz,l8]
  have h12:¬(f.kind=1\/f.kind=2):=by omega
  rw[zf h2,zf h12];split
  ·have:=A2Y (thO s (x.kids.map C7) (oL s x.kids) (B7 s.types f.of)) (thW s (wL s x.kids) (B7 s.types f.of)) (A1q x.args c.ids) λy _=>B23 hk _ _;simp only[N7,D6.sz,wc];omega
  cases hci:c.ids with
  | nil=>simp[X9,D6.sz,l8]
  | cons y r=>exact B23 hk _ _
def C4m(s:H7)(l:List C4)(u:Tg):l8 (oL s l u)+l.length<=2*wL s l u:=by
 rw[A1T,A6c];exact A2Y _ _ _ λz hz'=>C4l s (z.sz+1) z u (wb _)
def C6A(s:H7)(x:C4):(rtO s x).sz+1<=2*rtW s x:=by
 unfold rtO rtW;cases x.args with
 | nil =>
  have:=A2Y (thO s (x.kids.map C7) (oL s x.kids) (B7 s.types x.name)) (thW s (wL s x.kids) (B7 s.types x.name)) (s6 s (B7 s.types x.name) s.things) λy _=>B23 (C4m s x.kids) _ _;simp only[N7,D6.sz,wc];omega
 | cons a r=>exact B23 (C4m s x.kids) _ _
def C7g(s:H7)(q:List C4):(qO s q).sz+1<=2*qW s q:=by
 have:=A2Y (rtO s) (λx=>rtW s x) q λx _=>C6A s x;unfold qO qW B5E;simp only[V9,D6.sz,xj] at *;omega
def HsL:Nat->List C4->Prop
 | 0,l=>l=[]
 | k+1,l=>∀x∈l,HsL k x.kids
def HoL:Nat->List D6->Prop
 | 0,l=>l=[]
 | k+1,l=>∀x∈l,HoL k x.kids
def HoL.nil:∀k,HoL k []
 | 0=>rfl
 | k+1=>λx hx=>by cases hx
def HoL.mono:∀{k:Nat} {l:List D6},HoL k l->HoL (k+1) l
 | 0,l,h=>by subst h; exact HoL.nil 1
 | k+1,l,h=>λx hx=>HoL.mono (h x hx)
def A2s{α:Type}(f:α->Nat):∀(l:List α) (a k:Nat),l.foldl (λd s=>max d (f s)) a<=k↔a<=k/\∀x∈l,f x<=k
 | [],a,k=>by simp
 | y::l,a,k=>by
  simp only[wk,zh,forall_eq_or_imp];rw[A2s f l];exact⟨λh=>⟨o_,o_,h.2⟩,λh=>⟨o_,h.2.2⟩⟩
def B42:∀(m:Nat) (l:List C4),deepL m l<=m->HsL m l
 | 0,l,h=>by
  simp only[deepL] at h;exact ui.1 o_
 | m+1,l,h=>by
  simp only[deepL] at h;intro x hx;exact B42 m _ (by have:=((A2s _ _ _ _).1 h).2 x hx; omega)
def B72:∀(k m:Nat) (l:List D6),HoL k l->s7 m l<=k
 | 0,m,l,h=>by
  simp only[HoL] at h;subst h;cases m<;>simp[s7]
 | k+1,0,l,h=>by simp only[s7]; omega
 | k+1,m+1,l,h=>by
  simp only[s7];refine (A2s _ _ _ _).2 ⟨o_,λx hx=>?_⟩;have:=B72 k m _ (h x hx);omega
def B24{s:H7}{k:Nat}{ks:List (List UInt8)}{g:Tg->List D6}(h:∀u,HoL k (g u))(kd y:Int):HoL k (thO s ks g kd y).kids:=by
 unfold thO;split
 ·exact HoL.nil k
 ·exact h _
def C4n(s:H7):∀(k:Nat) (l:List C4) (t:Tg),HsL k l->HoL (2*k) (oL s l t)
 | 0,l,t,h=>by
  simp only[HsL] at h;subst h;simp[oL,HoL]
 | k+1,l,t,h=>by
  rw[A1T,show 2*(k+1)=2*k+1+1 by omega];intro o ho;obtain⟨x,hx,rfl⟩:=zw.1 ho;have hk:∀u,HoL (2*k) (oL s x.kids u):=λu=>C4n s k x.kids u (h x hx);rw[B22];split
  ·exact HoL.nil _
  split
  ·exact HoL.nil _
  split
  ·exact HoL.nil _
  split
  ·exact HoL.nil _
  split
  ·intro o ho;obtain⟨y,hy,rfl⟩:=zw.1 ho;exact B24 hk _ _
  split
  ·exact HoL.nil _
  ·exact HoL.mono (B24 hk _ _)
def C7h(s:H7)(k:Nat)(q:List C4)(h:HsL (k+1) q):HoL (2*k+3) [qO s q]:=by
 intro o ho;obtain rfl:o=qO s q:=by simpa using ho
 intro o ho;obtain⟨x,hx,rfl⟩:=zw.1 (show o∈q.map (rtO s) from ho);have hk:∀u,HoL (2*k) (oL s x.kids u):=λu=>C4n s k x.kids u (h x hx);unfold rtO;split
 ·intro o ho;obtain⟨y,hy,rfl⟩:=zw.1 ho;exact B24 hk _ _
 ·exact HoL.mono (B24 hk _ _)
def A3o{α:Type}(f:α->D6)(w:α->Nat)(l:List α)(h:∀x∈l,∀m,O5 m (f x).kids+1<=w x)(m:Nat):O5 m (l.map f)<=(l.map w).sum:=by
 have h0:∀l:List α,(∀x∈l,∀m,O5 m (f x).kids+1<=w x)->l.length+((l.map f).map λs=>O5 (m - 1) s.kids).sum<=(l.map w).sum:=λl=>by
  induction l with
  | nil=>intro _; simp
  | cons x r ih =>
   intro h;have h1:=h x (za ..) (m - 1);have h2:=ih λy hy=>h y (zb _ hy);simp only[zt,yj,vu];omega
 have h1:=h0 l h;cases m with
 | zero=>simp only[O5,xj]; omega
 | succ m=>simp only[O5,xj]; simpa using h1
def A1E(m:Nat):O5 m []=0:=by cases m<;>simp[O5]
def A5p{s:H7}{ks:List (List UInt8)}{g:Tg->List D6}{w:Tg->Nat}(h:∀u m,O5 m (g u)<=w u)(kd y:Int)(m:Nat):O5 m (thO s ks g kd y).kids+1<=thW s w kd y:=by
 unfold thO thW;cases thA s kd y with
 | none=>simp[X9,D6.kids,A1E]
 | some u=>have:=h u m; simp only[V9,D6.kids]; omega
def B73(s:H7):∀(n:Nat) (x:C4) (t:Tg),x.sz<n->∀m,O5 m (oS s x t).kids+1<=wS s x t
 | 0,x,t,h,m=>by omega
 | n+1,x,t,h,m=>by
  have hz:=A2H x;have hk:∀u m,O5 m (oL s x.kids u)<=wL s x.kids u:=λu m=>by
   rw[A1T,A6c];exact A3o _ _ _ (λz hz' m=>B73 s n z u (by have:=u9 hz'; omega) m) m
  rw[B22,B6m];split
  ·simp[j0,D6.kids,A1E]
  cases hfc:A5h s t x.name with
  | none=>simp[X9,D6.kids,A1E]
  | some fc =>
  obtain⟨f,c⟩:=fc;simp only;by_cases h1:f.kind=1
  ·rw[zj h1,zj (.inl h1)]; simp[j0,D6.kids,A1E]
  rw[zf h1];by_cases h2:f.kind=2
  ·rw[zj h2,zj (.inr h2)]; simp[Y0,D6.kids,A1E]
  have h12:¬(f.kind=1\/f.kind=2):=by omega
  rw[zf h2,zf h12];split
  ·have:=A3o (thO s (x.kids.map C7) (oL s x.kids) (B7 s.types f.of)) (thW s (wL s x.kids) (B7 s.types f.of)) (A1q x.args c.ids) (λy _ m=>A5p hk _ _ m) m;simp only[N7,D6.kids];omega
  cases hci:c.ids with
  | nil=>simp[X9,D6.kids,A1E]
  | cons y r=>exact A5p hk _ _ m
def C2A(s:H7)(x:C4)(m:Nat):O5 m (rtO s x).kids+1<=rtW s x:=by
 have hk:∀u m,O5 m (oL s x.kids u)<=wL s x.kids u:=λu m=>by
  rw[A1T,A6c];exact A3o _ _ _ (λz hz' m=>B73 s (z.sz+1) z u (wb _) m) m
 unfold rtO rtW;cases x.args with
 | nil =>
  have:=A3o (thO s (x.kids.map C7) (oL s x.kids) (B7 s.types x.name)) (thW s (wL s x.kids) (B7 s.types x.name)) (s6 s (B7 s.types x.name) s.things) (λy _ m=>A5p hk _ _ m) m;simp only[N7,D6.kids];omega
 | cons a r=>exact A5p hk _ _ m
def C46(s:H7)(q:List C4)(m:Nat):O5 m [qO s q]<=qW s q:=by
 have h:=λm=>A3o (rtO s) (λx=>rtW s x) q (λx _ m=>C2A s x m) m;unfold qW B5E;cases m with
 | zero=>simp[O5]
 | succ m =>
  have:=h m;simp only[O5,yj,uf,vu,List.sum_nil,zt,wc,qO,V9,D6.kids];omega
def B8o{l:List D6}(h:∀o∈l,O6 o=0):A1V l=0:=by
 induction l with
 | nil=>rfl
 | cons x r ih =>
  simp only[A1V];rw[zf (by simp[h x (za ..)])];exact ih λo ho=>h o (zb _ ho)
def A3p{o:D6}(h1:A12 o=0)(h2:∀x∈o.kids,O6 x=0):O6 o=0:=by
 rw[A93,zf (t_ h1)];exact B8o h2
def A9B{o:D6}(h1:¬(o.kind<1\/5<o.kind))(h2:¬((o.kind≠2/\o.n≠0)\/(o.kind≠3/\o.text≠[])\/(o.kind≠5/\o.keys≠[])\/(o.kind<4/\o.kids≠[])))
  (h3:¬¬(-999999999<=o.n/\o.n<=999999999)) (h4:¬40<o.text.length) (h5:¬(o.kind=5/\o.keys.length≠o.kids.length)) (h6:A5i o.keys=0):A12 o=0:=by
 unfold A12;rw[zf h1,zf h2,zf h3,zf h4,zf h5];exact h6
def A9C:O6 X9=0:=A3p (A9B d_ d_ d_ d_ d_ rfl) λx hx=>by cases hx
def B74{n:Int}(h : -999999999<=n/\n<=999999999):O6 (j0 n)=0 :=
 A3p (A9B (by simp[j0,Y0,N7,V9,D6.kind,D6.n,D6.text,D6.keys,D6.kids]) (by simp[j0,D6.kind,D6.n,D6.text,D6.keys,D6.kids]) (by simpa [j0,D6.n] using h) (by simp[j0,Y0,N7,V9,D6.kind,D6.n,D6.text,D6.keys,D6.kids]) (by simp[j0,Y0,N7,V9,D6.kind,D6.n,D6.text,D6.keys,D6.kids]) rfl) λx hx=>by cases hx
def C2B{t:List UInt8}(h:t.length<=40):O6 (Y0 t)=0 :=
 A3p (A9B (by simp[j0,Y0,N7,V9,D6.kind,D6.n,D6.text,D6.keys,D6.kids]) (by simp[Y0,D6.kind,D6.n,D6.text,D6.keys,D6.kids]) (by simp[j0,Y0,N7,V9,D6.kind,D6.n,D6.text,D6.keys,D6.kids]) (by simpa [Y0,D6.text] using h) (by simp[j0,Y0,N7,V9,D6.kind,D6.n,D6.text,D6.keys,D6.kids]) rfl) λx hx=>by cases hx
def B43{l:List D6}(h:∀o∈l,O6 o=0):O6 (N7 l)=0 :=
 A3p (A9B (by simp[j0,Y0,N7,V9,D6.kind,D6.n,D6.text,D6.keys,D6.kids]) (by simp[N7,D6.kind,D6.n,D6.text,D6.keys,D6.kids]) (by simp[j0,Y0,N7,V9,D6.kind,D6.n,D6.text,D6.keys,D6.kids]) (by simp[j0,Y0,N7,V9,D6.kind,D6.n,D6.text,D6.keys,D6.kids]) (by simp[N7,D6.kind]) rfl) h
def B75{ks:List (List UInt8)}{l:List D6}(h0:A5i ks=0)(h1:ks.length=l.length)(h:∀o∈l,O6 o=0):O6 (V9 ks l)=0 :=
 A3p (A9B (by simp[j0,Y0,N7,V9,D6.kind,D6.n,D6.text,D6.keys,D6.kids]) (by simp[V9,D6.kind,D6.n,D6.text,D6.keys,D6.kids]) (by simp[j0,Y0,N7,V9,D6.kind,D6.n,D6.text,D6.keys,D6.kids]) (by simp[j0,Y0,N7,V9,D6.kind,D6.n,D6.text,D6.keys,D6.kids]) (by simp[V9,D6.kind,D6.keys,D6.kids,h1]) h0) h
def A78{α:Type}{f:Nat->α->Int}:∀{l:List α} {i:Nat},(∀(k:Nat) x,l[k]?=some x->f (i+k) x=0)->D0 f l i=0
 | [],i,_=>rfl
 | y::l,i,h=>by
  simp only[D0];rw[zf (by simpa using h 0 y rfl)];exact A78 λk x hx=>by have:=h (k+1) x (v_ hx); rwa [show i+(k+1)=i+1+k by omega] at this
def A5q:∀{l ah:List C4},S1 l ah=0->∀(i:Nat) x,l[i]?=some x->A3T x (ah++l.take i)=0/\S1 x.kids []=0
 | [],ah,_,i,x,hx=>by simp at hx
 | y::l,ah,h,i,x,hx=>by
  simp only[S1] at h;split at h
  ·rename_i g; exact (g h).elim
  rename_i g1;split at h
  ·rename_i g; exact (g h).elim
  rename_i g2;cases i with
  | zero =>
   simp at hx;subst hx;refine⟨?_,?_⟩
   ·simpa using g1
   ·rw[←A8X]; exact zl g2
  | succ i =>
   have:=A5q h i x (v_ hx);simpa using this
def A9D{l:List C4}(h:S1 l []=0):A5i (l.map C7)=0:=by
 refine A78 λk s hs=>?_;rw[ym] at hs;obtain⟨x,hx,rfl⟩:=zn.1 hs;have h1:=(A5q h k x hx).1;rw[xv,A8W] at h1;split at h1
 ·rename_i g; exact (g h1).elim
 rename_i g;have g:fNm x=0:=zl g;split at h1
 ·rename_i g; exact (g h1).elim
 split at h1
 ·cases h1
 rename_i g3;unfold A24 B8W;have hn:H2 (C7 x)=0:=by
  unfold fNm at g;split at g
  ·rename_i g4; exact (g4 g).elim
  rename_i g4;unfold C7;split
  ·rename_i ha; rwa [zj ha] at g
  ·exact zl g4
 rw[zf (t_ hn),xe,←yy,List.any_map];rw[zf (v_ g3)]
def B8p{s:H7}{t:Tg}{name:List UInt8}{f:Fd}{c:Cl}(ht:A4h s t)(h:A5h s t name=some (f,c)):A2G f c=0:=by
 unfold A5h at h;split at h
 ·rename_i f' c' hf hc;have h0:=ht.cell _ c' hc;unfold A0B at h0;rw[hf] at h0;simp only[zd,zi] at h;obtain⟨rfl,rfl⟩:=h;exact h0
 ·cases h
def A7k{s:H7}(hs:RtS s){l:List C4}(hl:S1 l []=0)(h:∀u∈s.things,∀x∈l,O6 (oS s x u)=0){kd:Int}(hk : -1<=kd/\kd<=5)(y:Int):O6 (thO s (l.map C7) (oL s l) kd y)=0:=by
 unfold thO;cases hu:thA s kd y with
 | none=>exact A9C
 | some u =>
  have hm:=(B1n hs hk hu).1;refine B75 (A9D hl) (by rw[A1T]; simp) λo ho=>?_;rw[A1T] at ho;obtain⟨x,hx,rfl⟩:=zw.1 ho;exact h u hm x hx
def C2C{s:H7}(hs:RtS s):∀(n:Nat) (x:C4) (t:Tg),x.sz<n->t∈s.things->S1 x.kids []=0->O6 (oS s x t)=0
 | 0,x,t,h,_,_=>by omega
 | n+1,x,t,h,ht,hx=>by
  have hz:=A2H x;have hto:=hs.tg t ht;have hkid:∀u∈s.things,∀z∈x.kids,O6 (oS s z u)=0:=λu hu z hz'=>by
   obtain⟨i,hi⟩:=yp.1 hz';exact C2C hs n z u (by have:=u9 hz'; omega) hu (A5q hx i z hi).2
  rw[B22];split
  ·have:=hto.id1; have:=hto.id2; exact B74 o_
  cases hfc:A5h s t x.name with
  | none=>exact A9C
  | some fc =>
  obtain⟨f,c⟩:=fc;simp only;have hc:=B8p hto hfc;unfold A2G at hc;split at hc
  ·cases hc
  split at hc
  ·cases hc
  rename_i c2;split at hc
  ·cases hc
  rename_i c3;split
  ·exact B74 (zl c2)
  split
  ·exact C2B o_
  split
  ·refine B43 λo ho=>?_;obtain⟨y,hy,rfl⟩:=zw.1 ho;exact A7k hs hx hkid (A1D _ _ hs.sch.len) y
  split
  ·exact A9C
  ·exact A7k hs hx hkid (A1D _ _ hs.sch.len) _
def C2D{s:H7}(hs:RtS s){q:List C4}(hq:S1 q []=0):O6 (qO s q)=0:=by
 refine B75 (A9D hq) s_ λo ho=>?_;obtain⟨x,hx,rfl⟩:=zw.1 ho;obtain⟨i,hi⟩:=yp.1 hx;have hl:=(A5q hq i x hi).2;have hkid:∀u∈s.things,∀z∈x.kids,O6 (oS s z u)=0:=λu hu z hz'=>by
  obtain⟨i,hi⟩:=yp.1 hz';exact C2C hs (z.sz+1) z u (wb _) hu (A5q hl i z hi).2
 unfold rtO;split
 ·refine B43 λo ho=>?_;obtain⟨y,hy,rfl⟩:=zw.1 ho;exact A7k hs hl hkid (A1D _ _ hs.sch.len) y
 ·exact A7k hs hl hkid (A1D _ _ hs.sch.len) _
def C4o{s:H7}{q:List C4}(hw:qW s q<=2000):(qO s q).sz<=100000000000:=by
 have:=C7g s q; omega
end Go.Am
namespace Go.Am
open Go Go.RowKit Go.Proofs.Tryz
section
variable {E:O8} {σ:St} {k:List Itm} {P:Program}
end
def A9E{E:O8}{σ:St}{k:List Itm}{dst:Option Nat}{g:Option (Nat×Bool)}{us:List Nat}{op:COp}{l:List CR}{j:Nat}{acc:List RR}{ps:List (Nat×Nat)}(hg:A3B (lk σ.fr) g)(hc:Y5 (lk σ.fr) g=false)
  (h:Wk E (.ops l (j+1) (A1K ps ⟨false,.nilp,[],[]⟩ acc) ps::k) (σ.app dst ⟨false,.nilp,[],[]⟩)):Wk E (.ops (⟨dst,g,us,op⟩::l) j acc ps::k) σ :=
 A7E (r:=⟨false,.nilp,[],[]⟩) ⟨hg,hc.symm,(λh=>by cases h),λ_=>rfl⟩ (A0g h)
end Go.Am
namespace Go.Am
open Go Go.Proofs Go.RowKit Go.Proofs.Tryz
def B25{s:List UInt8}{e:Int}(h:A36 s = .error e):e≠0:=by
 unfold A36 at h;split at h
 ·rename_i hl;injection h with h
  exact h▸B20 hl
 ·unfold A3d at h;split at h
  ·injection h with h; omega
  ·split at h
   ·cases h
   ·rename_i hn;injection h with h
    exact h▸hn
def C6B{s:List UInt8}{m:List C4}(h:A36 s = .ok m):m9 m<=300:=by
 unfold A36 at h;split at h
 ·cases h
 rename_i l hl;have h3:=((B1V s l).1 hl).2.2;unfold A3d at h;split at h
 ·cases h
 rename_i q hq;unfold B1X at hq;split at hq
 ·cases hq
 rename_i q' u hp;have:=(A9A _).2.1 _ _ _ hp;split at hq
 ·injection hq with hq
  subst hq;split at h
  ·injection h with h
   subst h; omega
  ·cases h
 ·cases hq
def C47{s:H7}{q:List C4}(h:Rt s)(hq:I8 q=0):O6 (qO s q)=0:=C2D (B1m h.st) (A2m hq).2.2.1
def A7l(l:List Ty)(d:Dk)(text:List UInt8)(n:Int)(id:Nat):A2 prog 20 [.sl (l.map I7),eDk d,.str text,.int .i64 n] [] id (.tup [.str (A5o l d text n).1,.int .i64 (A5o l d text n).2]) []:=by
 have hO:=λid=>B1Y l d id;have hQ:=λid=>A3n text id;unfold eDk at hO ⊢;by_cases h:opE l d=0
 rotate_left
 ·have e:A5o l d text n=([],opE l d):=by unfold A5o; rw[zj h]
  rw[e];simp only[B5O h,B5P h] at hO;have hb:(opE l d==0)=false:=by simpa using h
  refine w20.e.1 λE hP hR hl hid=>?_;simp[w20];refine D9 hP rfl (hO _) s_ f_ ?_;refine A3 56 ?_;simp[hb];refine A9E (t_ hb) (t_ hb) (A9E (t_ hb) (t_ hb) (A9E (t_ hb) (t_ hb) (A9E (t_ hb) (t_ hb) (A9E (t_ hb) (t_ hb) ?_))));refine A3 4000 ?_;simp[hb];refine A7 (v_ h) ?_;simp;exact yP hR
 rw[h] at hO;simp only[C27,C28,B21] at hO;have ho:=A5e.1 h;have hbs:=A7h ho.disk;by_cases hr:n<0\/((L7 d.seg).length:Int)<n
 ·have e:A5o l d text n=([],3):=by unfold A5o; rw[zf (v_ h),zj hr]
  rw[e];refine w20.e.1 λE hP hR hl hid=>?_;simp[w20];(refine yH rfl (hO _) ?_; simp);refine A7 (by rw[um,decide_eq_true_eq,decide_eq_true_eq]; exact hr) ?_;simp;exact yP hR
 have hA:A5o l d text n=match A36 text with
  | .error e=>([],e)
  | .ok q=>if A02 l q≠0 then ([],A02 l q) else if qW (Z1 l d n.toNat) q<=2000 then (jS (qO (Z1 l d n.toNat) q),0) else ([],2):=by
  unfold A5o; rw[zf (v_ h),zf hr]<;>rfl
 rw[hA];have hcond:(decide (n<0)||decide (((L7 d.seg).length:Int)<n))=false:=by
  rw[wq,decide_eq_false_iff_not,decide_eq_false_iff_not]; omega
 obtain⟨m,rfl⟩:∃m:Nat,n=(m:Int):=⟨n.toNat,o_⟩;rw[uv];cases hq:A36 text with
 | error e =>
  have hne:e≠0:=B25 hq;rw[hq] at hQ;have hQ:∀id,A2 prog 16 [.str text] [] id (.tup [.nils,.int .i64 e]) []:=hQ;show A2 _ _ _ _ _ (.tup [.str [],.int .i64 e]) _;have hb:(e==0)=false:=by simpa using hne
  refine w20.e.1 λE hP hR hl hid=>?_;simp[w20];(refine yH rfl (hO _) ?_; simp);refine A0 m_ ?_;simp;(refine yC rfl (hQ _) ?_; simp[hb]);refine A7 (v_ hne) ?_;simp;exact yP hR
 | ok q =>
  rw[hq] at hQ;have hQ:∀id,A2 prog 16 [.str text] [] id (.tup [.sl (q.map C6),.int .i64 0]) []:=hQ;have hS:=A5L ho.types;have hqz:m9 q<=300:=C6B hq;have hq2:I8 q=0:=C1E hq;have hS5:=hS.len;have hF:=λid=>B6E l q id hS.linked o_ (λt ht=>by have:=hS.fields t ht; omega) o_;have hev:=λj id=>B0L j (.sl ((opS l d).types.map I7)) (.sl ((opS l d).things.map W3)) (by simp[AV.pureB]) (by simp[AV.pureB]) (L7 d.seg) m o_ id o_ λb hb=>(A2Q (hbs.2 b hb)).1;unfold bxQ at hev;by_cases hf:A02 l q=0
  rotate_left
  ·have hb:(A02 l q==0)=false:=(v_ hf);simp only[zj hf];refine w20.e.1 λE hP hR hl hid=>?_;simp[w20];(refine yH rfl (hO _) ?_; simp);refine A0 m_ ?_;simp;(refine yH rfl (hQ _) ?_; simp);(refine yH rfl (hF _) ?_; simp);refine A7 (v_ hf) ?_;simp;exact yP hR
  rw[hf] at hF;simp only[hf,ne_eq,not_true_eq_false,if_false];obtain⟨hrt,hty,hal⟩:=B5Q h m;have hAll:=λid=>C0n l (Q4 ((L7 d.seg).take m)) id (A8t λb hb=>hbs.2 b (xq hb)) (by
   have:=A8j (l:=(L7 d.seg).take m) λb hb=>(A2Q (hbs.2 b (xq hb))).1;rw[zz] at this; omega)
  have hat:atE l (Q4 ((L7 d.seg).take m)) ((Q4 ((L7 d.seg).take m)).length:Int)=0:=by
   unfold atE;rw[zf (v_ ho.types),zf o_];simpa using hal
  have has:atS l (Q4 ((L7 d.seg).take m)) ((Q4 ((L7 d.seg).take m)).length:Int)=Z1 l d m:=by
   unfold atS Z1;simp
  rw[hat,has] at hAll;have hRaw:=λid=>C1R (B1m hrt.st) q (by rw[hty]; exact hf) o_ id;rw[show A1a 0 (Z1 l d m)=H4 (Z1 l d m) from rfl] at hAll;rw[show H4 (Z1 l d m) = .agg [.sl ((Z1 l d m).types.map I7),.sl ((Z1 l d m).things.map W3)] from rfl] at hAll;simp only[show H4 (Z1 l d m) = .agg [.sl ((Z1 l d m).types.map I7),.sl ((Z1 l d m).things.map W3)] from rfl] at hRaw;by_cases hw:qW (Z1 l d m) q<=2000
  ·have hJ:=λid=>A4C ((qO (Z1 l d m) q).sz+1) (qO (Z1 l d m) q) id o_ (C4o hw) (C47 hrt hq2);rw[zj hw];rw[show A3g (Z1 l d m) q=eO (qO (Z1 l d m) q) by unfold A3g; rw[zj hw],sg hw] at hRaw;generalize qO (Z1 l d m) q=o at *;obtain⟨ok,on,ot,oks,ols,hoe⟩:∃(a b:Int) (c:List UInt8) (d:List (List UInt8)) (e:List D6),eO o = .agg [.int .i64 a,.int .i64 b,.str c,.sl (d.map .str),.sl (e.map eO)]:=by
    cases o with|mk a b c d e=>exact⟨a,b,c,d,e,A0o a b c d e⟩
   rw[hoe] at hRaw hJ;refine w20.e.1 λE hP hR hl hid=>?_;simp[w20];(refine yH rfl (hO _) ?_; simp);refine A0 m_ ?_;simp;(refine yH rfl (hQ _) ?_; simp);(refine yH rfl (hF _) ?_; simp);(refine yH rfl (hev _ _) ?_; simp);(refine yH rfl (hAll _) ?_; simp);(refine yH rfl (hRaw _) ?_; simp);(refine yH rfl (hJ _) ?_; simp);exact yP hR
  ·rw[zf hw];rw[show A3g (Z1 l d m) q=zOut by unfold A3g; rw[zf hw],up hw] at hRaw;unfold zOut at hRaw;refine w20.e.1 λE hP hR hl hid=>?_;simp[w20];(refine yH rfl (hO _) ?_; simp);refine A0 m_ ?_;simp;(refine yH rfl (hQ _) ?_; simp);(refine yH rfl (hF _) ?_; simp);(refine yH rfl (hev _ _) ?_; simp);(refine yH rfl (hAll _) ?_; simp);(refine yH rfl (hRaw _) ?_; simp);exact yP hR
def B8q(s:H7)(bs:List Bt)(d:Dk)(n:Int)(text:List UInt8):ApS :=
 match A36 text with
 | .error e=>⟨⟨[],0⟩,e⟩
 | .ok q=>if cdE s q≠0 then ⟨⟨[],0⟩,cdE s q⟩ else if bs.length=20 then ⟨⟨[],0⟩,2⟩
  else if (M9 ⟨(whole d.seg).seg,(whole d.seg).syn⟩ ⟨n,J6 s.types q⟩).e≠0 then ⟨⟨[],0⟩,(M9 ⟨(whole d.seg).seg,(whole d.seg).syn⟩ ⟨n,J6 s.types q⟩).e⟩
  else A4K (M9 ⟨(whole d.seg).seg,(whole d.seg).syn⟩ ⟨n,J6 s.types q⟩).d
def C6C(s:H7)(bs:List Bt)(d:Dk)(n:Int)(text:List UInt8)(j:Nat)(id:Nat)(hI:C0h s)(hl8:bs.length<=1000000)(h8:d.seg.length<=8)(h4:(F8 d.seg).length<=400):A2 prog 51 [.ptr j 0 0,eDk d,.int .i64 n,.str text] [(j,bxO s bs)] id (.tup [eDk (B8q s bs d n text).d,.int .i64 (B8q s bs d n text).e]) []:=by
 have hQ:=λid=>A3n text id;have hW:=λid=>A8J d.seg d.syn id h8 h4;unfold eDk at *;rw[B21];unfold B8q;cases hq:A36 text with
 | error e =>
  have hne:e≠0:=B25 hq;rw[hq] at hQ;have hQ:∀id,A2 prog 16 [.str text] [] id (.tup [.nils,.int .i64 e]) []:=hQ;show A2 _ _ _ _ _ (.tup [.agg [.sl [],.int .i64 0],.int .i64 e]) _;refine w51.e.1 λE hP hR hl hid=>?_;simp[w51];have hj:=hl (j,_) (za ..);simp only at hj;have j1:=lf hj;(refine yC rfl (hQ _) ?_; simp[j1]);refine A7 (v_ hne) ?_;simp[j1];exact yF hR [] (a_ j1 (A4 hid))
 | ok q =>
  rw[hq] at hQ;have hQ:∀id,A2 prog 16 [.str text] [] id (.tup [.sl (q.map C6),.int .i64 0]) []:=hQ;have hqz:m9 q<=300:=C6B hq;have hD:=λid=>C5g s q id hI o_;rw[show H4 s = .agg [.sl (s.types.map I7),.sl (s.things.map W3)] from rfl] at hD;show A2 _ _ _ _ _ (.tup [.agg [.sl ((if cdE s q≠0 then _ else _:ApS).d.seg.map AV.str),.int .i64 (if cdE s q≠0 then _ else _:ApS).d.syn],.int .i64 (if cdE s q≠0 then _ else _:ApS).e]) _;by_cases h1:cdE s q=0
  rotate_left
  ·rw[zj h1];rw[A0O,zf h1,show evV (cdE s q) (J6 s.types q) = .nils by unfold evV; rw[zf h1]] at hD;rw[show eS0 = .agg [.nils,.nils] from rfl] at hD;refine w51.e.1 λE hP hR hl hid=>?_;simp[w51];have hj:=hl (j,_) (za ..);simp only at hj;have j1:=lf hj;(refine yC rfl (hQ _) ?_; simp[j1]);(refine yC rfl (hD _) ?_; simp[j1]);refine A7 (v_ h1) ?_;simp[j1];exact yF hR [] (a_ j1 (A4 hid))
  rw[h1] at hD;rw[A0O,zj rfl,show evV 0 (J6 s.types q) = .sl ((J6 s.types q).map S7) from rfl] at hD;rw[show H4 (x6 s (J6 s.types q)) = .agg [.sl ((x6 s (J6 s.types q)).types.map I7),.sl ((x6 s (J6 s.types q)).things.map W3)] from rfl] at hD;generalize x6 s (J6 s.types q)=s2 at *;rw[zf (v_ h1)];by_cases h2:bs.length=20
  ·rw[zj h2];refine w51.e.1 λE hP hR hl hid=>?_;simp[w51];have hj:=hl (j,_) (za ..);simp only at hj;have j1:=lf hj;(refine yC rfl (hQ _) ?_; simp[j1]);(refine yC rfl (hD _) ?_; simp[j1]);refine A7 (t_ h2) ?_;simp[j1];exact yF hR [] (a_ j1 (A4 hid))
  rw[zf h2];have hA:=λid=>B7m ⟨(whole d.seg).seg,(whole d.seg).syn⟩ ⟨n,J6 s.types q⟩ id;have hS:=λid=>C37 (M9 ⟨(whole d.seg).seg,(whole d.seg).syn⟩ ⟨n,J6 s.types q⟩).d id;have h2b:((bs.length:Int)==20)=false:=by simp; omega
  simp only[eDk,eBt] at hA hS;by_cases h3:(M9 ⟨(whole d.seg).seg,(whole d.seg).syn⟩ ⟨n,J6 s.types q⟩).e=0
  rotate_left
  ·rw[zj h3];generalize M9 ⟨(whole d.seg).seg,(whole d.seg).syn⟩ ⟨n,J6 s.types q⟩=r at *;refine w51.e.1 λE hP hR hl hid=>?_;simp[w51];have hj:=hl (j,_) (za ..);simp only at hj;have j1:=lf hj;(refine yC rfl (hQ _) ?_; simp[j1]);(refine yC rfl (hD _) ?_; simp[j1]);refine A0 m_ ?_;simp[j1];(refine yC rfl (hW _) ?_; simp[j1]);(refine yC rfl (hA _) ?_; simp[j1]);refine A7 (v_ h3) ?_;simp[j1];exact yF hR [] (a_ j1 (A4 hid))
  rw[zf (v_ h3)];rw[h3] at hA;generalize M9 ⟨(whole d.seg).seg,(whole d.seg).syn⟩ ⟨n,J6 s.types q⟩=r at *;generalize A4K r.d=z at *;refine w51.e.1 λE hP hR hl hid=>?_;simp[w51];have hj:=hl (j,_) (za ..);simp only at hj;have j1:=lf hj;(refine yC rfl (hQ _) ?_; simp[j1]);(refine yC rfl (hD _) ?_; simp[j1]);refine A0 m_ ?_;simp[j1];(refine yC rfl (hW _) ?_; simp[j1]);(refine yC rfl (hA _) ?_; simp[j1]);(refine yC rfl (hS _) ?_; simp[j1]);exact yF hR [] (a_ j1 (A4 hid))
def A4t(l:List Ty)(d:Dk)(n:Int)(text:List UInt8):ApS :=
 if opE l d≠0 then ⟨⟨[],0⟩,opE l d⟩
 else if ¬(1<=n/\n<=65535) then ⟨⟨[],0⟩,3⟩
 else if (L7 d.seg).any (λb=>b.number==n)=true then ⟨⟨(whole d.seg).seg,(whole d.seg).syn⟩,0⟩
 else B8q (opS l d) (L7 d.seg) d n text
def A4u(l:List Ty)(d:Dk)(n:Int)(text:List UInt8)(id:Nat):A2 prog 15 [.sl (l.map I7),eDk d,.int .i64 n,.str text] [] id (.tup [eDk (A4t l d n text).d,.int .i64 (A4t l d n text).e]) []:=by
 have hO:=λid=>B1Y l d id;have hN:=λid=>A8E n id;unfold eDk at hO ⊢;by_cases h:opE l d=0
 rotate_left
 ·have e:A4t l d n text=⟨⟨[],0⟩,opE l d⟩:=by unfold A4t; rw[zj h]
  rw[e];simp only[B5O h,B5P h] at hO;have hb:(opE l d==0)=false:=by simpa using h
  refine w15.e.1 λE hP hR hl hid=>?_;simp[w15];(refine yH rfl (hO _) ?_; simp);refine A7 (v_ h) ?_;simp;exact yF hR [] (A4 hid)
 rw[h] at hO;simp only[C27,C28] at hO;have ho:=A5e.1 h;have hbs:=A7h ho.disk;have hsz:=A1O (d:=d) (by rw[ho.disk]; decide);have h4:=A5H hsz.2;have hI:=(C7f h).1.idsI;have hW:=λid=>A8J d.seg d.syn id hsz.1 h4;have hC:=λj id=>B03 49 j (.int .i64 n) (.int .i64 n) n rfl (λx id=>C3A x n j id) (L7 d.seg) id o_;have hA:=λj id=>C6C (opS l d) (L7 d.seg) d n text j id hI o_ hsz.1 h4;simp only[B21,eDk] at hO hA;by_cases h1:1<=n/\n<=65535
 rotate_left
 ·have e:A4t l d n text=⟨⟨[],0⟩,3⟩:=by unfold A4t; rw[zf (v_ h),zj h1]
  rw[e];have hb:(decide (1<=n)&&decide (n<=65535))=false:=by
   rw[Bool.and_eq_false_iff,decide_eq_false_iff_not,decide_eq_false_iff_not]; omega
  rw[hb] at hN;refine w15.e.1 λE hP hR hl hid=>?_;simp[w15];(refine yH rfl (hO _) ?_; simp);(refine yH rfl (hN _) ?_; simp);exact yF hR [] (A4 hid)
 have hb:(decide (1<=n)&&decide (n<=65535))=true:=by
  rw[yn,decide_eq_true_eq,decide_eq_true_eq]; exact h1
 rw[hb] at hN;by_cases h2:(L7 d.seg).any (λb=>b.number==n)=true
 ·have e:A4t l d n text=⟨⟨(whole d.seg).seg,(whole d.seg).syn⟩,0⟩:=by unfold A4t; rw[zf (v_ h),zf (v_ h1),zj h2]
  rw[e];simp only[h2] at hC;refine w15.e.1 λE hP hR hl hid=>?_;simp[w15];(refine yH rfl (hO _) ?_; simp);(refine yH rfl (hN _) ?_; simp);(refine yH rfl (hC _ _) ?_; simp);(refine yH rfl (hW _) ?_; simp);exact yP hR
 have e:A4t l d n text=B8q (opS l d) (L7 d.seg) d n text:=by unfold A4t; rw[zf (v_ h),zf (v_ h1),zf h2]
 rw[e];have h2:(L7 d.seg).any (λb=>b.number==n)=false:=by simpa using h2
 simp only[h2] at hC;generalize B8q (opS l d) (L7 d.seg) d n text=z at *;refine w15.e.1 λE hP hR hl hid=>?_;simp[w15];(refine yH rfl (hO _) ?_; simp);(refine yH rfl (hN _) ?_; simp);(refine yH rfl (hC _ _) ?_; simp);(refine yH rfl (hA _ _) ?_; simp);exact yP hR
end Go.Am
namespace Go.Am
open Go Go.RowKit Go.Proofs.Tryz
end Go.Am
namespace Go.Am
open Go Go.Proofs Go.RowKit Go.Proofs.Tryz
end Go.Am
