/- Parts of the proof: an abstract machine for Go functions, and what functions of the program give back (Lx11, Lx12, Lb5, Lx13, CcZ, Qr1, Qr2, Qr3, Qr4, Qr5, Qr6, Qr7, Qr8, Qr9). No condition. -/
import Derived.Test.YtphjabjjnncebaaGreatDoorXS
import Derived.Test.YtphjabjjnncebaaGreatDoorXP
import Derived.Test.YtphjabjjnncebaaGreatDoorXG
import Derived.Test.YtphjabjjnncebaaGreatDoorXQ
import Derived.Test.YtphjabjjnncebaaGreatDoorXF
set_option maxRecDepth 100000
set_option linter.all false
set_option maxHeartbeats 16000000
namespace Go.Am
open Go Go.Proofs Go.RowKit Go.Proofs.Tryz
def Y7{f:Nat->Option Bx}{i:Nat}{b:Option Bx}(h:f i=b):T6 f i b=f:=by
 funext x
 unfold T6;split
 ·rename_i hx; subst hx; exact h.symm
 ·rfl
def I8.of{n0:Nat}{bx':List (Nat×Option Bx)}:∀{l:List (Nat×Option Bx)},(∀q∈l,n0<=q.1)->I8 n0 bx' l
 | [],_=>trivial
 | (i,b)::l,h=>⟨.inl (h (i,b) (za ..)),I8.of λq hq=>h q (zb _ hq)⟩
def C5m{x m y r:Code}(h:f175.body=some (.seq x (.seq m (.seq y r)))):C9 prog f175.ntmps x=B29/\C9 prog f175.ntmps y=B2A/\C9 prog f175.ntmps r = .seq (.seq A9D (.block 0 (.loop A6o))) (.seq A9F CC.ret):=by
 have h0:=C6w;rw[h] at h0;simp only[vd,zd,C5g] at h0;obtain⟨_,_,e1,k1,h1⟩:=H2 h0;injection e1 with e1 e1'
 subst e1 e1';obtain⟨_,_,e2,_,h2⟩:=H2 h1;injection e2 with _ e2
 subst e2;obtain⟨_,_,e3,k3,h3⟩:=H2 h2;injection e3 with e3 e3'
 subst e3 e3';exact⟨k1,k3,h3⟩
def C4s{x m r:Code}(h:f175.body=some (.seq x (.seq m r))){Q:Exit->Act->World->Prop}{t:Array Value}{w:World}(hsz:5<t.size)
  (hQ:Q .normal ⟨t.setIfInBounds 5 (.func (.func 247) #[] #[t[2]?.getD undef,t[3]?.getD undef]),[⟨.fn (.func 247) #[t[2]?.getD undef,t[3]?.getD undef],#[]⟩]⟩ w):m.wp prog Q ⟨t,[]⟩ w:=by
 have e:f175.body=some (.seq _ (.seq _ _)):=rfl;rw[e] at h;injection h with h
 injection h with _ h
 injection h with h _
 subst h;refine wp_region ?_;have hmf:∀(fn:Fn) (first cap:Array Value) (w:World),(Instr.makeFunc fn first cap).run prog w = .ok (.func fn first cap) w:=λ_ _ _ _=>rfl;simp[wpOps,wpOp,go_sem,hmf,Exit.then,hsz];exact .inl (.inl hQ)
def C2g{C:Cx prog}{D:List Deferred}{G G':Gh}{w w':World}{bx:Nat->Option Bx}{n0 k id J4 J5:Nat}{F:Fr}{l:List (Nat×Option Bx)}{a:Act}{e:Int}(own:∀i,n0<=i->bx i=none)(old:∀i,G.used i->i<n0)(hs:RS C G bx w)(hid:∀x,id<=x->x<id+1024->¬G.used x)
  (hD:F9 C f175.ntmps D n0 G w F (ov bx l) (· < n0+k) G' a w') (f4:F 2=some (true,.ptr J4 0 0)) (f5:F 3=some (true,.ptr J5 0 0)) (h4:ov bx l J4=some (oBx .nils)) (h5:ov bx l J5=some (E7 e)) (hl:∀q∈l,n0<=q.1) (d:J4≠J5) (j4:n0<=J4) (j5:n0<=J5) :
  ∃v,(results f175 a.tmps).run prog w' = .ok v w'/\∃G1,RS C G1 bx w'/\L4 G w G1 w'/\RV G1 w' (.tup [.nils,.int .i64 e]) v/\∀x,G1.used x->G.used x\/(id<=x/\x<id+1024):=by
 let E:O8:=⟨prog,C,bx,f175.ntmps,n0,G,w,own,old,hs,D,λ_=>True,λ_ _=>False⟩
 have hD':Q5 E ⟨[(2,true,.ptr J4 0 0),(3,true,.ptr J5 0 0)],(J4,some (oBx .nils))::(J5,some (E7 e))::l,k⟩ G' a w':=by
  refine⟨hD.ev,?_,hD.used,hD.old,λn c v hl=>?_,hD.size,hD.defers⟩
  ·show RS C G' (ov bx _) w';simp only[ov];rw[Y7 (f:=ov bx l) h5,Y7 h4];exact hD.rs
  ·simp only[lk] at hl;repeat' split at hl
   all_goals first|cases hl|skip
   all_goals rename_i hn<;>subst hn
   ·exact hD.fr _ _ _ f4
   ·exact hD.fr _ _ _ f5
 have hh:K8 E.β []:=K8.nil;refine A6L (E:=E) (id:=id) (rd:=[]) (wr:=[]) (C2C) hh hid hD' ?_;simp only[C2B];refine F5 (by simp[oBx,E7,d,yc d]<;>rfl) [] trivial (S9 s_ s_ ?_);exact I8.of λq hq=>by
  simp at hq;rcases hq with rfl|rfl|hq
  ·exact j4
  ·exact j5
  ·exact hl q hq
def C2h{C:Cx prog}{D:List Deferred}{G G':Gh}{w w':World}{bx:Nat->Option Bx}{n0 k id J4 J5 M:Nat}{F:Fr}{l:List (Nat×Option Bx)}{a:Act}{ts:List Tk}(own:∀i,n0<=i->bx i=none)(old:∀i,G.used i->i<n0)(hs:RS C G bx w)(hid:∀x,id<=x->x<id+1024->¬G.used x)
  (hD:F9 C f175.ntmps D n0 G w F (ov bx l) (· < n0+k) G' a w') (f4:F 2=some (true,.ptr J4 0 0)) (f5:F 3=some (true,.ptr J5 0 0)) (h4:ov bx l J4=some (oBx (.bsl M 0 ts.length))) (h5:ov bx l J5=some (E7 0)) (hM:ov bx l M=some ⟨ts.map S7,.agg [.int .i64 0,.str [],.int .i64 0],false,false⟩) (hl:∀q∈l,n0<=q.1) (d:J4≠J5) (d4:J4≠M) (d5:J5≠M) (j4:n0<=J4) (j5:n0<=J5) (jM:n0<=M) :
  ∃v,(results f175 a.tmps).run prog w' = .ok v w'/\∃G1,RS C G1 bx w'/\L4 G w G1 w'/\RV G1 w' (.tup [.sl (ts.map S7),.int .i64 0]) v/\∀x,G1.used x->G.used x\/(id<=x/\x<id+1024):=by
 let E:O8:=⟨prog,C,bx,f175.ntmps,n0,G,w,own,old,hs,D,λ_=>True,λ_ _=>False⟩
 have hD':Q5 E ⟨[(2,true,.ptr J4 0 0),(3,true,.ptr J5 0 0)],(J4,some (oBx (.bsl M 0 ts.length)))::(J5,some (E7 0))::(M,some ⟨ts.map S7,.agg [.int .i64 0,.str [],.int .i64 0],false,false⟩)::l,k⟩ G' a w':=by
  refine⟨hD.ev,?_,hD.used,hD.old,λn c v hl=>?_,hD.size,hD.defers⟩
  ·show RS C G' (ov bx _) w';simp only[ov];rw[Y7 (f:=ov bx l) hM,Y7 h5,Y7 h4];exact hD.rs
  ·simp only[lk] at hl;repeat' split at hl
   all_goals first|cases hl|skip
   all_goals rename_i hn<;>subst hn
   ·exact hD.fr _ _ _ f4
   ·exact hD.fr _ _ _ f5
 have hh:K8 E.β []:=K8.nil;refine A6L (E:=E) (id:=id) (rd:=[]) (wr:=[]) (C2C) hh hid hD' ?_;simp only[C2B];refine J0 (by simp[oBx,E7,d,yc d,d4,d5]<;>rfl) (by simp[oBx,E7,d,yc d,d4,d5,yc d4,yc d5]<;>exact⟨rfl,rfl⟩) [] trivial (S9 s_ s_ ?_);exact I8.of λq hq=>by
  simp at hq;rcases hq with rfl|rfl|rfl|rfl|hq
  all_goals first|exact j4|exact j5|exact jM|exact hl q hq
def C2i:Except Int (List Tk)->AV
 | .ok l=>.tup [.sl (l.map S7),.int .i64 0]
 | .error e=>.tup [.nils,.int .i64 e]
def C4t{s:List UInt8}{acc:List Tk}{j:Nat}(h:s9 ((s.drop j).length+1) acc (s.drop j)=A29 s):blk false (s.drop j)=s.drop j->match s.drop j with
  | []=>A29 s = .ok acc
  | c::r=>match A0k c r with
   | .error e=>A29 s = .error e
   | .ok p=>if 300<acc.length+1 then A29 s = .error 2 else s9 ((blk false p.2).length+1) (acc++[p.1]) (blk false p.2)=A29 s:=by
 intro hb;rw[←h];unfold s9;rw[hb];cases hs:s.drop j with
 | nil=>rfl
 | cons c r =>
  simp only;cases hp:A0k c r with
  | error e=>rfl
  | ok p =>
   simp only;split
   ·rfl
   ·obtain⟨t,u⟩:=p;have h1:=A5o hp;have h2:=A34 false u;have hA:(blk false (blk false u)).length<(blk false u).length+1:=(by rw[A1y false u]; omega);have hB:(blk false (blk false u)).length<(c::r).length:=(by rw[A1y false u]; simp only[zt]; omega);exact A6l _ _ _ _ _ (A1y false u) hA hB
def B2L{s u:List UInt8}(h:u <:+ s):s.drop (atU s u)=u/\atU s u<=s.length:=by
 obtain⟨t,rfl⟩:=h;unfold atU;rw[zu,Nat.add_sub_cancel];exact⟨rf,o_⟩
def C76{x m y c hh sk ex k l m4 sk2 n dd rt:Code}{X Y:Operand}{bi b1:Nat}(h:f175.body=some (.seq x (.seq m (.seq y (.seq (.seq c (.block bi (.loop (.seq (.seq hh (.cond X sk ex)) (.seq (.block b1 (.seq k (.seq l (.cond Y m4 sk2)))) n))))) (.seq dd rt)))))):
  C9 prog f175.ntmps c=A9D/\C9 prog f175.ntmps (.seq (.seq hh (.cond X sk ex)) (.seq (.block b1 (.seq k (.seq l (.cond Y m4 sk2)))) n))=A6o/\C9 prog f175.ntmps hh=A9E/\C9 prog f175.ntmps k=A0l/\C9 prog f175.ntmps l=B2B/\C9 prog f175.ntmps m4=A6n/\C9 prog f175.ntmps n=B2C/\C9 prog f175.ntmps (.seq dd rt) = .seq A9F CC.ret:=by
 obtain⟨_,_,kr⟩:=C5m h;obtain⟨_,_,e1,k1,h1⟩:=H2 kr;injection e1 with e1 e1'
 subst e1 e1';obtain⟨_,_,e2,k2,h2⟩:=H2 k1;injection e2 with e2 e2'
 subst e2 e2';obtain⟨_,e3,k3⟩:=A4n h2;injection e3 with _ e3
 subst e3;obtain⟨_,e4,k4⟩:=A6I k3;injection e4 with e4
 subst e4;have k4':=k4;unfold A6o at k4;obtain⟨_,_,e5,k5,h5⟩:=H2 k4;injection e5 with e5 e5'
 subst e5 e5';obtain⟨_,_,e6,k6,h6⟩:=H2 k5;injection e6 with e6 e6'
 subst e6 e6';obtain⟨_,_,e7,k7,h7⟩:=H2 h5;injection e7 with e7 e7'
 subst e7 e7';unfold B5w at k7;obtain⟨_,e8,k8⟩:=A4n k7;injection e8 with _ e8
 subst e8;obtain⟨_,_,e9,k9,h9⟩:=H2 k8;injection e9 with e9 e9'
 subst e9 e9';obtain⟨_,_,e10,k10,h10⟩:=H2 h9;injection e10 with e10 e10'
 subst e10 e10';obtain⟨_,_,_,e11,_,k11,_⟩:=A1F h10;injection e11 with _ e11 _
 subst e11;exact⟨k2,k4',k6,k9,k10,k11,h7,h1⟩
def Q4:CC->List CR
 | .reg _ l _=>l
 | _=>[]
def C4u:CC->List (Nat×Nat)
 | .reg _ _ p=>p
 | _=>[]
def crsK:List CR:=Q4 A0l
def psK:List (Nat×Nat):=C4u A0l
def C2j(s:List UInt8)(id:Nat)(h8:s.length<=1099511627776):A2 prog 175 [.str s] [] id (C2i (A29 s)) []:=by
 refine⟨⟨_,func175,d_,rfl⟩,λC G bx w vs nb hs hv hh hnb hid=>calls_of_wp_defers func175 rfl ?_⟩;obtain⟨k1,k2,_⟩:=C5m rfl;obtain⟨kc,kL,kh,kk,kl,km,kn,kd⟩:=C76 rfl;have own:∀i,max nb (id+1024)<=i->bx i=none:=λi hi=>by
  cases hbi:bx i with
  | none=>rfl
  | some b=>exact (hnb i o_ (hs.boxNames hbi).1).elim
 have old:∀i,G.used i->i<max nb (id+1024):=λi hi=>by
  rcases yd i nb with h|h
  ·omega
  ·exact (hnb i h hi).elim
 generalize max nb (id+1024)=n0 at own old;let E:O8:=⟨prog,C,bx,f175.ntmps,n0,G,w,own,old,hs,[],λ_=>False,λ_ _=>False⟩
 have hD:Q5 E ⟨A1g 0 [.str s],[],0⟩ G { tmps:=vs++Array.replicate (f175.ntmps - vs.size) undef,defers:=[] } w:=by
  refine⟨L4.refl G w,hs,λi hi=>by have:=old i hi; show i<n0+0; omega,λi _ hi=>hi,λn c v hl=>?_,?_,rfl⟩
  ·obtain⟨rfl,_,h3⟩:=A4C hl;simp only[ra] at h3;refine⟨λ_=>?_,λh=>by cases h⟩;have:=hv.2 n v h3;rw[zl] at this ⊢;rw[xu (by rw[←hv.1]; exact (ze.1 h3).1)];exact this
  ·have:=hv.1;simp[ntmps175] at this ⊢;show _=f175.ntmps;simp[ntmps175]; omega
 have hW:Wk E [.code B29,.post (λσ=>σ=⟨[(3,true,.ptr (n0+1024) 0 0),(2,true,.ptr n0 0 0),(0,true,.str s)],[(n0+1024,some (E7 0)),(n0,some (oBx .nils))],2048⟩)] ⟨A1g 0 [.str s],[],0⟩:=by
  refine A3 4000 ?_;simp[B29,E,E7,oBx]
 refine wp_seq (wkN (E:=E) k1 hW (λ_ h=>h) (λ_ _ h=>h) hD λτ G1 a w1 hD1 hτ=>?_);subst hτ;clear hW;obtain⟨at1,ad1⟩:=a;have hd0:ad1=[]:=hD1.defers;subst hd0;have hsz:5<at1.size:=by have:=hD1.size; simp only at this; rw[this]; show 5<f175.ntmps; simp[ntmps175]
 show (Code.seq _ _).wp _ _ _ _;refine wp_seq (C4s rfl hsz ?_);obtain⟨v4,hv4⟩:∃v4,at1[2]?.getD undef=v4:=⟨_,rfl⟩;obtain⟨v5,hv5⟩:∃v5,at1[3]?.getD undef=v5:=⟨_,rfl⟩;have g4:RV G1 w1 (.ptr n0 0 0) v4:=by
  have:=(hD1.fr 2 true _ rfl).1 rfl;rw[zl] at this;rw[←hv4]; exact this
 have g5:RV G1 w1 (.ptr (n0+1024) 0 0) v5:=by
  have:=(hD1.fr 3 true _ rfl).1 rfl;rw[zl] at this;rw[←hv5]; exact this
 rw[hv4,hv5];have own1:∀i,n0+2048<=i->ov bx [(n0+1024,some (E7 0)),(n0,some (oBx .nils))] i=none:=λi hi=>by
  simp only[ov,T6];rw[zf o_,zf o_];exact own i o_
 have hev:L4 G w G1 w1:=hD1.ev;have hrs:RS C G1 (ov bx [(n0+1024,some (E7 0)),(n0,some (oBx .nils))]) w1:=hD1.rs;have hus:∀i,G1.used i->i<n0+2048:=hD1.used;have hol:∀i,i<n0->G1.used i->G.used i:=hD1.old;let D:List Deferred:=[⟨.fn (.func 247) #[v4,v5],#[]⟩]
 let E2:O8:=⟨prog,C,ov bx [(n0+1024,some (E7 0)),(n0,some (oBx .nils))],f175.ntmps,n0+2048,G1,w1,own1,hus,hrs,D,λ_=>False,λ_ _=>False⟩
 have hD2:Q5 E2 ⟨[(3,true,.ptr (n0+1024) 0 0),(2,true,.ptr n0 0 0),(0,true,.str s)],[(n0+1024,some (E7 0)),(n0,some (oBx .nils))],0⟩ G1 ⟨at1.setIfInBounds 5 (.func (.func 247) #[] #[v4,v5]),D⟩ w1:=by
  refine⟨L4.refl G1 w1,?_,λi hi=>by have:=hus i hi; show i<n0+2048+0; omega,λi _ hi=>hi,λn c v hl=>?_,?_,rfl⟩
  ·show RS C G1 (ov (ov bx _) _) w1;simp only[ov];rw[Y7 (f:=T6 (T6 bx n0 _) (n0+1024) _) (i:=n0) (by simp[T6]),Y7 (i:=n0+1024) (by simp[T6])];exact hrs
  ·have:=hD1.fr n c v hl;have hn:n≠5:=λh=>by subst h; simp at hl
   simp only[zl] at this ⊢;rw[wz (yc hn)];exact this
  ·have:=hD1.size;simp only[ua];exact this
 have hN2:E2.n0=n0+2048:=rfl;have hPr:E2.P=prog:=rfl;have hinv:∀w3,(invoke (.fn (.func 247) #[v4,v5]) #[]).run prog w3 = .ok (.enter 247 #[v4,v5]) w3:=λw3=>by simp[go_sem]
 have pnk:∀{R:Ending->World->Prop} {e:Int} {k:Nat} {F:Fr} {l:List (Nat×Option Bx)} {G3:Gh} {a3:Act} {w3:World} {u:Value},(∀v G4 w4,RS C G4 bx w4->L4 G w G4 w4->RV G4 w4 (.tup [.nils,.int .i64 e]) v->(∀x,G4.used x->G.used x\/(id<=x/\x<id+1024))->R (.returned v) w4) ->
   F9 C f175.ntmps D (n0+2048) G1 w1 F (ov E2.β l) (· < n0+2048+k) G3 a3 w3->RV G3 w3 (erV e) u->F 2=some (true,.ptr n0 0 0)->F 3=some (true,.ptr (n0+1024) 0 0) ->
   (∃x,(x = .nils\/∃M n,x = .bsl M 0 n)/\ov E2.β l n0=some (oBx x))->ov E2.β l (n0+1024)=some (E7 0)->(∀x∈l,n0<=x.1)->Leaves prog f175 a3.tmps R a3.defers (.panicking [{ v:=u,recovered:=false }]) w3:=λ{R e k F l G3 a3 w3 u} hR h1 h2 f4 f5 h4 h5 hl=>by
  obtain⟨x,hx,b4⟩:=h4;rw[show a3.defers=D from h1.defers];have hus3:=h1.used;have hrs3:=h1.rs;refine leaves_cons s_ (hinv w3) ((C2c C G3 _ w3 e x 0 hx _ n0 (n0+1024) v4 v5 u hrs3 (g4.mono h1.ev) (g5.mono h1.ev) h2 b4 h5 o_ hus3 (λx hx=>?_)).mono ?_)
  ·cases hb:ov E2.β l x with
   | none=>rfl
   | some b=>have:=hus3 x (hrs3.boxNames hb).1; omega
  rintro e' u' w' ⟨rfl,⟨v,rfl⟩,G4,l',k',r1,r2,r3,r4,r5,r6,r7⟩;have hx:=F9.step h1 r1 r2 (U':=λx=>x<n0+(2048+k+k')) (λx hx=>by have:=r7 x hx; omega) (λx hx hu=>r6 x o_ hu);rw[←V3] at hx;have h':=hx.rebase (n0:=n0) o_ hev hol;have e4:=P5 (ov E2.β l) r3;have e5:=P5 (ov E2.β l) r4;have hE:∀m,ov E2.β m=ov bx (m++[(n0+1024,some (E7 0)),(n0,some (oBx .nils))]):=λm=>(V3 bx m _).symm;rw[hE] at h';rw[←V3,hE] at e4 e5;obtain⟨v,s1,G5,s2,s3,s4,s5⟩:=C2g own old hs hid h' f4 f5 e4 e5 (λx hx=>by
   rcases zr.1 hx with hx|hx
   ·rcases zr.1 hx with hx|hx
    ·rcases r5 x hx with h|h|h
     ·omega
     ·omega
     ·omega
    ·exact hl x hx
   ·simp at hx;rcases hx with rfl|rfl<;>simp) o_ o_ o_
  exact⟨v,s1,hR v G5 w' s2 s3 s4 s5⟩
 have hR0:∀{e:Int},A29 s = .error e->∀v G4 w4,RS C G4 bx w4->L4 G w G4 w4->RV G4 w4 (.tup [.nils,.int .i64 e]) v->(∀x,G4.used x->G.used x\/(id<=x/\x<id+1024)) ->
   ∃v' G',Ending.returned v = .returned v'/\RS C G' (F6 bx []) w4/\L4 G w G' w4/\RV G' w4 (C2i (A29 s)) v'/\∀x,G'.used x->G.used x\/(id<=x/\x<id+1024):=λ{e} hn v G4 w4 r1 r2 r3 r4=>by
  refine⟨v,G4,rfl,r1,r2,?_,r4⟩;rw[hn]; exact r3
 have hW2:Wk E2 [.code B2A,.post (λσ=>σ=⟨[(4,true,.ptr (E2.n0+2048) 0 0),(8,true,.ptr (E2.n0+2048) 0 0),(7,true,.agg [.str s,.int .i64 0]),(6,true,.str s),(3,true,.ptr (n0+1024) 0 0),(2,true,.ptr n0 0 0),(0,true,.str s)],
   [(E2.n0+2048,some (rB s 0)),(n0+1024,some (E7 0)),(n0,some (oBx .nils))],4096⟩)] ⟨[(3,true,.ptr (n0+1024) 0 0),(2,true,.ptr n0 0 0),(0,true,.str s)],[(n0+1024,some (E7 0)),(n0,some (oBx .nils))],0⟩:=by
  clear hD hD1 hD2 pnk hR0;refine A3 4000 ?_;simp[B2A,hN2,rB]
 show (Code.seq _ _).wp _ _ _ _;refine wp_seq (wkN (E:=E2) k2 hW2 (λ_ h=>h) (λ_ _ h=>h) hD2 λτ G2 a2 w2 hD3 hτ=>?_);subst hτ;clear hW2;have w4:n0<E2.n0:=by omega
 have w5:n0+1024<E2.n0:=by omega
 have wd:n0≠n0+1024:=by omega
 have kc':=C8W E2 hPr n0 (n0+1024) w4 w5 wd s h8;show (Code.seq _ _).wp _ _ _ _;refine wp_seq ?_;show (Code.seq _ _).wp _ _ _ _;refine wp_seq (wkN (E:=E2) kc kc' (λ_ h=>h) (λ_ _ h=>h) hD3 λτ G3 a3 w3 hD4 hτ=>?_);obtain⟨G4,hD5⟩:=hτ G3 a3 w3 hD4;show (Code.block _ _).wp _ _ _ _;refine wp_block ?_;refine C8V (E:=E2) (o7 E2 n0 (n0+1024) s) (λq=>q.2<=s.length/\blk false (s.drop q.2)=s.drop q.2/\s9 ((s.drop q.2).length+1) q.1 (s.drop q.2)=A29 s/\q.1.length<=300) (λq=>s.length - q.2) ([],A1e s 0) ?_ hD5 ?_
 ·obtain⟨q1,q2⟩:=B2L (s:=s) (u:=blk false (s.drop 0)) (A4Q false s);refine⟨q2,?_,?_,s_⟩
  ·show blk false (s.drop (A1e s 0))=s.drop (A1e s 0);unfold A1e;rw[q1,A1y]
  ·show s9 ((s.drop (A1e s 0)).length+1) [] (s.drop (A1e s 0))=A29 s;unfold A1e;rw[q1];have h2:=A34 false s;exact A6l _ _ _ _ _ (A1y false s) (by rw[wo,A1y]; omega) (by rw[wo,A1y]; omega)
 rintro⟨acc,j⟩ ⟨hj,hbl,hto,hac⟩ G5 a5 w5' hD6;simp only at hj hbl hto hac;have hta:=C4t hto hbl;have hinvF:∀(q:List Tk×Nat),lk (o7 E2 n0 (n0+1024) s q).fr 2=some (true,.ptr n0 0 0)/\lk (o7 E2 n0 (n0+1024) s q).fr 3=some (true,.ptr (n0+1024) 0 0):=λq=>⟨rfl,rfl⟩;rcases yd j s.length with hlt|hge
 rotate_left
 ·-- the end
  have hjs:j=s.length:=by omega
  subst hjs;rw[List.drop_length] at hta;have hta:A29 s = .ok acc:=hta;have hWa:=C8X E2 hPr n0 (n0+1024) w4 w5 wd s h8 acc;refine wp_mono (hWa _ kL G5 a5 w5' hD6) λe a6 w6 hq=>?_;cases e with
  | normal=>obtain⟨_,_,_,h⟩:=hq; exact h.elim
  | ret=>obtain⟨_,_,_,h⟩:=hq; exact h.elim
  | panic chain=>obtain⟨_,_,_,_,_,_,_,_,_,_,_,h⟩:=hq; exact h.elim
  | exit i =>
   obtain⟨σ,G6,hD7,hx⟩:=hq;have hx:(if i=0 then D9 E2 σ (o7 E2 n0 (n0+1024) s (acc,s.length)) else False):=hx;split at hx
   rotate_left
   ·exact hx.elim
   rename_i hi0;subst hi0;obtain⟨G7,hD8⟩:=hx G6 a6 w6 hD7;show (Code.seq _ _).wp _ _ _ _;let E3:O8:={ E2 with Rt:=λσ=>bk σ.bx n0=some (oBx (.bsl (n0+2049) 0 acc.length))/\bk σ.bx (n0+1024)=some (E7 0)/\bk σ.bx (n0+2049)=some ⟨acc.map S7,.agg [.int .i64 0,.str [],.int .i64 0],false,false⟩/\lk σ.fr 2=some (true,.ptr n0 0 0)/\lk σ.fr 3=some (true,.ptr (n0+1024) 0 0)/\∀x∈σ.bx,n0<=x.1 }
   have hRt:∀σ,E3.Rt σ=(bk σ.bx n0=some (oBx (.bsl (n0+2049) 0 acc.length))/\bk σ.bx (n0+1024)=some (E7 0)/\bk σ.bx (n0+2049)=some ⟨acc.map S7,.agg [.int .i64 0,.str [],.int .i64 0],false,false⟩/\lk σ.fr 2=some (true,.ptr n0 0 0)/\lk σ.fr 3=some (true,.ptr (n0+1024) 0 0)/\∀x∈σ.bx,n0<=x.1):=λ_=>rfl;have hN3:E3.n0=n0+2048:=rfl;have hW3:Wk E3 [.code (.seq A9F CC.ret)] (o7 E2 n0 (n0+1024) s (acc,s.length)):=by
    clear hD hD1 hD2 hD3 hD4 hD5 hD6 hD7 hD8 pnk hR0;unfold o7 oBx E7 rB;refine A3 4000 ?_;simp[A9F,hN3,hN2,hRt,oBx,E7];omega
   have ends:∀{R:Ending->World->Prop} {σ:St} {G8:Gh} {a7:Act} {w7:World},(∀v G4 w4,RS C G4 bx w4->L4 G w G4 w4->RV G4 w4 (.tup [.sl (acc.map S7),.int .i64 0]) v->(∀x,G4.used x->G.used x\/(id<=x/\x<id+1024))->R (.returned v) w4)->Q5 E3 σ G8 a7 w7->E3.Rt σ->Leaves prog f175 a7.tmps R a7.defers .returning w7:=λ{R σ G8 a7 w7} hR h1 h2=>by
    obtain⟨b4,b5,bM,f4,f5,hl⟩:=h2;rw[show a7.defers=D from h1.defers];refine leaves_cons s_ (hinv w7) ((C2d v4 v5 w7).mono ?_);rintro e u' w' ⟨rfl,⟨v,rfl⟩,rfl⟩;have h1':=h1.weak (U':=λx=>x<n0+(2048+σ.k)) (λx hx=>by have:x<n0+2048+σ.k:=hx; omega);have h':=h1'.rebase (n0:=n0) o_ hev hol;have hE:ov E3.β σ.bx=ov bx (σ.bx++[(n0+1024,some (E7 0)),(n0,some (oBx .nils))]):=(V3 bx σ.bx _).symm;have e4:=P5 E3.β b4;have e5:=P5 E3.β b5;have eM:=P5 E3.β bM;rw[hE] at h' e4 e5 eM;obtain⟨v,r1,G9,r2,r3,r4,r5⟩:=C2h own old hs hid h' f4 f5 e4 e5 eM (λx hx=>by
     rcases zr.1 hx with hx|hx
     ·exact hl x hx
     ·simp at hx;rcases hx with rfl|rfl<;>simp) o_ o_ o_ o_ o_ o_
    exact⟨v,r1,hR v G9 w' r2 r3 r4 r5⟩
   have hR1:∀v G4 w4,RS C G4 bx w4->L4 G w G4 w4->RV G4 w4 (.tup [.sl (acc.map S7),.int .i64 0]) v->(∀x,G4.used x->G.used x\/(id<=x/\x<id+1024)) ->
     ∃v' G',Ending.returned v = .returned v'/\RS C G' (F6 bx []) w4/\L4 G w G' w4/\RV G' w4 (C2i (A29 s)) v'/\∀x,G'.used x->G.used x\/(id<=x/\x<id+1024):=λv G4 w4 r1 r2 r3 r4=>by
    refine⟨v,G4,rfl,r1,r2,?_,r4⟩;rw[hta]; exact r3
   refine wp_mono (hW3 _ kd G7 _ w6 hD8) λe a7 w7 hq=>?_;cases e with
   | ret =>
    obtain⟨σ,G8,h1,h2⟩:=hq;exact ends hR1 h1 h2
   | normal =>
    obtain⟨σ,G8,h1,h2⟩:=hq;exact ends hR1 h1 h2
   | exit id=>obtain⟨_,_,_,h2⟩:=hq; exact h2.elim
   | panic chain=>obtain⟨_,_,_,_,_,_,_,_,_,_,_,h⟩:=hq; exact h.elim
   | _=>exact hq.elim
  | _=>exact hq.elim
 obtain⟨c,hcj,hdj⟩:=A5 hlt;rw[hdj] at hta;have hta:match A0k c (s.drop (j+1)) with
   | .error e=>A29 s = .error e
   | .ok p=>if 300<acc.length+1 then A29 s = .error 2 else s9 ((blk false p.2).length+1) (acc++[p.1]) (blk false p.2)=A29 s:=hta
 have hWh:=C8Y E2 hPr n0 (n0+1024) w4 w5 wd s h8 acc j hlt;show (Code.seq _ _).wp _ _ _ _;refine wp_seq ?_;show (Code.seq _ _).wp _ _ _ _;refine wp_seq (wkN (E:=E2) kh hWh (λ_ h=>h) (λ_ _ h=>h) hD6 λτ G6 a6 w6 hD7 hτ=>?_);obtain⟨h17,hcv⟩:=hτ;have he:a6.eval (.tmp 17) = .bool true:=by
  have hr:=(hD7.fr 17 true _ h17).1 rfl;show a6.tmps.getD 17 undef=_;generalize a6.tmps.getD 17 undef=v at hr;cases hr; rfl
 obtain⟨G7,hD8⟩:=hcv G6 a6 w6 hD7;show (Code.cond (.tmp 17) _ _).wp _ _ _ _;refine wp_cond_split he (λ_=>?_) (λhb=>by cases hb);refine wp_skip ?_;show (Code.seq _ _).wp _ _ _ _;refine wp_seq ?_;show (Code.block _ _).wp _ _ _ _;refine wp_block ?_;show (Code.seq _ _).wp _ _ _ _;cases hpt:A0k c (s.drop (j+1)) with
 | error e =>
  rw[hpt] at hta;have hta:A29 s = .error e:=hta;have hT:=λid=>B4Z s j c _ (n0+2048) id hj hdj h8;rw[hpt] at hT;have hT:∀id,C3c prog 249 [.ptr (n0+2048) 0 0] [(n0+2048,rB s j)] id (erV e):=hT;refine wp_seq ?_;obtain⟨ri,ro,re,rg⟩:=A5M (show C9 prog f175.ntmps _ = .reg true (crsK.take 2++crsK.getD 2 default::([]++crsK.drop 3)) psK from kk);rw[re];refine A8S (E:=E2) (σ:=o7 E2 n0 (n0+1024) s (acc,j)) (pv:=erV e) (l1:=crsK.take 2) (c:=crsK.getD 2 default) (l2:=[]) (l3:=crsK.drop 3) rg
   (rs1:=[⟨true,.bsl (n0+2049) 0 acc.length,[(n0,oBx (.bsl (n0+2049) 0 acc.length))],[]⟩,⟨true,.ptr (n0+2048) 0 0,[],[]⟩]) (r:=⟨true,.nili,[(n0+2048,rB s j)],goL [(n0+2048,rB s j)]⟩) (rs2:=[]) ?_ ?_ trivial ?_ (λF B k' G9 u a9 w9 q1 q2 q3 q4=>?_) hD8
  ·simp only[crsK,Q4,A0l,CC.d,List.take,A06,CR.l,CR.m,St.app,B1N,t7,o7,oBx,E7,rB];refine⟨A6N s_ (t_ hN2),A6N s_ (t_ hN2),trivial⟩
  ·simp[crsK,Q4,A0l,St.apps,St.app,o7,oBx,E7,rB];refine B6h s_ f_ (hT _) (t_ hN2)
  ·simp only[crsK,Q4,psK,C4u,B5G,A0l,CC.d,List.map,List.append,A1f,List.take,List.length,List.drop,yw,xq];simp[V7,hN2]
  ·have hB:=C2e q3;rw[hB] at q1;have f2:=q2 2 d_;have f3:=q2 3 d_;refine pnk (k:=k') (hR0 hta) q1 q4 f2 f3 ?_ ?_ ?_
   ·rw[←hB];rcases q3 n0 with h|h
    ·exact⟨.nils,.inl rfl,by rw[h]; simp[E2,ov,T6]⟩
    ·simp[crsK,Q4,A0l,St.apps,St.app,o7,goL,t7,B1N,hN2] at h;rcases h with h|⟨h,_⟩
     ·exact⟨_,.inr ⟨_,_,rfl⟩,h⟩
     ·omega
   ·rw[←hB];rcases q3 (n0+1024) with h|h
    ·rw[h]; simp[E2,ov,T6]
    ·simp[crsK,Q4,A0l,St.apps,St.app,o7,goL,t7,B1N,hN2] at h;exact h
   ·intro x hx;simp[crsK,Q4,A0l,St.apps,St.app,o7,goL,t7,B1N,hN2] at hx;rcases hx with rfl|rfl|rfl|rfl|rfl<;>simp<;>omega
 | ok p =>
  obtain⟨t,u⟩:=p;rw[hpt] at hta;simp only at hta;have hWk:=C8Z E2 hPr n0 (n0+1024) w4 w5 wd s h8 acc j hj c _ u t hdj hpt hac;refine wp_seq (wkN (E:=E2) kk hWk (λ_ h=>h) (λ_ _ h=>h) hD8 λτ G8 a8 w8 hD9 hτ=>?_);obtain⟨G9,hD10⟩:=hτ G8 a8 w8 hD9;by_cases hmany:300<acc.length+1
  ·rw[zj hmany] at hta;have hWl:=C5l E2 hPr n0 (n0+1024) w4 w5 wd s h8 (acc++[t]) (atU s u) true m_;show (Code.seq _ _).wp _ _ _ _;refine wp_seq (wkN (E:=E2) kl hWl (λ_ h=>h) (λ_ _ h=>h) hD10 λτ G10 a10 w10 hD11 hτ=>?_);obtain⟨h27,hcv⟩:=hτ;have he:a10.eval (.tmp 27) = .bool true:=by
    have hr:=(hD11.fr 27 true _ h27).1 rfl;show a10.tmps.getD 27 undef=_;generalize a10.tmps.getD 27 undef=v at hr;cases hr; rfl
   obtain⟨G11,hD12⟩:=hcv G10 a10 w10 hD11;show (Code.cond (.tmp 27) _ _).wp _ _ _ _;refine wp_cond_split he (λ_=>?_) (λhb=>by cases hb);have hf:=λid=>A2c 2 id;let E1:O8:={ E2 with Pn:=λpv σ=>pv=erV 2/\bk σ.bx n0=some (oBx (.bsl (n0+2049) 0 (acc++[t]).length))/\bk σ.bx (n0+1024)=some (E7 0)/\lk σ.fr 2=some (true,.ptr n0 0 0)/\lk σ.fr 3=some (true,.ptr (n0+1024) 0 0)/\∀x∈σ.bx,n0<=x.1 }
   have hN1:E1.n0=n0+2048:=rfl;have hP1:E1.P=prog:=rfl;have hW5:Wk E1 [.ops (Q4 A6n) 0 [] [],.post (λ_=>False)] (o7 E2 n0 (n0+1024) s (acc++[t],atU s u)):=by
    clear hD hD1 hD2 hD3 hD4 hD5 hD6 hD7 hD8 hD9 hD10 hD11 hD12 pnk hR0;unfold o7;refine A3 4000 ?_;simp[Q4,A6n];refine D6 hP1 rfl (hf _) s_ s_ (λpv hpv=>⟨s_,by injection hpv with hpv; subst hpv; exact⟨rfl,by simp[hN2,oBx],by simp[hN2,E7],rfl,rfl,by simp[hN2]; omega⟩⟩) (λv wr h=>by cases h)
   refine B1X (E:=E1) (crs:=Q4 A6n) (km.trans rfl) hW5 hD12 (λσ G3 a3 w3 h1 h2=>h2.elim) (λpv u σ G13 a13 w13 h1 h2 h3=>?_);obtain⟨rfl,b4,b5,f4,f5,hl⟩:=h3;exact pnk (k:=2+1024*(Q4 A6n).length) (hR0 hta) (h1.weak λx hx=>by simp only[E1,o7] at hx; omega) h2 f4 f5 ⟨_,.inr ⟨_,_,rfl⟩,P5 _ b4⟩ (P5 _ b5) hl
  ·rw[zf hmany] at hta;have hWl:=C5l E2 hPr n0 (n0+1024) w4 w5 wd s h8 (acc++[t]) (atU s u) false m_;show (Code.seq _ _).wp _ _ _ _;refine wp_seq (wkN (E:=E2) kl hWl (λ_ h=>h) (λ_ _ h=>h) hD10 λτ G10 a10 w10 hD11 hτ=>?_);obtain⟨h27,hcv⟩:=hτ;have he:a10.eval (.tmp 27) = .bool false:=by
    have hr:=(hD11.fr 27 true _ h27).1 rfl;show a10.tmps.getD 27 undef=_;generalize a10.tmps.getD 27 undef=v at hr;cases hr; rfl
   obtain⟨G11,hD12⟩:=hcv G10 a10 w10 hD11;show (Code.cond (.tmp 27) _ _).wp _ _ _ _;refine wp_cond_split he (λhb=>by cases hb) (λ_=>?_);refine wp_skip ?_;have hus2:u <:+ s:=by
    refine (A5o hpt).2.trans ?_;exact List.drop_suffix _ _
   obtain⟨q1,q2⟩:=B2L hus2;have hWn:=C8a E2 hPr n0 (n0+1024) w4 w5 wd s h8 (acc++[t]) (atU s u) q2;refine wkN (E:=E2) kn hWn (λ_ h=>h) (λ_ _ h=>h) hD12 λτ G12 a12 w12 hD13 hτ=>?_;obtain⟨G13,hD14⟩:=hτ G12 a12 w12 hD13;obtain⟨p1,p2⟩:=B2L (s:=s) (u:=blk false u) ((A4Q false u).trans hus2);have hu1:=(A5o hpt).1;have hu2:=A34 false u;have hjl:(s.drop (j+1)).length+(j+1)=s.length:=(by rw[ya]; omega);have hbb:A1e s (atU s u)=atU s (blk false u):=(by unfold A1e; rw[q1]);show ∃x' G',_/\_/\_;refine⟨(acc++[t],A1e s (atU s u)),G13,⟨?_,?_,?_,m_⟩,?_,hD14⟩
   ·show A1e s (atU s u)<=s.length;rw[hbb]; exact p2
   ·show blk false (s.drop (A1e s (atU s u)))=s.drop (A1e s (atU s u));rw[hbb,p1,A1y]
   ·show s9 ((s.drop (A1e s (atU s u))).length+1) (acc++[t]) (s.drop (A1e s (atU s u)))=A29 s;rw[hbb,p1]; exact hta
   ·show s.length - A1e s (atU s u)<s.length - j;rw[hbb];unfold atU;omega
def C4v(s:List UInt8)(id:Nat):A2 prog 108 [.str s] [] id (C2i (A5n s)) []:=by
 by_cases h:2000<s.length
 ·have e:C2i (A5n s) = .tup [.nils,.int .i64 2]:=by unfold A5n; rw[zj h]; rfl
  rw[e];refine w108.e.1 λE hP hR hl hid=>?_;simp[w108];refine A7 m_ ?_;simp;exact yP hR
 ·have e:A5n s=A29 s:=by unfold A5n; rw[zf h]
  have hA:=λid=>C2j s id o_;rw[e];cases hf:A29 s with
  | ok l =>
   rw[hf] at hA;have hA:∀id,A2 prog 175 [.str s] [] id (.tup [.sl (l.map S7),.int .i64 0]) []:=hA;show A2 _ _ _ _ _ (.tup [.sl (l.map S7),.int .i64 0]) _;refine w108.e.1 λE hP hR hl hid=>?_;simp[w108];refine A0 m_ ?_;simp;(refine yH rfl (hA _) ?_; simp);exact yP hR
  | error e =>
   rw[hf] at hA;have hA:∀id,A2 prog 175 [.str s] [] id (.tup [.nils,.int .i64 e]) []:=hA;show A2 _ _ _ _ _ (.tup [.nils,.int .i64 e]) _;refine w108.e.1 λE hP hR hl hid=>?_;simp[w108];refine A0 m_ ?_;simp;(refine yH rfl (hA _) ?_; simp);exact yP hR
@[simp] theorem A6y (t:Tk):(S7 t).pureB=true:=rfl
@[simp] theorem B9O (l:List Int):F8 (l.map (AV.int .i64))=true:=E9 (λ_=>rfl) l
@[simp] theorem C77 (S:Nat->Prop) (l:List Int):F4 S (l.map (AV.int .i64)):=A4 _ (B9O l)
def tB(z l:List Tk):Bx:=⟨[.agg [.sl (l.map S7)]],.agg [.sl (z.map S7)],false,false⟩
theorem B5(z l:List Tk):tB z l=⟨[.agg [.sl (l.map S7)]],.agg [.sl (z.map S7)],false,false⟩:=rfl
def rdT(J:Nat)(z:List Tk):Option (AV×List Tk)->Except AV (AV×List (Nat×Option Bx))
 | some (v,u)=>.ok (v,[(J,some (tB z u))])
 | none=>.error (erV 1)
def A9O(e:Int)(id:Nat):Z0 prog 176 [.int .i64 e] [] id (.error (erV e)):=by
 refine A3Y w176.hf w176.hc w176.hn w176.hr (by simp[ntmps176]) λE hP hR hPn hl hid hB hu=>?_;refine A3 9 ?_;simp[w176];refine B1W f_ s_ ⟨s_,hPn _ _ rfl rfl s_⟩
def B7e(z l:List Tk)(c:UInt8)(J id:Nat):A2 prog 177 [.ptr J 0 0,.str [c]] [(J,tB z l)] id (.bool (isS l c)) []:=by
 rw[B5];cases l with
 | nil =>
  refine w177.e.1 λE hP hR hl hid=>?_;simp[w177];have hJ:=hl (J,_) (za ..);simp only at hJ;have J1:=lf hJ;refine yE hR [] (by simp[isS,J1,I5 hid]) λhrn=>⟨?_,?_,?_,?_,?_,?_⟩<;>(try simp[isS,J1,I5 hid]);all_goals exact A4 _ (by simp[F8,A6y])
 | cons t l =>
  refine w177.e.1 λE hP hR hl hid=>?_;simp[w177];have hJ:=hl (J,_) (za ..);simp only at hJ;have J1:=lf hJ;simp[S7,J1];refine yE hR [] (by simp[isS,S7,J1,I5 hid]) λhrn=>⟨?_,?_,?_,?_,?_,?_⟩<;>(try simp[isS,S7,J1,I5 hid]);all_goals exact A4 _ (by simp[F8,A6y])
def C2k(z l:List Tk)(J id:Nat):Z0 prog 110 [.ptr J 0 0] [(J,tB z l)] id (if l=[] then .ok (.tup [],[]) else .error (erV 1)):=by
 have hf:=λid=>A9O 1 id;rw[B5];cases l with
 | nil =>
  refine w110.x.1 λE hP hR hPn hl hid hB hu=>?_;simp[w110];have hJ:=hl (J,_) (za ..);simp only at hJ;have J1:=lf hJ;have hrn:F7 []:=by simp[J1,I5 hid]
  refine hR _ _ _ (rfl) ?_;refine F5 (by simp[J1,I5 hid]<;>rfl) [] hrn ⟨?_,?_,?_,?_,?_,?_⟩<;>(try simp[J1,I5 hid]);all_goals exact A4 _ (by simp[F8,A6y])
 | cons t l =>
  rw[zf s_];refine w110.x.1 λE hP hR hPn hl hid hB hu=>?_;simp[w110];have hJ:=hl (J,_) (za ..);simp only at hJ;have J1:=lf hJ;refine D6 hP rfl (hf _) (t_ J1) (by simp[J1]<;>rfl) (λpv hpv=>⟨t_ J1,by injection hpv with hpv; subst hpv; exact hPn _ _ (rfl) rfl (t_ J1)⟩) (λv wr h=>by cases h)
def B9P(ks:List Int)(x:Int)(id:Nat)(h8:ks.length<=1000000):A2 prog 224 [.sl (ks.map (.int .i64)),.int .i64 x] [] id (.int .i64 (E0 (λy=>y==x) ks 0)) []:=by
 have hp:F8 (ks.map (AV.int .i64))=true:=E9 (λ_=>rfl) ks;refine w224.e.1 λE hP hR hl hid=>?_;simp[w224];refine B9 (X:=Nat) (λi=>⟨[(0,true,.sl (ks.map (.int .i64))),(1,true,.int .i64 x),(7,true,.int .i64 ks.length),(8,true,.int .i64 i)],[],0⟩)
  (λi=>i<=ks.length/\E0 (λy=>y==x) (ks.drop i) i=E0 (λy=>y==x) ks 0) (λi=>ks.length - i) 0 ?_ ⟨o_,rfl⟩ ?_
 ·exact yW [] trivial
 rintro i ⟨hi,hf⟩ p hpp;rcases yd i ks.length with h|h
 ·obtain⟨y,hy,hd⟩:=A5 h;have hli:ks[i]=y:=by
   rw[zc h] at hy;injection hy
  have hi1:IntKind.i64.wrap ((i:Int)+1)=((i+1:Nat):Int):=wrap64 o_;rw[hd] at hf;simp only[E0] at hf;refine A3 4000 ?_;simp[h,hli];by_cases hxy:y=x
  ·rw[zj (v_ hxy)] at hf;rw[←hf] at hR;refine A7 (t_ hxy) ?_;simp;exact yP hR
  ·rw[zf (v_ hxy)] at hf;refine A0 (by simpa using λq=>hxy q.symm) ?_;simp;refine hpp _ (i+1) ⟨h,hf⟩ o_ ?_;exact yW [] hi1
 ·rw[zp h] at hf;have hf : -1=E0 (λy=>y==x) ks 0:=hf;rw[←hf] at hR;refine A3 4000 ?_;simp[to.2 h];exact yP hR
def A5x(ks:List Int)(x:Int)(id:Nat)(h8:ks.length<=1000000):A2 prog 159 [.sl (ks.map (.int .i64)),.int .i64 x] [] id (.bool (ks.any (·==x))) []:=by
 have hI:=λid=>B9P ks x id h8;rw[←V4 (λy=>y==x) ks 0];refine w159.e.1 λE hP hR hl hid=>?_;simp[w159];(refine yH rfl (hI _) ?_; simp);exact yP hR
def isK(ks:List Int)(l:List Tk):Bool:=match l with
 | t::_=>ks.any (·==t.kind)
 | []=>false
def B7f(z l:List Tk)(t:Tk)(ks:List Int)(J id:Nat)(hk:ks.any (·==t.kind)=true)(h8:ks.length<=1000000):
  A2 prog 251 [.ptr J 0 0,.sl (ks.map (.int .i64))] [(J,tB z (t::l))] id (S7 t) [(J,some (tB z l))]:=by
 have hC:=λid=>A5x ks t.kind id h8;rw[hk] at hC;rw[B5,B5];have hne:(((l.length:Int)+1)==0)=false:=by rw[beq_eq_false_iff_ne]; omega
 have het:S7 t = .agg [.int .i64 t.kind,.str t.text,.int .i64 t.n]:=rfl;refine w251.e.1 λE hP hR hl hid=>?_;simp[w251];have hJ:=hl (J,_) (za ..);simp only at hJ;have J1:=lf hJ;simp[hne,het,J1];(refine H5 hP (by simp[hne,het,J1]) rfl (λhc=>⟨hC _,by revert hc; simp[hne,het,J1]; try grind,by simp[hne,het,J1]⟩) ?_; refine A3 4000 ?_; simp[hne,het,J1]);refine⟨⟨λa _=>rfl,o_⟩,?_⟩;exact yF hR [] (a_ het (a_ J1 (I5 hid)))
def B7g(z l:List Tk)(ks:List Int)(J id:Nat)(hk:isK ks l=false)(h8:ks.length<=1000000):
  Z0 prog 251 [.ptr J 0 0,.sl (ks.map (.int .i64))] [(J,tB z l)] id (.error (erV 1)):=by
 have hf:=λid=>A9O 1 id;rw[B5];cases l with
 | nil =>
  refine w251.x.1 λE hP hR hPn hl hid hB hu=>?_;simp[w251];have hJ:=hl (J,_) (za ..);simp only at hJ;have J1:=lf hJ;simp[J1];refine H5 hP s_ rfl (v:=.bool false) (rd:=[]) (λhh=>by simp at hh) ?_;refine A3 4000 ?_;simp[J1];refine D6 hP rfl (hf _) (t_ J1) (by simp[J1]<;>rfl) (λpv hpv=>⟨t_ J1,by injection hpv with hpv; subst hpv; exact hPn _ _ (rfl) rfl (t_ J1)⟩) (λv wr h=>by cases h)
 | cons t l =>
  have hC:=λid=>A5x ks t.kind id h8;have hk:ks.any (·==t.kind)=false:=hk;rw[hk] at hC;have hne:(((l.length:Int)+1)==0)=false:=by rw[beq_eq_false_iff_ne]; omega
  have het:S7 t = .agg [.int .i64 t.kind,.str t.text,.int .i64 t.n]:=rfl;refine w251.x.1 λE hP hR hPn hl hid hB hu=>?_;simp[w251];have hJ:=hl (J,_) (za ..);simp only at hJ;have J1:=lf hJ;simp[hne,het,J1];(refine H5 hP (by simp[hne,het,J1]) rfl (λhc=>⟨hC _,by revert hc; simp[hne,het,J1]; try grind,by simp[hne,het,J1]⟩) ?_; refine A3 4000 ?_; simp[hne,het,J1]);refine D6 hP rfl (hf _) (t_ J1) (by simp[J1]<;>rfl) (λpv hpv=>⟨t_ J1,by injection hpv with hpv; subst hpv; exact hPn _ _ (rfl) rfl (t_ J1)⟩) (λv wr h=>by cases h)
def B2M(z l:List Tk)(c:UInt8)(J id:Nat)(h:isS l c=true):
  A2 prog 111 [.ptr J 0 0,.str [c]] [(J,tB z l)] id (.tup []) [(J,some (tB z (l.drop 1)))]:=by
 have hI:=λid=>B7e z l c J id;rw[h] at hI;cases l with
 | nil=>cases h
 | cons t l =>
  rw[B5] at hI;rw[vr,vn,B5,B5];refine w111.e.1 λE hP hR hl hid=>?_;simp[w111];have hJ:=hl (J,_) (za ..);simp only at hJ;have J1:=lf hJ;(refine yC rfl (hI _) ?_; simp[J1]);refine⟨by simp[S7]; omega,?_⟩;exact yF hR [] (a_ J1 (I5 hid))
def B7h(z l:List Tk)(c:UInt8)(J id:Nat)(h:isS l c=false):
  Z0 prog 111 [.ptr J 0 0,.str [c]] [(J,tB z l)] id (.error (erV 1)):=by
 have hI:=λid=>B7e z l c J id;have hf:=λid=>A9O 1 id;rw[h] at hI;rw[B5] at *;refine w111.x.1 λE hP hR hPn hl hid hB hu=>?_;simp[w111];have hJ:=hl (J,_) (za ..);simp only at hJ;have J1:=lf hJ;(refine yC rfl (hI _) ?_; simp[J1]);refine D6 hP rfl (hf _) (t_ J1) (by simp[J1]<;>rfl) (λpv hpv=>⟨t_ J1,by injection hpv with hpv; subst hpv; exact hPn _ _ (rfl) rfl (t_ J1)⟩) (λv wr h=>by cases h)
def C2l(l:List Tk)(c:UInt8):List Tk:=if isS l c=true then l.drop 1 else l
def A01{l:List Tk}{c:UInt8}(h:isS l c=true):C2l l c=l.drop 1:=by unfold C2l; rw[zj h]
def A37{l:List Tk}{c:UInt8}(h:isS l c=false):C2l l c=l:=by unfold C2l; rw[zf (t_ h)]
def A3z(z l:List Tk)(c:UInt8)(J id:Nat):
  A2 prog 178 [.ptr J 0 0,.str [c]] [(J,tB z l)] id (.bool (isS l c)) [(J,some (tB z (C2l l c)))]:=by
 have hI:=λid=>B7e z l c J id;cases h:isS l c with
 | false =>
  rw[A37 h];rw[h] at hI;rw[B5] at *;refine w178.e.1 λE hP hR hl hid=>?_;simp[w178];have hJ:=hl (J,_) (za ..);simp only at hJ;have J1:=lf hJ;(refine yC rfl (hI _) ?_; simp[J1]);exact yF hR [] (a_ J1 (I5 hid))
 | true =>
  rw[A01 h];rw[h] at hI;cases l with
  | nil=>cases h
  | cons t l =>
   rw[B5] at hI;rw[vr,vn,B5,B5];refine w178.e.1 λE hP hR hl hid=>?_;simp[w178];have hJ:=hl (J,_) (za ..);simp only at hJ;have J1:=lf hJ;(refine yC rfl (hI _) ?_; simp[J1]);refine⟨by simp[S7]; omega,?_⟩;exact yF hR [] (a_ J1 (I5 hid))
def C8b(l:List Tk):isK [1] l=isW l:=by
 cases l with
 | nil=>rfl
 | cons t l=>simp only[isK,isW,sr,qv,ur]; exact BEq.comm
def A40(z l:List Tk)(t:Tk)(J id:Nat)(h:t.kind=1):
  A2 prog 179 [.ptr J 0 0] [(J,tB z (t::l))] id (.str t.text) [(J,some (tB z l))]:=by
 have hN:=λid=>B7f z l t [1] J id (t_ h) s_;have het:S7 t = .agg [.int .i64 t.kind,.str t.text,.int .i64 t.n]:=rfl;rw[het] at hN;rw[B5,B5] at *;refine w179.e.1 λE hP hR hl hid=>?_;simp[w179];have hJ:=hl (J,_) (za ..);simp only at hJ;have J1:=lf hJ;(refine A0z hP rfl (hN _) (by simp[J1]<;>rfl) (t_ J1) (by simp[J1]<;>rfl) (t_ J1) ?_; refine A3 4000 ?_; simp[J1]);exact yF hR [] (a_ J1 (I5 hid))
def B2N(z l:List Tk)(J id:Nat)(h:isW l=false):
  Z0 prog 179 [.ptr J 0 0] [(J,tB z l)] id (.error (erV 1)):=by
 have hN:=λid=>B7g z l [1] J id (by rw[C8b,h]) s_;rw[B5] at *;refine w179.x.1 λE hP hR hPn hl hid hB hu=>?_;simp[w179];have hJ:=hl (J,_) (za ..);simp only at hJ;have J1:=lf hJ;refine A8Q hP rfl (hN _) (by simp[J1]<;>rfl) (t_ J1) (by simp[J1]<;>rfl) (t_ J1) (λpv hpv=>⟨t_ J1,by injection hpv with hpv; subst hpv; exact hPn _ _ (rfl) rfl (t_ J1)⟩) (λv wr h=>by cases h)
def A2f{l:List Tk}(h:isW l=true):∃t r,l=t::r/\t.kind=1:=by
 cases l with
 | nil=>cases h
 | cons t r=>exact⟨t,r,rfl,by simpa [isW] using h⟩
def A41{l:List Tk}{c:UInt8}(h:isS l c=true):∃t r,l=t::r:=by
 cases l with
 | nil=>cases h
 | cons t r=>exact⟨t,r,rfl⟩
def B4a{l:List Tk}(h:isV l=true):∃t r,l=t::r/\[2,3].any (·==t.kind)=true:=by
 cases l with
 | nil=>cases h
 | cons t r =>
  refine⟨t,r,rfl,?_⟩;simp only[isV,ul,beq_iff_eq] at h;simp only[sr,qv,ur,ul,beq_iff_eq];exact h.imp Eq.symm Eq.symm
def C8c{l:List Tk}(h:isV l=false):isK [2,3] l=false:=by
 cases l with
 | nil=>rfl
 | cons t r =>
  simp only[isV,wm,beq_eq_false_iff_ne] at h;simp only[isK,sr,qv,ur,wm,beq_eq_false_iff_ne];exact h.imp yc yc
def C4w(z l:List Tk)(J id:Nat)(h:pAg l=none):Z0 prog 181 [.ptr J 0 0] [(J,tB z l)] id (.error (erV 1)):=by
 unfold pAg at h;by_cases h1:isW l=true
 rotate_left
 ·have hN:=λid=>B2N z l J id (v_ h1);rw[B5] at *;refine w181.x.1 λE hP hR hPn hl hid hB hu=>?_;simp[w181];have hJ:=hl (J,_) (za ..);simp only at hJ;have J1:=lf hJ;refine D6 hP rfl (hN _) (t_ J1) (by simp[J1]<;>rfl) (λpv hpv=>⟨t_ J1,by injection hpv with hpv; subst hpv; exact hPn _ _ (rfl) rfl (t_ J1)⟩) (λv wr h=>by cases h)
 obtain⟨t,r,rfl,hk⟩:=A2f h1;have hN:=λid=>A40 z r t J id hk;by_cases h2:isS r 58=true
 rotate_left
 ·have hS:=λid=>B7h z r 58 J id (v_ h2);rw[B5] at hS;rw[B5,B5] at hN;rw[B5];refine w181.x.1 λE hP hR hPn hl hid hB hu=>?_;simp[w181];have hJ:=hl (J,_) (za ..);simp only at hJ;have J1:=lf hJ;(refine yC rfl (hN _) ?_; simp[J1]);refine D6 hP rfl (hS _) (t_ J1) (by simp[J1]<;>rfl) (λpv hpv=>⟨t_ J1,by injection hpv with hpv; subst hpv; exact hPn _ _ (rfl) rfl (t_ J1)⟩) (λv wr h=>by cases h)
 have hS:=λid=>B2M z r 58 J id h2;obtain⟨t2,r2,rfl⟩:=A41 h2;have h3:isV r2=false:=by
  rw[rk]; intro h3;rw[zj ⟨h1,h2,h3⟩] at h; cases h
 have hV:=λid=>B7g z r2 [2,3] J id (C8c h3) s_;rw[vr,vn,B5,B5] at hS;rw[B5] at hV;rw[B5,B5] at hN;rw[B5];refine w181.x.1 λE hP hR hPn hl hid hB hu=>?_;simp[w181];have hJ:=hl (J,_) (za ..);simp only at hJ;have J1:=lf hJ;(refine yC rfl (hN _) ?_; simp[J1]);(refine yC rfl (hS _) ?_; simp[J1]);refine A8Q hP rfl (hV _) (by simp[J1]<;>rfl) (t_ J1) (by simp[J1]<;>rfl) (t_ J1) (λpv hpv=>⟨t_ J1,by injection hpv with hpv; subst hpv; exact hPn _ _ (rfl) rfl (t_ J1)⟩) (λv wr h=>by cases h)
def C4x(z l:List Tk)(a:Ag)(u:List Tk)(J id:Nat)(h:pAg l=some (a,u)):A2 prog 181 [.ptr J 0 0] [(J,tB z l)] id (s6 a) [(J,some (tB z u))]:=by
 unfold pAg at h;split at h
 rotate_left
 ·cases h
 rename_i hh;obtain⟨h1,h2,h3⟩:=hh;obtain⟨t,r,rfl,hk⟩:=A2f h1;have hN:=λid=>A40 z r t J id hk;rw[vr,vn] at h2;have hS:=λid=>B2M z r 58 J id h2;obtain⟨t2,r2,rfl⟩:=A41 h2;obtain⟨t3,r3,rfl,hk3⟩:=B4a h3;have hV:=λid=>B7f z r3 t3 [2,3] J id hk3 s_;have het:S7 t3 = .agg [.int .i64 t3.kind,.str t3.text,.int .i64 t3.n]:=rfl;rw[het] at hV;injection h with h
 rw[zh] at h;obtain⟨rfl,rfl⟩:=h;show A2 _ _ _ _ _ (.agg [.str t.text,.bool (t3.kind==3),.str t3.text,.int .i64 t3.n]) [(J,some (tB z r3))];rw[vr,vn,B5,B5] at hS;rw[B5,B5] at hV;rw[B5,B5] at hN;rw[B5,B5];refine w181.e.1 λE hP hR hl hid=>?_;simp[w181];have hJ:=hl (J,_) (za ..);simp only at hJ;have J1:=lf hJ;(refine yC rfl (hN _) ?_; simp[J1]);(refine yC rfl (hS _) ?_; simp[J1]);(refine A0z hP rfl (hV _) (by simp[J1]<;>rfl) (t_ J1) (by simp[J1]<;>rfl) (t_ J1) ?_; refine A3 4000 ?_; simp[J1]);exact yF hR [] (a_ J1 (I5 hid))
def B9Q{a b c d:Nat}(h:[a,b,c,d].Nodup):((a=b)=False/\(b=a)=False)/\((a=c)=False/\(c=a)=False)/\((a=d)=False/\(d=a)=False)/\((b=c)=False/\(c=b)=False)/\((b=d)=False/\(d=b)=False)/\(c=d)=False/\(d=c)=False:=by
 simp at h;obtain⟨⟨h1,h2,h3⟩,⟨h4,h5⟩,h6⟩:=h;exact⟨⟨eq_false h1,eq_false (yc h1)⟩,⟨eq_false h2,eq_false (yc h2)⟩,⟨eq_false h3,eq_false (yc h3)⟩,⟨eq_false h4,eq_false (yc h4)⟩,⟨eq_false h5,eq_false (yc h5)⟩,eq_false h6,eq_false (yc h6)⟩
def U1(J:Nat):Bx:=⟨[.ptr J 0 0],.ptr J 0 0,false,false⟩
theorem Q6(J:Nat):U1 J=⟨[.ptr J 0 0],.ptr J 0 0,false,false⟩:=rfl
def sK(al nm:List UInt8)(v:AV):Bx:=⟨[.agg [.str al,.str nm,v,.nils]],.agg [.str [],.str [],.nils,.nils],false,false⟩
theorem A2g(al nm:List UInt8)(v:AV):sK al nm v=⟨[.agg [.str al,.str nm,v,.nils]],.agg [.str [],.str [],.nils,.nils],false,false⟩:=rfl
def aB(l:List Ag):Bx:=⟨l.map s6,.agg [.str [],.bool false,.str [],.int .i64 0],false,false⟩
theorem A2h(l:List Ag):aB l=⟨l.map s6,.agg [.str [],.bool false,.str [],.int .i64 0],false,false⟩:=rfl
def C2m(z t:List Tk)(l:List Ag)(al nm:List UInt8)(J V K M id:Nat)(hd:[J,V,K,M].Nodup)(h:pAg t=none):
  Z0 prog 180 [.ptr K 0 0,.ptr V 0 0] [(J,tB z t),(V,U1 J),(K,sK al nm (.bsl M 0 l.length)),(M,aB l)] id (.error (erV 1)):=by
 have d:=B9Q hd;have hA:=λid=>C4w z t J id h;rw[B5] at *;rw[Q6,A2g,A2h];refine w180.x.1 λE hP hR hPn hl hid hB hu=>?_;simp[w180];have hJ:=hl (J,_) (za ..);simp only at hJ;have J1:=lf hJ;have hV:=hl (V,_) (zb _ (za ..));simp only at hV;have V1:=lf hV;have hK:=hl (K,_) (zb _ (zb _ (za ..)));simp only at hK;have K1:=lf hK;have hM:=hl (M,_) (zb _ (zb _ (zb _ (za ..))));simp only at hM;have M1:=lf hM;simp[J1,V1,K1,M1,d];refine D6 hP rfl (hA _) (by simp[J1,V1,K1,M1,d]) (by simp[J1,V1,K1,M1,d]<;>rfl) (λpv hpv=>⟨by simp[J1,V1,K1,M1,d],by injection hpv with hpv; subst hpv; exact hPn _ _ (rfl) rfl (by simp[J1,V1,K1,M1,d])⟩) (λv wr h=>by cases h)
def C2n(z t:List Tk)(l:List Ag)(a:Ag)(u:List Tk)(al nm:List UInt8)(J V K M id:Nat)(hd:[J,V,K,M].Nodup)(h:pAg t=some (a,u))(hl8:l.length<=1099511627776):
  A2 prog 180 [.ptr K 0 0,.ptr V 0 0] [(J,tB z t),(V,U1 J),(K,sK al nm (.bsl M 0 l.length)),(M,aB l)] id (.tup []) [(J,some (tB z u)),(K,some (sK al nm (.bsl id 0 (l.length+1)))),(M,none),(id,some (aB (l++[a])))]:=by
 have d:=B9Q hd;have hA:=λid=>C4x z t a u J id h;have hex:(l++[a]).map s6=l.map s6++[s6 a]:=by simp
 have hoe:s6 a = .agg [.str a.name,.bool a.isText,.str a.text,.int .i64 a.n]:=rfl;rw[hoe] at hA hex;rw[B5,B5] at hA;rw[B5,B5,Q6,A2g,A2g,A2h,A2h,hex];refine w180.e.1 λE hP hR hl hid=>?_;simp[w180];have hJ:=hl (J,_) (za ..);simp only at hJ;have J1:=lf hJ;have hV:=hl (V,_) (zb _ (za ..));simp only at hV;have V1:=lf hV;have hK:=hl (K,_) (zb _ (zb _ (za ..)));simp only at hK;have K1:=lf hK;have hM:=hl (M,_) (zb _ (zb _ (zb _ (za ..))));simp only at hM;have M1:=lf hM;simp[J1,V1,K1,M1,d];(refine yC rfl (hA _) ?_; simp[J1,V1,K1,M1,d]);refine⟨⟨o_,o_⟩,?_⟩;refine yE hR [(id,E.n0+5120)] (by simp[J1,V1,K1,M1,d,I5 hid]) λhrn=>⟨?_,?_,?_,?_,?_,?_⟩<;>(try simp[J1,V1,K1,M1,d,I5 hid]);exact B4 rfl (B3 (A3h _) rfl)
def B2O{t u:List Tk}{a:Ag}(h:pAg t=some (a,u)):u.length+3<=t.length:=by
 unfold pAg at h;split at h
 ·rename_i hh;obtain⟨h1,h2,h3⟩:=hh;injection h with h
  rw[zh] at h;rw[←h.2,ya];obtain⟨_,_,e,_⟩:=B4a h3;have:=congrArg List.length e;rw[ya,zt] at this;omega
 ·cases h
def agS(n0 J V K M:Nat)(z:List Tk)(al nm:List UInt8):Bool->List Ag->List Tk->St
 | true,l,t=>⟨[(0,true,.ptr J 0 0),(1,true,.str [41]),(2,true,.fn 180 [.ptr K 0 0,.ptr V 0 0])],[(J,some (tB z t)),(V,some (U1 J)),(K,some (sK al nm (.bsl M 0 l.length))),(M,some (aB l))],0⟩
 | false,l,t=>⟨[(0,true,.ptr J 0 0),(1,true,.str [41]),(2,true,.fn 180 [.ptr K 0 0,.ptr V 0 0])],[(J,some (tB z t)),(V,some (U1 J)),(K,some (sK al nm (.bsl n0 0 l.length))),(M,none),(n0,some (aB l))],1⟩
def B9R(J K M id:Nat)(z:List Tk)(al nm:List UInt8):Option (List Ag×List Tk)->Except AV (AV×List (Nat×Option Bx))
 | none=>.error (erV 1)
 | some (l,u)=>.ok (.tup [],[(J,some (tB z u)),(K,some (sK al nm (.bsl id 0 l.length))),(M,none),(id,some (aB l))])
def C2o(n:Nat)(z s:List Tk)(al nm:List UInt8)(J V K M id:Nat)(hd:[J,V,K,M].Nodup)(hn:s.length<n)(h8:s.length<=1099511627776):
  Z0 prog 112 [.ptr J 0 0,.str [41],.fn 180 [.ptr K 0 0,.ptr V 0 0]] [(J,tB z s),(V,U1 J),(K,sK al nm (.bsl M 0 0)),(M,aB [])] id (B9R J K M id z al nm (A2A n [] s)):=by
 have d:=B9Q hd;rw[B5,Q6,A2g,A2h];refine w112.x.1 λE hP hR hPn hl hid hB hu=>?_;simp[w112];have hJ:=hl (J,_) (za ..);simp only at hJ;have J1:=lf hJ;have hV:=hl (V,_) (zb _ (za ..));simp only at hV;have V1:=lf hV;have hK:=hl (K,_) (zb _ (zb _ (za ..)));simp only at hK;have K1:=lf hK;have hM:=hl (M,_) (zb _ (zb _ (zb _ (za ..))));simp only at hM;have M1:=lf hM;refine B9 (X:=Bool×List Ag×List Tk×Nat) (λq=>agS E.n0 J V K M z al nm q.1 q.2.1 q.2.2.1)
  (λq=>(A2A q.2.2.2 q.2.1 q.2.2.1=A2A n [] s/\q.2.2.1.length<q.2.2.2)/\q.2.1.length+q.2.2.1.length<=s.length/\(q.1=true->q.2.1=[])) (λq=>q.2.2.1.length) (true,[],s,n) ?_ ⟨⟨rfl,hn⟩,s_,λ_=>rfl⟩ ?_
 ·refine yV [] (by simp[agS,tB,U1,sK,aB,J1,V1,K1,M1,d]) λhrn=>⟨?_,?_,?_,?_,?_⟩<;>(try simp[agS,tB,U1,sK,aB,J1,V1,K1,M1,d])
 rintro⟨first,l,t,m⟩ ⟨⟨hx,hm⟩,hll,hfl⟩ p hp;simp only at hx hm hll hfl;obtain⟨m,rfl⟩:=ws (show m≠0 by omega);cases first with
 | true =>
  obtain rfl:=hfl rfl;cases hq:pAg t with
  | none =>
   have hdo:=λid=>C2m z t [] al nm J V K M id hd hq;have e:B9R J K M id z al nm (A2A n [] s) = .error (erV 1):=by
    rw[←hx]; simp only[wt,A2A]; rw[hq]; rfl
   rw[B5,Q6,A2g,A2h] at hdo;unfold agS;refine A3 4000 ?_;simp[tB,U1,sK,aB,J1,V1,K1,M1,d];refine A2P hP (by simp<;>exact⟨rfl,rfl⟩) rfl (hdo _) (by simp[J1,V1,K1,M1,d]) (by simp[J1,V1,K1,M1,d]<;>rfl) (λpv hpv=>⟨by simp[J1,V1,K1,M1,d],by injection hpv with hpv; subst hpv; exact hPn _ _ (e) rfl (by simp[J1,V1,K1,M1,d])⟩) (λv wr h=>by cases h)
  | some w =>
   obtain⟨a,u⟩:=w;have hlt:=B2O hq;have hdo:=λid=>C2n z t [] a u al nm J V K M id hd hq s_;have hT:=λid=>A3z z u 41 J id;have e0:A2A n [] s=if isS u 41=true then some ([a],u.drop 1) else A2A m [a] u:=by
    rw[←hx]; simp only[wt,A2A]; rw[hq]; rfl
   have hoe:s6 a = .agg [.str a.name,.bool a.isText,.str a.text,.int .i64 a.n]:=rfl;rw[B5,Q6,A2g,A2h,B5,A2h] at hdo;simp only[A2g] at hdo;by_cases hs:isS u 41=true
   ·rw[zj hs] at e0;rw[hs,A01 hs] at hT;generalize u.drop 1=v at *;rw[B5,B5] at hT;have e:B9R J K M id z al nm (A2A n [] s) = .ok (.tup [],[(J,some (tB z v)),(K,some (sK al nm (.bsl id 0 1))),(M,none),(id,some (aB [a]))]):=(by rw[e0]; rfl);unfold agS;refine A3 4000 ?_;simp[tB,U1,sK,aB,J1,V1,K1,M1,d];(refine E8 hP (by simp<;>exact⟨rfl,rfl⟩) rfl (hdo _) (by simp[J1,V1,K1,M1,d]) (by simp[J1,V1,K1,M1,d]<;>rfl) ?_; refine A3 4000 ?_; simp[J1,V1,K1,M1,d]);(refine yC rfl (hT _) ?_; simp[J1,V1,K1,M1,d]);have hrn:F7 [(id,E.n0+1024)]:=(by simp[tB,U1,sK,aB,hoe,J1,V1,K1,M1,d,I5 hid]);refine hR _ _ _ (e) ?_;refine F5 (by simp[tB,U1,sK,aB,hoe,J1,V1,K1,M1,d,I5 hid]<;>rfl) [(id,E.n0+1024)] hrn ⟨?_,?_,?_,?_,?_,?_⟩<;>(try simp[tB,U1,sK,aB,hoe,J1,V1,K1,M1,d,I5 hid])
   ·have hs:isS u 41=false:=(v_ hs);rw[zf (t_ hs)] at e0;rw[hs,A37 hs,B5] at hT;unfold agS;refine A3 4000 ?_;simp[tB,U1,sK,aB,J1,V1,K1,M1,d];(refine E8 hP (by simp<;>exact⟨rfl,rfl⟩) rfl (hdo _) (by simp[J1,V1,K1,M1,d]) (by simp[J1,V1,K1,M1,d]<;>rfl) ?_; refine A3 4000 ?_; simp[J1,V1,K1,M1,d]);(refine yC rfl (hT _) ?_; simp[J1,V1,K1,M1,d]);refine hp _ (false,[a],u,m) ⟨⟨e0.symm,m_⟩,by simp at hll ⊢; omega,s_⟩ m_ ?_;refine yV [(E.n0,E.n0+1024)] (by simp[agS,tB,U1,sK,aB,hoe,J1,V1,K1,M1,d]) λhrn=>⟨?_,?_,?_,?_,?_⟩<;>(try simp[agS,tB,U1,sK,aB,hoe,J1,V1,K1,M1,d])
 | false =>
  have hne0:([J,V,K,E.n0]:List Nat).Nodup:=by simp[J1,V1,K1,M1,d]
  cases hq:pAg t with
  | none =>
   have hdo:=λid=>C2m z t l al nm J V K E.n0 id hne0 hq;have e:B9R J K M id z al nm (A2A n [] s) = .error (erV 1):=by
    rw[←hx]; simp only[wt,A2A]; rw[hq]; rfl
   rw[B5,Q6,A2g,A2h] at hdo;unfold agS;refine A3 4000 ?_;simp[tB,U1,sK,aB,J1,V1,K1,M1,d];refine A2P hP (by simp<;>exact⟨rfl,rfl⟩) rfl (hdo _) (by simp[J1,V1,K1,M1,d]) (by simp[J1,V1,K1,M1,d]<;>rfl) (λpv hpv=>⟨by simp[J1,V1,K1,M1,d],by injection hpv with hpv; subst hpv; exact hPn _ _ (e) rfl (by simp[J1,V1,K1,M1,d])⟩) (λv wr h=>by cases h)
  | some w =>
   obtain⟨a,u⟩:=w;have hlt:=B2O hq;have hdo:=λid=>C2n z t l a u al nm J V K E.n0 id hne0 hq o_;have hT:=λid=>A3z z u 41 J id;have e0:A2A n [] s=if isS u 41=true then some (l++[a],u.drop 1) else A2A m (l++[a]) u:=by
    rw[←hx]; simp only[wt,A2A]; rw[hq]
   have hex:(l++[a]).map s6=l.map s6++[s6 a]:=s_;have hoe:s6 a = .agg [.str a.name,.bool a.isText,.str a.text,.int .i64 a.n]:=rfl;rw[hoe] at hex;rw[B5,Q6,A2g,A2h,B5,A2h] at hdo;simp only[A2g,hex] at hdo;by_cases hs:isS u 41=true
   ·rw[zj hs] at e0;rw[hs,A01 hs] at hT;generalize u.drop 1=v at *;rw[B5,B5] at hT;have e:B9R J K M id z al nm (A2A n [] s) = .ok (.tup [],[(J,some (tB z v)),(K,some (sK al nm (.bsl id 0 (l.length+1)))),(M,none),(id,some (aB (l++[a])))]):=(by rw[e0]; simp[B9R]);unfold agS;refine A3 4000 ?_;simp[tB,U1,sK,aB,J1,V1,K1,M1,d];(refine E8 hP (by simp<;>exact⟨rfl,rfl⟩) rfl (hdo _) (by simp[J1,V1,K1,M1,d]) (by simp[J1,V1,K1,M1,d]<;>rfl) ?_; refine A3 4000 ?_; simp[J1,V1,K1,M1,d]);(refine yC rfl (hT _) ?_; simp[J1,V1,K1,M1,d]);have hrn:F7 [(id,E.n0+1025)]:=(by simp[tB,U1,sK,aB,hoe,J1,V1,K1,M1,d,I5 hid]);refine hR _ _ _ (e) ?_;refine F5 (by simp[tB,U1,sK,aB,hoe,J1,V1,K1,M1,d,I5 hid]<;>rfl) [(id,E.n0+1025)] hrn ⟨?_,?_,?_,?_,?_,?_⟩<;>(try simp[tB,U1,sK,aB,hoe,J1,V1,K1,M1,d,I5 hid]);all_goals exact B4 rfl (B3 (A3h _) rfl)
   ·have hs:isS u 41=false:=(v_ hs);rw[zf (t_ hs)] at e0;rw[hs,A37 hs,B5] at hT;unfold agS;refine A3 4000 ?_;simp[tB,U1,sK,aB,J1,V1,K1,M1,d];(refine E8 hP (by simp<;>exact⟨rfl,rfl⟩) rfl (hdo _) (by simp[J1,V1,K1,M1,d]) (by simp[J1,V1,K1,M1,d]<;>rfl) ?_; refine A3 4000 ?_; simp[J1,V1,K1,M1,d]);(refine yC rfl (hT _) ?_; simp[J1,V1,K1,M1,d]);refine hp _ (false,l++[a],u,m) ⟨⟨e0.symm,m_⟩,by simp at hll ⊢; omega,s_⟩ m_ ?_;refine yV [(E.n0,E.n0+1025)] (by simp[agS,tB,U1,sK,aB,hoe,J1,V1,K1,M1,d]) λhrn=>⟨?_,?_,?_,?_,?_⟩<;>(try simp[agS,tB,U1,sK,aB,hoe,J1,V1,K1,M1,d]);all_goals exact B4 rfl (B3 (A3h _) rfl)
def A55(E:O8)(J:Nat)(z:List Tk)(al nm:List UInt8)(xs:List Ag)(u:List Tk):St :=
 ⟨[(1,true,.ptr E.n0 0 0),(2,true,.ptr (E.n0+1) 0 0),(3,true,.ptr (E.n0+2) 0 0)],
  [(J,some (tB z u)),(E.n0,some (U1 J)),(E.n0+1,some (sK [] [] .nils)),(E.n0+2,some (sK al nm (.bsl (E.n0+3) 0 xs.length))),(E.n0+3,some (aB xs))],4⟩
def B4b(i:Nat)(al nm:List UInt8):A5N i (.agg [.str al,.str nm,.nils,.nils]) (.agg [.str al,.str nm,.bsl i 0 0,.nils]):=.agg _ _ rfl λm x y h1 h2=>by
 match m,h1,h2 with
 | 0,h1,h2|1,h1,h2|3,h1,h2=>simp at h1 h2; exact .inl (h1.symm.trans h2)
 | 2,h1,h2=>simp at h1 h2; exact .inr ⟨h1.symm,h2.symm⟩
 | m+4,h1,h2=>simp at h1
section
variable (E:O8) (hP:E.P=Tryz.prog) (z l:List Tk) (J id:Nat) (hJ:J<E.n0/\(J<id\/id+1024<=J))
include hP hJ
theorem B2P{a b c r:CC}(ha:a = .r [.bx 1 0,.al 2 .zQ])(hb:b = .r [.l 4 1,.c 5 179 [4],⟨some 6,none,[5],.build [.str [],.str [],.nils,.nils] [(1,1,.t 5)]⟩,.al 3 .zQ,.st 4 3 6])
  (hc:c = .seq (.r [.l 7 1,⟨some 8,none,[7],.call 178 [.t 7,.c (.str [58])]⟩]) (.cond (.t 8) (.seq (.r [.f 9 1 3,.l 10 9,.f 11 0 3,.st 1 11 10]) (.r [.l 12 1,.c 13 179 [12],.f 14 1 3,.st 1 14 13])) CC.skip))
  {al nm:List UInt8} {u:List Tk} (hh:pHd l=some (al,nm,u)) {k:List Itm} (hk:Wk E (.code r::k) (A55 E J z al nm [] u)) :
  Wk E (.code (.seq a (.seq b (.seq c r)))::k) ⟨[(0,true,.ptr J 0 0)],[(J,some (tB z l))],0⟩:=by
 subst ha hb hc;have J1:=lf hJ;refine C0f (X:=Unit) (λ_=>A55 E J z al nm [] u) (λ_=>True) (λp hp=>?_) λ_ _=>hk;unfold pHd at hh;split at hh
 rotate_left
 ·cases hh
 rename_i h1;obtain⟨t,r,rfl,hkd⟩:=A2f h1;have hN:=λid=>A40 z r t J id hkd;have hT:=λid=>A3z z r 58 J id;rw[B5,B5] at hN;rw[vr,vn] at hh;by_cases h2:isS r 58=true
 ·rw[zj h2] at hh;rw[h2,A01 h2] at hT;obtain⟨t2,r2,rfl⟩:=A41 h2;rw[vr,vn,B5,B5] at hT;split at hh
  rotate_left
  ·cases hh
  rename_i h3;obtain⟨t3,r3,rfl,hk3⟩:=A2f (show isW r2=true from h3);have hN2:=λid=>A40 z r3 t3 J id hk3;rw[B5,B5] at hN2;simp only[txt,List.drop_succ_cons,wo,zd,zh] at hh;obtain⟨rfl,rfl,rfl⟩:=hh;rw[B5];refine A3 4000 ?_;simp[J1];(refine yC rfl (hN _) ?_; simp[J1]);(refine yC rfl (hT _) ?_; simp[J1]);(refine yC rfl (hN2 _) ?_; simp[J1]);refine hp _ () trivial ?_;refine D9.trans (D9.voidBox (E.n0+5120) (by simp[J1]; rfl) rfl (B4b _ _ _) (.agg [.str [],.bool false,.str [],.int .i64 0])) ?_;unfold A55;refine yV [(E.n0,E.n0),(E.n0+1,E.n0+1024),(E.n0+2,E.n0+5120),(E.n0+3,E.n0+17408)] (by simp[tB,U1,sK,aB,J1]) λhrn=>⟨?_,?_,?_,?_,?_⟩<;>(try simp[tB,U1,sK,aB,J1])
 ·have h2:isS r 58=false:=by simpa using h2
  rw[zf (t_ h2)] at hh;rw[h2,A37 h2,B5] at hT;simp only[txt,List.drop_succ_cons,wo,zd,zh] at hh;obtain⟨rfl,rfl,rfl⟩:=hh;rw[B5];refine A3 4000 ?_;simp[J1];(refine yC rfl (hN _) ?_; simp[J1]);(refine yC rfl (hT _) ?_; simp[J1]);refine hp _ () trivial ?_;refine D9.trans (D9.voidBox (E.n0+5120) (by simp[J1]; rfl) rfl (B4b _ _ _) (.agg [.str [],.bool false,.str [],.int .i64 0])) ?_;unfold A55;refine yV [(E.n0,E.n0),(E.n0+1,E.n0+1024),(E.n0+2,E.n0+5120),(E.n0+3,E.n0+9216)] (by simp[tB,U1,sK,aB,J1]) λhrn=>⟨?_,?_,?_,?_,?_⟩<;>(try simp[tB,U1,sK,aB,J1])
theorem A9P{x r:CC}(hx:x = .seq (.r [.l 15 1,⟨some 16,none,[15],.call 178 [.t 15,.c (.str [40])]⟩]) (.cond (.t 16) (.r [.l 17 1,⟨some 18,none,[3,1],.mkf 180 [.t 3,.t 1]⟩,⟨some 19,none,[17,18],.call 112 [.t 17,.c (.str [41]),.t 18]⟩]) CC.skip))
  {al nm:List UInt8} {xs:List Ag} {u v:List Tk} (h8:u.length<=1099511627776) (hh:A3I u=some (xs,v)) {k:List Itm} (hk:Wk E (.code r::k) (A55 E J z al nm xs v)) :
  Wk E (.code (.seq x r)::k) (A55 E J z al nm [] u):=by
 subst hx;have J1:=lf hJ;refine A3D (B08 (X:=Unit) (λ_=>A55 E J z al nm xs v) (λ_=>True) (λp hp=>?_) λ_ _=>hk);have hT:=λid=>A3z z u 40 J id;unfold A3I at hh;by_cases h1:isS u 40=true
 ·rw[zj h1] at hh;rw[h1,A01 h1] at hT;have hlen:(u.drop 1).length<u.length+1:=by rw[ya]; omega
  have hM:=λid=>C2o (u.length+1) z (u.drop 1) al nm J E.n0 (E.n0+2) (E.n0+3) id (t_ J1) hlen o_;rw[hh] at hM;have hM:∀id,A2 prog 112 [.ptr J 0 0,.str [41],.fn 180 [.ptr (E.n0+2) 0 0,.ptr E.n0 0 0]] [(J,tB z (u.drop 1)),(E.n0,U1 J),(E.n0+2,sK al nm (.bsl (E.n0+3) 0 0)),(E.n0+3,aB [])] id (.tup [])
    [(J,some (tB z v)),(E.n0+2,some (sK al nm (.bsl id 0 xs.length))),(E.n0+3,none),(id,some (aB xs))]:=hM
  generalize u.drop 1=w at *;rw[B5,B5] at hT;rw[B5,Q6,A2g,A2h,B5,A2h] at hM;simp only[A2g] at hM;unfold A55;refine A3 4000 ?_;simp[tB,U1,sK,aB,J1];(refine yC rfl (hT _) ?_; simp[J1]);(refine yC rfl (hM _) ?_; simp[J1]);refine hp _ () trivial ?_;unfold A55;refine yV [(E.n0,E.n0),(E.n0+1,E.n0+1),(E.n0+2,E.n0+2),(E.n0+3,E.n0+4100)] (by simp[tB,U1,sK,aB,J1]) λhrn=>⟨?_,?_,?_,?_,?_⟩<;>(try simp[tB,U1,sK,aB,J1])
 ·have h1:isS u 40=false:=by simpa using h1
  rw[zf (t_ h1)] at hh;simp only[zd,zh] at hh;obtain⟨rfl,rfl⟩:=hh;rw[h1,A37 h1,B5] at hT;unfold A55;refine A3 4000 ?_;simp[tB,U1,sK,aB,J1];(refine yC rfl (hT _) ?_; simp[J1]);refine hp _ () trivial ?_;unfold A55;refine yV [(E.n0,E.n0),(E.n0+1,E.n0+1),(E.n0+2,E.n0+2),(E.n0+3,E.n0+3)] (by simp[tB,U1,sK,aB,J1]) λhrn=>⟨?_,?_,?_,?_,?_⟩<;>(try simp[tB,U1,sK,aB,J1])
end
def lK(v:AV):Bx:=⟨[v],.nils,false,false⟩
theorem M3(v:AV):lK v=⟨[v],.nils,false,false⟩:=rfl
def qB(l:List C5):Bx:=⟨l.map C6,.agg [.str [],.str [],.nils,.nils],false,false⟩
theorem A0f(l:List C5):qB l=⟨l.map C6,.agg [.str [],.str [],.nils,.nils],false,false⟩:=rfl
def C9S(o:Option (C5×List Tk)):Option (AV×List Tk):=o.map λp=>(C6 p.1,p.2)
def B10(o:Option (List C5×List Tk)):Option (AV×List Tk):=o.map λp=>(.sl (p.1.map C6),p.2)
def B11(n:Nat):Prop:=∀(z l:List Tk) (J id:Nat),3*l.length+1<=n->l.length<=1099511627776->Z0 prog 114 [.ptr J 0 0] [(J,tB z l)] id (rdT J z (C9S (A2B n l)))
def B68(n:Nat):Prop:=∀(z l:List Tk) (J id:Nat),3*l.length+1<=n->l.length<=1099511627776->Z0 prog 54 [.ptr J 0 0] [(J,tB z l)] id (rdT J z (B10 (z6 n l)))
def B2Q(s:C5):∃(a b:List UInt8) (x:List Ag) (k:List C5),C6 s = .agg [.str a,.str b,.sl (x.map s6),.sl (k.map C6)]:=by
 cases s with|mk a b x k=>exact⟨a,b,x,k,by simp[C6,A6V]⟩
def B7i:∀(n:Nat) (acc:List Ag) (t u:List Tk) (l:List Ag),A2A n acc t=some (l,u)->u.length<t.length
 | 0,_,_,_,_,h=>by cases h
 | n+1,acc,t,u,l,h=>by
  simp only[A2A] at h;split at h
  ·cases h
  rename_i p hp;have h1:=B2O (a:=p.1) (u:=p.2) hp;split at h
  ·simp only[zd,zh] at h;rw[←h.2,ya]; omega
  ·have:=B7i n _ _ _ _ h; omega
def B4c{t u:List Tk}{l:List Ag}(h:A3I t=some (l,u)):u.length<=t.length:=by
 unfold A3I at h;split at h
 ·have:=B7i _ _ _ _ _ h;rw[ya] at this; omega
 ·simp only[zd,zh] at h;rw[h.2]; exact zx _
def B69{t u:List Tk}{a b:List UInt8}(h:pHd t=some (a,b,u)):u.length<t.length:=by
 unfold pHd at h;split at h
 rotate_left
 ·cases h
 rename_i h1;obtain⟨_,_,e,_⟩:=A2f h1;have:=congrArg List.length e;rw[zt] at this;split at h
 ·split at h
  ·simp only[zd,zh] at h;rw[←h.2.2,ya]; omega
  ·cases h
 ·simp only[zd,zh] at h;rw[←h.2.2,ya]; omega
def B4d:∀n:Nat,(∀t s u,A2B n t=some (s,u)->u.length<t.length)/\(∀t s u,z6 n t=some (s,u)->u.length<t.length)/\(∀acc t s u,U0 n acc t=some (s,u)->u.length<t.length)
 | 0=>⟨λ_ _ _ h=>by simp[A2B] at h,λ_ _ _ h=>by simp[z6] at h,λ_ _ _ _ h=>by simp[U0] at h⟩
 | n+1=>by
  obtain⟨h1,h2,h3⟩:=B4d n;refine⟨λt s u h=>?_,λt s u h=>?_,λacc t s u h=>?_⟩
  ·simp only[A2B] at h;split at h
   ·cases h
   rename_i a nm v hv;have e1:=B69 hv;split at h
   ·cases h
   rename_i xs w hw;have e2:=B4c hw;split at h
   ·split at h
    ·cases h
    rename_i k y hy;have:=h2 _ _ _ hy;simp only[zd,zh] at h;rw[←h.2]; omega
   ·simp only[zd,zh] at h;rw[←h.2]; omega
  ·simp only[z6] at h;split at h
   ·have:=h3 _ _ _ _ h;rw[ya] at this; omega
   ·cases h
  ·simp only[U0] at h;split at h
   ·cases h
   rename_i s' v hv;have e1:=h1 _ _ _ hv;split at h
   ·simp only[zd,zh] at h;rw[←h.2,ya]; omega
   ·have:=h3 _ _ _ _ h; omega
def B7j{n:Nat}{t u:List Tk}{s:C5}(h:A2B n t=some (s,u)):u.length<t.length:=(B4d n).1 t s u h
theorem C2p:w113.c = .reg true ((Q4 w113.c).take 2++(Q4 w113.c).getD 2 default::(((Q4 w113.c).drop 3).take 2++(Q4 w113.c).drop 5)) (C4u w113.c):=rfl
def C2q{n:Nat}(hO:B11 n)(z t:List Tk)(l:List C5)(J V K M id:Nat)(hd:[J,V,K,M].Nodup)(hn:3*t.length+1<=n)(h8:t.length<=1099511627776)(hp:A2B n t=none):
  Z0 prog 113 [.ptr K 0 0,.ptr V 0 0] [(J,tB z t),(V,U1 J),(K,lK (.bsl M 0 l.length)),(M,qB l)] id (.error (erV 1)):=by
 have ho:=λid=>hO z t J id hn h8;have d:=B9Q hd;rw[hp] at ho;change ∀id,Z0 _ _ _ _ _ (.error (erV 1)) at ho;rw[B5] at *;rw[M3,Q6,A0f];refine A3Y w113.hf w113.hc w113.hn w113.hr (by simp[ntmps113]) λE hP hR hPn hl hid hB hu=>?_;have hJ:=hl (J,_) (za ..);simp only at hJ;have J1:=lf hJ;have hV:=hl (V,_) (zb _ (za ..));simp only at hV;have V1:=lf hV;have hK:=hl (K,_) (zb _ (zb _ (za ..)));simp only at hK;have K1:=lf hK;have hM:=hl (M,_) (zb _ (zb _ (zb _ (za ..))));simp only at hM;have M1:=lf hM;rw[C2p];refine C6N _ _ _ _ (rs1:=[⟨true,.bsl M 0 l.length,[(K,lK (.bsl M 0 l.length))],[]⟩,⟨true,.ptr J 0 0,[(V,U1 J)],[]⟩])
  (r:=⟨true,.nili,[(J,tB z t)],goL [(J,tB z t)]⟩) (rs2:=[⟨true,.int .i64 l.length,[(M,qB l)],[]⟩,⟨true,.bsl (E.n0+4096) 0 1,[],[(E.n0+4096,some ⟨[.agg [.str [],.str [],.nils,.nils]],.agg [.str [],.str [],.nils,.nils],false,false⟩)]⟩]) (pv:=erV 1) ?_ ?_ ?_ ?_ ?_
 ·simp only[Q4,w113,E6,CC.d,List.take,A06,CR.f,CR.l,St.app,B1N,t7,B5,M3,Q6,A0f];refine⟨A6N s_ (by simp[J1,V1,K1,M1,d]),A6N s_ (by simp[J1,V1,K1,M1,d]),trivial⟩
 ·simp[Q4,w113,E6,St.apps,St.app,B5,M3,Q6,A0f];refine B6h s_ f_ (by rw[hP]; exact ho _) (by simp[J1,V1,K1,M1,d])
 ·simp[Q4,w113,E6,A06,St.apps,St.app,B5,M3,Q6,A0f];refine⟨A6N s_ (by simp[J1,V1,K1,M1,d]),A6N s_ (by simp[J1,V1,K1,M1,d])⟩
 ·simp only[Q4,C4u,B5G,w113,E6,CC.d,pr,List.map,List.append,A1f,List.take,List.length,List.drop,yw,xq];simp[V7,J1,V1,K1,M1,d]
 ·refine hPn _ _ rfl rfl ?_;simp[Q4,w113,E6,St.apps,St.app,B5,M3,Q6,A0f,J1,V1,K1,M1,d]
def C2r{n:Nat}(hO:B11 n)(z t:List Tk)(l:List C5)(a:C5)(u:List Tk)(J V K M id:Nat)(hd:[J,V,K,M].Nodup)(hn:3*t.length+1<=n)(h8:t.length<=1099511627776)(h:A2B n t=some (a,u))(hl8:l.length<=1099511627776):
  A2 prog 113 [.ptr K 0 0,.ptr V 0 0] [(J,tB z t),(V,U1 J),(K,lK (.bsl M 0 l.length)),(M,qB l)] id (.tup []) [(J,some (tB z u)),(K,some (lK (.bsl id 0 (l.length+1)))),(M,none),(id,some (qB (l++[a])))]:=by
 have d:=B9Q hd;have ho:=λid=>hO z t J id hn h8;rw[h] at ho;have ho:∀id,A2 prog 114 [.ptr J 0 0] [(J,tB z t)] id (C6 a) [(J,some (tB z u))]:=ho;have hex:(l++[a]).map C6=l.map C6++[C6 a]:=by simp
 obtain⟨sa,sn,sx,sk,hoe⟩:=B2Q a;rw[hoe] at ho hex;rw[B5,B5] at ho;rw[B5,B5,Q6,M3,M3,A0f,A0f,hex];refine w113.e.1 λE hP hR hl hid=>?_;simp[w113];have hJ:=hl (J,_) (za ..);simp only at hJ;have J1:=lf hJ;have hV:=hl (V,_) (zb _ (za ..));simp only at hV;have V1:=lf hV;have hK:=hl (K,_) (zb _ (zb _ (za ..)));simp only at hK;have K1:=lf hK;have hM:=hl (M,_) (zb _ (zb _ (zb _ (za ..))));simp only at hM;have M1:=lf hM;simp[J1,V1,K1,M1,d];(refine yC rfl (ho _) ?_; simp[J1,V1,K1,M1,d]);refine⟨⟨o_,o_⟩,o_,?_⟩;refine yE hR [(id,E.n0+5120)] (by simp[J1,V1,K1,M1,d,I5 hid]) λhrn=>⟨?_,?_,?_,?_,?_,?_⟩<;>(try simp[J1,V1,K1,M1,d,I5 hid]);exact B4 rfl (B3 (A4L _) s_)
def qsS(n0 J V K M:Nat)(z:List Tk):Bool->List C5->List Tk->St
 | true,l,t=>⟨[(0,true,.ptr J 0 0),(1,true,.str [125]),(2,true,.fn 113 [.ptr K 0 0,.ptr V 0 0])],[(J,some (tB z t)),(V,some (U1 J)),(K,some (lK (.bsl M 0 l.length))),(M,some (qB l))],0⟩
 | false,l,t=>⟨[(0,true,.ptr J 0 0),(1,true,.str [125]),(2,true,.fn 113 [.ptr K 0 0,.ptr V 0 0])],[(J,some (tB z t)),(V,some (U1 J)),(K,some (lK (.bsl n0 0 l.length))),(M,none),(n0,some (qB l))],1⟩
def B9S(J K M id:Nat)(z:List Tk):Option (List C5×List Tk)->Except AV (AV×List (Nat×Option Bx))
 | none=>.error (erV 1)
 | some (l,u)=>.ok (.tup [],[(J,some (tB z u)),(K,some (lK (.bsl id 0 l.length))),(M,none),(id,some (qB l))])
def C78{n:Nat}(hO:∀m,m<n->B11 m)(z s:List Tk)(J V K M id:Nat)(hd:[J,V,K,M].Nodup)(hn:3*s.length+2<=n)(h8:s.length<=1099511627776):
  Z0 prog 112 [.ptr J 0 0,.str [125],.fn 113 [.ptr K 0 0,.ptr V 0 0]] [(J,tB z s),(V,U1 J),(K,lK (.bsl M 0 0)),(M,qB [])] id (B9S J K M id z (U0 n [] s)):=by
 have d:=B9Q hd;rw[B5,Q6,M3,A0f];refine w112.x.1 λE hP hR hPn hl hid hB hu=>?_;simp[w112];have hJ:=hl (J,_) (za ..);simp only at hJ;have J1:=lf hJ;have hV:=hl (V,_) (zb _ (za ..));simp only at hV;have V1:=lf hV;have hK:=hl (K,_) (zb _ (zb _ (za ..)));simp only at hK;have K1:=lf hK;have hM:=hl (M,_) (zb _ (zb _ (zb _ (za ..))));simp only at hM;have M1:=lf hM;refine B9 (X:=Bool×List C5×List Tk×Nat) (λq=>qsS E.n0 J V K M z q.1 q.2.1 q.2.2.1)
  (λq=>(U0 q.2.2.2 q.2.1 q.2.2.1=U0 n [] s/\3*q.2.2.1.length+2<=q.2.2.2/\q.2.2.2<=n)/\q.2.1.length+q.2.2.1.length<=s.length/\(q.1=true->q.2.1=[])) (λq=>q.2.2.1.length) (true,[],s,n) ?_ ⟨⟨rfl,hn,zx _⟩,s_,λ_=>rfl⟩ ?_
 ·refine yV [] (by simp[qsS,tB,U1,lK,qB,J1,V1,K1,M1,d]) λhrn=>⟨?_,?_,?_,?_,?_⟩<;>(try simp[qsS,tB,U1,lK,qB,J1,V1,K1,M1,d])
 rintro⟨first,l,t,m⟩ ⟨⟨hx,hm,hmn⟩,hll,hfl⟩ p hp;simp only at hx hm hmn hll hfl;obtain⟨m,rfl⟩:=ws (show m≠0 by omega);have hO:=hO m o_;cases first with
 | true =>
  obtain rfl:=hfl rfl;cases hq:A2B m t with
  | none =>
   have hdo:=λid=>C2q hO z t [] J V K M id hd o_ o_ hq;have e:B9S J K M id z (U0 n [] s) = .error (erV 1):=by
    rw[←hx]; simp only[wt,U0]; rw[hq]; rfl
   rw[B5,Q6,M3,A0f] at hdo;unfold qsS;refine A3 4000 ?_;simp[tB,U1,lK,qB,J1,V1,K1,M1,d];refine A2P hP (by simp<;>exact⟨rfl,rfl⟩) rfl (hdo _) (by simp[J1,V1,K1,M1,d]) (by simp[J1,V1,K1,M1,d]<;>rfl) (λpv hpv=>⟨by simp[J1,V1,K1,M1,d],by injection hpv with hpv; subst hpv; exact hPn _ _ (e) rfl (by simp[J1,V1,K1,M1,d])⟩) (λv wr h=>by cases h)
  | some w =>
   obtain⟨a,u⟩:=w;have hlt:=B7j hq;have hdo:=λid=>C2r hO z t [] a u J V K M id hd o_ o_ hq s_;have hT:=λid=>A3z z u 125 J id;have e0:U0 n [] s=if isS u 125=true then some ([a],u.drop 1) else U0 m [a] u:=by
    rw[←hx]; simp only[wt,U0]; rw[hq]; rfl
   obtain⟨sa,sn,sx,sk,hoe⟩:=B2Q a;rw[B5,Q6,M3,A0f,B5,A0f] at hdo;simp only[M3] at hdo;by_cases hs:isS u 125=true
   ·rw[zj hs] at e0;rw[hs,A01 hs] at hT;generalize u.drop 1=v at *;rw[B5,B5] at hT;have e:B9S J K M id z (U0 n [] s) = .ok (.tup [],[(J,some (tB z v)),(K,some (lK (.bsl id 0 1))),(M,none),(id,some (qB [a]))]):=(by rw[e0]; rfl);unfold qsS;refine A3 4000 ?_;simp[tB,U1,lK,qB,J1,V1,K1,M1,d];(refine E8 hP (by simp<;>exact⟨rfl,rfl⟩) rfl (hdo _) (by simp[J1,V1,K1,M1,d]) (by simp[J1,V1,K1,M1,d]<;>rfl) ?_; refine A3 4000 ?_; simp[J1,V1,K1,M1,d]);(refine yC rfl (hT _) ?_; simp[J1,V1,K1,M1,d]);have hrn:F7 [(id,E.n0+1024)]:=(by simp[tB,U1,lK,qB,hoe,J1,V1,K1,M1,d,I5 hid]);refine hR _ _ _ (e) ?_;refine F5 (by simp[tB,U1,lK,qB,hoe,J1,V1,K1,M1,d,I5 hid]<;>rfl) [(id,E.n0+1024)] hrn ⟨?_,?_,?_,?_,?_,?_⟩<;>(try simp[tB,U1,lK,qB,hoe,J1,V1,K1,M1,d,I5 hid])
   ·have hs:isS u 125=false:=(v_ hs);rw[zf (t_ hs)] at e0;rw[hs,A37 hs,B5] at hT;unfold qsS;refine A3 4000 ?_;simp[tB,U1,lK,qB,J1,V1,K1,M1,d];(refine E8 hP (by simp<;>exact⟨rfl,rfl⟩) rfl (hdo _) (by simp[J1,V1,K1,M1,d]) (by simp[J1,V1,K1,M1,d]<;>rfl) ?_; refine A3 4000 ?_; simp[J1,V1,K1,M1,d]);(refine yC rfl (hT _) ?_; simp[J1,V1,K1,M1,d]);refine hp _ (false,[a],u,m) ⟨⟨e0.symm,m_,m_⟩,by simp at hll ⊢; omega,s_⟩ m_ ?_;refine yV [(E.n0,E.n0+1024)] (by simp[qsS,tB,U1,lK,qB,hoe,J1,V1,K1,M1,d]) λhrn=>⟨?_,?_,?_,?_,?_⟩<;>(try simp[qsS,tB,U1,lK,qB,hoe,J1,V1,K1,M1,d])
 | false =>
  have hne0:([J,V,K,E.n0]:List Nat).Nodup:=by simp[J1,V1,K1,M1,d]
  cases hq:A2B m t with
  | none =>
   have hdo:=λid=>C2q hO z t l J V K E.n0 id hne0 o_ o_ hq;have e:B9S J K M id z (U0 n [] s) = .error (erV 1):=by
    rw[←hx]; simp only[wt,U0]; rw[hq]; rfl
   rw[B5,Q6,M3,A0f] at hdo;unfold qsS;refine A3 4000 ?_;simp[tB,U1,lK,qB,J1,V1,K1,M1,d];refine A2P hP (by simp<;>exact⟨rfl,rfl⟩) rfl (hdo _) (by simp[J1,V1,K1,M1,d]) (by simp[J1,V1,K1,M1,d]<;>rfl) (λpv hpv=>⟨by simp[J1,V1,K1,M1,d],by injection hpv with hpv; subst hpv; exact hPn _ _ (e) rfl (by simp[J1,V1,K1,M1,d])⟩) (λv wr h=>by cases h)
  | some w =>
   obtain⟨a,u⟩:=w;have hlt:=B7j hq;have hdo:=λid=>C2r hO z t l a u J V K E.n0 id hne0 o_ o_ hq o_;have hT:=λid=>A3z z u 125 J id;have e0:U0 n [] s=if isS u 125=true then some (l++[a],u.drop 1) else U0 m (l++[a]) u:=by
    rw[←hx]; simp only[wt,U0]; rw[hq]
   have hex:(l++[a]).map C6=l.map C6++[C6 a]:=s_;obtain⟨sa,sn,sx,sk,hoe⟩:=B2Q a;rw[hoe] at hex;rw[B5,Q6,M3,A0f,B5,A0f] at hdo;simp only[M3,hex] at hdo;by_cases hs:isS u 125=true
   ·rw[zj hs] at e0;rw[hs,A01 hs] at hT;generalize u.drop 1=v at *;rw[B5,B5] at hT;have e:B9S J K M id z (U0 n [] s) = .ok (.tup [],[(J,some (tB z v)),(K,some (lK (.bsl id 0 (l.length+1)))),(M,none),(id,some (qB (l++[a])))]):=(by rw[e0]; simp[B9S]);unfold qsS;refine A3 4000 ?_;simp[tB,U1,lK,qB,J1,V1,K1,M1,d];(refine E8 hP (by simp<;>exact⟨rfl,rfl⟩) rfl (hdo _) (by simp[J1,V1,K1,M1,d]) (by simp[J1,V1,K1,M1,d]<;>rfl) ?_; refine A3 4000 ?_; simp[J1,V1,K1,M1,d]);(refine yC rfl (hT _) ?_; simp[J1,V1,K1,M1,d]);have hrn:F7 [(id,E.n0+1025)]:=(by simp[tB,U1,lK,qB,hoe,J1,V1,K1,M1,d,I5 hid]);refine hR _ _ _ (e) ?_;refine F5 (by simp[tB,U1,lK,qB,hoe,J1,V1,K1,M1,d,I5 hid]<;>rfl) [(id,E.n0+1025)] hrn ⟨?_,?_,?_,?_,?_,?_⟩<;>(try simp[tB,U1,lK,qB,hoe,J1,V1,K1,M1,d,I5 hid]);all_goals exact B4 rfl (B3 (A4L _) s_)
   ·have hs:isS u 125=false:=(v_ hs);rw[zf (t_ hs)] at e0;rw[hs,A37 hs,B5] at hT;unfold qsS;refine A3 4000 ?_;simp[tB,U1,lK,qB,J1,V1,K1,M1,d];(refine E8 hP (by simp<;>exact⟨rfl,rfl⟩) rfl (hdo _) (by simp[J1,V1,K1,M1,d]) (by simp[J1,V1,K1,M1,d]<;>rfl) ?_; refine A3 4000 ?_; simp[J1,V1,K1,M1,d]);(refine yC rfl (hT _) ?_; simp[J1,V1,K1,M1,d]);refine hp _ (false,l++[a],u,m) ⟨⟨e0.symm,m_,m_⟩,by simp at hll ⊢; omega,s_⟩ m_ ?_;refine yV [(E.n0,E.n0+1025)] (by simp[qsS,tB,U1,lK,qB,hoe,J1,V1,K1,M1,d]) λhrn=>⟨?_,?_,?_,?_,?_⟩<;>(try simp[qsS,tB,U1,lK,qB,hoe,J1,V1,K1,M1,d]);all_goals exact B4 rfl (B3 (A4L _) s_)
def B4e(E:O8)(J:Nat)(z u:List Tk):St :=
 ⟨[(1,true,.ptr E.n0 0 0),(3,true,.ptr (E.n0+1) 0 0)],[(J,some (tB z u)),(E.n0,some (U1 J)),(E.n0+1,some (lK (.bsl (E.n0+2) 0 0))),(E.n0+2,some (qB []))],3⟩
def C4y(E:O8)(hP:E.P=prog)(z l:List Tk)(J id:Nat)(hJ:J<E.n0/\(J<id\/id+1024<=J)){a b c r:CC}(ha:a = .r [.bx 1 0,.v 2 .nils])(hb:b = .r [.l 4 1,⟨some 5,none,[4],.call 111 [.t 4,.c (.str [123])]⟩])
  (hc:c = .r [.al 3 .nils]) (h1:isS l 123=true) {k:List Itm} (hk:Wk E (.code r::k) (B4e E J z (l.drop 1))) :
  Wk E (.code (.seq a (.seq b (.seq c r)))::k) ⟨[(0,true,.ptr J 0 0)],[(J,some (tB z l))],0⟩:=by
 subst ha hb hc;have J1:=lf hJ;refine C0f (X:=Unit) (λ_=>B4e E J z (l.drop 1)) (λ_=>True) (λp hp=>?_) λ_ _=>hk;have hN:=λid=>B2M z l 123 J id h1;generalize l.drop 1=t at *;rw[B5,B5] at hN;rw[B5];refine A3 4000 ?_;simp[J1];(refine yC rfl (hN _) ?_; simp[J1]);refine hp _ () trivial ?_;refine D9.trans (D9.voidBox (E.n0+4096) (by simp[J1]; rfl) rfl .nils (.agg [.str [],.str [],.nils,.nils])) ?_;unfold B4e;refine yV [(E.n0,E.n0),(E.n0+1,E.n0+4096),(E.n0+2,E.n0+5120)] (by simp[tB,U1,lK,qB,J1]) λhrn=>⟨?_,?_,?_,?_,?_⟩<;>(try simp[tB,U1,lK,qB,J1])
def B9T{n:Nat}(hO:∀m,m<n->B11 m):B68 (n+1):=by
 intro z l J id hn h8;by_cases h1:isS l 123=true
 rotate_left
 ·have hN:=λid=>B7h z l 123 J id (v_ h1);have e:z6 (n+1) l=none:=by simp only[z6]; rw[zf h1]
  rw[e];show Z0 _ _ _ _ _ (.error (erV 1));rw[B5] at *;refine w54.x.1 λE hP hR hPn hl hid hB hu=>?_;simp[w54];have hJ:=hl (J,_) (za ..);simp only at hJ;have J1:=lf hJ;refine D6 hP rfl (hN _) (t_ J1) (by simp[J1]<;>rfl) (λpv hpv=>⟨t_ J1,by injection hpv with hpv; subst hpv; exact hPn _ _ (rfl) rfl (t_ J1)⟩) (λv wr h=>by cases h)
 have e:z6 (n+1) l=U0 n [] (l.drop 1):=by simp only[z6]; rw[zj h1]
 have hlen:(l.drop 1).length+1=l.length:=by
  obtain⟨t,r,rfl⟩:=A41 h1;simp
 rw[e];refine A3Y w54.hf w54.hc w54.hn w54.hr (by simp[ntmps54]) λE hP hR hPn hl hid hB hu=>?_;have hJ:=hl (J,_) (za ..);simp only at hJ;have J1:=lf hJ;refine C4y E hP z l J id hJ rfl rfl rfl h1 ?_;generalize l.drop 1=t at *;have hM:=λid=>C78 hO z t J E.n0 (E.n0+1) (E.n0+2) id (t_ J1) o_ o_;cases hp:U0 n [] t with
 | none =>
  rw[hp] at hM;change ∀id,Z0 _ _ _ _ _ (.error (erV 1)) at hM;rw[B5,Q6,M3,A0f] at hM;unfold B4e;refine A3 4000 ?_;simp[tB,U1,lK,qB,J1];refine D6 hP rfl (hM _) (t_ J1) (by simp[J1]<;>rfl) (λpv hpv=>⟨t_ J1,by injection hpv with hpv; subst hpv; exact hPn _ _ (by rw[hp]; rfl) rfl (t_ J1)⟩) (λv wr h=>by cases h)
 | some w =>
  obtain⟨ss,u⟩:=w;rw[hp] at hM;have hM:∀id,A2 prog 112 [.ptr J 0 0,.str [125],.fn 113 [.ptr (E.n0+1) 0 0,.ptr E.n0 0 0]] [(J,tB z t),(E.n0,U1 J),(E.n0+1,lK (.bsl (E.n0+2) 0 0)),(E.n0+2,qB [])] id (.tup [])
    [(J,some (tB z u)),(E.n0+1,some (lK (.bsl id 0 ss.length))),(E.n0+2,none),(id,some (qB ss))]:=hM
  have e:rdT J z (B10 (U0 n [] t)) = .ok (.sl (ss.map C6),[(J,some (tB z u))]):=by rw[hp]; rfl
  rw[B5,Q6,M3,A0f,B5,A0f] at hM;simp only[M3] at hM;unfold B4e;refine A3 4000 ?_;simp[tB,U1,lK,qB,J1];(refine yC rfl (hM _) ?_; simp[J1]);have hrn:F7 []:=by simp[tB,U1,J1,I5 hid]
  refine hR _ _ _ (e) ?_;refine J0 (by simp[tB,U1,J1,I5 hid]<;>rfl) (by simp[tB,U1,J1,I5 hid]<;>exact⟨rfl,rfl⟩) [] hrn ⟨?_,?_,?_,?_,?_,?_⟩<;>(try simp[tB,U1,J1,I5 hid])
def C4z{n:Nat}{l:List Tk}(h:pHd l=none):A2B (n+1) l=none:=by simp only[A2B]; rw[h]
def B9U{n:Nat}{l u:List Tk}{a b:List UInt8}(h:pHd l=some (a,b,u))(h2:A3I u=none):A2B (n+1) l=none:=by simp only[A2B]; rw[h]; simp only; rw[h2]
def C50{n:Nat}{l u v:List Tk}{a b:List UInt8}{xs:List Ag}(h:pHd l=some (a,b,u))(h2:A3I u=some (xs,v))(h3:isS v 123=false):A2B (n+1) l=some (.mk a b xs [],v):=by
 simp only[A2B]; rw[h]; simp only; rw[h2]; simp only; rw[zf (t_ h3)]
def C2s{n:Nat}{l u v:List Tk}{a b:List UInt8}{xs:List Ag}(h:pHd l=some (a,b,u))(h2:A3I u=some (xs,v))(h3:isS v 123=true):A2B (n+1) l=(z6 n v).map λp=>(.mk a b xs p.1,p.2):=by
 simp only[A2B]; rw[h]; simp only; rw[h2]; simp only; rw[zj h3];cases z6 n v with
 | none=>rfl
 | some p=>rfl
def C51(a b:List UInt8)(xs:List Ag):(AV.agg [.str a,.str b,.sl (xs.map s6),.nils]).nrm=C6 (.mk a b xs []):=by
 have h1:A3W (xs.map s6)=xs.map s6:=by
  induction xs with
  | nil=>rfl
  | cons x r ih=>simp[A3W,AV.nrm,ih,s6]
 simp[AV.nrm,A3W,h1,C6,A8i]
def C2t{n:Nat}(hS:B68 n):B11 (n+1):=by
 intro z l J id hn h8;cases hh:pHd l with
 | none =>
  rw[C4z hh];show Z0 _ _ _ _ _ (.error (erV 1));unfold pHd at hh;by_cases h1:isW l=true
  rotate_left
  ·have hN:=λid=>B2N z l J id (v_ h1);rw[B5] at *;refine w114.x.1 λE hP hR hPn hl hid hB hu=>?_;simp[w114];have hJ:=hl (J,_) (za ..);simp only at hJ;have J1:=lf hJ;refine D6 hP rfl (hN _) (t_ J1) (by simp[J1]<;>rfl) (λpv hpv=>⟨t_ J1,by injection hpv with hpv; subst hpv; exact hPn _ _ (rfl) rfl (t_ J1)⟩) (λv wr h=>by cases h)
  rw[zj h1] at hh;obtain⟨t,r,rfl,hkd⟩:=A2f h1;have hN:=λid=>A40 z r t J id hkd;have hT:=λid=>A3z z r 58 J id;rw[vr,vn] at hh;have h2:isS r 58=true:=by
   apply zk;intro q;rw[zf q] at hh; cases hh
  rw[zj h2] at hh;rw[h2,A01 h2] at hT;obtain⟨t2,r2,rfl⟩:=A41 h2;rw[vr,vn,B5,B5] at hT;have h3:isW r2=false:=by
   rw[rk]; intro q;rw[zj (show isW ((t::t2::r2).drop 2)=true from q)] at hh; cases hh
  have hN2:=λid=>B2N z r2 J id h3;rw[B5,B5] at hN;rw[B5] at hN2;rw[B5];refine w114.x.1 λE hP hR hPn hl hid hB hu=>?_;simp[w114];have hJ:=hl (J,_) (za ..);simp only at hJ;have J1:=lf hJ;(refine yC rfl (hN _) ?_; simp[J1]);(refine yC rfl (hT _) ?_; simp[J1]);refine D6 hP rfl (hN2 _) (t_ J1) (by simp[J1]<;>rfl) (λpv hpv=>⟨t_ J1,by injection hpv with hpv; subst hpv; exact hPn _ _ (rfl) rfl (t_ J1)⟩) (λv wr h=>by cases h)
 | some q =>
  obtain⟨al,nm,u⟩:=q;have hlt:=B69 hh;cases ha:A3I u with
  | none =>
   rw[B9U hh ha];show Z0 _ _ _ _ _ (.error (erV 1));unfold A3I at ha;have h1:isS u 40=true:=by
    apply zk;intro q;rw[zf q] at ha; cases ha
   rw[zj h1] at ha;have hT:=λid=>A3z z u 40 J id;rw[h1,A01 h1] at hT;refine A3Y w114.hf w114.hc w114.hn w114.hr (by simp[ntmps114]) λE hP hR hPn hl hid hB hu=>?_;have hJ:=hl (J,_) (za ..);simp only at hJ;have J1:=lf hJ;refine B2P E hP z l J id hJ rfl rfl rfl hh ?_;have hlen:(u.drop 1).length<u.length+1:=(by rw[ya]; omega);have hM:=λid=>C2o (u.length+1) z (u.drop 1) al nm J E.n0 (E.n0+2) (E.n0+3) id (t_ J1) hlen o_;rw[ha] at hM;change ∀id,Z0 _ _ _ _ _ (.error (erV 1)) at hM;generalize u.drop 1=w at *;rw[B5,B5] at hT;rw[B5,Q6,A2g,A2h] at hM;unfold A55;refine A3 4000 ?_;simp[tB,U1,sK,aB,J1];(refine yC rfl (hT _) ?_; simp[J1]);refine D6 hP rfl (hM _) (t_ J1) (by simp[J1]<;>rfl) (λpv hpv=>⟨t_ J1,by injection hpv with hpv; subst hpv; exact hPn _ _ (rfl) rfl (t_ J1)⟩) (λv wr h=>by cases h)
  | some q =>
   obtain⟨xs,v⟩:=q;have hle:=B4c ha;have hI:=λid=>B7e z v 123 J id;cases h3:isS v 123 with
   | false =>
    rw[h3,B5] at hI;rw[C50 hh ha h3];show A2 _ _ _ _ _ (C6 (.mk al nm xs [])) [(J,some (tB z v))];rw[←C51];refine A2.nrm ?_;refine A4p w114.hf w114.hc w114.hn w114.hr (by simp[ntmps114]) λE hP hR hl hid=>?_;have hJ:=hl (J,_) (za ..);simp only at hJ;have J1:=lf hJ;refine B2P E hP z l J id hJ rfl rfl rfl hh (A9P E hP z J id hJ rfl o_ ha ?_);unfold A55;refine A3 4000 ?_;simp[tB,U1,sK,aB,J1];(refine yC rfl (hI _) ?_; simp[J1]);have hrn:F7 []:=(by simp[tB,U1,sK,aB,J1,I5 hid]);rw[hR];refine J0 f_ (by simp[tB,U1,sK,aB,J1,I5 hid]<;>exact⟨rfl,rfl⟩) [] hrn ⟨?_,?_,?_,?_,?_,?_⟩<;>(try simp[tB,U1,sK,aB,J1,I5 hid])
   | true =>
    rw[h3,B5] at hI;rw[C2s hh ha h3];have hK:=λid=>hS z v J id o_ o_;cases hp:z6 n v with
    | none =>
     rw[hp] at hK;change ∀id,Z0 _ _ _ _ _ (.error (erV 1)) at hK;show Z0 _ _ _ _ _ (.error (erV 1));refine A3Y w114.hf w114.hc w114.hn w114.hr (by simp[ntmps114]) λE hP hR hPn hl hid hB hu=>?_;have hJ:=hl (J,_) (za ..);simp only at hJ;have J1:=lf hJ;refine B2P E hP z l J id hJ rfl rfl rfl hh (A9P E hP z J id hJ rfl o_ ha ?_);rw[B5] at hK;unfold A55;refine A3 4000 ?_;simp[tB,U1,sK,aB,J1];(refine yC rfl (hI _) ?_; simp[J1]);refine D6 hP rfl (hK _) (t_ J1) (by simp[J1]<;>rfl) (λpv hpv=>⟨t_ J1,by injection hpv with hpv; subst hpv; exact hPn _ _ (rfl) rfl (t_ J1)⟩) (λv wr h=>by cases h)
    | some q =>
     obtain⟨ks,w⟩:=q;rw[hp] at hK;have hK:∀id,A2 prog 54 [.ptr J 0 0] [(J,tB z v)] id (.sl (ks.map C6)) [(J,some (tB z w))]:=hK;show A2 _ _ _ _ _ (C6 (.mk al nm xs ks)) [(J,some (tB z w))];have hoe:C6 (.mk al nm xs ks) = .agg [.str al,.str nm,.sl (xs.map s6),.sl (ks.map C6)]:=(by simp[C6,A6V]);rw[hoe];refine A4p w114.hf w114.hc w114.hn w114.hr (by simp[ntmps114]) λE hP hR hl hid=>?_;have hJ:=hl (J,_) (za ..);simp only at hJ;have J1:=lf hJ;refine B2P E hP z l J id hJ rfl rfl rfl hh (A9P E hP z J id hJ rfl o_ ha ?_);rw[B5,B5] at hK;unfold A55;refine A3 4000 ?_;simp[tB,U1,sK,aB,J1];(refine yC rfl (hI _) ?_; simp[J1]);(refine yC rfl (hK _) ?_; simp[J1]);have hrn:F7 []:=(by simp[tB,U1,sK,aB,J1,I5 hid]);rw[hR];refine J0 f_ (by simp[tB,U1,sK,aB,J1,I5 hid]<;>exact⟨rfl,rfl⟩) [] hrn ⟨?_,?_,?_,?_,?_,?_⟩<;>(try simp[tB,U1,sK,aB,J1,I5 hid])
def C79:∀n,B11 n/\B68 n:=λn=>by
 induction n using Nat.strongRecOn with
 | _ n ih =>
  cases n with
  | zero=>exact⟨λz l J id hn=>o_,λz l J id hn=>o_⟩
  | succ n=>exact⟨C2t (ih n o_).2,B9T λm hm=>(ih m o_).1⟩
end Go.Am
