/- Parts of the proof: an abstract machine for Go functions, and what functions of the program give back (Lx11, Lx12, Lb5, Lx13, CcZ, Qr1, Qr2, Qr3, Qr4, Qr5, Qr6, Qr7, Qr8, Qr9). No condition. -/
import Derived.Test.YtphjabjjnncebaaGreatDoorXS
import Derived.Test.YtphjabjjnncebaaGreatDoorXP
import Derived.Test.YtphjabjjnncebaaGreatDoorXG
import Derived.Test.YtphjabjjnncebaaGreatDoorXQ
import Derived.Test.YtphjabjjnncebaaGreatDoorXF
set_option maxRecDepth 100000
set_option linter.all false
set_option maxHeartbeats 16000000
namespace Go.Am
open Go Go.Proofs Go.RowKit
theorem X7{f:Nat->Option Bx}{i:Nat}{b:Option Bx}(h:f i=b):U0 f i b=f:=by
 funext x
 unfold U0;split
 ·rename_i hx; subst hx; exact h.symm
 ·rfl
theorem I7.of{n0:Nat}{bx':List (Nat×Option Bx)}:∀{l:List (Nat×Option Bx)},(∀q∈l,n0<=q.1)->I7 n0 bx' l
 | [],_=>trivial
 | (i,b)::l,h=>⟨.inl (h (i,b) (List.mem_cons_self ..)),I7.of fun q hq=>h q (List.mem_cons_of_mem _ hq)⟩
theorem C2c{x m y r:Code}(h:Tryz.f175.body=some (.seq x (.seq m (.seq y r)))):D2 Tryz.prog Tryz.f175.ntmps x=B17/\D2 Tryz.prog Tryz.f175.ntmps y=B18/\D2 Tryz.prog Tryz.f175.ntmps r = .seq (.seq A8G (.block 0 (.loop A5t))) (.seq A8I CC.ret):=by
 have h0:=C3j;rw[h] at h0;simp only[Option.map_some,Option.some.injEq,C2W] at h0;obtain⟨_,_,e1,k1,h1⟩:=H3 h0;injection e1 with e1 e1'
 subst e1 e1';obtain⟨_,_,e2,_,h2⟩:=H3 h1;injection e2 with _ e2
 subst e2;obtain⟨_,_,e3,k3,h3⟩:=H3 h2;injection e3 with e3 e3'
 subst e3 e3';exact⟨k1,k3,h3⟩
theorem C29{x m r:Code}(h:Tryz.f175.body=some (.seq x (.seq m r))){Q:Exit->Act->World->Prop}{t:Array Value}{w:World}(hsz:5<t.size)
  (hQ:Q .normal ⟨t.setIfInBounds 5 (.func (.func 247) #[] #[t[2]?.getD undef,t[3]?.getD undef]),[⟨.fn (.func 247) #[t[2]?.getD undef,t[3]?.getD undef],#[]⟩]⟩ w):m.wp Tryz.prog Q ⟨t,[]⟩ w:=by
 have e:Tryz.f175.body=some (.seq _ (.seq _ _)):=rfl;rw[e] at h;injection h with h
 injection h with _ h
 injection h with h _
 subst h;refine wp_region ?_;have hmf:∀(fn:Fn) (first cap:Array Value) (w:World),(Instr.makeFunc fn first cap).run Tryz.prog w = .ok (.func fn first cap) w:=fun _ _ _ _=>rfl;simp[wpOps,wpOp,go_sem,hmf,Exit.then,hsz];exact .inl (.inl hQ)
theorem C0L{C:Cx Tryz.prog}{D:List Deferred}{G G':Gh}{w w':World}{bx:Nat->Option Bx}{n0 k id J4 J5:Nat}{F:Fr}{l:List (Nat×Option Bx)}{a:Act}{e:Int}(own:∀i,n0<=i->bx i=none)(old:∀i,G.used i->i<n0)(hs:RS C G bx w)(hid:∀x,id<=x->x<id+1024->¬G.used x)
  (hD:F6 C Tryz.f175.ntmps D n0 G w F (ov bx l) (· < n0+k) G' a w') (f4:F 2=some (true,.ptr J4 0 0)) (f5:F 3=some (true,.ptr J5 0 0)) (h4:ov bx l J4=some (oBx .nils)) (h5:ov bx l J5=some (E7 e)) (hl:∀q∈l,n0<=q.1) (d:J4≠J5) (j4:n0<=J4) (j5:n0<=J5) :
  ∃v,(results Tryz.f175 a.tmps).run Tryz.prog w' = .ok v w'/\∃G1,RS C G1 bx w'/\L6 G w G1 w'/\RV G1 w' (.tup [.nils,.int .i64 e]) v/\∀x,G1.used x->G.used x\/(id<=x/\x<id+1024):=by
 let E:Q7:=⟨Tryz.prog,C,bx,Tryz.f175.ntmps,n0,G,w,own,old,hs,D,fun _=>True,fun _ _=>False⟩
 have hD':R8 E ⟨[(2,true,.ptr J4 0 0),(3,true,.ptr J5 0 0)],(J4,some (oBx .nils))::(J5,some (E7 e))::l,k⟩ G' a w':=by
  refine⟨hD.ev,?_,hD.used,hD.old,fun n c v hl=>?_,hD.size,hD.defers⟩
  ·show RS C G' (ov bx _) w';simp only[ov];rw[X7 (f:=ov bx l) h5,X7 h4];exact hD.rs
  ·simp only[lk] at hl;repeat' split at hl
   all_goals first|cases hl|skip
   all_goals rename_i hn<;>subst hn
   ·exact hD.fr _ _ _ f4
   ·exact hD.fr _ _ _ f5
 have hh:J9 E.β []:=J9.nil;refine A7S (E:=E) (id:=id) (rd:=[]) (wr:=[]) (B9w) hh hid hD' ?_;simp only[B9v];refine E9 (by simp[oBx,E7,d,Ne.symm d]<;>rfl) [] trivial (U3 (by simp) (by simp) ?_);exact I7.of fun q hq=>by
  simp at hq;rcases hq with rfl|rfl|hq
  ·exact j4
  ·exact j5
  ·exact hl q hq
theorem C0M{C:Cx Tryz.prog}{D:List Deferred}{G G':Gh}{w w':World}{bx:Nat->Option Bx}{n0 k id J4 J5 M:Nat}{F:Fr}{l:List (Nat×Option Bx)}{a:Act}{ts:List Tk}(own:∀i,n0<=i->bx i=none)(old:∀i,G.used i->i<n0)(hs:RS C G bx w)(hid:∀x,id<=x->x<id+1024->¬G.used x)
  (hD:F6 C Tryz.f175.ntmps D n0 G w F (ov bx l) (· < n0+k) G' a w') (f4:F 2=some (true,.ptr J4 0 0)) (f5:F 3=some (true,.ptr J5 0 0)) (h4:ov bx l J4=some (oBx (.bsl M 0 ts.length))) (h5:ov bx l J5=some (E7 0)) (hM:ov bx l M=some ⟨ts.map j7,.agg [.int .i64 0,.str [],.int .i64 0],false,false⟩) (hl:∀q∈l,n0<=q.1) (d:J4≠J5) (d4:J4≠M) (d5:J5≠M) (j4:n0<=J4) (j5:n0<=J5) (jM:n0<=M) :
  ∃v,(results Tryz.f175 a.tmps).run Tryz.prog w' = .ok v w'/\∃G1,RS C G1 bx w'/\L6 G w G1 w'/\RV G1 w' (.tup [.sl (ts.map j7),.int .i64 0]) v/\∀x,G1.used x->G.used x\/(id<=x/\x<id+1024):=by
 let E:Q7:=⟨Tryz.prog,C,bx,Tryz.f175.ntmps,n0,G,w,own,old,hs,D,fun _=>True,fun _ _=>False⟩
 have hD':R8 E ⟨[(2,true,.ptr J4 0 0),(3,true,.ptr J5 0 0)],(J4,some (oBx (.bsl M 0 ts.length)))::(J5,some (E7 0))::(M,some ⟨ts.map j7,.agg [.int .i64 0,.str [],.int .i64 0],false,false⟩)::l,k⟩ G' a w':=by
  refine⟨hD.ev,?_,hD.used,hD.old,fun n c v hl=>?_,hD.size,hD.defers⟩
  ·show RS C G' (ov bx _) w';simp only[ov];rw[X7 (f:=ov bx l) hM,X7 h5,X7 h4];exact hD.rs
  ·simp only[lk] at hl;repeat' split at hl
   all_goals first|cases hl|skip
   all_goals rename_i hn<;>subst hn
   ·exact hD.fr _ _ _ f4
   ·exact hD.fr _ _ _ f5
 have hh:J9 E.β []:=J9.nil;refine A7S (E:=E) (id:=id) (rd:=[]) (wr:=[]) (B9w) hh hid hD' ?_;simp only[B9v];refine K5 (by simp[oBx,E7,d,Ne.symm d,d4,d5]<;>rfl) (by simp[oBx,E7,d,Ne.symm d,d4,d5,Ne.symm d4,Ne.symm d5]<;>exact⟨rfl,rfl⟩) [] trivial (U3 (by simp) (by simp) ?_);exact I7.of fun q hq=>by
  simp at hq;rcases hq with rfl|rfl|rfl|rfl|hq
  all_goals first|exact j4|exact j5|exact jM|exact hl q hq
def C0N:Except Int (List Tk)->AV
 | .ok l=>.tup [.sl (l.map j7),.int .i64 0]
 | .error e=>.tup [.nils,.int .i64 e]
theorem C2A{s:List UInt8}{acc:List Tk}{j:Nat}(h:n8 ((s.drop j).length+1) acc (s.drop j)=A1e s):blk false (s.drop j)=s.drop j->match s.drop j with
  | []=>A1e s = .ok acc
  | c::r=>match A0M c r with
   | .error e=>A1e s = .error e
   | .ok p=>if 300<acc.length+1 then A1e s = .error 2 else n8 ((blk false p.2).length+1) (acc++[p.1]) (blk false p.2)=A1e s:=by
 intro hb;rw[←h];unfold n8;rw[hb];cases hs:s.drop j with
 | nil=>rfl
 | cons c r =>
  simp only;cases hp:A0M c r with
  | error e=>rfl
  | ok p =>
   simp only;split
   ·rfl
   ·obtain⟨t,u⟩:=p;have h1:=A56 hp;have h2:=A2a false u;have hA:(blk false (blk false u)).length<(blk false u).length+1:=(by rw[A1S false u]; omega);have hB:(blk false (blk false u)).length<(c::r).length:=(by rw[A1S false u]; simp only[List.length_cons]; omega);exact A5q _ _ _ _ _ (A1S false u) hA hB
theorem B1L{s u:List UInt8}(h:u <:+ s):s.drop (atU s u)=u/\atU s u<=s.length:=by
 obtain⟨t,rfl⟩:=h;unfold atU;rw[List.length_append,Nat.add_sub_cancel];exact⟨List.drop_left,by omega⟩
theorem C3u{x m y c hh sk ex k l m4 sk2 n dd rt:Code}{X Y:Operand}{bi b1:Nat}(h:Tryz.f175.body=some (.seq x (.seq m (.seq y (.seq (.seq c (.block bi (.loop (.seq (.seq hh (.cond X sk ex)) (.seq (.block b1 (.seq k (.seq l (.cond Y m4 sk2)))) n))))) (.seq dd rt)))))):
  D2 Tryz.prog Tryz.f175.ntmps c=A8G/\D2 Tryz.prog Tryz.f175.ntmps (.seq (.seq hh (.cond X sk ex)) (.seq (.block b1 (.seq k (.seq l (.cond Y m4 sk2)))) n))=A5t/\D2 Tryz.prog Tryz.f175.ntmps hh=A8H/\D2 Tryz.prog Tryz.f175.ntmps k=A0N/\D2 Tryz.prog Tryz.f175.ntmps l=B19/\D2 Tryz.prog Tryz.f175.ntmps m4=A5s/\D2 Tryz.prog Tryz.f175.ntmps n=B1A/\D2 Tryz.prog Tryz.f175.ntmps (.seq dd rt) = .seq A8I CC.ret:=by
 obtain⟨_,_,kr⟩:=C2c h;obtain⟨_,_,e1,k1,h1⟩:=H3 kr;injection e1 with e1 e1'
 subst e1 e1';obtain⟨_,_,e2,k2,h2⟩:=H3 k1;injection e2 with e2 e2'
 subst e2 e2';obtain⟨_,e3,k3⟩:=A45 h2;injection e3 with _ e3
 subst e3;obtain⟨_,e4,k4⟩:=A9C k3;injection e4 with e4
 subst e4;have k4':=k4;unfold A5t at k4;obtain⟨_,_,e5,k5,h5⟩:=H3 k4;injection e5 with e5 e5'
 subst e5 e5';obtain⟨_,_,e6,k6,h6⟩:=H3 k5;injection e6 with e6 e6'
 subst e6 e6';obtain⟨_,_,e7,k7,h7⟩:=H3 h5;injection e7 with e7 e7'
 subst e7 e7';unfold B4W at k7;obtain⟨_,e8,k8⟩:=A45 k7;injection e8 with _ e8
 subst e8;obtain⟨_,_,e9,k9,h9⟩:=H3 k8;injection e9 with e9 e9'
 subst e9 e9';obtain⟨_,_,e10,k10,h10⟩:=H3 h9;injection e10 with e10 e10'
 subst e10 e10';obtain⟨_,_,_,e11,_,k11,_⟩:=A0r h10;injection e11 with _ e11 _
 subst e11;exact⟨k2,k4',k6,k9,k10,k11,h7,h1⟩
def P8:CC->List CR
 | .reg _ l _=>l
 | _=>[]
def C2B:CC->List (Nat×Nat)
 | .reg _ _ p=>p
 | _=>[]
def crsK:List CR:=P8 A0N
def psK:List (Nat×Nat):=C2B A0N
theorem C0O(s:List UInt8)(id:Nat)(h8:s.length<=1099511627776):A2 Tryz.prog 175 [.str s] [] id (C0N (A1e s)) []:=by
 refine⟨⟨_,Tryz.func175,by decide,rfl⟩,fun C G bx w vs nb hs hv hh hnb hid=>calls_of_wp_defers Tryz.func175 rfl ?_⟩;obtain⟨k1,k2,_⟩:=C2c rfl;obtain⟨kc,kL,kh,kk,kl,km,kn,kd⟩:=C3u rfl;have own:∀i,max nb (id+1024)<=i->bx i=none:=fun i hi=>by
  cases hbi:bx i with
  | none=>rfl
  | some b=>exact (hnb i (by omega) (hs.boxNames hbi).1).elim
 have old:∀i,G.used i->i<max nb (id+1024):=fun i hi=>by
  rcases Nat.lt_or_ge i nb with h|h
  ·omega
  ·exact (hnb i h hi).elim
 generalize max nb (id+1024)=n0 at own old;let E:Q7:=⟨Tryz.prog,C,bx,Tryz.f175.ntmps,n0,G,w,own,old,hs,[],fun _=>False,fun _ _=>False⟩
 have hD:R8 E ⟨A1o 0 [.str s],[],0⟩ G { tmps:=vs++Array.replicate (Tryz.f175.ntmps - vs.size) undef,defers:=[] } w:=by
  refine⟨L6.refl G w,hs,fun i hi=>by have:=old i hi; show i<n0+0; omega,fun i _ hi=>hi,fun n c v hl=>?_,?_,rfl⟩
  ·obtain⟨rfl,_,h3⟩:=A4e hl;simp only[Nat.sub_zero] at h3;refine⟨fun _=>?_,fun h=>by cases h⟩;have:=hv.2 n v h3;rw[Array.getD_eq_getD_getElem?] at this ⊢;rw[Array.getElem?_append_left (by rw[←hv.1]; exact (List.getElem?_eq_some_iff.1 h3).1)];exact this
  ·have:=hv.1;simp[Tryz.ntmps175] at this ⊢;show _=Tryz.f175.ntmps;simp[Tryz.ntmps175]; omega
 have hW:Wk E [.code B17,.post (fun σ=>σ=⟨[(3,true,.ptr (n0+1024) 0 0),(2,true,.ptr n0 0 0),(0,true,.str s)],[(n0+1024,some (E7 0)),(n0,some (oBx .nils))],2048⟩)] ⟨A1o 0 [.str s],[],0⟩:=by
  refine A3 4000 ?_;simp[B17,E,E7,oBx]
 refine wp_seq (wkN (E:=E) k1 hW (fun _ h=>h) (fun _ _ h=>h) hD fun τ G1 a w1 hD1 hτ=>?_);subst hτ;clear hW;obtain⟨at1,ad1⟩:=a;have hd0:ad1=[]:=hD1.defers;subst hd0;have hsz:5<at1.size:=by have:=hD1.size; simp only at this; rw[this]; show 5<Tryz.f175.ntmps; simp[Tryz.ntmps175]
 show (Code.seq _ _).wp _ _ _ _;refine wp_seq (C29 rfl hsz ?_);obtain⟨v4,hv4⟩:∃v4,at1[2]?.getD undef=v4:=⟨_,rfl⟩;obtain⟨v5,hv5⟩:∃v5,at1[3]?.getD undef=v5:=⟨_,rfl⟩;have g4:RV G1 w1 (.ptr n0 0 0) v4:=by
  have:=(hD1.fr 2 true _ rfl).1 rfl;rw[Array.getD_eq_getD_getElem?] at this;rw[←hv4]; exact this
 have g5:RV G1 w1 (.ptr (n0+1024) 0 0) v5:=by
  have:=(hD1.fr 3 true _ rfl).1 rfl;rw[Array.getD_eq_getD_getElem?] at this;rw[←hv5]; exact this
 rw[hv4,hv5];have own1:∀i,n0+2048<=i->ov bx [(n0+1024,some (E7 0)),(n0,some (oBx .nils))] i=none:=fun i hi=>by
  simp only[ov,U0];rw[if_neg (by omega),if_neg (by omega)];exact own i (by omega)
 have hev:L6 G w G1 w1:=hD1.ev;have hrs:RS C G1 (ov bx [(n0+1024,some (E7 0)),(n0,some (oBx .nils))]) w1:=hD1.rs;have hus:∀i,G1.used i->i<n0+2048:=hD1.used;have hol:∀i,i<n0->G1.used i->G.used i:=hD1.old;let D:List Deferred:=[⟨.fn (.func 247) #[v4,v5],#[]⟩]
 let E2:Q7:=⟨Tryz.prog,C,ov bx [(n0+1024,some (E7 0)),(n0,some (oBx .nils))],Tryz.f175.ntmps,n0+2048,G1,w1,own1,hus,hrs,D,fun _=>False,fun _ _=>False⟩
 have hD2:R8 E2 ⟨[(3,true,.ptr (n0+1024) 0 0),(2,true,.ptr n0 0 0),(0,true,.str s)],[(n0+1024,some (E7 0)),(n0,some (oBx .nils))],0⟩ G1 ⟨at1.setIfInBounds 5 (.func (.func 247) #[] #[v4,v5]),D⟩ w1:=by
  refine⟨L6.refl G1 w1,?_,fun i hi=>by have:=hus i hi; show i<n0+2048+0; omega,fun i _ hi=>hi,fun n c v hl=>?_,?_,rfl⟩
  ·show RS C G1 (ov (ov bx _) _) w1;simp only[ov];rw[X7 (f:=U0 (U0 bx n0 _) (n0+1024) _) (i:=n0) (by simp[U0]),X7 (i:=n0+1024) (by simp[U0])];exact hrs
  ·have:=hD1.fr n c v hl;have hn:n≠5:=fun h=>by subst h; simp at hl
   simp only[Array.getD_eq_getD_getElem?] at this ⊢;rw[Array.getElem?_setIfInBounds_ne (Ne.symm hn)];exact this
  ·have:=hD1.size;simp only[Array.size_setIfInBounds];exact this
 have hN2:E2.n0=n0+2048:=rfl;have hPr:E2.P=Tryz.prog:=rfl;have hinv:∀w3,(invoke (.fn (.func 247) #[v4,v5]) #[]).run Tryz.prog w3 = .ok (.enter 247 #[v4,v5]) w3:=fun w3=>by simp[go_sem]
 have pnk:∀{R:Ending->World->Prop} {e:Int} {k:Nat} {F:Fr} {l:List (Nat×Option Bx)} {G3:Gh} {a3:Act} {w3:World} {u:Value},(∀v G4 w4,RS C G4 bx w4->L6 G w G4 w4->RV G4 w4 (.tup [.nils,.int .i64 e]) v->(∀x,G4.used x->G.used x\/(id<=x/\x<id+1024))->R (.returned v) w4) ->
   F6 C Tryz.f175.ntmps D (n0+2048) G1 w1 F (ov E2.β l) (· < n0+2048+k) G3 a3 w3->RV G3 w3 (erV e) u->F 2=some (true,.ptr n0 0 0)->F 3=some (true,.ptr (n0+1024) 0 0) ->
   (∃x,(x = .nils\/∃M n,x = .bsl M 0 n)/\ov E2.β l n0=some (oBx x))->ov E2.β l (n0+1024)=some (E7 0)->(∀x∈l,n0<=x.1)->Leaves Tryz.prog Tryz.f175 a3.tmps R a3.defers (.panicking [{ v:=u,recovered:=false }]) w3:=fun {R e k F l G3 a3 w3 u} hR h1 h2 f4 f5 h4 h5 hl=>by
  obtain⟨x,hx,b4⟩:=h4;rw[show a3.defers=D from h1.defers];have hus3:=h1.used;have hrs3:=h1.rs;refine leaves_cons (by simp) (hinv w3) ((C0H C G3 _ w3 e x 0 hx _ n0 (n0+1024) v4 v5 u hrs3 (g4.mono h1.ev) (g5.mono h1.ev) h2 b4 h5 (by omega) hus3 (fun x hx=>?_)).mono ?_)
  ·cases hb:ov E2.β l x with
   | none=>rfl
   | some b=>have:=hus3 x (hrs3.boxNames hb).1; omega
  rintro e' u' w' ⟨rfl,⟨v,rfl⟩,G4,l',k',r1,r2,r3,r4,r5,r6,r7⟩;have hx:=F6.step h1 r1 r2 (U':=fun x=>x<n0+(2048+k+k')) (fun x hx=>by have:=r7 x hx; omega) (fun x hx hu=>r6 x (by omega) hu);rw[←Y3] at hx;have h':=hx.rebase (n0:=n0) (by omega) hev hol;have e4:=R3 (ov E2.β l) r3;have e5:=R3 (ov E2.β l) r4;have hE:∀m,ov E2.β m=ov bx (m++[(n0+1024,some (E7 0)),(n0,some (oBx .nils))]):=fun m=>(Y3 bx m _).symm;rw[hE] at h';rw[←Y3,hE] at e4 e5;obtain⟨v,s1,G5,s2,s3,s4,s5⟩:=C0L own old hs hid h' f4 f5 e4 e5 (fun x hx=>by
   rcases List.mem_append.1 hx with hx|hx
   ·rcases List.mem_append.1 hx with hx|hx
    ·rcases r5 x hx with h|h|h
     ·omega
     ·omega
     ·omega
    ·exact hl x hx
   ·simp at hx;rcases hx with rfl|rfl<;>simp) (by omega) (by omega) (by omega)
  exact⟨v,s1,hR v G5 w' s2 s3 s4 s5⟩
 have hR0:∀{e:Int},A1e s = .error e->∀v G4 w4,RS C G4 bx w4->L6 G w G4 w4->RV G4 w4 (.tup [.nils,.int .i64 e]) v->(∀x,G4.used x->G.used x\/(id<=x/\x<id+1024)) ->
   ∃v' G',Ending.returned v = .returned v'/\RS C G' (F3 bx []) w4/\L6 G w G' w4/\RV G' w4 (C0N (A1e s)) v'/\∀x,G'.used x->G.used x\/(id<=x/\x<id+1024):=fun {e} hn v G4 w4 r1 r2 r3 r4=>by
  refine⟨v,G4,rfl,r1,r2,?_,r4⟩;rw[hn]; exact r3
 have hW2:Wk E2 [.code B18,.post (fun σ=>σ=⟨[(4,true,.ptr (E2.n0+2048) 0 0),(8,true,.ptr (E2.n0+2048) 0 0),(7,true,.agg [.str s,.int .i64 0]),(6,true,.str s),(3,true,.ptr (n0+1024) 0 0),(2,true,.ptr n0 0 0),(0,true,.str s)],
   [(E2.n0+2048,some (rB s 0)),(n0+1024,some (E7 0)),(n0,some (oBx .nils))],4096⟩)] ⟨[(3,true,.ptr (n0+1024) 0 0),(2,true,.ptr n0 0 0),(0,true,.str s)],[(n0+1024,some (E7 0)),(n0,some (oBx .nils))],0⟩:=by
  clear hD hD1 hD2 pnk hR0;refine A3 4000 ?_;simp[B18,hN2,rB]
 show (Code.seq _ _).wp _ _ _ _;refine wp_seq (wkN (E:=E2) k2 hW2 (fun _ h=>h) (fun _ _ h=>h) hD2 fun τ G2 a2 w2 hD3 hτ=>?_);subst hτ;clear hW2;have w4:n0<E2.n0:=by omega
 have w5:n0+1024<E2.n0:=by omega
 have wd:n0≠n0+1024:=by omega
 have kc':=C5B E2 hPr n0 (n0+1024) w4 w5 wd s h8;show (Code.seq _ _).wp _ _ _ _;refine wp_seq ?_;show (Code.seq _ _).wp _ _ _ _;refine wp_seq (wkN (E:=E2) kc kc' (fun _ h=>h) (fun _ _ h=>h) hD3 fun τ G3 a3 w3 hD4 hτ=>?_);obtain⟨G4,hD5⟩:=hτ G3 a3 w3 hD4;show (Code.block _ _).wp _ _ _ _;refine wp_block ?_;refine C5A (E:=E2) (c7 E2 n0 (n0+1024) s) (fun q=>q.2<=s.length/\blk false (s.drop q.2)=s.drop q.2/\n8 ((s.drop q.2).length+1) q.1 (s.drop q.2)=A1e s/\q.1.length<=300) (fun q=>s.length - q.2) ([],A16 s 0) ?_ hD5 ?_
 ·obtain⟨q1,q2⟩:=B1L (s:=s) (u:=blk false (s.drop 0)) (A3m false s);refine⟨q2,?_,?_,by simp⟩
  ·show blk false (s.drop (A16 s 0))=s.drop (A16 s 0);unfold A16;rw[q1,A1S]
  ·show n8 ((s.drop (A16 s 0)).length+1) [] (s.drop (A16 s 0))=A1e s;unfold A16;rw[q1];have h2:=A2a false s;exact A5q _ _ _ _ _ (A1S false s) (by rw[List.drop_zero,A1S]; omega) (by rw[List.drop_zero,A1S]; omega)
 rintro⟨acc,j⟩ ⟨hj,hbl,hto,hac⟩ G5 a5 w5' hD6;simp only at hj hbl hto hac;have hta:=C2A hto hbl;have hinvF:∀(q:List Tk×Nat),lk (c7 E2 n0 (n0+1024) s q).fr 2=some (true,.ptr n0 0 0)/\lk (c7 E2 n0 (n0+1024) s q).fr 3=some (true,.ptr (n0+1024) 0 0):=fun q=>⟨rfl,rfl⟩;rcases Nat.lt_or_ge j s.length with hlt|hge
 rotate_left
 ·-- the end
  have hjs:j=s.length:=by omega
  subst hjs;rw[List.drop_length] at hta;have hta:A1e s = .ok acc:=hta;have hWa:=C5C E2 hPr n0 (n0+1024) w4 w5 wd s h8 acc;refine wp_mono (hWa _ kL G5 a5 w5' hD6) fun e a6 w6 hq=>?_;cases e with
  | normal=>obtain⟨_,_,_,h⟩:=hq; exact h.elim
  | ret=>obtain⟨_,_,_,h⟩:=hq; exact h.elim
  | panic chain=>obtain⟨_,_,_,_,_,_,_,_,_,_,_,h⟩:=hq; exact h.elim
  | exit i =>
   obtain⟨σ,G6,hD7,hx⟩:=hq;have hx:(if i=0 then E5 E2 σ (c7 E2 n0 (n0+1024) s (acc,s.length)) else False):=hx;split at hx
   rotate_left
   ·exact hx.elim
   rename_i hi0;subst hi0;obtain⟨G7,hD8⟩:=hx G6 a6 w6 hD7;show (Code.seq _ _).wp _ _ _ _;let E3:Q7:={ E2 with Rt:=fun σ=>bk σ.bx n0=some (oBx (.bsl (n0+2049) 0 acc.length))/\bk σ.bx (n0+1024)=some (E7 0)/\bk σ.bx (n0+2049)=some ⟨acc.map j7,.agg [.int .i64 0,.str [],.int .i64 0],false,false⟩/\lk σ.fr 2=some (true,.ptr n0 0 0)/\lk σ.fr 3=some (true,.ptr (n0+1024) 0 0)/\∀x∈σ.bx,n0<=x.1 }
   have hRt:∀σ,E3.Rt σ=(bk σ.bx n0=some (oBx (.bsl (n0+2049) 0 acc.length))/\bk σ.bx (n0+1024)=some (E7 0)/\bk σ.bx (n0+2049)=some ⟨acc.map j7,.agg [.int .i64 0,.str [],.int .i64 0],false,false⟩/\lk σ.fr 2=some (true,.ptr n0 0 0)/\lk σ.fr 3=some (true,.ptr (n0+1024) 0 0)/\∀x∈σ.bx,n0<=x.1):=fun _=>rfl;have hN3:E3.n0=n0+2048:=rfl;have hW3:Wk E3 [.code (.seq A8I CC.ret)] (c7 E2 n0 (n0+1024) s (acc,s.length)):=by
    clear hD hD1 hD2 hD3 hD4 hD5 hD6 hD7 hD8 pnk hR0;unfold c7 oBx E7 rB;refine A3 4000 ?_;simp[A8I,hN3,hN2,hRt,oBx,E7];omega
   have ends:∀{R:Ending->World->Prop} {σ:St} {G8:Gh} {a7:Act} {w7:World},(∀v G4 w4,RS C G4 bx w4->L6 G w G4 w4->RV G4 w4 (.tup [.sl (acc.map j7),.int .i64 0]) v->(∀x,G4.used x->G.used x\/(id<=x/\x<id+1024))->R (.returned v) w4)->R8 E3 σ G8 a7 w7->E3.Rt σ->Leaves Tryz.prog Tryz.f175 a7.tmps R a7.defers .returning w7:=fun {R σ G8 a7 w7} hR h1 h2=>by
    obtain⟨b4,b5,bM,f4,f5,hl⟩:=h2;rw[show a7.defers=D from h1.defers];refine leaves_cons (by simp) (hinv w7) ((C0I v4 v5 w7).mono ?_);rintro e u' w' ⟨rfl,⟨v,rfl⟩,rfl⟩;have h1':=h1.weak (U':=fun x=>x<n0+(2048+σ.k)) (fun x hx=>by have:x<n0+2048+σ.k:=hx; omega);have h':=h1'.rebase (n0:=n0) (by omega) hev hol;have hE:ov E3.β σ.bx=ov bx (σ.bx++[(n0+1024,some (E7 0)),(n0,some (oBx .nils))]):=(Y3 bx σ.bx _).symm;have e4:=R3 E3.β b4;have e5:=R3 E3.β b5;have eM:=R3 E3.β bM;rw[hE] at h' e4 e5 eM;obtain⟨v,r1,G9,r2,r3,r4,r5⟩:=C0M own old hs hid h' f4 f5 e4 e5 eM (fun x hx=>by
     rcases List.mem_append.1 hx with hx|hx
     ·exact hl x hx
     ·simp at hx;rcases hx with rfl|rfl<;>simp) (by omega) (by omega) (by omega) (by omega) (by omega) (by omega)
    exact⟨v,r1,hR v G9 w' r2 r3 r4 r5⟩
   have hR1:∀v G4 w4,RS C G4 bx w4->L6 G w G4 w4->RV G4 w4 (.tup [.sl (acc.map j7),.int .i64 0]) v->(∀x,G4.used x->G.used x\/(id<=x/\x<id+1024)) ->
     ∃v' G',Ending.returned v = .returned v'/\RS C G' (F3 bx []) w4/\L6 G w G' w4/\RV G' w4 (C0N (A1e s)) v'/\∀x,G'.used x->G.used x\/(id<=x/\x<id+1024):=fun v G4 w4 r1 r2 r3 r4=>by
    refine⟨v,G4,rfl,r1,r2,?_,r4⟩;rw[hta]; exact r3
   refine wp_mono (hW3 _ kd G7 _ w6 hD8) fun e a7 w7 hq=>?_;cases e with
   | ret =>
    obtain⟨σ,G8,h1,h2⟩:=hq;exact ends hR1 h1 h2
   | normal =>
    obtain⟨σ,G8,h1,h2⟩:=hq;exact ends hR1 h1 h2
   | exit id=>obtain⟨_,_,_,h2⟩:=hq; exact h2.elim
   | panic chain=>obtain⟨_,_,_,_,_,_,_,_,_,_,_,h⟩:=hq; exact h.elim
   | _=>exact hq.elim
  | _=>exact hq.elim
 obtain⟨c,hcj,hdj⟩:=B6 hlt;rw[hdj] at hta;have hta:match A0M c (s.drop (j+1)) with
   | .error e=>A1e s = .error e
   | .ok p=>if 300<acc.length+1 then A1e s = .error 2 else n8 ((blk false p.2).length+1) (acc++[p.1]) (blk false p.2)=A1e s:=hta
 have hWh:=C5D E2 hPr n0 (n0+1024) w4 w5 wd s h8 acc j hlt;show (Code.seq _ _).wp _ _ _ _;refine wp_seq ?_;show (Code.seq _ _).wp _ _ _ _;refine wp_seq (wkN (E:=E2) kh hWh (fun _ h=>h) (fun _ _ h=>h) hD6 fun τ G6 a6 w6 hD7 hτ=>?_);obtain⟨h17,hcv⟩:=hτ;have he:a6.eval (.tmp 17) = .bool true:=by
  have hr:=(hD7.fr 17 true _ h17).1 rfl;show a6.tmps.getD 17 undef=_;generalize a6.tmps.getD 17 undef=v at hr;cases hr; rfl
 obtain⟨G7,hD8⟩:=hcv G6 a6 w6 hD7;show (Code.cond (.tmp 17) _ _).wp _ _ _ _;refine wp_cond_split he (fun _=>?_) (fun hb=>by cases hb);refine wp_skip ?_;show (Code.seq _ _).wp _ _ _ _;refine wp_seq ?_;show (Code.block _ _).wp _ _ _ _;refine wp_block ?_;show (Code.seq _ _).wp _ _ _ _;cases hpt:A0M c (s.drop (j+1)) with
 | error e =>
  rw[hpt] at hta;have hta:A1e s = .error e:=hta;have hT:=fun id=>B3G s j c _ (n0+2048) id hj hdj h8;rw[hpt] at hT;have hT:∀id,C13 Tryz.prog 249 [.ptr (n0+2048) 0 0] [(n0+2048,rB s j)] id (erV e):=hT;refine wp_seq ?_;obtain⟨ri,ro,re,rg⟩:=A4c (show D2 Tryz.prog Tryz.f175.ntmps _ = .reg true (crsK.take 2++crsK.getD 2 default::([]++crsK.drop 3)) psK from kk);rw[re];refine A7W (E:=E2) (σ:=c7 E2 n0 (n0+1024) s (acc,j)) (pv:=erV e) (l1:=crsK.take 2) (c:=crsK.getD 2 default) (l2:=[]) (l3:=crsK.drop 3) rg
   (rs1:=[⟨true,.bsl (n0+2049) 0 acc.length,[(n0,oBx (.bsl (n0+2049) 0 acc.length))],[]⟩,⟨true,.ptr (n0+2048) 0 0,[],[]⟩]) (r:=⟨true,.nili,[(n0+2048,rB s j)],goL [(n0+2048,rB s j)]⟩) (rs2:=[]) ?_ ?_ trivial ?_ (fun F B k' G9 u a9 w9 q1 q2 q3 q4=>?_) hD8
  ·simp only[crsK,P8,A0N,CC.d,List.take,u6,CR.l,CR.m,St.app,B0V,g8,c7,oBx,E7,rB];refine⟨A5S (by simp) (by simp[hN2]),A5S (by simp) (by simp[hN2]),trivial⟩
  ·simp[crsK,P8,A0N,St.apps,St.app,c7,oBx,E7,rB];refine B51 (by simp) (by simp<;>rfl) (hT _) (by simp[hN2])
  ·simp only[crsK,P8,psK,C2B,B3q,A0N,CC.d,List.map,List.append,A17,List.take,List.length,List.drop,List.cons_append,List.nil_append];simp[V2,hN2]
  ·have hB:=C0J q3;rw[hB] at q1;have f2:=q2 2 (by decide);have f3:=q2 3 (by decide);refine pnk (k:=k') (hR0 hta) q1 q4 f2 f3 ?_ ?_ ?_
   ·rw[←hB];rcases q3 n0 with h|h
    ·exact⟨.nils,.inl rfl,by rw[h]; simp[E2,ov,U0]⟩
    ·simp[crsK,P8,A0N,St.apps,St.app,c7,goL,g8,B0V,hN2] at h;rcases h with h|⟨h,_⟩
     ·exact⟨_,.inr ⟨_,_,rfl⟩,h⟩
     ·omega
   ·rw[←hB];rcases q3 (n0+1024) with h|h
    ·rw[h]; simp[E2,ov,U0]
    ·simp[crsK,P8,A0N,St.apps,St.app,c7,goL,g8,B0V,hN2] at h;exact h
   ·intro x hx;simp[crsK,P8,A0N,St.apps,St.app,c7,goL,g8,B0V,hN2] at hx;rcases hx with rfl|rfl|rfl|rfl|rfl<;>simp<;>omega
 | ok p =>
  obtain⟨t,u⟩:=p;rw[hpt] at hta;simp only at hta;have hWk:=C5E E2 hPr n0 (n0+1024) w4 w5 wd s h8 acc j hj c _ u t hdj hpt hac;refine wp_seq (wkN (E:=E2) kk hWk (fun _ h=>h) (fun _ _ h=>h) hD8 fun τ G8 a8 w8 hD9 hτ=>?_);obtain⟨G9,hD10⟩:=hτ G8 a8 w8 hD9;by_cases hmany:300<acc.length+1
  ·rw[if_pos hmany] at hta;have hWl:=C2b E2 hPr n0 (n0+1024) w4 w5 wd s h8 (acc++[t]) (atU s u) true (by simp; omega);show (Code.seq _ _).wp _ _ _ _;refine wp_seq (wkN (E:=E2) kl hWl (fun _ h=>h) (fun _ _ h=>h) hD10 fun τ G10 a10 w10 hD11 hτ=>?_);obtain⟨h27,hcv⟩:=hτ;have he:a10.eval (.tmp 27) = .bool true:=by
    have hr:=(hD11.fr 27 true _ h27).1 rfl;show a10.tmps.getD 27 undef=_;generalize a10.tmps.getD 27 undef=v at hr;cases hr; rfl
   obtain⟨G11,hD12⟩:=hcv G10 a10 w10 hD11;show (Code.cond (.tmp 27) _ _).wp _ _ _ _;refine wp_cond_split he (fun _=>?_) (fun hb=>by cases hb);have hf:=fun id=>A27 2 id;let E1:Q7:={ E2 with Pn:=fun pv σ=>pv=erV 2/\bk σ.bx n0=some (oBx (.bsl (n0+2049) 0 (acc++[t]).length))/\bk σ.bx (n0+1024)=some (E7 0)/\lk σ.fr 2=some (true,.ptr n0 0 0)/\lk σ.fr 3=some (true,.ptr (n0+1024) 0 0)/\∀x∈σ.bx,n0<=x.1 }
   have hN1:E1.n0=n0+2048:=rfl;have hP1:E1.P=Tryz.prog:=rfl;have hW5:Wk E1 [.ops (P8 A5s) 0 [] [],.post (fun _=>False)] (c7 E2 n0 (n0+1024) s (acc++[t],atU s u)):=by
    clear hD hD1 hD2 hD3 hD4 hD5 hD6 hD7 hD8 hD9 hD10 hD11 hD12 pnk hR0;unfold c7;refine A3 4000 ?_;simp[P8,A5s];refine D5 hP1 rfl (hf _) (by simp) (by simp) (fun pv hpv=>⟨by simp,by injection hpv with hpv; subst hpv; exact⟨rfl,by simp[hN2,oBx],by simp[hN2,E7],rfl,rfl,by simp[hN2]; omega⟩⟩) (fun v wr h=>by cases h)
   refine B0f (E:=E1) (crs:=P8 A5s) (km.trans rfl) hW5 hD12 (fun σ G3 a3 w3 h1 h2=>h2.elim) (fun pv u σ G13 a13 w13 h1 h2 h3=>?_);obtain⟨rfl,b4,b5,f4,f5,hl⟩:=h3;exact pnk (k:=2+1024*(P8 A5s).length) (hR0 hta) (h1.weak fun x hx=>by simp only[E1,c7] at hx; omega) h2 f4 f5 ⟨_,.inr ⟨_,_,rfl⟩,R3 _ b4⟩ (R3 _ b5) hl
  ·rw[if_neg hmany] at hta;have hWl:=C2b E2 hPr n0 (n0+1024) w4 w5 wd s h8 (acc++[t]) (atU s u) false (by simp; omega);show (Code.seq _ _).wp _ _ _ _;refine wp_seq (wkN (E:=E2) kl hWl (fun _ h=>h) (fun _ _ h=>h) hD10 fun τ G10 a10 w10 hD11 hτ=>?_);obtain⟨h27,hcv⟩:=hτ;have he:a10.eval (.tmp 27) = .bool false:=by
    have hr:=(hD11.fr 27 true _ h27).1 rfl;show a10.tmps.getD 27 undef=_;generalize a10.tmps.getD 27 undef=v at hr;cases hr; rfl
   obtain⟨G11,hD12⟩:=hcv G10 a10 w10 hD11;show (Code.cond (.tmp 27) _ _).wp _ _ _ _;refine wp_cond_split he (fun hb=>by cases hb) (fun _=>?_);refine wp_skip ?_;have hus2:u <:+ s:=by
    refine (A56 hpt).2.trans ?_;exact List.drop_suffix _ _
   obtain⟨q1,q2⟩:=B1L hus2;have hWn:=C5F E2 hPr n0 (n0+1024) w4 w5 wd s h8 (acc++[t]) (atU s u) q2;refine wkN (E:=E2) kn hWn (fun _ h=>h) (fun _ _ h=>h) hD12 fun τ G12 a12 w12 hD13 hτ=>?_;obtain⟨G13,hD14⟩:=hτ G12 a12 w12 hD13;obtain⟨p1,p2⟩:=B1L (s:=s) (u:=blk false u) ((A3m false u).trans hus2);have hu1:=(A56 hpt).1;have hu2:=A2a false u;have hjl:(s.drop (j+1)).length+(j+1)=s.length:=(by rw[List.length_drop]; omega);have hbb:A16 s (atU s u)=atU s (blk false u):=(by unfold A16; rw[q1]);show ∃x' G',_/\_/\_;refine⟨(acc++[t],A16 s (atU s u)),G13,⟨?_,?_,?_,by simp; omega⟩,?_,hD14⟩
   ·show A16 s (atU s u)<=s.length;rw[hbb]; exact p2
   ·show blk false (s.drop (A16 s (atU s u)))=s.drop (A16 s (atU s u));rw[hbb,p1,A1S]
   ·show n8 ((s.drop (A16 s (atU s u))).length+1) (acc++[t]) (s.drop (A16 s (atU s u)))=A1e s;rw[hbb,p1]; exact hta
   ·show s.length - A16 s (atU s u)<s.length - j;rw[hbb];unfold atU;omega
theorem C2C(s:List UInt8)(id:Nat):A2 Tryz.prog 108 [.str s] [] id (C0N (A55 s)) []:=by
 by_cases h:2000<s.length
 ·have e:C0N (A55 s) = .tup [.nils,.int .i64 2]:=by unfold A55; rw[if_pos h]; rfl
  rw[e];refine w108.e.1 fun E hP hR hl hid=>?_;simp[w108];refine B2 (by simp; omega) ?_;simp;exact yP hR
 ·have e:A55 s=A1e s:=by unfold A55; rw[if_neg h]
  have hA:=fun id=>C0O s id (by omega);rw[e];cases hf:A1e s with
  | ok l =>
   rw[hf] at hA;have hA:∀id,A2 Tryz.prog 175 [.str s] [] id (.tup [.sl (l.map j7),.int .i64 0]) []:=hA;show A2 _ _ _ _ _ (.tup [.sl (l.map j7),.int .i64 0]) _;refine w108.e.1 fun E hP hR hl hid=>?_;simp[w108];refine A0 (by simp; omega) ?_;simp;(refine yH rfl (hA _) ?_; simp);exact yP hR
  | error e =>
   rw[hf] at hA;have hA:∀id,A2 Tryz.prog 175 [.str s] [] id (.tup [.nils,.int .i64 e]) []:=hA;show A2 _ _ _ _ _ (.tup [.nils,.int .i64 e]) _;refine w108.e.1 fun E hP hR hl hid=>?_;simp[w108];refine A0 (by simp; omega) ?_;simp;(refine yH rfl (hA _) ?_; simp);exact yP hR
@[simp] theorem A5y (t:Tk):(j7 t).pureB=true:=rfl
@[simp] theorem B7Q (l:List Int):F8 (l.map (AV.int .i64))=true:=E8 (fun _=>rfl) l
@[simp] theorem C3v (S:Nat->Prop) (l:List Int):F2 S (l.map (AV.int .i64)):=B4 _ (B7Q l)
def tB(z l:List Tk):Bx:=⟨[.agg [.sl (l.map j7)]],.agg [.sl (z.map j7)],false,false⟩
theorem B7(z l:List Tk):tB z l=⟨[.agg [.sl (l.map j7)]],.agg [.sl (z.map j7)],false,false⟩:=rfl
def rdT(J:Nat)(z:List Tk):Option (AV×List Tk)->Except AV (AV×List (Nat×Option Bx))
 | some (v,u)=>.ok (v,[(J,some (tB z u))])
 | none=>.error (erV 1)
theorem A8S(e:Int)(id:Nat):Y0 Tryz.prog 176 [.int .i64 e] [] id (.error (erV e)):=by
 refine A31 w176.hf w176.hc w176.hn w176.hr (by simp[Tryz.ntmps176]) fun E hP hR hPn hl hid hB hu=>?_;refine A3 9 ?_;simp[w176];refine B0e (by simp<;>rfl) (by simp) ⟨by simp,hPn _ _ rfl rfl (by simp)⟩
theorem B5z(z l:List Tk)(c:UInt8)(J id:Nat):A2 Tryz.prog 177 [.ptr J 0 0,.str [c]] [(J,tB z l)] id (.bool (isS l c)) []:=by
 rw[B7];cases l with
 | nil =>
  refine w177.e.1 fun E hP hR hl hid=>?_;simp[w177];have hJ:=hl (J,_) (List.mem_cons_self ..);simp only at hJ;have J1:=lf hJ;refine yE hR [] (by simp[isS,J1,A4 hid]) fun hrn=>⟨?_,?_,?_,?_,?_,?_⟩<;>(try simp[isS,J1,A4 hid]);all_goals exact B4 _ (by simp[F8,A5y])
 | cons t l =>
  refine w177.e.1 fun E hP hR hl hid=>?_;simp[w177];have hJ:=hl (J,_) (List.mem_cons_self ..);simp only at hJ;have J1:=lf hJ;simp[j7,J1];refine yE hR [] (by simp[isS,j7,J1,A4 hid]) fun hrn=>⟨?_,?_,?_,?_,?_,?_⟩<;>(try simp[isS,j7,J1,A4 hid]);all_goals exact B4 _ (by simp[F8,A5y])
theorem C0P(z l:List Tk)(J id:Nat):Y0 Tryz.prog 110 [.ptr J 0 0] [(J,tB z l)] id (if l=[] then .ok (.tup [],[]) else .error (erV 1)):=by
 have hf:=fun id=>A8S 1 id;rw[B7];cases l with
 | nil =>
  refine w110.x.1 fun E hP hR hPn hl hid hB hu=>?_;simp[w110];have hJ:=hl (J,_) (List.mem_cons_self ..);simp only at hJ;have J1:=lf hJ;have hrn:H2 []:=by simp[J1,A4 hid]
  refine hR _ _ _ (rfl) ?_;refine E9 (by simp[J1,A4 hid]<;>rfl) [] hrn ⟨?_,?_,?_,?_,?_,?_⟩<;>(try simp[J1,A4 hid]);all_goals exact B4 _ (by simp[F8,A5y])
 | cons t l =>
  rw[if_neg (by simp)];refine w110.x.1 fun E hP hR hPn hl hid hB hu=>?_;simp[w110];have hJ:=hl (J,_) (List.mem_cons_self ..);simp only at hJ;have J1:=lf hJ;refine D5 hP rfl (hf _) (by simp[J1]) (by simp[J1]<;>rfl) (fun pv hpv=>⟨by simp[J1],by injection hpv with hpv; subst hpv; exact hPn _ _ (rfl) rfl (by simp[J1])⟩) (fun v wr h=>by cases h)
theorem B7R(ks:List Int)(x:Int)(id:Nat)(h8:ks.length<=1000000):A2 Tryz.prog 224 [.sl (ks.map (.int .i64)),.int .i64 x] [] id (.int .i64 (C2 (fun y=>y==x) ks 0)) []:=by
 have hp:F8 (ks.map (AV.int .i64))=true:=E8 (fun _=>rfl) ks;refine w224.e.1 fun E hP hR hl hid=>?_;simp[w224];refine D3 (X:=Nat) (fun i=>⟨[(0,true,.sl (ks.map (.int .i64))),(1,true,.int .i64 x),(7,true,.int .i64 ks.length),(8,true,.int .i64 i)],[],0⟩)
  (fun i=>i<=ks.length/\C2 (fun y=>y==x) (ks.drop i) i=C2 (fun y=>y==x) ks 0) (fun i=>ks.length - i) 0 ?_ ⟨by omega,rfl⟩ ?_
 ·refine yV [] (by simp) fun hrn=>⟨?_,?_,?_,?_,?_⟩<;>(try simp)
 rintro i ⟨hi,hf⟩ p hpp;rcases Nat.lt_or_ge i ks.length with h|h
 ·obtain⟨y,hy,hd⟩:=B6 h;have hli:ks[i]=y:=by
   rw[List.getElem?_eq_getElem h] at hy;injection hy
  have hi1:IntKind.i64.wrap ((i:Int)+1)=((i+1:Nat):Int):=A5 (by omega);rw[hd] at hf;simp only[C2] at hf;refine A3 4000 ?_;simp[h,hli];by_cases hxy:y=x
  ·rw[if_pos (by simpa using hxy)] at hf;rw[←hf] at hR;refine B2 (by simp[hxy]) ?_;simp;exact yP hR
  ·rw[if_neg (by simpa using hxy)] at hf;refine A0 (by simpa using fun q=>hxy q.symm) ?_;simp;refine hpp _ (i+1) ⟨h,hf⟩ (by omega) ?_;refine yV [] (by simp[hi1]) fun hrn=>⟨?_,?_,?_,?_,?_⟩<;>(try simp[hi1])
 ·rw[List.drop_of_length_le h] at hf;have hf : -1=C2 (fun y=>y==x) ks 0:=hf;rw[←hf] at hR;refine A3 4000 ?_;simp[Nat.not_lt.2 h];exact yP hR
theorem A5C(ks:List Int)(x:Int)(id:Nat)(h8:ks.length<=1000000):A2 Tryz.prog 159 [.sl (ks.map (.int .i64)),.int .i64 x] [] id (.bool (ks.any (·==x))) []:=by
 have hI:=fun id=>B7R ks x id h8;rw[←U8 (fun y=>y==x) ks 0];refine w159.e.1 fun E hP hR hl hid=>?_;simp[w159];(refine yH rfl (hI _) ?_; simp);exact yP hR
def isK(ks:List Int)(l:List Tk):Bool:=match l with
 | t::_=>ks.any (·==t.kind)
 | []=>false
theorem B60(z l:List Tk)(t:Tk)(ks:List Int)(J id:Nat)(hk:ks.any (·==t.kind)=true)(h8:ks.length<=1000000):
  A2 Tryz.prog 251 [.ptr J 0 0,.sl (ks.map (.int .i64))] [(J,tB z (t::l))] id (j7 t) [(J,some (tB z l))]:=by
 have hC:=fun id=>A5C ks t.kind id h8;rw[hk] at hC;rw[B7,B7];have hne:(((l.length:Int)+1)==0)=false:=by rw[beq_eq_false_iff_ne]; omega
 have het:j7 t = .agg [.int .i64 t.kind,.str t.text,.int .i64 t.n]:=rfl;refine w251.e.1 fun E hP hR hl hid=>?_;simp[w251];have hJ:=hl (J,_) (List.mem_cons_self ..);simp only at hJ;have J1:=lf hJ;simp[hne,het,J1];(refine I0 hP (by simp[hne,het,J1]) rfl (fun hc=>⟨hC _,by revert hc; simp[hne,het,J1]; try grind,by simp[hne,het,J1]⟩) ?_; refine A3 4000 ?_; simp[hne,het,J1]);refine⟨⟨fun a _=>rfl,by omega⟩,?_⟩;refine yE hR [] (by simp[het,J1,A4 hid]) fun hrn=>⟨?_,?_,?_,?_,?_,?_⟩<;>(try simp[het,J1,A4 hid])
theorem B61(z l:List Tk)(ks:List Int)(J id:Nat)(hk:isK ks l=false)(h8:ks.length<=1000000):
  Y0 Tryz.prog 251 [.ptr J 0 0,.sl (ks.map (.int .i64))] [(J,tB z l)] id (.error (erV 1)):=by
 have hf:=fun id=>A8S 1 id;rw[B7];cases l with
 | nil =>
  refine w251.x.1 fun E hP hR hPn hl hid hB hu=>?_;simp[w251];have hJ:=hl (J,_) (List.mem_cons_self ..);simp only at hJ;have J1:=lf hJ;simp[J1];refine I0 hP (by simp) rfl (v:=.bool false) (rd:=[]) (fun hh=>by simp at hh) ?_;refine A3 4000 ?_;simp[J1];refine D5 hP rfl (hf _) (by simp[J1]) (by simp[J1]<;>rfl) (fun pv hpv=>⟨by simp[J1],by injection hpv with hpv; subst hpv; exact hPn _ _ (rfl) rfl (by simp[J1])⟩) (fun v wr h=>by cases h)
 | cons t l =>
  have hC:=fun id=>A5C ks t.kind id h8;have hk:ks.any (·==t.kind)=false:=hk;rw[hk] at hC;have hne:(((l.length:Int)+1)==0)=false:=by rw[beq_eq_false_iff_ne]; omega
  have het:j7 t = .agg [.int .i64 t.kind,.str t.text,.int .i64 t.n]:=rfl;refine w251.x.1 fun E hP hR hPn hl hid hB hu=>?_;simp[w251];have hJ:=hl (J,_) (List.mem_cons_self ..);simp only at hJ;have J1:=lf hJ;simp[hne,het,J1];(refine I0 hP (by simp[hne,het,J1]) rfl (fun hc=>⟨hC _,by revert hc; simp[hne,het,J1]; try grind,by simp[hne,het,J1]⟩) ?_; refine A3 4000 ?_; simp[hne,het,J1]);refine D5 hP rfl (hf _) (by simp[J1]) (by simp[J1]<;>rfl) (fun pv hpv=>⟨by simp[J1],by injection hpv with hpv; subst hpv; exact hPn _ _ (rfl) rfl (by simp[J1])⟩) (fun v wr h=>by cases h)
theorem B1M(z l:List Tk)(c:UInt8)(J id:Nat)(h:isS l c=true):
  A2 Tryz.prog 111 [.ptr J 0 0,.str [c]] [(J,tB z l)] id (.tup []) [(J,some (tB z (l.drop 1)))]:=by
 have hI:=fun id=>B5z z l c J id;rw[h] at hI;cases l with
 | nil=>cases h
 | cons t l =>
  rw[B7] at hI;rw[List.drop_one,List.tail_cons,B7,B7];refine w111.e.1 fun E hP hR hl hid=>?_;simp[w111];have hJ:=hl (J,_) (List.mem_cons_self ..);simp only at hJ;have J1:=lf hJ;(refine yC rfl (hI _) ?_; simp[J1]);refine⟨by simp[j7]; omega,?_⟩;refine yE hR [] (by simp[J1,A4 hid]) fun hrn=>⟨?_,?_,?_,?_,?_,?_⟩<;>(try simp[J1,A4 hid])
theorem B62(z l:List Tk)(c:UInt8)(J id:Nat)(h:isS l c=false):
  Y0 Tryz.prog 111 [.ptr J 0 0,.str [c]] [(J,tB z l)] id (.error (erV 1)):=by
 have hI:=fun id=>B5z z l c J id;have hf:=fun id=>A8S 1 id;rw[h] at hI;rw[B7] at *;refine w111.x.1 fun E hP hR hPn hl hid hB hu=>?_;simp[w111];have hJ:=hl (J,_) (List.mem_cons_self ..);simp only at hJ;have J1:=lf hJ;(refine yC rfl (hI _) ?_; simp[J1]);refine D5 hP rfl (hf _) (by simp[J1]) (by simp[J1]<;>rfl) (fun pv hpv=>⟨by simp[J1],by injection hpv with hpv; subst hpv; exact hPn _ _ (rfl) rfl (by simp[J1])⟩) (fun v wr h=>by cases h)
def C0Q(l:List Tk)(c:UInt8):List Tk:=if isS l c=true then l.drop 1 else l
theorem s9{l:List Tk}{c:UInt8}(h:isS l c=true):C0Q l c=l.drop 1:=by unfold C0Q; rw[if_pos h]
theorem A2c{l:List Tk}{c:UInt8}(h:isS l c=false):C0Q l c=l:=by unfold C0Q; rw[if_neg (by simp[h])]
theorem A3O(z l:List Tk)(c:UInt8)(J id:Nat):
  A2 Tryz.prog 178 [.ptr J 0 0,.str [c]] [(J,tB z l)] id (.bool (isS l c)) [(J,some (tB z (C0Q l c)))]:=by
 have hI:=fun id=>B5z z l c J id;cases h:isS l c with
 | false =>
  rw[A2c h];rw[h] at hI;rw[B7] at *;refine w178.e.1 fun E hP hR hl hid=>?_;simp[w178];have hJ:=hl (J,_) (List.mem_cons_self ..);simp only at hJ;have J1:=lf hJ;(refine yC rfl (hI _) ?_; simp[J1]);refine yE hR [] (by simp[J1,A4 hid]) fun hrn=>⟨?_,?_,?_,?_,?_,?_⟩<;>(try simp[J1,A4 hid])
 | true =>
  rw[s9 h];rw[h] at hI;cases l with
  | nil=>cases h
  | cons t l =>
   rw[B7] at hI;rw[List.drop_one,List.tail_cons,B7,B7];refine w178.e.1 fun E hP hR hl hid=>?_;simp[w178];have hJ:=hl (J,_) (List.mem_cons_self ..);simp only at hJ;have J1:=lf hJ;(refine yC rfl (hI _) ?_; simp[J1]);refine⟨by simp[j7]; omega,?_⟩;refine yE hR [] (by simp[J1,A4 hid]) fun hrn=>⟨?_,?_,?_,?_,?_,?_⟩<;>(try simp[J1,A4 hid])
theorem C5G(l:List Tk):isK [1] l=isW l:=by
 cases l with
 | nil=>rfl
 | cons t l=>simp only[isK,isW,List.any_cons,List.any_nil,Bool.or_false]; exact BEq.comm
theorem A3P(z l:List Tk)(t:Tk)(J id:Nat)(h:t.kind=1):
  A2 Tryz.prog 179 [.ptr J 0 0] [(J,tB z (t::l))] id (.str t.text) [(J,some (tB z l))]:=by
 have hN:=fun id=>B60 z l t [1] J id (by simp[h]) (by simp);have het:j7 t = .agg [.int .i64 t.kind,.str t.text,.int .i64 t.n]:=rfl;rw[het] at hN;rw[B7,B7] at *;refine w179.e.1 fun E hP hR hl hid=>?_;simp[w179];have hJ:=hl (J,_) (List.mem_cons_self ..);simp only at hJ;have J1:=lf hJ;(refine A2I hP rfl (hN _) (by simp[J1]<;>rfl) (by simp[J1]) (by simp[J1]<;>rfl) (by simp[J1]) ?_; refine A3 4000 ?_; simp[J1]);refine yE hR [] (by simp[J1,A4 hid]) fun hrn=>⟨?_,?_,?_,?_,?_,?_⟩<;>(try simp[J1,A4 hid])
theorem B1N(z l:List Tk)(J id:Nat)(h:isW l=false):
  Y0 Tryz.prog 179 [.ptr J 0 0] [(J,tB z l)] id (.error (erV 1)):=by
 have hN:=fun id=>B61 z l [1] J id (by rw[C5G,h]) (by simp);rw[B7] at *;refine w179.x.1 fun E hP hR hPn hl hid hB hu=>?_;simp[w179];have hJ:=hl (J,_) (List.mem_cons_self ..);simp only at hJ;have J1:=lf hJ;refine A7U hP rfl (hN _) (by simp[J1]<;>rfl) (by simp[J1]) (by simp[J1]<;>rfl) (by simp[J1]) (fun pv hpv=>⟨by simp[J1],by injection hpv with hpv; subst hpv; exact hPn _ _ (rfl) rfl (by simp[J1])⟩) (fun v wr h=>by cases h)
theorem A2A{l:List Tk}(h:isW l=true):∃t r,l=t::r/\t.kind=1:=by
 cases l with
 | nil=>cases h
 | cons t r=>exact⟨t,r,rfl,by simpa [isW] using h⟩
theorem A3Q{l:List Tk}{c:UInt8}(h:isS l c=true):∃t r,l=t::r:=by
 cases l with
 | nil=>cases h
 | cons t r=>exact⟨t,r,rfl⟩
theorem B3H{l:List Tk}(h:isV l=true):∃t r,l=t::r/\[2,3].any (·==t.kind)=true:=by
 cases l with
 | nil=>cases h
 | cons t r =>
  refine⟨t,r,rfl,?_⟩;simp only[isV,Bool.or_eq_true,beq_iff_eq] at h;simp only[List.any_cons,List.any_nil,Bool.or_false,Bool.or_eq_true,beq_iff_eq];exact h.imp Eq.symm Eq.symm
theorem C5H{l:List Tk}(h:isV l=false):isK [2,3] l=false:=by
 cases l with
 | nil=>rfl
 | cons t r =>
  simp only[isV,Bool.or_eq_false_iff,beq_eq_false_iff_ne] at h;simp only[isK,List.any_cons,List.any_nil,Bool.or_false,Bool.or_eq_false_iff,beq_eq_false_iff_ne];exact h.imp Ne.symm Ne.symm
theorem C2D(z l:List Tk)(J id:Nat)(h:pAg l=none):Y0 Tryz.prog 181 [.ptr J 0 0] [(J,tB z l)] id (.error (erV 1)):=by
 unfold pAg at h;by_cases h1:isW l=true
 rotate_left
 ·have hN:=fun id=>B1N z l J id (by simpa using h1);rw[B7] at *;refine w181.x.1 fun E hP hR hPn hl hid hB hu=>?_;simp[w181];have hJ:=hl (J,_) (List.mem_cons_self ..);simp only at hJ;have J1:=lf hJ;refine D5 hP rfl (hN _) (by simp[J1]) (by simp[J1]<;>rfl) (fun pv hpv=>⟨by simp[J1],by injection hpv with hpv; subst hpv; exact hPn _ _ (rfl) rfl (by simp[J1])⟩) (fun v wr h=>by cases h)
 obtain⟨t,r,rfl,hk⟩:=A2A h1;have hN:=fun id=>A3P z r t J id hk;by_cases h2:isS r 58=true
 rotate_left
 ·have hS:=fun id=>B62 z r 58 J id (by simpa using h2);rw[B7] at hS;rw[B7,B7] at hN;rw[B7];refine w181.x.1 fun E hP hR hPn hl hid hB hu=>?_;simp[w181];have hJ:=hl (J,_) (List.mem_cons_self ..);simp only at hJ;have J1:=lf hJ;(refine yC rfl (hN _) ?_; simp[J1]);refine D5 hP rfl (hS _) (by simp[J1]) (by simp[J1]<;>rfl) (fun pv hpv=>⟨by simp[J1],by injection hpv with hpv; subst hpv; exact hPn _ _ (rfl) rfl (by simp[J1])⟩) (fun v wr h=>by cases h)
 have hS:=fun id=>B1M z r 58 J id h2;obtain⟨t2,r2,rfl⟩:=A3Q h2;have h3:isV r2=false:=by
  rw[Bool.eq_false_iff]; intro h3;rw[if_pos ⟨h1,h2,h3⟩] at h; cases h
 have hV:=fun id=>B61 z r2 [2,3] J id (C5H h3) (by simp);rw[List.drop_one,List.tail_cons,B7,B7] at hS;rw[B7] at hV;rw[B7,B7] at hN;rw[B7];refine w181.x.1 fun E hP hR hPn hl hid hB hu=>?_;simp[w181];have hJ:=hl (J,_) (List.mem_cons_self ..);simp only at hJ;have J1:=lf hJ;(refine yC rfl (hN _) ?_; simp[J1]);(refine yC rfl (hS _) ?_; simp[J1]);refine A7U hP rfl (hV _) (by simp[J1]<;>rfl) (by simp[J1]) (by simp[J1]<;>rfl) (by simp[J1]) (fun pv hpv=>⟨by simp[J1],by injection hpv with hpv; subst hpv; exact hPn _ _ (rfl) rfl (by simp[J1])⟩) (fun v wr h=>by cases h)
theorem C2E(z l:List Tk)(a:Ag)(u:List Tk)(J id:Nat)(h:pAg l=some (a,u)):A2 Tryz.prog 181 [.ptr J 0 0] [(J,tB z l)] id (q8 a) [(J,some (tB z u))]:=by
 unfold pAg at h;split at h
 rotate_left
 ·cases h
 rename_i hh;obtain⟨h1,h2,h3⟩:=hh;obtain⟨t,r,rfl,hk⟩:=A2A h1;have hN:=fun id=>A3P z r t J id hk;rw[List.drop_one,List.tail_cons] at h2;have hS:=fun id=>B1M z r 58 J id h2;obtain⟨t2,r2,rfl⟩:=A3Q h2;obtain⟨t3,r3,rfl,hk3⟩:=B3H h3;have hV:=fun id=>B60 z r3 t3 [2,3] J id hk3 (by simp);have het:j7 t3 = .agg [.int .i64 t3.kind,.str t3.text,.int .i64 t3.n]:=rfl;rw[het] at hV;injection h with h
 rw[Prod.mk.injEq] at h;obtain⟨rfl,rfl⟩:=h;show A2 _ _ _ _ _ (.agg [.str t.text,.bool (t3.kind==3),.str t3.text,.int .i64 t3.n]) [(J,some (tB z r3))];rw[List.drop_one,List.tail_cons,B7,B7] at hS;rw[B7,B7] at hV;rw[B7,B7] at hN;rw[B7,B7];refine w181.e.1 fun E hP hR hl hid=>?_;simp[w181];have hJ:=hl (J,_) (List.mem_cons_self ..);simp only at hJ;have J1:=lf hJ;(refine yC rfl (hN _) ?_; simp[J1]);(refine yC rfl (hS _) ?_; simp[J1]);(refine A2I hP rfl (hV _) (by simp[J1]<;>rfl) (by simp[J1]) (by simp[J1]<;>rfl) (by simp[J1]) ?_; refine A3 4000 ?_; simp[J1]);refine yE hR [] (by simp[J1,A4 hid]) fun hrn=>⟨?_,?_,?_,?_,?_,?_⟩<;>(try simp[J1,A4 hid])
theorem B7S{a b c d:Nat}(h:[a,b,c,d].Nodup):((a=b)=False/\(b=a)=False)/\((a=c)=False/\(c=a)=False)/\((a=d)=False/\(d=a)=False)/\((b=c)=False/\(c=b)=False)/\((b=d)=False/\(d=b)=False)/\(c=d)=False/\(d=c)=False:=by
 simp at h;obtain⟨⟨h1,h2,h3⟩,⟨h4,h5⟩,h6⟩:=h;exact⟨⟨eq_false h1,eq_false (Ne.symm h1)⟩,⟨eq_false h2,eq_false (Ne.symm h2)⟩,⟨eq_false h3,eq_false (Ne.symm h3)⟩,⟨eq_false h4,eq_false (Ne.symm h4)⟩,⟨eq_false h5,eq_false (Ne.symm h5)⟩,eq_false h6,eq_false (Ne.symm h6)⟩
def T4(J:Nat):Bx:=⟨[.ptr J 0 0],.ptr J 0 0,false,false⟩
theorem Q0(J:Nat):T4 J=⟨[.ptr J 0 0],.ptr J 0 0,false,false⟩:=rfl
def sK(al nm:List UInt8)(v:AV):Bx:=⟨[.agg [.str al,.str nm,v,.nils]],.agg [.str [],.str [],.nils,.nils],false,false⟩
theorem A2B(al nm:List UInt8)(v:AV):sK al nm v=⟨[.agg [.str al,.str nm,v,.nils]],.agg [.str [],.str [],.nils,.nils],false,false⟩:=rfl
def aB(l:List Ag):Bx:=⟨l.map q8,.agg [.str [],.bool false,.str [],.int .i64 0],false,false⟩
theorem A2C(l:List Ag):aB l=⟨l.map q8,.agg [.str [],.bool false,.str [],.int .i64 0],false,false⟩:=rfl
theorem C0R(z t:List Tk)(l:List Ag)(al nm:List UInt8)(J V K M id:Nat)(hd:[J,V,K,M].Nodup)(h:pAg t=none):
  Y0 Tryz.prog 180 [.ptr K 0 0,.ptr V 0 0] [(J,tB z t),(V,T4 J),(K,sK al nm (.bsl M 0 l.length)),(M,aB l)] id (.error (erV 1)):=by
 have d:=B7S hd;have hA:=fun id=>C2D z t J id h;rw[B7] at *;rw[Q0,A2B,A2C];refine w180.x.1 fun E hP hR hPn hl hid hB hu=>?_;simp[w180];have hJ:=hl (J,_) (List.mem_cons_self ..);simp only at hJ;have J1:=lf hJ;have hV:=hl (V,_) (List.mem_cons_of_mem _ (List.mem_cons_self ..));simp only at hV;have V1:=lf hV;have hK:=hl (K,_) (List.mem_cons_of_mem _ (List.mem_cons_of_mem _ (List.mem_cons_self ..)));simp only at hK;have K1:=lf hK;have hM:=hl (M,_) (List.mem_cons_of_mem _ (List.mem_cons_of_mem _ (List.mem_cons_of_mem _ (List.mem_cons_self ..))));simp only at hM;have M1:=lf hM;simp[J1,V1,K1,M1,d];refine D5 hP rfl (hA _) (by simp[J1,V1,K1,M1,d]) (by simp[J1,V1,K1,M1,d]<;>rfl) (fun pv hpv=>⟨by simp[J1,V1,K1,M1,d],by injection hpv with hpv; subst hpv; exact hPn _ _ (rfl) rfl (by simp[J1,V1,K1,M1,d])⟩) (fun v wr h=>by cases h)
theorem C0S(z t:List Tk)(l:List Ag)(a:Ag)(u:List Tk)(al nm:List UInt8)(J V K M id:Nat)(hd:[J,V,K,M].Nodup)(h:pAg t=some (a,u))(hl8:l.length<=1099511627776):
  A2 Tryz.prog 180 [.ptr K 0 0,.ptr V 0 0] [(J,tB z t),(V,T4 J),(K,sK al nm (.bsl M 0 l.length)),(M,aB l)] id (.tup []) [(J,some (tB z u)),(K,some (sK al nm (.bsl id 0 (l.length+1)))),(M,none),(id,some (aB (l++[a])))]:=by
 have d:=B7S hd;have hA:=fun id=>C2E z t a u J id h;have hex:(l++[a]).map q8=l.map q8++[q8 a]:=by simp
 have hoe:q8 a = .agg [.str a.name,.bool a.isText,.str a.text,.int .i64 a.n]:=rfl;rw[hoe] at hA hex;rw[B7,B7] at hA;rw[B7,B7,Q0,A2B,A2B,A2C,A2C,hex];refine w180.e.1 fun E hP hR hl hid=>?_;simp[w180];have hJ:=hl (J,_) (List.mem_cons_self ..);simp only at hJ;have J1:=lf hJ;have hV:=hl (V,_) (List.mem_cons_of_mem _ (List.mem_cons_self ..));simp only at hV;have V1:=lf hV;have hK:=hl (K,_) (List.mem_cons_of_mem _ (List.mem_cons_of_mem _ (List.mem_cons_self ..)));simp only at hK;have K1:=lf hK;have hM:=hl (M,_) (List.mem_cons_of_mem _ (List.mem_cons_of_mem _ (List.mem_cons_of_mem _ (List.mem_cons_self ..))));simp only at hM;have M1:=lf hM;simp[J1,V1,K1,M1,d];(refine yC rfl (hA _) ?_; simp[J1,V1,K1,M1,d]);refine⟨⟨by omega,by omega⟩,?_⟩;refine yE hR [(id,E.n0+5120)] (by simp[J1,V1,K1,M1,d,A4 hid]) fun hrn=>⟨?_,?_,?_,?_,?_,?_⟩<;>(try simp[J1,V1,K1,M1,d,A4 hid]);exact C1 rfl (C3 (A39 _) rfl)
theorem B1O{t u:List Tk}{a:Ag}(h:pAg t=some (a,u)):u.length+3<=t.length:=by
 unfold pAg at h;split at h
 ·rename_i hh;obtain⟨h1,h2,h3⟩:=hh;injection h with h
  rw[Prod.mk.injEq] at h;rw[←h.2,List.length_drop];obtain⟨_,_,e,_⟩:=B3H h3;have:=congrArg List.length e;rw[List.length_drop,List.length_cons] at this;omega
 ·cases h
def agS(n0 J V K M:Nat)(z:List Tk)(al nm:List UInt8):Bool->List Ag->List Tk->St
 | true,l,t=>⟨[(0,true,.ptr J 0 0),(1,true,.str [41]),(2,true,.fn 180 [.ptr K 0 0,.ptr V 0 0])],[(J,some (tB z t)),(V,some (T4 J)),(K,some (sK al nm (.bsl M 0 l.length))),(M,some (aB l))],0⟩
 | false,l,t=>⟨[(0,true,.ptr J 0 0),(1,true,.str [41]),(2,true,.fn 180 [.ptr K 0 0,.ptr V 0 0])],[(J,some (tB z t)),(V,some (T4 J)),(K,some (sK al nm (.bsl n0 0 l.length))),(M,none),(n0,some (aB l))],1⟩
def B7T(J K M id:Nat)(z:List Tk)(al nm:List UInt8):Option (List Ag×List Tk)->Except AV (AV×List (Nat×Option Bx))
 | none=>.error (erV 1)
 | some (l,u)=>.ok (.tup [],[(J,some (tB z u)),(K,some (sK al nm (.bsl id 0 l.length))),(M,none),(id,some (aB l))])
theorem C0T(n:Nat)(z s:List Tk)(al nm:List UInt8)(J V K M id:Nat)(hd:[J,V,K,M].Nodup)(hn:s.length<n)(h8:s.length<=1099511627776):
  Y0 Tryz.prog 112 [.ptr J 0 0,.str [41],.fn 180 [.ptr K 0 0,.ptr V 0 0]] [(J,tB z s),(V,T4 J),(K,sK al nm (.bsl M 0 0)),(M,aB [])] id (B7T J K M id z al nm (A1f n [] s)):=by
 have d:=B7S hd;rw[B7,Q0,A2B,A2C];refine w112.x.1 fun E hP hR hPn hl hid hB hu=>?_;simp[w112];have hJ:=hl (J,_) (List.mem_cons_self ..);simp only at hJ;have J1:=lf hJ;have hV:=hl (V,_) (List.mem_cons_of_mem _ (List.mem_cons_self ..));simp only at hV;have V1:=lf hV;have hK:=hl (K,_) (List.mem_cons_of_mem _ (List.mem_cons_of_mem _ (List.mem_cons_self ..)));simp only at hK;have K1:=lf hK;have hM:=hl (M,_) (List.mem_cons_of_mem _ (List.mem_cons_of_mem _ (List.mem_cons_of_mem _ (List.mem_cons_self ..))));simp only at hM;have M1:=lf hM;refine D3 (X:=Bool×List Ag×List Tk×Nat) (fun q=>agS E.n0 J V K M z al nm q.1 q.2.1 q.2.2.1)
  (fun q=>(A1f q.2.2.2 q.2.1 q.2.2.1=A1f n [] s/\q.2.2.1.length<q.2.2.2)/\q.2.1.length+q.2.2.1.length<=s.length/\(q.1=true->q.2.1=[])) (fun q=>q.2.2.1.length) (true,[],s,n) ?_ ⟨⟨rfl,hn⟩,by simp,fun _=>rfl⟩ ?_
 ·refine yV [] (by simp[agS,tB,T4,sK,aB,J1,V1,K1,M1,d]) fun hrn=>⟨?_,?_,?_,?_,?_⟩<;>(try simp[agS,tB,T4,sK,aB,J1,V1,K1,M1,d])
 rintro⟨first,l,t,m⟩ ⟨⟨hx,hm⟩,hll,hfl⟩ p hp;simp only at hx hm hll hfl;obtain⟨m,rfl⟩:=Nat.exists_eq_succ_of_ne_zero (show m≠0 by omega);cases first with
 | true =>
  obtain rfl:=hfl rfl;cases hq:pAg t with
  | none =>
   have hdo:=fun id=>C0R z t [] al nm J V K M id hd hq;have e:B7T J K M id z al nm (A1f n [] s) = .error (erV 1):=by
    rw[←hx]; simp only[Nat.succ_eq_add_one,A1f]; rw[hq]; rfl
   rw[B7,Q0,A2B,A2C] at hdo;unfold agS;refine A3 4000 ?_;simp[tB,T4,sK,aB,J1,V1,K1,M1,d];refine A1s hP (by simp<;>exact⟨rfl,rfl⟩) rfl (hdo _) (by simp[J1,V1,K1,M1,d]) (by simp[J1,V1,K1,M1,d]<;>rfl) (fun pv hpv=>⟨by simp[J1,V1,K1,M1,d],by injection hpv with hpv; subst hpv; exact hPn _ _ (e) rfl (by simp[J1,V1,K1,M1,d])⟩) (fun v wr h=>by cases h)
  | some w =>
   obtain⟨a,u⟩:=w;have hlt:=B1O hq;have hdo:=fun id=>C0S z t [] a u al nm J V K M id hd hq (by simp);have hT:=fun id=>A3O z u 41 J id;have e0:A1f n [] s=if isS u 41=true then some ([a],u.drop 1) else A1f m [a] u:=by
    rw[←hx]; simp only[Nat.succ_eq_add_one,A1f]; rw[hq]; rfl
   have hoe:q8 a = .agg [.str a.name,.bool a.isText,.str a.text,.int .i64 a.n]:=rfl;rw[B7,Q0,A2B,A2C,B7,A2C] at hdo;simp only[A2B] at hdo;by_cases hs:isS u 41=true
   ·rw[if_pos hs] at e0;rw[hs,s9 hs] at hT;generalize u.drop 1=v at *;rw[B7,B7] at hT;have e:B7T J K M id z al nm (A1f n [] s) = .ok (.tup [],[(J,some (tB z v)),(K,some (sK al nm (.bsl id 0 1))),(M,none),(id,some (aB [a]))]):=(by rw[e0]; rfl);unfold agS;refine A3 4000 ?_;simp[tB,T4,sK,aB,J1,V1,K1,M1,d];(refine L7 hP (by simp<;>exact⟨rfl,rfl⟩) rfl (hdo _) (by simp[J1,V1,K1,M1,d]) (by simp[J1,V1,K1,M1,d]<;>rfl) ?_; refine A3 4000 ?_; simp[J1,V1,K1,M1,d]);(refine yC rfl (hT _) ?_; simp[J1,V1,K1,M1,d]);have hrn:H2 [(id,E.n0+1024)]:=(by simp[tB,T4,sK,aB,hoe,J1,V1,K1,M1,d,A4 hid]);refine hR _ _ _ (e) ?_;refine E9 (by simp[tB,T4,sK,aB,hoe,J1,V1,K1,M1,d,A4 hid]<;>rfl) [(id,E.n0+1024)] hrn ⟨?_,?_,?_,?_,?_,?_⟩<;>(try simp[tB,T4,sK,aB,hoe,J1,V1,K1,M1,d,A4 hid])
   ·have hs:isS u 41=false:=(by simpa using hs);rw[if_neg (by simp[hs])] at e0;rw[hs,A2c hs,B7] at hT;unfold agS;refine A3 4000 ?_;simp[tB,T4,sK,aB,J1,V1,K1,M1,d];(refine L7 hP (by simp<;>exact⟨rfl,rfl⟩) rfl (hdo _) (by simp[J1,V1,K1,M1,d]) (by simp[J1,V1,K1,M1,d]<;>rfl) ?_; refine A3 4000 ?_; simp[J1,V1,K1,M1,d]);(refine yC rfl (hT _) ?_; simp[J1,V1,K1,M1,d]);refine hp _ (false,[a],u,m) ⟨⟨e0.symm,by simp; omega⟩,by simp at hll ⊢; omega,by simp⟩ (by simp; omega) ?_;refine yV [(E.n0,E.n0+1024)] (by simp[agS,tB,T4,sK,aB,hoe,J1,V1,K1,M1,d]) fun hrn=>⟨?_,?_,?_,?_,?_⟩<;>(try simp[agS,tB,T4,sK,aB,hoe,J1,V1,K1,M1,d])
 | false =>
  have hne0:([J,V,K,E.n0]:List Nat).Nodup:=by simp[J1,V1,K1,M1,d]
  cases hq:pAg t with
  | none =>
   have hdo:=fun id=>C0R z t l al nm J V K E.n0 id hne0 hq;have e:B7T J K M id z al nm (A1f n [] s) = .error (erV 1):=by
    rw[←hx]; simp only[Nat.succ_eq_add_one,A1f]; rw[hq]; rfl
   rw[B7,Q0,A2B,A2C] at hdo;unfold agS;refine A3 4000 ?_;simp[tB,T4,sK,aB,J1,V1,K1,M1,d];refine A1s hP (by simp<;>exact⟨rfl,rfl⟩) rfl (hdo _) (by simp[J1,V1,K1,M1,d]) (by simp[J1,V1,K1,M1,d]<;>rfl) (fun pv hpv=>⟨by simp[J1,V1,K1,M1,d],by injection hpv with hpv; subst hpv; exact hPn _ _ (e) rfl (by simp[J1,V1,K1,M1,d])⟩) (fun v wr h=>by cases h)
  | some w =>
   obtain⟨a,u⟩:=w;have hlt:=B1O hq;have hdo:=fun id=>C0S z t l a u al nm J V K E.n0 id hne0 hq (by omega);have hT:=fun id=>A3O z u 41 J id;have e0:A1f n [] s=if isS u 41=true then some (l++[a],u.drop 1) else A1f m (l++[a]) u:=by
    rw[←hx]; simp only[Nat.succ_eq_add_one,A1f]; rw[hq]
   have hex:(l++[a]).map q8=l.map q8++[q8 a]:=(by simp);have hoe:q8 a = .agg [.str a.name,.bool a.isText,.str a.text,.int .i64 a.n]:=rfl;rw[hoe] at hex;rw[B7,Q0,A2B,A2C,B7,A2C] at hdo;simp only[A2B,hex] at hdo;by_cases hs:isS u 41=true
   ·rw[if_pos hs] at e0;rw[hs,s9 hs] at hT;generalize u.drop 1=v at *;rw[B7,B7] at hT;have e:B7T J K M id z al nm (A1f n [] s) = .ok (.tup [],[(J,some (tB z v)),(K,some (sK al nm (.bsl id 0 (l.length+1)))),(M,none),(id,some (aB (l++[a])))]):=(by rw[e0]; simp[B7T]);unfold agS;refine A3 4000 ?_;simp[tB,T4,sK,aB,J1,V1,K1,M1,d];(refine L7 hP (by simp<;>exact⟨rfl,rfl⟩) rfl (hdo _) (by simp[J1,V1,K1,M1,d]) (by simp[J1,V1,K1,M1,d]<;>rfl) ?_; refine A3 4000 ?_; simp[J1,V1,K1,M1,d]);(refine yC rfl (hT _) ?_; simp[J1,V1,K1,M1,d]);have hrn:H2 [(id,E.n0+1025)]:=(by simp[tB,T4,sK,aB,hoe,J1,V1,K1,M1,d,A4 hid]);refine hR _ _ _ (e) ?_;refine E9 (by simp[tB,T4,sK,aB,hoe,J1,V1,K1,M1,d,A4 hid]<;>rfl) [(id,E.n0+1025)] hrn ⟨?_,?_,?_,?_,?_,?_⟩<;>(try simp[tB,T4,sK,aB,hoe,J1,V1,K1,M1,d,A4 hid]);all_goals exact C1 rfl (C3 (A39 _) rfl)
   ·have hs:isS u 41=false:=(by simpa using hs);rw[if_neg (by simp[hs])] at e0;rw[hs,A2c hs,B7] at hT;unfold agS;refine A3 4000 ?_;simp[tB,T4,sK,aB,J1,V1,K1,M1,d];(refine L7 hP (by simp<;>exact⟨rfl,rfl⟩) rfl (hdo _) (by simp[J1,V1,K1,M1,d]) (by simp[J1,V1,K1,M1,d]<;>rfl) ?_; refine A3 4000 ?_; simp[J1,V1,K1,M1,d]);(refine yC rfl (hT _) ?_; simp[J1,V1,K1,M1,d]);refine hp _ (false,l++[a],u,m) ⟨⟨e0.symm,by simp; omega⟩,by simp at hll ⊢; omega,by simp⟩ (by simp; omega) ?_;refine yV [(E.n0,E.n0+1025)] (by simp[agS,tB,T4,sK,aB,hoe,J1,V1,K1,M1,d]) fun hrn=>⟨?_,?_,?_,?_,?_⟩<;>(try simp[agS,tB,T4,sK,aB,hoe,J1,V1,K1,M1,d]);all_goals exact C1 rfl (C3 (A39 _) rfl)
def A4L(E:Q7)(J:Nat)(z:List Tk)(al nm:List UInt8)(xs:List Ag)(u:List Tk):St :=
 ⟨[(1,true,.ptr E.n0 0 0),(2,true,.ptr (E.n0+1) 0 0),(3,true,.ptr (E.n0+2) 0 0)],
  [(J,some (tB z u)),(E.n0,some (T4 J)),(E.n0+1,some (sK [] [] .nils)),(E.n0+2,some (sK al nm (.bsl (E.n0+3) 0 xs.length))),(E.n0+3,some (aB xs))],4⟩
theorem B3I(i:Nat)(al nm:List UInt8):A4d i (.agg [.str al,.str nm,.nils,.nils]) (.agg [.str al,.str nm,.bsl i 0 0,.nils]):=.agg _ _ rfl fun m x y h1 h2=>by
 match m,h1,h2 with
 | 0,h1,h2|1,h1,h2|3,h1,h2=>simp at h1 h2; exact .inl (h1.symm.trans h2)
 | 2,h1,h2=>simp at h1 h2; exact .inr ⟨h1.symm,h2.symm⟩
 | m+4,h1,h2=>simp at h1
section
variable (E:Q7) (hP:E.P=Tryz.prog) (z l:List Tk) (J id:Nat) (hJ:J<E.n0/\(J<id\/id+1024<=J))
include hP hJ
theorem B1P{a b c r:CC}(ha:a = .r [.bx 1 0,.al 2 .zQ])(hb:b = .r [.l 4 1,.c 5 179 [4],⟨some 6,none,[5],.build [.str [],.str [],.nils,.nils] [(1,1,.t 5)]⟩,.al 3 .zQ,.st 4 3 6])
  (hc:c = .seq (.r [.l 7 1,⟨some 8,none,[7],.call 178 [.t 7,.c (.str [58])]⟩]) (.cond (.t 8) (.seq (.r [.f 9 1 3,.l 10 9,.f 11 0 3,.st 1 11 10]) (.r [.l 12 1,.c 13 179 [12],.f 14 1 3,.st 1 14 13])) CC.skip))
  {al nm:List UInt8} {u:List Tk} (hh:pHd l=some (al,nm,u)) {k:List Itm} (hk:Wk E (.code r::k) (A4L E J z al nm [] u)) :
  Wk E (.code (.seq a (.seq b (.seq c r)))::k) ⟨[(0,true,.ptr J 0 0)],[(J,some (tB z l))],0⟩:=by
 subst ha hb hc;have J1:=lf hJ;refine B8V (X:=Unit) (fun _=>A4L E J z al nm [] u) (fun _=>True) (fun p hp=>?_) fun _ _=>hk;unfold pHd at hh;split at hh
 rotate_left
 ·cases hh
 rename_i h1;obtain⟨t,r,rfl,hkd⟩:=A2A h1;have hN:=fun id=>A3P z r t J id hkd;have hT:=fun id=>A3O z r 58 J id;rw[B7,B7] at hN;rw[List.drop_one,List.tail_cons] at hh;by_cases h2:isS r 58=true
 ·rw[if_pos h2] at hh;rw[h2,s9 h2] at hT;obtain⟨t2,r2,rfl⟩:=A3Q h2;rw[List.drop_one,List.tail_cons,B7,B7] at hT;split at hh
  rotate_left
  ·cases hh
  rename_i h3;obtain⟨t3,r3,rfl,hk3⟩:=A2A (show isW r2=true from h3);have hN2:=fun id=>A3P z r3 t3 J id hk3;rw[B7,B7] at hN2;simp only[txt,List.drop_succ_cons,List.drop_zero,Option.some.injEq,Prod.mk.injEq] at hh;obtain⟨rfl,rfl,rfl⟩:=hh;rw[B7];refine A3 4000 ?_;simp[J1];(refine yC rfl (hN _) ?_; simp[J1]);(refine yC rfl (hT _) ?_; simp[J1]);(refine yC rfl (hN2 _) ?_; simp[J1]);refine hp _ () trivial ?_;refine E5.trans (E5.voidBox (E.n0+5120) (by simp[J1]; rfl) rfl (B3I _ _ _) (.agg [.str [],.bool false,.str [],.int .i64 0])) ?_;unfold A4L;refine yV [(E.n0,E.n0),(E.n0+1,E.n0+1024),(E.n0+2,E.n0+5120),(E.n0+3,E.n0+17408)] (by simp[tB,T4,sK,aB,J1]) fun hrn=>⟨?_,?_,?_,?_,?_⟩<;>(try simp[tB,T4,sK,aB,J1])
 ·have h2:isS r 58=false:=by simpa using h2
  rw[if_neg (by simp[h2])] at hh;rw[h2,A2c h2,B7] at hT;simp only[txt,List.drop_succ_cons,List.drop_zero,Option.some.injEq,Prod.mk.injEq] at hh;obtain⟨rfl,rfl,rfl⟩:=hh;rw[B7];refine A3 4000 ?_;simp[J1];(refine yC rfl (hN _) ?_; simp[J1]);(refine yC rfl (hT _) ?_; simp[J1]);refine hp _ () trivial ?_;refine E5.trans (E5.voidBox (E.n0+5120) (by simp[J1]; rfl) rfl (B3I _ _ _) (.agg [.str [],.bool false,.str [],.int .i64 0])) ?_;unfold A4L;refine yV [(E.n0,E.n0),(E.n0+1,E.n0+1024),(E.n0+2,E.n0+5120),(E.n0+3,E.n0+9216)] (by simp[tB,T4,sK,aB,J1]) fun hrn=>⟨?_,?_,?_,?_,?_⟩<;>(try simp[tB,T4,sK,aB,J1])
theorem A8T{x r:CC}(hx:x = .seq (.r [.l 15 1,⟨some 16,none,[15],.call 178 [.t 15,.c (.str [40])]⟩]) (.cond (.t 16) (.r [.l 17 1,⟨some 18,none,[3,1],.mkf 180 [.t 3,.t 1]⟩,⟨some 19,none,[17,18],.call 112 [.t 17,.c (.str [41]),.t 18]⟩]) CC.skip))
  {al nm:List UInt8} {xs:List Ag} {u v:List Tk} (h8:u.length<=1099511627776) (hh:A2l u=some (xs,v)) {k:List Itm} (hk:Wk E (.code r::k) (A4L E J z al nm xs v)) :
  Wk E (.code (.seq x r)::k) (A4L E J z al nm [] u):=by
 subst hx;have J1:=lf hJ;refine A9D (C2O (X:=Unit) (fun _=>A4L E J z al nm xs v) (fun _=>True) (fun p hp=>?_) fun _ _=>hk);have hT:=fun id=>A3O z u 40 J id;unfold A2l at hh;by_cases h1:isS u 40=true
 ·rw[if_pos h1] at hh;rw[h1,s9 h1] at hT;have hlen:(u.drop 1).length<u.length+1:=by rw[List.length_drop]; omega
  have hM:=fun id=>C0T (u.length+1) z (u.drop 1) al nm J E.n0 (E.n0+2) (E.n0+3) id (by simp[J1]) hlen (by omega);rw[hh] at hM;have hM:∀id,A2 Tryz.prog 112 [.ptr J 0 0,.str [41],.fn 180 [.ptr (E.n0+2) 0 0,.ptr E.n0 0 0]] [(J,tB z (u.drop 1)),(E.n0,T4 J),(E.n0+2,sK al nm (.bsl (E.n0+3) 0 0)),(E.n0+3,aB [])] id (.tup [])
    [(J,some (tB z v)),(E.n0+2,some (sK al nm (.bsl id 0 xs.length))),(E.n0+3,none),(id,some (aB xs))]:=hM
  generalize u.drop 1=w at *;rw[B7,B7] at hT;rw[B7,Q0,A2B,A2C,B7,A2C] at hM;simp only[A2B] at hM;unfold A4L;refine A3 4000 ?_;simp[tB,T4,sK,aB,J1];(refine yC rfl (hT _) ?_; simp[J1]);(refine yC rfl (hM _) ?_; simp[J1]);refine hp _ () trivial ?_;unfold A4L;refine yV [(E.n0,E.n0),(E.n0+1,E.n0+1),(E.n0+2,E.n0+2),(E.n0+3,E.n0+4100)] (by simp[tB,T4,sK,aB,J1]) fun hrn=>⟨?_,?_,?_,?_,?_⟩<;>(try simp[tB,T4,sK,aB,J1])
 ·have h1:isS u 40=false:=by simpa using h1
  rw[if_neg (by simp[h1])] at hh;simp only[Option.some.injEq,Prod.mk.injEq] at hh;obtain⟨rfl,rfl⟩:=hh;rw[h1,A2c h1,B7] at hT;unfold A4L;refine A3 4000 ?_;simp[tB,T4,sK,aB,J1];(refine yC rfl (hT _) ?_; simp[J1]);refine hp _ () trivial ?_;unfold A4L;refine yV [(E.n0,E.n0),(E.n0+1,E.n0+1),(E.n0+2,E.n0+2),(E.n0+3,E.n0+3)] (by simp[tB,T4,sK,aB,J1]) fun hrn=>⟨?_,?_,?_,?_,?_⟩<;>(try simp[tB,T4,sK,aB,J1])
end
def lK(v:AV):Bx:=⟨[v],.nils,false,false⟩
theorem R6(v:AV):lK v=⟨[v],.nils,false,false⟩:=rfl
def qB(l:List F5):Bx:=⟨l.map D7,.agg [.str [],.str [],.nils,.nils],false,false⟩
theorem A0G(l:List F5):qB l=⟨l.map D7,.agg [.str [],.str [],.nils,.nils],false,false⟩:=rfl
def C5p(o:Option (F5×List Tk)):Option (AV×List Tk):=o.map fun p=>(D7 p.1,p.2)
def B0B(o:Option (List F5×List Tk)):Option (AV×List Tk):=o.map fun p=>(.sl (p.1.map D7),p.2)
def B0C(n:Nat):Prop:=∀(z l:List Tk) (J id:Nat),3*l.length+1<=n->l.length<=1099511627776->Y0 Tryz.prog 114 [.ptr J 0 0] [(J,tB z l)] id (rdT J z (C5p (A1g n l)))
def B4b(n:Nat):Prop:=∀(z l:List Tk) (J id:Nat),3*l.length+1<=n->l.length<=1099511627776->Y0 Tryz.prog 54 [.ptr J 0 0] [(J,tB z l)] id (rdT J z (B0B (s6 n l)))
theorem B1Q(s:F5):∃(a b:List UInt8) (x:List Ag) (k:List F5),D7 s = .agg [.str a,.str b,.sl (x.map q8),.sl (k.map D7)]:=by
 cases s with|mk a b x k=>exact⟨a,b,x,k,by simp[D7,A5b]⟩
theorem B63:∀(n:Nat) (acc:List Ag) (t u:List Tk) (l:List Ag),A1f n acc t=some (l,u)->u.length<t.length
 | 0,_,_,_,_,h=>by cases h
 | n+1,acc,t,u,l,h=>by
  simp only[A1f] at h;split at h
  ·cases h
  rename_i p hp;have h1:=B1O (a:=p.1) (u:=p.2) hp;split at h
  ·simp only[Option.some.injEq,Prod.mk.injEq] at h;rw[←h.2,List.length_drop]; omega
  ·have:=B63 n _ _ _ _ h; omega
theorem B3J{t u:List Tk}{l:List Ag}(h:A2l t=some (l,u)):u.length<=t.length:=by
 unfold A2l at h;split at h
 ·have:=B63 _ _ _ _ _ h;rw[List.length_drop] at this; omega
 ·simp only[Option.some.injEq,Prod.mk.injEq] at h;rw[h.2]; exact Nat.le_refl _
theorem B4c{t u:List Tk}{a b:List UInt8}(h:pHd t=some (a,b,u)):u.length<t.length:=by
 unfold pHd at h;split at h
 rotate_left
 ·cases h
 rename_i h1;obtain⟨_,_,e,_⟩:=A2A h1;have:=congrArg List.length e;rw[List.length_cons] at this;split at h
 ·split at h
  ·simp only[Option.some.injEq,Prod.mk.injEq] at h;rw[←h.2.2,List.length_drop]; omega
  ·cases h
 ·simp only[Option.some.injEq,Prod.mk.injEq] at h;rw[←h.2.2,List.length_drop]; omega
theorem B3K:∀n:Nat,(∀t s u,A1g n t=some (s,u)->u.length<t.length)/\(∀t s u,s6 n t=some (s,u)->u.length<t.length)/\(∀acc t s u,T3 n acc t=some (s,u)->u.length<t.length)
 | 0=>⟨fun _ _ _ h=>by simp[A1g] at h,fun _ _ _ h=>by simp[s6] at h,fun _ _ _ _ h=>by simp[T3] at h⟩
 | n+1=>by
  obtain⟨h1,h2,h3⟩:=B3K n;refine⟨fun t s u h=>?_,fun t s u h=>?_,fun acc t s u h=>?_⟩
  ·simp only[A1g] at h;split at h
   ·cases h
   rename_i a nm v hv;have e1:=B4c hv;split at h
   ·cases h
   rename_i xs w hw;have e2:=B3J hw;split at h
   ·split at h
    ·cases h
    rename_i k y hy;have:=h2 _ _ _ hy;simp only[Option.some.injEq,Prod.mk.injEq] at h;rw[←h.2]; omega
   ·simp only[Option.some.injEq,Prod.mk.injEq] at h;rw[←h.2]; omega
  ·simp only[s6] at h;split at h
   ·have:=h3 _ _ _ _ h;rw[List.length_drop] at this; omega
   ·cases h
  ·simp only[T3] at h;split at h
   ·cases h
   rename_i s' v hv;have e1:=h1 _ _ _ hv;split at h
   ·simp only[Option.some.injEq,Prod.mk.injEq] at h;rw[←h.2,List.length_drop]; omega
   ·have:=h3 _ _ _ _ h; omega
theorem B64{n:Nat}{t u:List Tk}{s:F5}(h:A1g n t=some (s,u)):u.length<t.length:=(B3K n).1 t s u h
theorem C0U:w113.c = .reg true ((P8 w113.c).take 2++(P8 w113.c).getD 2 default::(((P8 w113.c).drop 3).take 2++(P8 w113.c).drop 5)) (C2B w113.c):=rfl
theorem C0V{n:Nat}(hO:B0C n)(z t:List Tk)(l:List F5)(J V K M id:Nat)(hd:[J,V,K,M].Nodup)(hn:3*t.length+1<=n)(h8:t.length<=1099511627776)(hp:A1g n t=none):
  Y0 Tryz.prog 113 [.ptr K 0 0,.ptr V 0 0] [(J,tB z t),(V,T4 J),(K,lK (.bsl M 0 l.length)),(M,qB l)] id (.error (erV 1)):=by
 have ho:=fun id=>hO z t J id hn h8;have d:=B7S hd;rw[hp] at ho;change ∀id,Y0 _ _ _ _ _ (.error (erV 1)) at ho;rw[B7] at *;rw[R6,Q0,A0G];refine A31 w113.hf w113.hc w113.hn w113.hr (by simp[Tryz.ntmps113]) fun E hP hR hPn hl hid hB hu=>?_;have hJ:=hl (J,_) (List.mem_cons_self ..);simp only at hJ;have J1:=lf hJ;have hV:=hl (V,_) (List.mem_cons_of_mem _ (List.mem_cons_self ..));simp only at hV;have V1:=lf hV;have hK:=hl (K,_) (List.mem_cons_of_mem _ (List.mem_cons_of_mem _ (List.mem_cons_self ..)));simp only at hK;have K1:=lf hK;have hM:=hl (M,_) (List.mem_cons_of_mem _ (List.mem_cons_of_mem _ (List.mem_cons_of_mem _ (List.mem_cons_self ..))));simp only at hM;have M1:=lf hM;rw[C0U];refine C38 _ _ _ _ (rs1:=[⟨true,.bsl M 0 l.length,[(K,lK (.bsl M 0 l.length))],[]⟩,⟨true,.ptr J 0 0,[(V,T4 J)],[]⟩])
  (r:=⟨true,.nili,[(J,tB z t)],goL [(J,tB z t)]⟩) (rs2:=[⟨true,.int .i64 l.length,[(M,qB l)],[]⟩,⟨true,.bsl (E.n0+4096) 0 1,[],[(E.n0+4096,some ⟨[.agg [.str [],.str [],.nils,.nils]],.agg [.str [],.str [],.nils,.nils],false,false⟩)]⟩]) (pv:=erV 1) ?_ ?_ ?_ ?_ ?_
 ·simp only[P8,w113,F9,CC.d,List.take,u6,CR.f,CR.l,St.app,B0V,g8,B7,R6,Q0,A0G];refine⟨A5S (by simp) (by simp[J1,V1,K1,M1,d]),A5S (by simp) (by simp[J1,V1,K1,M1,d]),trivial⟩
 ·simp[P8,w113,F9,St.apps,St.app,B7,R6,Q0,A0G];refine B51 (by simp) (by simp<;>rfl) (by rw[hP]; exact ho _) (by simp[J1,V1,K1,M1,d])
 ·simp[P8,w113,F9,u6,St.apps,St.app,B7,R6,Q0,A0G];refine⟨A5S (by simp) (by simp[J1,V1,K1,M1,d]),A5S (by simp) (by simp[J1,V1,K1,M1,d])⟩
 ·simp only[P8,C2B,B3q,w113,F9,CC.d,pr,List.map,List.append,A17,List.take,List.length,List.drop,List.cons_append,List.nil_append];simp[V2,J1,V1,K1,M1,d]
 ·refine hPn _ _ rfl rfl ?_;simp[P8,w113,F9,St.apps,St.app,B7,R6,Q0,A0G,J1,V1,K1,M1,d]
theorem C0W{n:Nat}(hO:B0C n)(z t:List Tk)(l:List F5)(a:F5)(u:List Tk)(J V K M id:Nat)(hd:[J,V,K,M].Nodup)(hn:3*t.length+1<=n)(h8:t.length<=1099511627776)(h:A1g n t=some (a,u))(hl8:l.length<=1099511627776):
  A2 Tryz.prog 113 [.ptr K 0 0,.ptr V 0 0] [(J,tB z t),(V,T4 J),(K,lK (.bsl M 0 l.length)),(M,qB l)] id (.tup []) [(J,some (tB z u)),(K,some (lK (.bsl id 0 (l.length+1)))),(M,none),(id,some (qB (l++[a])))]:=by
 have d:=B7S hd;have ho:=fun id=>hO z t J id hn h8;rw[h] at ho;have ho:∀id,A2 Tryz.prog 114 [.ptr J 0 0] [(J,tB z t)] id (D7 a) [(J,some (tB z u))]:=ho;have hex:(l++[a]).map D7=l.map D7++[D7 a]:=by simp
 obtain⟨sa,sn,sx,sk,hoe⟩:=B1Q a;rw[hoe] at ho hex;rw[B7,B7] at ho;rw[B7,B7,Q0,R6,R6,A0G,A0G,hex];refine w113.e.1 fun E hP hR hl hid=>?_;simp[w113];have hJ:=hl (J,_) (List.mem_cons_self ..);simp only at hJ;have J1:=lf hJ;have hV:=hl (V,_) (List.mem_cons_of_mem _ (List.mem_cons_self ..));simp only at hV;have V1:=lf hV;have hK:=hl (K,_) (List.mem_cons_of_mem _ (List.mem_cons_of_mem _ (List.mem_cons_self ..)));simp only at hK;have K1:=lf hK;have hM:=hl (M,_) (List.mem_cons_of_mem _ (List.mem_cons_of_mem _ (List.mem_cons_of_mem _ (List.mem_cons_self ..))));simp only at hM;have M1:=lf hM;simp[J1,V1,K1,M1,d];(refine yC rfl (ho _) ?_; simp[J1,V1,K1,M1,d]);refine⟨⟨by omega,by omega⟩,by omega,?_⟩;refine yE hR [(id,E.n0+5120)] (by simp[J1,V1,K1,M1,d,A4 hid]) fun hrn=>⟨?_,?_,?_,?_,?_,?_⟩<;>(try simp[J1,V1,K1,M1,d,A4 hid]);exact C1 rfl (C3 (A3j _) (by simp))
def qsS(n0 J V K M:Nat)(z:List Tk):Bool->List F5->List Tk->St
 | true,l,t=>⟨[(0,true,.ptr J 0 0),(1,true,.str [125]),(2,true,.fn 113 [.ptr K 0 0,.ptr V 0 0])],[(J,some (tB z t)),(V,some (T4 J)),(K,some (lK (.bsl M 0 l.length))),(M,some (qB l))],0⟩
 | false,l,t=>⟨[(0,true,.ptr J 0 0),(1,true,.str [125]),(2,true,.fn 113 [.ptr K 0 0,.ptr V 0 0])],[(J,some (tB z t)),(V,some (T4 J)),(K,some (lK (.bsl n0 0 l.length))),(M,none),(n0,some (qB l))],1⟩
def B7U(J K M id:Nat)(z:List Tk):Option (List F5×List Tk)->Except AV (AV×List (Nat×Option Bx))
 | none=>.error (erV 1)
 | some (l,u)=>.ok (.tup [],[(J,some (tB z u)),(K,some (lK (.bsl id 0 l.length))),(M,none),(id,some (qB l))])
theorem C3w{n:Nat}(hO:∀m,m<n->B0C m)(z s:List Tk)(J V K M id:Nat)(hd:[J,V,K,M].Nodup)(hn:3*s.length+2<=n)(h8:s.length<=1099511627776):
  Y0 Tryz.prog 112 [.ptr J 0 0,.str [125],.fn 113 [.ptr K 0 0,.ptr V 0 0]] [(J,tB z s),(V,T4 J),(K,lK (.bsl M 0 0)),(M,qB [])] id (B7U J K M id z (T3 n [] s)):=by
 have d:=B7S hd;rw[B7,Q0,R6,A0G];refine w112.x.1 fun E hP hR hPn hl hid hB hu=>?_;simp[w112];have hJ:=hl (J,_) (List.mem_cons_self ..);simp only at hJ;have J1:=lf hJ;have hV:=hl (V,_) (List.mem_cons_of_mem _ (List.mem_cons_self ..));simp only at hV;have V1:=lf hV;have hK:=hl (K,_) (List.mem_cons_of_mem _ (List.mem_cons_of_mem _ (List.mem_cons_self ..)));simp only at hK;have K1:=lf hK;have hM:=hl (M,_) (List.mem_cons_of_mem _ (List.mem_cons_of_mem _ (List.mem_cons_of_mem _ (List.mem_cons_self ..))));simp only at hM;have M1:=lf hM;refine D3 (X:=Bool×List F5×List Tk×Nat) (fun q=>qsS E.n0 J V K M z q.1 q.2.1 q.2.2.1)
  (fun q=>(T3 q.2.2.2 q.2.1 q.2.2.1=T3 n [] s/\3*q.2.2.1.length+2<=q.2.2.2/\q.2.2.2<=n)/\q.2.1.length+q.2.2.1.length<=s.length/\(q.1=true->q.2.1=[])) (fun q=>q.2.2.1.length) (true,[],s,n) ?_ ⟨⟨rfl,hn,Nat.le_refl _⟩,by simp,fun _=>rfl⟩ ?_
 ·refine yV [] (by simp[qsS,tB,T4,lK,qB,J1,V1,K1,M1,d]) fun hrn=>⟨?_,?_,?_,?_,?_⟩<;>(try simp[qsS,tB,T4,lK,qB,J1,V1,K1,M1,d])
 rintro⟨first,l,t,m⟩ ⟨⟨hx,hm,hmn⟩,hll,hfl⟩ p hp;simp only at hx hm hmn hll hfl;obtain⟨m,rfl⟩:=Nat.exists_eq_succ_of_ne_zero (show m≠0 by omega);have hO:=hO m (by omega);cases first with
 | true =>
  obtain rfl:=hfl rfl;cases hq:A1g m t with
  | none =>
   have hdo:=fun id=>C0V hO z t [] J V K M id hd (by omega) (by omega) hq;have e:B7U J K M id z (T3 n [] s) = .error (erV 1):=by
    rw[←hx]; simp only[Nat.succ_eq_add_one,T3]; rw[hq]; rfl
   rw[B7,Q0,R6,A0G] at hdo;unfold qsS;refine A3 4000 ?_;simp[tB,T4,lK,qB,J1,V1,K1,M1,d];refine A1s hP (by simp<;>exact⟨rfl,rfl⟩) rfl (hdo _) (by simp[J1,V1,K1,M1,d]) (by simp[J1,V1,K1,M1,d]<;>rfl) (fun pv hpv=>⟨by simp[J1,V1,K1,M1,d],by injection hpv with hpv; subst hpv; exact hPn _ _ (e) rfl (by simp[J1,V1,K1,M1,d])⟩) (fun v wr h=>by cases h)
  | some w =>
   obtain⟨a,u⟩:=w;have hlt:=B64 hq;have hdo:=fun id=>C0W hO z t [] a u J V K M id hd (by omega) (by omega) hq (by simp);have hT:=fun id=>A3O z u 125 J id;have e0:T3 n [] s=if isS u 125=true then some ([a],u.drop 1) else T3 m [a] u:=by
    rw[←hx]; simp only[Nat.succ_eq_add_one,T3]; rw[hq]; rfl
   obtain⟨sa,sn,sx,sk,hoe⟩:=B1Q a;rw[B7,Q0,R6,A0G,B7,A0G] at hdo;simp only[R6] at hdo;by_cases hs:isS u 125=true
   ·rw[if_pos hs] at e0;rw[hs,s9 hs] at hT;generalize u.drop 1=v at *;rw[B7,B7] at hT;have e:B7U J K M id z (T3 n [] s) = .ok (.tup [],[(J,some (tB z v)),(K,some (lK (.bsl id 0 1))),(M,none),(id,some (qB [a]))]):=(by rw[e0]; rfl);unfold qsS;refine A3 4000 ?_;simp[tB,T4,lK,qB,J1,V1,K1,M1,d];(refine L7 hP (by simp<;>exact⟨rfl,rfl⟩) rfl (hdo _) (by simp[J1,V1,K1,M1,d]) (by simp[J1,V1,K1,M1,d]<;>rfl) ?_; refine A3 4000 ?_; simp[J1,V1,K1,M1,d]);(refine yC rfl (hT _) ?_; simp[J1,V1,K1,M1,d]);have hrn:H2 [(id,E.n0+1024)]:=(by simp[tB,T4,lK,qB,hoe,J1,V1,K1,M1,d,A4 hid]);refine hR _ _ _ (e) ?_;refine E9 (by simp[tB,T4,lK,qB,hoe,J1,V1,K1,M1,d,A4 hid]<;>rfl) [(id,E.n0+1024)] hrn ⟨?_,?_,?_,?_,?_,?_⟩<;>(try simp[tB,T4,lK,qB,hoe,J1,V1,K1,M1,d,A4 hid])
   ·have hs:isS u 125=false:=(by simpa using hs);rw[if_neg (by simp[hs])] at e0;rw[hs,A2c hs,B7] at hT;unfold qsS;refine A3 4000 ?_;simp[tB,T4,lK,qB,J1,V1,K1,M1,d];(refine L7 hP (by simp<;>exact⟨rfl,rfl⟩) rfl (hdo _) (by simp[J1,V1,K1,M1,d]) (by simp[J1,V1,K1,M1,d]<;>rfl) ?_; refine A3 4000 ?_; simp[J1,V1,K1,M1,d]);(refine yC rfl (hT _) ?_; simp[J1,V1,K1,M1,d]);refine hp _ (false,[a],u,m) ⟨⟨e0.symm,by simp; omega,by simp; omega⟩,by simp at hll ⊢; omega,by simp⟩ (by simp; omega) ?_;refine yV [(E.n0,E.n0+1024)] (by simp[qsS,tB,T4,lK,qB,hoe,J1,V1,K1,M1,d]) fun hrn=>⟨?_,?_,?_,?_,?_⟩<;>(try simp[qsS,tB,T4,lK,qB,hoe,J1,V1,K1,M1,d])
 | false =>
  have hne0:([J,V,K,E.n0]:List Nat).Nodup:=by simp[J1,V1,K1,M1,d]
  cases hq:A1g m t with
  | none =>
   have hdo:=fun id=>C0V hO z t l J V K E.n0 id hne0 (by omega) (by omega) hq;have e:B7U J K M id z (T3 n [] s) = .error (erV 1):=by
    rw[←hx]; simp only[Nat.succ_eq_add_one,T3]; rw[hq]; rfl
   rw[B7,Q0,R6,A0G] at hdo;unfold qsS;refine A3 4000 ?_;simp[tB,T4,lK,qB,J1,V1,K1,M1,d];refine A1s hP (by simp<;>exact⟨rfl,rfl⟩) rfl (hdo _) (by simp[J1,V1,K1,M1,d]) (by simp[J1,V1,K1,M1,d]<;>rfl) (fun pv hpv=>⟨by simp[J1,V1,K1,M1,d],by injection hpv with hpv; subst hpv; exact hPn _ _ (e) rfl (by simp[J1,V1,K1,M1,d])⟩) (fun v wr h=>by cases h)
  | some w =>
   obtain⟨a,u⟩:=w;have hlt:=B64 hq;have hdo:=fun id=>C0W hO z t l a u J V K E.n0 id hne0 (by omega) (by omega) hq (by omega);have hT:=fun id=>A3O z u 125 J id;have e0:T3 n [] s=if isS u 125=true then some (l++[a],u.drop 1) else T3 m (l++[a]) u:=by
    rw[←hx]; simp only[Nat.succ_eq_add_one,T3]; rw[hq]
   have hex:(l++[a]).map D7=l.map D7++[D7 a]:=(by simp);obtain⟨sa,sn,sx,sk,hoe⟩:=B1Q a;rw[hoe] at hex;rw[B7,Q0,R6,A0G,B7,A0G] at hdo;simp only[R6,hex] at hdo;by_cases hs:isS u 125=true
   ·rw[if_pos hs] at e0;rw[hs,s9 hs] at hT;generalize u.drop 1=v at *;rw[B7,B7] at hT;have e:B7U J K M id z (T3 n [] s) = .ok (.tup [],[(J,some (tB z v)),(K,some (lK (.bsl id 0 (l.length+1)))),(M,none),(id,some (qB (l++[a])))]):=(by rw[e0]; simp[B7U]);unfold qsS;refine A3 4000 ?_;simp[tB,T4,lK,qB,J1,V1,K1,M1,d];(refine L7 hP (by simp<;>exact⟨rfl,rfl⟩) rfl (hdo _) (by simp[J1,V1,K1,M1,d]) (by simp[J1,V1,K1,M1,d]<;>rfl) ?_; refine A3 4000 ?_; simp[J1,V1,K1,M1,d]);(refine yC rfl (hT _) ?_; simp[J1,V1,K1,M1,d]);have hrn:H2 [(id,E.n0+1025)]:=(by simp[tB,T4,lK,qB,hoe,J1,V1,K1,M1,d,A4 hid]);refine hR _ _ _ (e) ?_;refine E9 (by simp[tB,T4,lK,qB,hoe,J1,V1,K1,M1,d,A4 hid]<;>rfl) [(id,E.n0+1025)] hrn ⟨?_,?_,?_,?_,?_,?_⟩<;>(try simp[tB,T4,lK,qB,hoe,J1,V1,K1,M1,d,A4 hid]);all_goals exact C1 rfl (C3 (A3j _) (by simp))
   ·have hs:isS u 125=false:=(by simpa using hs);rw[if_neg (by simp[hs])] at e0;rw[hs,A2c hs,B7] at hT;unfold qsS;refine A3 4000 ?_;simp[tB,T4,lK,qB,J1,V1,K1,M1,d];(refine L7 hP (by simp<;>exact⟨rfl,rfl⟩) rfl (hdo _) (by simp[J1,V1,K1,M1,d]) (by simp[J1,V1,K1,M1,d]<;>rfl) ?_; refine A3 4000 ?_; simp[J1,V1,K1,M1,d]);(refine yC rfl (hT _) ?_; simp[J1,V1,K1,M1,d]);refine hp _ (false,l++[a],u,m) ⟨⟨e0.symm,by simp; omega,by simp; omega⟩,by simp at hll ⊢; omega,by simp⟩ (by simp; omega) ?_;refine yV [(E.n0,E.n0+1025)] (by simp[qsS,tB,T4,lK,qB,hoe,J1,V1,K1,M1,d]) fun hrn=>⟨?_,?_,?_,?_,?_⟩<;>(try simp[qsS,tB,T4,lK,qB,hoe,J1,V1,K1,M1,d]);all_goals exact C1 rfl (C3 (A3j _) (by simp))
def B3L(E:Q7)(J:Nat)(z u:List Tk):St :=
 ⟨[(1,true,.ptr E.n0 0 0),(3,true,.ptr (E.n0+1) 0 0)],[(J,some (tB z u)),(E.n0,some (T4 J)),(E.n0+1,some (lK (.bsl (E.n0+2) 0 0))),(E.n0+2,some (qB []))],3⟩
theorem C2F(E:Q7)(hP:E.P=Tryz.prog)(z l:List Tk)(J id:Nat)(hJ:J<E.n0/\(J<id\/id+1024<=J)){a b c r:CC}(ha:a = .r [.bx 1 0,.v 2 .nils])(hb:b = .r [.l 4 1,⟨some 5,none,[4],.call 111 [.t 4,.c (.str [123])]⟩])
  (hc:c = .r [.al 3 .nils]) (h1:isS l 123=true) {k:List Itm} (hk:Wk E (.code r::k) (B3L E J z (l.drop 1))) :
  Wk E (.code (.seq a (.seq b (.seq c r)))::k) ⟨[(0,true,.ptr J 0 0)],[(J,some (tB z l))],0⟩:=by
 subst ha hb hc;have J1:=lf hJ;refine B8V (X:=Unit) (fun _=>B3L E J z (l.drop 1)) (fun _=>True) (fun p hp=>?_) fun _ _=>hk;have hN:=fun id=>B1M z l 123 J id h1;generalize l.drop 1=t at *;rw[B7,B7] at hN;rw[B7];refine A3 4000 ?_;simp[J1];(refine yC rfl (hN _) ?_; simp[J1]);refine hp _ () trivial ?_;refine E5.trans (E5.voidBox (E.n0+4096) (by simp[J1]; rfl) rfl .nils (.agg [.str [],.str [],.nils,.nils])) ?_;unfold B3L;refine yV [(E.n0,E.n0),(E.n0+1,E.n0+4096),(E.n0+2,E.n0+5120)] (by simp[tB,T4,lK,qB,J1]) fun hrn=>⟨?_,?_,?_,?_,?_⟩<;>(try simp[tB,T4,lK,qB,J1])
theorem B7V{n:Nat}(hO:∀m,m<n->B0C m):B4b (n+1):=by
 intro z l J id hn h8;by_cases h1:isS l 123=true
 rotate_left
 ·have hN:=fun id=>B62 z l 123 J id (by simpa using h1);have e:s6 (n+1) l=none:=by simp only[s6]; rw[if_neg h1]
  rw[e];show Y0 _ _ _ _ _ (.error (erV 1));rw[B7] at *;refine w54.x.1 fun E hP hR hPn hl hid hB hu=>?_;simp[w54];have hJ:=hl (J,_) (List.mem_cons_self ..);simp only at hJ;have J1:=lf hJ;refine D5 hP rfl (hN _) (by simp[J1]) (by simp[J1]<;>rfl) (fun pv hpv=>⟨by simp[J1],by injection hpv with hpv; subst hpv; exact hPn _ _ (rfl) rfl (by simp[J1])⟩) (fun v wr h=>by cases h)
 have e:s6 (n+1) l=T3 n [] (l.drop 1):=by simp only[s6]; rw[if_pos h1]
 have hlen:(l.drop 1).length+1=l.length:=by
  obtain⟨t,r,rfl⟩:=A3Q h1;simp
 rw[e];refine A31 w54.hf w54.hc w54.hn w54.hr (by simp[Tryz.ntmps54]) fun E hP hR hPn hl hid hB hu=>?_;have hJ:=hl (J,_) (List.mem_cons_self ..);simp only at hJ;have J1:=lf hJ;refine C2F E hP z l J id hJ rfl rfl rfl h1 ?_;generalize l.drop 1=t at *;have hM:=fun id=>C3w hO z t J E.n0 (E.n0+1) (E.n0+2) id (by simp[J1]) (by omega) (by omega);cases hp:T3 n [] t with
 | none =>
  rw[hp] at hM;change ∀id,Y0 _ _ _ _ _ (.error (erV 1)) at hM;rw[B7,Q0,R6,A0G] at hM;unfold B3L;refine A3 4000 ?_;simp[tB,T4,lK,qB,J1];refine D5 hP rfl (hM _) (by simp[J1]) (by simp[J1]<;>rfl) (fun pv hpv=>⟨by simp[J1],by injection hpv with hpv; subst hpv; exact hPn _ _ (by rw[hp]; rfl) rfl (by simp[J1])⟩) (fun v wr h=>by cases h)
 | some w =>
  obtain⟨ss,u⟩:=w;rw[hp] at hM;have hM:∀id,A2 Tryz.prog 112 [.ptr J 0 0,.str [125],.fn 113 [.ptr (E.n0+1) 0 0,.ptr E.n0 0 0]] [(J,tB z t),(E.n0,T4 J),(E.n0+1,lK (.bsl (E.n0+2) 0 0)),(E.n0+2,qB [])] id (.tup [])
    [(J,some (tB z u)),(E.n0+1,some (lK (.bsl id 0 ss.length))),(E.n0+2,none),(id,some (qB ss))]:=hM
  have e:rdT J z (B0B (T3 n [] t)) = .ok (.sl (ss.map D7),[(J,some (tB z u))]):=by rw[hp]; rfl
  rw[B7,Q0,R6,A0G,B7,A0G] at hM;simp only[R6] at hM;unfold B3L;refine A3 4000 ?_;simp[tB,T4,lK,qB,J1];(refine yC rfl (hM _) ?_; simp[J1]);have hrn:H2 []:=by simp[tB,T4,J1,A4 hid]
  refine hR _ _ _ (e) ?_;refine K5 (by simp[tB,T4,J1,A4 hid]<;>rfl) (by simp[tB,T4,J1,A4 hid]<;>exact⟨rfl,rfl⟩) [] hrn ⟨?_,?_,?_,?_,?_,?_⟩<;>(try simp[tB,T4,J1,A4 hid])
theorem C2G{n:Nat}{l:List Tk}(h:pHd l=none):A1g (n+1) l=none:=by simp only[A1g]; rw[h]
theorem B7W{n:Nat}{l u:List Tk}{a b:List UInt8}(h:pHd l=some (a,b,u))(h2:A2l u=none):A1g (n+1) l=none:=by simp only[A1g]; rw[h]; simp only; rw[h2]
theorem C2H{n:Nat}{l u v:List Tk}{a b:List UInt8}{xs:List Ag}(h:pHd l=some (a,b,u))(h2:A2l u=some (xs,v))(h3:isS v 123=false):A1g (n+1) l=some (.mk a b xs [],v):=by
 simp only[A1g]; rw[h]; simp only; rw[h2]; simp only; rw[if_neg (by simp[h3])]
theorem C0X{n:Nat}{l u v:List Tk}{a b:List UInt8}{xs:List Ag}(h:pHd l=some (a,b,u))(h2:A2l u=some (xs,v))(h3:isS v 123=true):A1g (n+1) l=(s6 n v).map fun p=>(.mk a b xs p.1,p.2):=by
 simp only[A1g]; rw[h]; simp only; rw[h2]; simp only; rw[if_pos h3];cases s6 n v with
 | none=>rfl
 | some p=>rfl
theorem C2I(a b:List UInt8)(xs:List Ag):(AV.agg [.str a,.str b,.sl (xs.map q8),.nils]).nrm=D7 (.mk a b xs []):=by
 have h1:A46 (xs.map q8)=xs.map q8:=by
  induction xs with
  | nil=>rfl
  | cons x r ih=>simp[A46,AV.nrm,ih,q8]
 simp[AV.nrm,A46,h1,D7,A7m]
theorem C0Y{n:Nat}(hS:B4b n):B0C (n+1):=by
 intro z l J id hn h8;cases hh:pHd l with
 | none =>
  rw[C2G hh];show Y0 _ _ _ _ _ (.error (erV 1));unfold pHd at hh;by_cases h1:isW l=true
  rotate_left
  ·have hN:=fun id=>B1N z l J id (by simpa using h1);rw[B7] at *;refine w114.x.1 fun E hP hR hPn hl hid hB hu=>?_;simp[w114];have hJ:=hl (J,_) (List.mem_cons_self ..);simp only at hJ;have J1:=lf hJ;refine D5 hP rfl (hN _) (by simp[J1]) (by simp[J1]<;>rfl) (fun pv hpv=>⟨by simp[J1],by injection hpv with hpv; subst hpv; exact hPn _ _ (rfl) rfl (by simp[J1])⟩) (fun v wr h=>by cases h)
  rw[if_pos h1] at hh;obtain⟨t,r,rfl,hkd⟩:=A2A h1;have hN:=fun id=>A3P z r t J id hkd;have hT:=fun id=>A3O z r 58 J id;rw[List.drop_one,List.tail_cons] at hh;have h2:isS r 58=true:=by
   apply Classical.byContradiction;intro q;rw[if_neg q] at hh; cases hh
  rw[if_pos h2] at hh;rw[h2,s9 h2] at hT;obtain⟨t2,r2,rfl⟩:=A3Q h2;rw[List.drop_one,List.tail_cons,B7,B7] at hT;have h3:isW r2=false:=by
   rw[Bool.eq_false_iff]; intro q;rw[if_pos (show isW ((t::t2::r2).drop 2)=true from q)] at hh; cases hh
  have hN2:=fun id=>B1N z r2 J id h3;rw[B7,B7] at hN;rw[B7] at hN2;rw[B7];refine w114.x.1 fun E hP hR hPn hl hid hB hu=>?_;simp[w114];have hJ:=hl (J,_) (List.mem_cons_self ..);simp only at hJ;have J1:=lf hJ;(refine yC rfl (hN _) ?_; simp[J1]);(refine yC rfl (hT _) ?_; simp[J1]);refine D5 hP rfl (hN2 _) (by simp[J1]) (by simp[J1]<;>rfl) (fun pv hpv=>⟨by simp[J1],by injection hpv with hpv; subst hpv; exact hPn _ _ (rfl) rfl (by simp[J1])⟩) (fun v wr h=>by cases h)
 | some q =>
  obtain⟨al,nm,u⟩:=q;have hlt:=B4c hh;cases ha:A2l u with
  | none =>
   rw[B7W hh ha];show Y0 _ _ _ _ _ (.error (erV 1));unfold A2l at ha;have h1:isS u 40=true:=by
    apply Classical.byContradiction;intro q;rw[if_neg q] at ha; cases ha
   rw[if_pos h1] at ha;have hT:=fun id=>A3O z u 40 J id;rw[h1,s9 h1] at hT;refine A31 w114.hf w114.hc w114.hn w114.hr (by simp[Tryz.ntmps114]) fun E hP hR hPn hl hid hB hu=>?_;have hJ:=hl (J,_) (List.mem_cons_self ..);simp only at hJ;have J1:=lf hJ;refine B1P E hP z l J id hJ rfl rfl rfl hh ?_;have hlen:(u.drop 1).length<u.length+1:=(by rw[List.length_drop]; omega);have hM:=fun id=>C0T (u.length+1) z (u.drop 1) al nm J E.n0 (E.n0+2) (E.n0+3) id (by simp[J1]) hlen (by omega);rw[ha] at hM;change ∀id,Y0 _ _ _ _ _ (.error (erV 1)) at hM;generalize u.drop 1=w at *;rw[B7,B7] at hT;rw[B7,Q0,A2B,A2C] at hM;unfold A4L;refine A3 4000 ?_;simp[tB,T4,sK,aB,J1];(refine yC rfl (hT _) ?_; simp[J1]);refine D5 hP rfl (hM _) (by simp[J1]) (by simp[J1]<;>rfl) (fun pv hpv=>⟨by simp[J1],by injection hpv with hpv; subst hpv; exact hPn _ _ (rfl) rfl (by simp[J1])⟩) (fun v wr h=>by cases h)
  | some q =>
   obtain⟨xs,v⟩:=q;have hle:=B3J ha;have hI:=fun id=>B5z z v 123 J id;cases h3:isS v 123 with
   | false =>
    rw[h3,B7] at hI;rw[C2H hh ha h3];show A2 _ _ _ _ _ (D7 (.mk al nm xs [])) [(J,some (tB z v))];rw[←C2I];refine A2.nrm ?_;refine A5Q w114.hf w114.hc w114.hn w114.hr (by simp[Tryz.ntmps114]) fun E hP hR hl hid=>?_;have hJ:=hl (J,_) (List.mem_cons_self ..);simp only at hJ;have J1:=lf hJ;refine B1P E hP z l J id hJ rfl rfl rfl hh (A8T E hP z J id hJ rfl (by omega) ha ?_);unfold A4L;refine A3 4000 ?_;simp[tB,T4,sK,aB,J1];(refine yC rfl (hI _) ?_; simp[J1]);have hrn:H2 []:=(by simp[tB,T4,sK,aB,J1,A4 hid]);rw[hR];refine K5 (by simp<;>rfl) (by simp[tB,T4,sK,aB,J1,A4 hid]<;>exact⟨rfl,rfl⟩) [] hrn ⟨?_,?_,?_,?_,?_,?_⟩<;>(try simp[tB,T4,sK,aB,J1,A4 hid])
   | true =>
    rw[h3,B7] at hI;rw[C0X hh ha h3];have hK:=fun id=>hS z v J id (by omega) (by omega);cases hp:s6 n v with
    | none =>
     rw[hp] at hK;change ∀id,Y0 _ _ _ _ _ (.error (erV 1)) at hK;show Y0 _ _ _ _ _ (.error (erV 1));refine A31 w114.hf w114.hc w114.hn w114.hr (by simp[Tryz.ntmps114]) fun E hP hR hPn hl hid hB hu=>?_;have hJ:=hl (J,_) (List.mem_cons_self ..);simp only at hJ;have J1:=lf hJ;refine B1P E hP z l J id hJ rfl rfl rfl hh (A8T E hP z J id hJ rfl (by omega) ha ?_);rw[B7] at hK;unfold A4L;refine A3 4000 ?_;simp[tB,T4,sK,aB,J1];(refine yC rfl (hI _) ?_; simp[J1]);refine D5 hP rfl (hK _) (by simp[J1]) (by simp[J1]<;>rfl) (fun pv hpv=>⟨by simp[J1],by injection hpv with hpv; subst hpv; exact hPn _ _ (rfl) rfl (by simp[J1])⟩) (fun v wr h=>by cases h)
    | some q =>
     obtain⟨ks,w⟩:=q;rw[hp] at hK;have hK:∀id,A2 Tryz.prog 54 [.ptr J 0 0] [(J,tB z v)] id (.sl (ks.map D7)) [(J,some (tB z w))]:=hK;show A2 _ _ _ _ _ (D7 (.mk al nm xs ks)) [(J,some (tB z w))];have hoe:D7 (.mk al nm xs ks) = .agg [.str al,.str nm,.sl (xs.map q8),.sl (ks.map D7)]:=(by simp[D7,A5b]);rw[hoe];refine A5Q w114.hf w114.hc w114.hn w114.hr (by simp[Tryz.ntmps114]) fun E hP hR hl hid=>?_;have hJ:=hl (J,_) (List.mem_cons_self ..);simp only at hJ;have J1:=lf hJ;refine B1P E hP z l J id hJ rfl rfl rfl hh (A8T E hP z J id hJ rfl (by omega) ha ?_);rw[B7,B7] at hK;unfold A4L;refine A3 4000 ?_;simp[tB,T4,sK,aB,J1];(refine yC rfl (hI _) ?_; simp[J1]);(refine yC rfl (hK _) ?_; simp[J1]);have hrn:H2 []:=(by simp[tB,T4,sK,aB,J1,A4 hid]);rw[hR];refine K5 (by simp<;>rfl) (by simp[tB,T4,sK,aB,J1,A4 hid]<;>exact⟨rfl,rfl⟩) [] hrn ⟨?_,?_,?_,?_,?_,?_⟩<;>(try simp[tB,T4,sK,aB,J1,A4 hid])
theorem C3x:∀n,B0C n/\B4b n:=fun n=>by
 induction n using Nat.strongRecOn with
 | _ n ih =>
  cases n with
  | zero=>exact⟨fun z l J id hn=>by omega,fun z l J id hn=>by omega⟩
  | succ n=>exact⟨C0Y (ih n (by omega)).2,B7V fun m hm=>(ih m (by omega)).1⟩
end Go.Am
