/- Parts of the proof: an abstract machine for Go functions, and what functions of the program give back (Lx11, Lx12, Lb5, Lx13, CcZ, Qr1, Qr2, Qr3, Qr4, Qr5, Qr6, Qr7, Qr8, Qr9). No condition. -/
import Derived.Test.YtphjabjjnncebaaGreatDoorXS
import Derived.Test.YtphjabjjnncebaaGreatDoorXP
import Derived.Test.YtphjabjjnncebaaGreatDoorXG
import Derived.Test.YtphjabjjnncebaaGreatDoorXQ
import Derived.Test.YtphjabjjnncebaaGreatDoorXF
set_option maxRecDepth 100000
set_option linter.all false
set_option maxHeartbeats 16000000
namespace Go.Am
open Go Go.Proofs Go.RowKit
theorem Y2{f:Nat->Option Bx}{i:Nat}{b:Option Bx}(h:f i=b):U8 f i b=f:=by
 funext x
 unfold U8;split
 ·rename_i hx; subst hx; exact h.symm
 ·rfl
theorem I9.of{n0:Nat}{bx':List (Nat×Option Bx)}:∀{l:List (Nat×Option Bx)},(∀q∈l,n0<=q.1)->I9 n0 bx' l
 | [],_=>trivial
 | (i,b)::l,h=>⟨.inl (h (i,b) (za ..)),I9.of fun q hq=>h q (zb _ hq)⟩
theorem C33{x m y r:Code}(h:Tryz.f175.body=some (.seq x (.seq m (.seq y r)))):D3 Tryz.prog Tryz.f175.ntmps x=B1I/\D3 Tryz.prog Tryz.f175.ntmps y=B1J/\D3 Tryz.prog Tryz.f175.ntmps r = .seq (.seq A8Q (.block 0 (.loop A62))) (.seq A8S CC.ret):=by
 have h0:=C45;rw[h] at h0;simp only[vf,zd,C2x] at h0;obtain⟨_,_,e1,k1,h1⟩:=H4 h0;injection e1 with e1 e1'
 subst e1 e1';obtain⟨_,_,e2,_,h2⟩:=H4 h1;injection e2 with _ e2
 subst e2;obtain⟨_,_,e3,k3,h3⟩:=H4 h2;injection e3 with e3 e3'
 subst e3 e3';exact⟨k1,k3,h3⟩
theorem C2V{x m r:Code}(h:Tryz.f175.body=some (.seq x (.seq m r))){Q:Exit->Act->World->Prop}{t:Array Value}{w:World}(hsz:5<t.size)
  (hQ:Q .normal ⟨t.setIfInBounds 5 (.func (.func 247) #[] #[t[2]?.getD undef,t[3]?.getD undef]),[⟨.fn (.func 247) #[t[2]?.getD undef,t[3]?.getD undef],#[]⟩]⟩ w):m.wp Tryz.prog Q ⟨t,[]⟩ w:=by
 have e:Tryz.f175.body=some (.seq _ (.seq _ _)):=rfl;rw[e] at h;injection h with h
 injection h with _ h
 injection h with h _
 subst h;refine wp_region ?_;have hmf:∀(fn:Fn) (first cap:Array Value) (w:World),(Instr.makeFunc fn first cap).run Tryz.prog w = .ok (.func fn first cap) w:=fun _ _ _ _=>rfl;simp[wpOps,wpOp,go_sem,hmf,Exit.then,hsz];exact .inl (.inl hQ)
theorem C0e{C:Cx Tryz.prog}{D:List Deferred}{G G':Gh}{w w':World}{bx:Nat->Option Bx}{n0 k id J4 J5:Nat}{F:Fr}{l:List (Nat×Option Bx)}{a:Act}{e:Int}(own:∀i,n0<=i->bx i=none)(old:∀i,G.used i->i<n0)(hs:RS C G bx w)(hid:∀x,id<=x->x<id+1024->¬G.used x)
  (hD:F7 C Tryz.f175.ntmps D n0 G w F (ov bx l) (· < n0+k) G' a w') (f4:F 2=some (true,.ptr J4 0 0)) (f5:F 3=some (true,.ptr J5 0 0)) (h4:ov bx l J4=some (oBx .nils)) (h5:ov bx l J5=some (F1 e)) (hl:∀q∈l,n0<=q.1) (d:J4≠J5) (j4:n0<=J4) (j5:n0<=J5) :
  ∃v,(results Tryz.f175 a.tmps).run Tryz.prog w' = .ok v w'/\∃G1,RS C G1 bx w'/\M0 G w G1 w'/\RV G1 w' (.tup [.nils,.int .i64 e]) v/\∀x,G1.used x->G.used x\/(id<=x/\x<id+1024):=by
 let E:R4:=⟨Tryz.prog,C,bx,Tryz.f175.ntmps,n0,G,w,own,old,hs,D,fun _=>True,fun _ _=>False⟩
 have hD':S5 E ⟨[(2,true,.ptr J4 0 0),(3,true,.ptr J5 0 0)],(J4,some (oBx .nils))::(J5,some (F1 e))::l,k⟩ G' a w':=by
  refine⟨hD.ev,?_,hD.used,hD.old,fun n c v hl=>?_,hD.size,hD.defers⟩
  ·show RS C G' (ov bx _) w';simp only[ov];rw[Y2 (f:=ov bx l) h5,Y2 h4];exact hD.rs
  ·simp only[lk] at hl;repeat' split at hl
   all_goals first|cases hl|skip
   all_goals rename_i hn<;>subst hn
   ·exact hD.fr _ _ _ f4
   ·exact hD.fr _ _ _ f5
 have hh:K5 E.β []:=K5.nil;refine A7Z (E:=E) (id:=id) (rd:=[]) (wr:=[]) (C0F) hh hid hD' ?_;simp only[C0E];refine E8 (by simp[oBx,F1,d,zt d]<;>rfl) [] trivial (S6 (by simp) (by simp) ?_);exact I9.of fun q hq=>by
  simp at hq;rcases hq with rfl|rfl|hq
  ·exact j4
  ·exact j5
  ·exact hl q hq
theorem C0f{C:Cx Tryz.prog}{D:List Deferred}{G G':Gh}{w w':World}{bx:Nat->Option Bx}{n0 k id J4 J5 M:Nat}{F:Fr}{l:List (Nat×Option Bx)}{a:Act}{ts:List Tk}(own:∀i,n0<=i->bx i=none)(old:∀i,G.used i->i<n0)(hs:RS C G bx w)(hid:∀x,id<=x->x<id+1024->¬G.used x)
  (hD:F7 C Tryz.f175.ntmps D n0 G w F (ov bx l) (· < n0+k) G' a w') (f4:F 2=some (true,.ptr J4 0 0)) (f5:F 3=some (true,.ptr J5 0 0)) (h4:ov bx l J4=some (oBx (.bsl M 0 ts.length))) (h5:ov bx l J5=some (F1 0)) (hM:ov bx l M=some ⟨ts.map m7,.agg [.int .i64 0,.str [],.int .i64 0],false,false⟩) (hl:∀q∈l,n0<=q.1) (d:J4≠J5) (d4:J4≠M) (d5:J5≠M) (j4:n0<=J4) (j5:n0<=J5) (jM:n0<=M) :
  ∃v,(results Tryz.f175 a.tmps).run Tryz.prog w' = .ok v w'/\∃G1,RS C G1 bx w'/\M0 G w G1 w'/\RV G1 w' (.tup [.sl (ts.map m7),.int .i64 0]) v/\∀x,G1.used x->G.used x\/(id<=x/\x<id+1024):=by
 let E:R4:=⟨Tryz.prog,C,bx,Tryz.f175.ntmps,n0,G,w,own,old,hs,D,fun _=>True,fun _ _=>False⟩
 have hD':S5 E ⟨[(2,true,.ptr J4 0 0),(3,true,.ptr J5 0 0)],(J4,some (oBx (.bsl M 0 ts.length)))::(J5,some (F1 0))::(M,some ⟨ts.map m7,.agg [.int .i64 0,.str [],.int .i64 0],false,false⟩)::l,k⟩ G' a w':=by
  refine⟨hD.ev,?_,hD.used,hD.old,fun n c v hl=>?_,hD.size,hD.defers⟩
  ·show RS C G' (ov bx _) w';simp only[ov];rw[Y2 (f:=ov bx l) hM,Y2 h5,Y2 h4];exact hD.rs
  ·simp only[lk] at hl;repeat' split at hl
   all_goals first|cases hl|skip
   all_goals rename_i hn<;>subst hn
   ·exact hD.fr _ _ _ f4
   ·exact hD.fr _ _ _ f5
 have hh:K5 E.β []:=K5.nil;refine A7Z (E:=E) (id:=id) (rd:=[]) (wr:=[]) (C0F) hh hid hD' ?_;simp only[C0E];refine L6 (by simp[oBx,F1,d,zt d,d4,d5]<;>rfl) (by simp[oBx,F1,d,zt d,d4,d5,zt d4,zt d5]<;>exact⟨rfl,rfl⟩) [] trivial (S6 (by simp) (by simp) ?_);exact I9.of fun q hq=>by
  simp at hq;rcases hq with rfl|rfl|rfl|rfl|hq
  all_goals first|exact j4|exact j5|exact jM|exact hl q hq
def C0g:Except Int (List Tk)->AV
 | .ok l=>.tup [.sl (l.map m7),.int .i64 0]
 | .error e=>.tup [.nils,.int .i64 e]
theorem C2W{s:List UInt8}{acc:List Tk}{j:Nat}(h:p8 ((s.drop j).length+1) acc (s.drop j)=A1s s):blk false (s.drop j)=s.drop j->match s.drop j with
  | []=>A1s s = .ok acc
  | c::r=>match A0Y c r with
   | .error e=>A1s s = .error e
   | .ok p=>if 300<acc.length+1 then A1s s = .error 2 else p8 ((blk false p.2).length+1) (acc++[p.1]) (blk false p.2)=A1s s:=by
 intro hb;rw[←h];unfold p8;rw[hb];cases hs:s.drop j with
 | nil=>rfl
 | cons c r =>
  simp only;cases hp:A0Y c r with
  | error e=>rfl
  | ok p =>
   simp only;split
   ·rfl
   ·obtain⟨t,u⟩:=p;have h1:=A5F hp;have h2:=A2l false u;have hA:(blk false (blk false u)).length<(blk false u).length+1:=(by rw[A1f false u]; omega);have hB:(blk false (blk false u)).length<(c::r).length:=(by rw[A1f false u]; simp only[yd]; omega);exact A5z _ _ _ _ _ (A1f false u) hA hB
theorem B1W{s u:List UInt8}(h:u <:+ s):s.drop (atU s u)=u/\atU s u<=s.length:=by
 obtain⟨t,rfl⟩:=h;unfold atU;rw[yl,Nat.add_sub_cancel];exact⟨sg,by omega⟩
theorem C4G{x m y c hh sk ex k l m4 sk2 n dd rt:Code}{X Y:Operand}{bi b1:Nat}(h:Tryz.f175.body=some (.seq x (.seq m (.seq y (.seq (.seq c (.block bi (.loop (.seq (.seq hh (.cond X sk ex)) (.seq (.block b1 (.seq k (.seq l (.cond Y m4 sk2)))) n))))) (.seq dd rt)))))):
  D3 Tryz.prog Tryz.f175.ntmps c=A8Q/\D3 Tryz.prog Tryz.f175.ntmps (.seq (.seq hh (.cond X sk ex)) (.seq (.block b1 (.seq k (.seq l (.cond Y m4 sk2)))) n))=A62/\D3 Tryz.prog Tryz.f175.ntmps hh=A8R/\D3 Tryz.prog Tryz.f175.ntmps k=A0Z/\D3 Tryz.prog Tryz.f175.ntmps l=B1K/\D3 Tryz.prog Tryz.f175.ntmps m4=A61/\D3 Tryz.prog Tryz.f175.ntmps n=B1L/\D3 Tryz.prog Tryz.f175.ntmps (.seq dd rt) = .seq A8S CC.ret:=by
 obtain⟨_,_,kr⟩:=C33 h;obtain⟨_,_,e1,k1,h1⟩:=H4 kr;injection e1 with e1 e1'
 subst e1 e1';obtain⟨_,_,e2,k2,h2⟩:=H4 k1;injection e2 with e2 e2'
 subst e2 e2';obtain⟨_,e3,k3⟩:=A4I h2;injection e3 with _ e3
 subst e3;obtain⟨_,e4,k4⟩:=A9L k3;injection e4 with e4
 subst e4;have k4':=k4;unfold A62 at k4;obtain⟨_,_,e5,k5,h5⟩:=H4 k4;injection e5 with e5 e5'
 subst e5 e5';obtain⟨_,_,e6,k6,h6⟩:=H4 k5;injection e6 with e6 e6'
 subst e6 e6';obtain⟨_,_,e7,k7,h7⟩:=H4 h5;injection e7 with e7 e7'
 subst e7 e7';unfold B4m at k7;obtain⟨_,e8,k8⟩:=A4I k7;injection e8 with _ e8
 subst e8;obtain⟨_,_,e9,k9,h9⟩:=H4 k8;injection e9 with e9 e9'
 subst e9 e9';obtain⟨_,_,e10,k10,h10⟩:=H4 h9;injection e10 with e10 e10'
 subst e10 e10';obtain⟨_,_,_,e11,_,k11,_⟩:=A13 h10;injection e11 with _ e11 _
 subst e11;exact⟨k2,k4',k6,k9,k10,k11,h7,h1⟩
def P9:CC->List CR
 | .reg _ l _=>l
 | _=>[]
def C2X:CC->List (Nat×Nat)
 | .reg _ _ p=>p
 | _=>[]
def crsK:List CR:=P9 A0Z
def psK:List (Nat×Nat):=C2X A0Z
theorem C0h(s:List UInt8)(id:Nat)(h8:s.length<=1099511627776):A2 Tryz.prog 175 [.str s] [] id (C0g (A1s s)) []:=by
 refine⟨⟨_,Tryz.func175,by decide,rfl⟩,fun C G bx w vs nb hs hv hh hnb hid=>calls_of_wp_defers Tryz.func175 rfl ?_⟩;obtain⟨k1,k2,_⟩:=C33 rfl;obtain⟨kc,kL,kh,kk,kl,km,kn,kd⟩:=C4G rfl;have own:∀i,max nb (id+1024)<=i->bx i=none:=fun i hi=>by
  cases hbi:bx i with
  | none=>rfl
  | some b=>exact (hnb i (by omega) (hs.boxNames hbi).1).elim
 have old:∀i,G.used i->i<max nb (id+1024):=fun i hi=>by
  rcases yh i nb with h|h
  ·omega
  ·exact (hnb i h hi).elim
 generalize max nb (id+1024)=n0 at own old;let E:R4:=⟨Tryz.prog,C,bx,Tryz.f175.ntmps,n0,G,w,own,old,hs,[],fun _=>False,fun _ _=>False⟩
 have hD:S5 E ⟨A24 0 [.str s],[],0⟩ G { tmps:=vs++Array.replicate (Tryz.f175.ntmps - vs.size) undef,defers:=[] } w:=by
  refine⟨M0.refl G w,hs,fun i hi=>by have:=old i hi; show i<n0+0; omega,fun i _ hi=>hi,fun n c v hl=>?_,?_,rfl⟩
  ·obtain⟨rfl,_,h3⟩:=A4q hl;simp only[rf] at h3;refine⟨fun _=>?_,fun h=>by cases h⟩;have:=hv.2 n v h3;rw[zk] at this ⊢;rw[xv (by rw[←hv.1]; exact (ze.1 h3).1)];exact this
  ·have:=hv.1;simp[Tryz.ntmps175] at this ⊢;show _=Tryz.f175.ntmps;simp[Tryz.ntmps175]; omega
 have hW:Wk E [.code B1I,.post (fun σ=>σ=⟨[(3,true,.ptr (n0+1024) 0 0),(2,true,.ptr n0 0 0),(0,true,.str s)],[(n0+1024,some (F1 0)),(n0,some (oBx .nils))],2048⟩)] ⟨A24 0 [.str s],[],0⟩:=by
  refine A3 4000 ?_;simp[B1I,E,F1,oBx]
 refine wp_seq (wkN (E:=E) k1 hW (fun _ h=>h) (fun _ _ h=>h) hD fun τ G1 a w1 hD1 hτ=>?_);subst hτ;clear hW;obtain⟨at1,ad1⟩:=a;have hd0:ad1=[]:=hD1.defers;subst hd0;have hsz:5<at1.size:=by have:=hD1.size; simp only at this; rw[this]; show 5<Tryz.f175.ntmps; simp[Tryz.ntmps175]
 show (Code.seq _ _).wp _ _ _ _;refine wp_seq (C2V rfl hsz ?_);obtain⟨v4,hv4⟩:∃v4,at1[2]?.getD undef=v4:=⟨_,rfl⟩;obtain⟨v5,hv5⟩:∃v5,at1[3]?.getD undef=v5:=⟨_,rfl⟩;have g4:RV G1 w1 (.ptr n0 0 0) v4:=by
  have:=(hD1.fr 2 true _ rfl).1 rfl;rw[zk] at this;rw[←hv4]; exact this
 have g5:RV G1 w1 (.ptr (n0+1024) 0 0) v5:=by
  have:=(hD1.fr 3 true _ rfl).1 rfl;rw[zk] at this;rw[←hv5]; exact this
 rw[hv4,hv5];have own1:∀i,n0+2048<=i->ov bx [(n0+1024,some (F1 0)),(n0,some (oBx .nils))] i=none:=fun i hi=>by
  simp only[ov,U8];rw[zf (by omega),zf (by omega)];exact own i (by omega)
 have hev:M0 G w G1 w1:=hD1.ev;have hrs:RS C G1 (ov bx [(n0+1024,some (F1 0)),(n0,some (oBx .nils))]) w1:=hD1.rs;have hus:∀i,G1.used i->i<n0+2048:=hD1.used;have hol:∀i,i<n0->G1.used i->G.used i:=hD1.old;let D:List Deferred:=[⟨.fn (.func 247) #[v4,v5],#[]⟩]
 let E2:R4:=⟨Tryz.prog,C,ov bx [(n0+1024,some (F1 0)),(n0,some (oBx .nils))],Tryz.f175.ntmps,n0+2048,G1,w1,own1,hus,hrs,D,fun _=>False,fun _ _=>False⟩
 have hD2:S5 E2 ⟨[(3,true,.ptr (n0+1024) 0 0),(2,true,.ptr n0 0 0),(0,true,.str s)],[(n0+1024,some (F1 0)),(n0,some (oBx .nils))],0⟩ G1 ⟨at1.setIfInBounds 5 (.func (.func 247) #[] #[v4,v5]),D⟩ w1:=by
  refine⟨M0.refl G1 w1,?_,fun i hi=>by have:=hus i hi; show i<n0+2048+0; omega,fun i _ hi=>hi,fun n c v hl=>?_,?_,rfl⟩
  ·show RS C G1 (ov (ov bx _) _) w1;simp only[ov];rw[Y2 (f:=U8 (U8 bx n0 _) (n0+1024) _) (i:=n0) (by simp[U8]),Y2 (i:=n0+1024) (by simp[U8])];exact hrs
  ·have:=hD1.fr n c v hl;have hn:n≠5:=fun h=>by subst h; simp at hl
   simp only[zk] at this ⊢;rw[vp (zt hn)];exact this
  ·have:=hD1.size;simp only[uw];exact this
 have hN2:E2.n0=n0+2048:=rfl;have hPr:E2.P=Tryz.prog:=rfl;have hinv:∀w3,(invoke (.fn (.func 247) #[v4,v5]) #[]).run Tryz.prog w3 = .ok (.enter 247 #[v4,v5]) w3:=fun w3=>by simp[go_sem]
 have pnk:∀{R:Ending->World->Prop} {e:Int} {k:Nat} {F:Fr} {l:List (Nat×Option Bx)} {G3:Gh} {a3:Act} {w3:World} {u:Value},(∀v G4 w4,RS C G4 bx w4->M0 G w G4 w4->RV G4 w4 (.tup [.nils,.int .i64 e]) v->(∀x,G4.used x->G.used x\/(id<=x/\x<id+1024))->R (.returned v) w4) ->
   F7 C Tryz.f175.ntmps D (n0+2048) G1 w1 F (ov E2.β l) (· < n0+2048+k) G3 a3 w3->RV G3 w3 (erV e) u->F 2=some (true,.ptr n0 0 0)->F 3=some (true,.ptr (n0+1024) 0 0) ->
   (∃x,(x = .nils\/∃M n,x = .bsl M 0 n)/\ov E2.β l n0=some (oBx x))->ov E2.β l (n0+1024)=some (F1 0)->(∀x∈l,n0<=x.1)->Leaves Tryz.prog Tryz.f175 a3.tmps R a3.defers (.panicking [{ v:=u,recovered:=false }]) w3:=fun {R e k F l G3 a3 w3 u} hR h1 h2 f4 f5 h4 h5 hl=>by
  obtain⟨x,hx,b4⟩:=h4;rw[show a3.defers=D from h1.defers];have hus3:=h1.used;have hrs3:=h1.rs;refine leaves_cons (by simp) (hinv w3) ((C0a C G3 _ w3 e x 0 hx _ n0 (n0+1024) v4 v5 u hrs3 (g4.mono h1.ev) (g5.mono h1.ev) h2 b4 h5 (by omega) hus3 (fun x hx=>?_)).mono ?_)
  ·cases hb:ov E2.β l x with
   | none=>rfl
   | some b=>have:=hus3 x (hrs3.boxNames hb).1; omega
  rintro e' u' w' ⟨rfl,⟨v,rfl⟩,G4,l',k',r1,r2,r3,r4,r5,r6,r7⟩;have hx:=F7.step h1 r1 r2 (U':=fun x=>x<n0+(2048+k+k')) (fun x hx=>by have:=r7 x hx; omega) (fun x hx hu=>r6 x (by omega) hu);rw[←Y8] at hx;have h':=hx.rebase (n0:=n0) (by omega) hev hol;have e4:=Q5 (ov E2.β l) r3;have e5:=Q5 (ov E2.β l) r4;have hE:∀m,ov E2.β m=ov bx (m++[(n0+1024,some (F1 0)),(n0,some (oBx .nils))]):=fun m=>(Y8 bx m _).symm;rw[hE] at h';rw[←Y8,hE] at e4 e5;obtain⟨v,s1,G5,s2,s3,s4,s5⟩:=C0e own old hs hid h' f4 f5 e4 e5 (fun x hx=>by
   rcases zo.1 hx with hx|hx
   ·rcases zo.1 hx with hx|hx
    ·rcases r5 x hx with h|h|h
     ·omega
     ·omega
     ·omega
    ·exact hl x hx
   ·simp at hx;rcases hx with rfl|rfl<;>simp) (by omega) (by omega) (by omega)
  exact⟨v,s1,hR v G5 w' s2 s3 s4 s5⟩
 have hR0:∀{e:Int},A1s s = .error e->∀v G4 w4,RS C G4 bx w4->M0 G w G4 w4->RV G4 w4 (.tup [.nils,.int .i64 e]) v->(∀x,G4.used x->G.used x\/(id<=x/\x<id+1024)) ->
   ∃v' G',Ending.returned v = .returned v'/\RS C G' (F4 bx []) w4/\M0 G w G' w4/\RV G' w4 (C0g (A1s s)) v'/\∀x,G'.used x->G.used x\/(id<=x/\x<id+1024):=fun {e} hn v G4 w4 r1 r2 r3 r4=>by
  refine⟨v,G4,rfl,r1,r2,?_,r4⟩;rw[hn]; exact r3
 have hW2:Wk E2 [.code B1J,.post (fun σ=>σ=⟨[(4,true,.ptr (E2.n0+2048) 0 0),(8,true,.ptr (E2.n0+2048) 0 0),(7,true,.agg [.str s,.int .i64 0]),(6,true,.str s),(3,true,.ptr (n0+1024) 0 0),(2,true,.ptr n0 0 0),(0,true,.str s)],
   [(E2.n0+2048,some (rB s 0)),(n0+1024,some (F1 0)),(n0,some (oBx .nils))],4096⟩)] ⟨[(3,true,.ptr (n0+1024) 0 0),(2,true,.ptr n0 0 0),(0,true,.str s)],[(n0+1024,some (F1 0)),(n0,some (oBx .nils))],0⟩:=by
  clear hD hD1 hD2 pnk hR0;refine A3 4000 ?_;simp[B1J,hN2,rB]
 show (Code.seq _ _).wp _ _ _ _;refine wp_seq (wkN (E:=E2) k2 hW2 (fun _ h=>h) (fun _ _ h=>h) hD2 fun τ G2 a2 w2 hD3 hτ=>?_);subst hτ;clear hW2;have w4:n0<E2.n0:=by omega
 have w5:n0+1024<E2.n0:=by omega
 have wd:n0≠n0+1024:=by omega
 have kc':=C5d E2 hPr n0 (n0+1024) w4 w5 wd s h8;show (Code.seq _ _).wp _ _ _ _;refine wp_seq ?_;show (Code.seq _ _).wp _ _ _ _;refine wp_seq (wkN (E:=E2) kc kc' (fun _ h=>h) (fun _ _ h=>h) hD3 fun τ G3 a3 w3 hD4 hτ=>?_);obtain⟨G4,hD5⟩:=hτ G3 a3 w3 hD4;show (Code.block _ _).wp _ _ _ _;refine wp_block ?_;refine C5c (E:=E2) (j7 E2 n0 (n0+1024) s) (fun q=>q.2<=s.length/\blk false (s.drop q.2)=s.drop q.2/\p8 ((s.drop q.2).length+1) q.1 (s.drop q.2)=A1s s/\q.1.length<=300) (fun q=>s.length - q.2) ([],A1J s 0) ?_ hD5 ?_
 ·obtain⟨q1,q2⟩:=B1W (s:=s) (u:=blk false (s.drop 0)) (A3x false s);refine⟨q2,?_,?_,by simp⟩
  ·show blk false (s.drop (A1J s 0))=s.drop (A1J s 0);unfold A1J;rw[q1,A1f]
  ·show p8 ((s.drop (A1J s 0)).length+1) [] (s.drop (A1J s 0))=A1s s;unfold A1J;rw[q1];have h2:=A2l false s;exact A5z _ _ _ _ _ (A1f false s) (by rw[wh,A1f]; omega) (by rw[wh,A1f]; omega)
 rintro⟨acc,j⟩ ⟨hj,hbl,hto,hac⟩ G5 a5 w5' hD6;simp only at hj hbl hto hac;have hta:=C2W hto hbl;have hinvF:∀(q:List Tk×Nat),lk (j7 E2 n0 (n0+1024) s q).fr 2=some (true,.ptr n0 0 0)/\lk (j7 E2 n0 (n0+1024) s q).fr 3=some (true,.ptr (n0+1024) 0 0):=fun q=>⟨rfl,rfl⟩;rcases yh j s.length with hlt|hge
 rotate_left
 ·-- the end
  have hjs:j=s.length:=by omega
  subst hjs;rw[List.drop_length] at hta;have hta:A1s s = .ok acc:=hta;have hWa:=C5e E2 hPr n0 (n0+1024) w4 w5 wd s h8 acc;refine wp_mono (hWa _ kL G5 a5 w5' hD6) fun e a6 w6 hq=>?_;cases e with
  | normal=>obtain⟨_,_,_,h⟩:=hq; exact h.elim
  | ret=>obtain⟨_,_,_,h⟩:=hq; exact h.elim
  | panic chain=>obtain⟨_,_,_,_,_,_,_,_,_,_,_,h⟩:=hq; exact h.elim
  | exit i =>
   obtain⟨σ,G6,hD7,hx⟩:=hq;have hx:(if i=0 then E4 E2 σ (j7 E2 n0 (n0+1024) s (acc,s.length)) else False):=hx;split at hx
   rotate_left
   ·exact hx.elim
   rename_i hi0;subst hi0;obtain⟨G7,hD8⟩:=hx G6 a6 w6 hD7;show (Code.seq _ _).wp _ _ _ _;let E3:R4:={ E2 with Rt:=fun σ=>bk σ.bx n0=some (oBx (.bsl (n0+2049) 0 acc.length))/\bk σ.bx (n0+1024)=some (F1 0)/\bk σ.bx (n0+2049)=some ⟨acc.map m7,.agg [.int .i64 0,.str [],.int .i64 0],false,false⟩/\lk σ.fr 2=some (true,.ptr n0 0 0)/\lk σ.fr 3=some (true,.ptr (n0+1024) 0 0)/\∀x∈σ.bx,n0<=x.1 }
   have hRt:∀σ,E3.Rt σ=(bk σ.bx n0=some (oBx (.bsl (n0+2049) 0 acc.length))/\bk σ.bx (n0+1024)=some (F1 0)/\bk σ.bx (n0+2049)=some ⟨acc.map m7,.agg [.int .i64 0,.str [],.int .i64 0],false,false⟩/\lk σ.fr 2=some (true,.ptr n0 0 0)/\lk σ.fr 3=some (true,.ptr (n0+1024) 0 0)/\∀x∈σ.bx,n0<=x.1):=fun _=>rfl;have hN3:E3.n0=n0+2048:=rfl;have hW3:Wk E3 [.code (.seq A8S CC.ret)] (j7 E2 n0 (n0+1024) s (acc,s.length)):=by
    clear hD hD1 hD2 hD3 hD4 hD5 hD6 hD7 hD8 pnk hR0;unfold j7 oBx F1 rB;refine A3 4000 ?_;simp[A8S,hN3,hN2,hRt,oBx,F1];omega
   have ends:∀{R:Ending->World->Prop} {σ:St} {G8:Gh} {a7:Act} {w7:World},(∀v G4 w4,RS C G4 bx w4->M0 G w G4 w4->RV G4 w4 (.tup [.sl (acc.map m7),.int .i64 0]) v->(∀x,G4.used x->G.used x\/(id<=x/\x<id+1024))->R (.returned v) w4)->S5 E3 σ G8 a7 w7->E3.Rt σ->Leaves Tryz.prog Tryz.f175 a7.tmps R a7.defers .returning w7:=fun {R σ G8 a7 w7} hR h1 h2=>by
    obtain⟨b4,b5,bM,f4,f5,hl⟩:=h2;rw[show a7.defers=D from h1.defers];refine leaves_cons (by simp) (hinv w7) ((C0b v4 v5 w7).mono ?_);rintro e u' w' ⟨rfl,⟨v,rfl⟩,rfl⟩;have h1':=h1.weak (U':=fun x=>x<n0+(2048+σ.k)) (fun x hx=>by have:x<n0+2048+σ.k:=hx; omega);have h':=h1'.rebase (n0:=n0) (by omega) hev hol;have hE:ov E3.β σ.bx=ov bx (σ.bx++[(n0+1024,some (F1 0)),(n0,some (oBx .nils))]):=(Y8 bx σ.bx _).symm;have e4:=Q5 E3.β b4;have e5:=Q5 E3.β b5;have eM:=Q5 E3.β bM;rw[hE] at h' e4 e5 eM;obtain⟨v,r1,G9,r2,r3,r4,r5⟩:=C0f own old hs hid h' f4 f5 e4 e5 eM (fun x hx=>by
     rcases zo.1 hx with hx|hx
     ·exact hl x hx
     ·simp at hx;rcases hx with rfl|rfl<;>simp) (by omega) (by omega) (by omega) (by omega) (by omega) (by omega)
    exact⟨v,r1,hR v G9 w' r2 r3 r4 r5⟩
   have hR1:∀v G4 w4,RS C G4 bx w4->M0 G w G4 w4->RV G4 w4 (.tup [.sl (acc.map m7),.int .i64 0]) v->(∀x,G4.used x->G.used x\/(id<=x/\x<id+1024)) ->
     ∃v' G',Ending.returned v = .returned v'/\RS C G' (F4 bx []) w4/\M0 G w G' w4/\RV G' w4 (C0g (A1s s)) v'/\∀x,G'.used x->G.used x\/(id<=x/\x<id+1024):=fun v G4 w4 r1 r2 r3 r4=>by
    refine⟨v,G4,rfl,r1,r2,?_,r4⟩;rw[hta]; exact r3
   refine wp_mono (hW3 _ kd G7 _ w6 hD8) fun e a7 w7 hq=>?_;cases e with
   | ret =>
    obtain⟨σ,G8,h1,h2⟩:=hq;exact ends hR1 h1 h2
   | normal =>
    obtain⟨σ,G8,h1,h2⟩:=hq;exact ends hR1 h1 h2
   | exit id=>obtain⟨_,_,_,h2⟩:=hq; exact h2.elim
   | panic chain=>obtain⟨_,_,_,_,_,_,_,_,_,_,_,h⟩:=hq; exact h.elim
   | _=>exact hq.elim
  | _=>exact hq.elim
 obtain⟨c,hcj,hdj⟩:=B2 hlt;rw[hdj] at hta;have hta:match A0Y c (s.drop (j+1)) with
   | .error e=>A1s s = .error e
   | .ok p=>if 300<acc.length+1 then A1s s = .error 2 else p8 ((blk false p.2).length+1) (acc++[p.1]) (blk false p.2)=A1s s:=hta
 have hWh:=C5f E2 hPr n0 (n0+1024) w4 w5 wd s h8 acc j hlt;show (Code.seq _ _).wp _ _ _ _;refine wp_seq ?_;show (Code.seq _ _).wp _ _ _ _;refine wp_seq (wkN (E:=E2) kh hWh (fun _ h=>h) (fun _ _ h=>h) hD6 fun τ G6 a6 w6 hD7 hτ=>?_);obtain⟨h17,hcv⟩:=hτ;have he:a6.eval (.tmp 17) = .bool true:=by
  have hr:=(hD7.fr 17 true _ h17).1 rfl;show a6.tmps.getD 17 undef=_;generalize a6.tmps.getD 17 undef=v at hr;cases hr; rfl
 obtain⟨G7,hD8⟩:=hcv G6 a6 w6 hD7;show (Code.cond (.tmp 17) _ _).wp _ _ _ _;refine wp_cond_split he (fun _=>?_) (fun hb=>by cases hb);refine wp_skip ?_;show (Code.seq _ _).wp _ _ _ _;refine wp_seq ?_;show (Code.block _ _).wp _ _ _ _;refine wp_block ?_;show (Code.seq _ _).wp _ _ _ _;cases hpt:A0Y c (s.drop (j+1)) with
 | error e =>
  rw[hpt] at hta;have hta:A1s s = .error e:=hta;have hT:=fun id=>B3L s j c _ (n0+2048) id hj hdj h8;rw[hpt] at hT;have hT:∀id,C1I Tryz.prog 249 [.ptr (n0+2048) 0 0] [(n0+2048,rB s j)] id (erV e):=hT;refine wp_seq ?_;obtain⟨ri,ro,re,rg⟩:=A4o (show D3 Tryz.prog Tryz.f175.ntmps _ = .reg true (crsK.take 2++crsK.getD 2 default::([]++crsK.drop 3)) psK from kk);rw[re];refine A7e (E:=E2) (σ:=j7 E2 n0 (n0+1024) s (acc,j)) (pv:=erV e) (l1:=crsK.take 2) (c:=crsK.getD 2 default) (l2:=[]) (l3:=crsK.drop 3) rg
   (rs1:=[⟨true,.bsl (n0+2049) 0 acc.length,[(n0,oBx (.bsl (n0+2049) 0 acc.length))],[]⟩,⟨true,.ptr (n0+2048) 0 0,[],[]⟩]) (r:=⟨true,.nili,[(n0+2048,rB s j)],goL [(n0+2048,rB s j)]⟩) (rs2:=[]) ?_ ?_ trivial ?_ (fun F B k' G9 u a9 w9 q1 q2 q3 q4=>?_) hD8
  ·simp only[crsK,P9,A0Z,CC.d,List.take,x6,CR.l,CR.m,St.app,B0c,W9,j7,oBx,F1,rB];refine⟨A5Z (by simp) (by simp[hN2]),A5Z (by simp) (by simp[hN2]),trivial⟩
  ·simp[crsK,P9,A0Z,St.apps,St.app,j7,oBx,F1,rB];refine B5I (by simp) (by simp<;>rfl) (hT _) (by simp[hN2])
  ·simp only[crsK,P9,psK,C2X,B42,A0Z,CC.d,List.map,List.append,A1L,List.take,List.length,List.drop,yv,xm];simp[V7,hN2]
  ·have hB:=C0c q3;rw[hB] at q1;have f2:=q2 2 (by decide);have f3:=q2 3 (by decide);refine pnk (k:=k') (hR0 hta) q1 q4 f2 f3 ?_ ?_ ?_
   ·rw[←hB];rcases q3 n0 with h|h
    ·exact⟨.nils,.inl rfl,by rw[h]; simp[E2,ov,U8]⟩
    ·simp[crsK,P9,A0Z,St.apps,St.app,j7,goL,W9,B0c,hN2] at h;rcases h with h|⟨h,_⟩
     ·exact⟨_,.inr ⟨_,_,rfl⟩,h⟩
     ·omega
   ·rw[←hB];rcases q3 (n0+1024) with h|h
    ·rw[h]; simp[E2,ov,U8]
    ·simp[crsK,P9,A0Z,St.apps,St.app,j7,goL,W9,B0c,hN2] at h;exact h
   ·intro x hx;simp[crsK,P9,A0Z,St.apps,St.app,j7,goL,W9,B0c,hN2] at hx;rcases hx with rfl|rfl|rfl|rfl|rfl<;>simp<;>omega
 | ok p =>
  obtain⟨t,u⟩:=p;rw[hpt] at hta;simp only at hta;have hWk:=C5g E2 hPr n0 (n0+1024) w4 w5 wd s h8 acc j hj c _ u t hdj hpt hac;refine wp_seq (wkN (E:=E2) kk hWk (fun _ h=>h) (fun _ _ h=>h) hD8 fun τ G8 a8 w8 hD9 hτ=>?_);obtain⟨G9,hD10⟩:=hτ G8 a8 w8 hD9;by_cases hmany:300<acc.length+1
  ·rw[zj hmany] at hta;have hWl:=C32 E2 hPr n0 (n0+1024) w4 w5 wd s h8 (acc++[t]) (atU s u) true (by simp; omega);show (Code.seq _ _).wp _ _ _ _;refine wp_seq (wkN (E:=E2) kl hWl (fun _ h=>h) (fun _ _ h=>h) hD10 fun τ G10 a10 w10 hD11 hτ=>?_);obtain⟨h27,hcv⟩:=hτ;have he:a10.eval (.tmp 27) = .bool true:=by
    have hr:=(hD11.fr 27 true _ h27).1 rfl;show a10.tmps.getD 27 undef=_;generalize a10.tmps.getD 27 undef=v at hr;cases hr; rfl
   obtain⟨G11,hD12⟩:=hcv G10 a10 w10 hD11;show (Code.cond (.tmp 27) _ _).wp _ _ _ _;refine wp_cond_split he (fun _=>?_) (fun hb=>by cases hb);have hf:=fun id=>A2I 2 id;let E1:R4:={ E2 with Pn:=fun pv σ=>pv=erV 2/\bk σ.bx n0=some (oBx (.bsl (n0+2049) 0 (acc++[t]).length))/\bk σ.bx (n0+1024)=some (F1 0)/\lk σ.fr 2=some (true,.ptr n0 0 0)/\lk σ.fr 3=some (true,.ptr (n0+1024) 0 0)/\∀x∈σ.bx,n0<=x.1 }
   have hN1:E1.n0=n0+2048:=rfl;have hP1:E1.P=Tryz.prog:=rfl;have hW5:Wk E1 [.ops (P9 A61) 0 [] [],.post (fun _=>False)] (j7 E2 n0 (n0+1024) s (acc++[t],atU s u)):=by
    clear hD hD1 hD2 hD3 hD4 hD5 hD6 hD7 hD8 hD9 hD10 hD11 hD12 pnk hR0;unfold j7;refine A3 4000 ?_;simp[P9,A61];refine D5 hP1 rfl (hf _) (by simp) (by simp) (fun pv hpv=>⟨by simp,by injection hpv with hpv; subst hpv; exact⟨rfl,by simp[hN2,oBx],by simp[hN2,F1],rfl,rfl,by simp[hN2]; omega⟩⟩) (fun v wr h=>by cases h)
   refine B0m (E:=E1) (crs:=P9 A61) (km.trans rfl) hW5 hD12 (fun σ G3 a3 w3 h1 h2=>h2.elim) (fun pv u σ G13 a13 w13 h1 h2 h3=>?_);obtain⟨rfl,b4,b5,f4,f5,hl⟩:=h3;exact pnk (k:=2+1024*(P9 A61).length) (hR0 hta) (h1.weak fun x hx=>by simp only[E1,j7] at hx; omega) h2 f4 f5 ⟨_,.inr ⟨_,_,rfl⟩,Q5 _ b4⟩ (Q5 _ b5) hl
  ·rw[zf hmany] at hta;have hWl:=C32 E2 hPr n0 (n0+1024) w4 w5 wd s h8 (acc++[t]) (atU s u) false (by simp; omega);show (Code.seq _ _).wp _ _ _ _;refine wp_seq (wkN (E:=E2) kl hWl (fun _ h=>h) (fun _ _ h=>h) hD10 fun τ G10 a10 w10 hD11 hτ=>?_);obtain⟨h27,hcv⟩:=hτ;have he:a10.eval (.tmp 27) = .bool false:=by
    have hr:=(hD11.fr 27 true _ h27).1 rfl;show a10.tmps.getD 27 undef=_;generalize a10.tmps.getD 27 undef=v at hr;cases hr; rfl
   obtain⟨G11,hD12⟩:=hcv G10 a10 w10 hD11;show (Code.cond (.tmp 27) _ _).wp _ _ _ _;refine wp_cond_split he (fun hb=>by cases hb) (fun _=>?_);refine wp_skip ?_;have hus2:u <:+ s:=by
    refine (A5F hpt).2.trans ?_;exact List.drop_suffix _ _
   obtain⟨q1,q2⟩:=B1W hus2;have hWn:=C5h E2 hPr n0 (n0+1024) w4 w5 wd s h8 (acc++[t]) (atU s u) q2;refine wkN (E:=E2) kn hWn (fun _ h=>h) (fun _ _ h=>h) hD12 fun τ G12 a12 w12 hD13 hτ=>?_;obtain⟨G13,hD14⟩:=hτ G12 a12 w12 hD13;obtain⟨p1,p2⟩:=B1W (s:=s) (u:=blk false u) ((A3x false u).trans hus2);have hu1:=(A5F hpt).1;have hu2:=A2l false u;have hjl:(s.drop (j+1)).length+(j+1)=s.length:=(by rw[zx]; omega);have hbb:A1J s (atU s u)=atU s (blk false u):=(by unfold A1J; rw[q1]);show ∃x' G',_/\_/\_;refine⟨(acc++[t],A1J s (atU s u)),G13,⟨?_,?_,?_,by simp; omega⟩,?_,hD14⟩
   ·show A1J s (atU s u)<=s.length;rw[hbb]; exact p2
   ·show blk false (s.drop (A1J s (atU s u)))=s.drop (A1J s (atU s u));rw[hbb,p1,A1f]
   ·show p8 ((s.drop (A1J s (atU s u))).length+1) (acc++[t]) (s.drop (A1J s (atU s u)))=A1s s;rw[hbb,p1]; exact hta
   ·show s.length - A1J s (atU s u)<s.length - j;rw[hbb];unfold atU;omega
theorem C2Y(s:List UInt8)(id:Nat):A2 Tryz.prog 108 [.str s] [] id (C0g (A5E s)) []:=by
 by_cases h:2000<s.length
 ·have e:C0g (A5E s) = .tup [.nils,.int .i64 2]:=by unfold A5E; rw[zj h]; rfl
  rw[e];refine w108.e.1 fun E hP hR hl hid=>?_;simp[w108];refine A9 (by simp; omega) ?_;simp;exact yP hR
 ·have e:A5E s=A1s s:=by unfold A5E; rw[zf h]
  have hA:=fun id=>C0h s id (by omega);rw[e];cases hf:A1s s with
  | ok l =>
   rw[hf] at hA;have hA:∀id,A2 Tryz.prog 175 [.str s] [] id (.tup [.sl (l.map m7),.int .i64 0]) []:=hA;show A2 _ _ _ _ _ (.tup [.sl (l.map m7),.int .i64 0]) _;refine w108.e.1 fun E hP hR hl hid=>?_;simp[w108];refine A0 (by simp; omega) ?_;simp;(refine yH rfl (hA _) ?_; simp);exact yP hR
  | error e =>
   rw[hf] at hA;have hA:∀id,A2 Tryz.prog 175 [.str s] [] id (.tup [.nils,.int .i64 e]) []:=hA;show A2 _ _ _ _ _ (.tup [.nils,.int .i64 e]) _;refine w108.e.1 fun E hP hR hl hid=>?_;simp[w108];refine A0 (by simp; omega) ?_;simp;(refine yH rfl (hA _) ?_; simp);exact yP hR
@[simp] theorem A67 (t:Tk):(m7 t).pureB=true:=rfl
@[simp] theorem B7g (l:List Int):F9 (l.map (AV.int .i64))=true:=E7 (fun _=>rfl) l
@[simp] theorem C4H (S:Nat->Prop) (l:List Int):F3 S (l.map (AV.int .i64)):=B3 _ (B7g l)
def tB(z l:List Tk):Bx:=⟨[.agg [.sl (l.map m7)]],.agg [.sl (z.map m7)],false,false⟩
theorem B5(z l:List Tk):tB z l=⟨[.agg [.sl (l.map m7)]],.agg [.sl (z.map m7)],false,false⟩:=rfl
def rdT(J:Nat)(z:List Tk):Option (AV×List Tk)->Except AV (AV×List (Nat×Option Bx))
 | some (v,u)=>.ok (v,[(J,some (tB z u))])
 | none=>.error (erV 1)
theorem A8c(e:Int)(id:Nat):Y5 Tryz.prog 176 [.int .i64 e] [] id (.error (erV e)):=by
 refine A38 w176.hf w176.hc w176.hn w176.hr (by simp[Tryz.ntmps176]) fun E hP hR hPn hl hid hB hu=>?_;refine A3 9 ?_;simp[w176];refine B0l (by simp<;>rfl) (by simp) ⟨by simp,hPn _ _ rfl rfl (by simp)⟩
theorem B6B(z l:List Tk)(c:UInt8)(J id:Nat):A2 Tryz.prog 177 [.ptr J 0 0,.str [c]] [(J,tB z l)] id (.bool (isS l c)) []:=by
 rw[B5];cases l with
 | nil =>
  refine w177.e.1 fun E hP hR hl hid=>?_;simp[w177];have hJ:=hl (J,_) (za ..);simp only at hJ;have J1:=lf hJ;refine yE hR [] (by simp[isS,J1,A4 hid]) fun hrn=>⟨?_,?_,?_,?_,?_,?_⟩<;>(try simp[isS,J1,A4 hid]);all_goals exact B3 _ (by simp[F9,A67])
 | cons t l =>
  refine w177.e.1 fun E hP hR hl hid=>?_;simp[w177];have hJ:=hl (J,_) (za ..);simp only at hJ;have J1:=lf hJ;simp[m7,J1];refine yE hR [] (by simp[isS,m7,J1,A4 hid]) fun hrn=>⟨?_,?_,?_,?_,?_,?_⟩<;>(try simp[isS,m7,J1,A4 hid]);all_goals exact B3 _ (by simp[F9,A67])
theorem C0i(z l:List Tk)(J id:Nat):Y5 Tryz.prog 110 [.ptr J 0 0] [(J,tB z l)] id (if l=[] then .ok (.tup [],[]) else .error (erV 1)):=by
 have hf:=fun id=>A8c 1 id;rw[B5];cases l with
 | nil =>
  refine w110.x.1 fun E hP hR hPn hl hid hB hu=>?_;simp[w110];have hJ:=hl (J,_) (za ..);simp only at hJ;have J1:=lf hJ;have hrn:H5 []:=by simp[J1,A4 hid]
  refine hR _ _ _ (rfl) ?_;refine E8 (by simp[J1,A4 hid]<;>rfl) [] hrn ⟨?_,?_,?_,?_,?_,?_⟩<;>(try simp[J1,A4 hid]);all_goals exact B3 _ (by simp[F9,A67])
 | cons t l =>
  rw[zf (by simp)];refine w110.x.1 fun E hP hR hPn hl hid hB hu=>?_;simp[w110];have hJ:=hl (J,_) (za ..);simp only at hJ;have J1:=lf hJ;refine D5 hP rfl (hf _) (by simp[J1]) (by simp[J1]<;>rfl) (fun pv hpv=>⟨by simp[J1],by injection hpv with hpv; subst hpv; exact hPn _ _ (rfl) rfl (by simp[J1])⟩) (fun v wr h=>by cases h)
theorem B7h(ks:List Int)(x:Int)(id:Nat)(h8:ks.length<=1000000):A2 Tryz.prog 224 [.sl (ks.map (.int .i64)),.int .i64 x] [] id (.int .i64 (B8 (fun y=>y==x) ks 0)) []:=by
 have hp:F9 (ks.map (AV.int .i64))=true:=E7 (fun _=>rfl) ks;refine w224.e.1 fun E hP hR hl hid=>?_;simp[w224];refine D0 (X:=Nat) (fun i=>⟨[(0,true,.sl (ks.map (.int .i64))),(1,true,.int .i64 x),(7,true,.int .i64 ks.length),(8,true,.int .i64 i)],[],0⟩)
  (fun i=>i<=ks.length/\B8 (fun y=>y==x) (ks.drop i) i=B8 (fun y=>y==x) ks 0) (fun i=>ks.length - i) 0 ?_ ⟨by omega,rfl⟩ ?_
 ·refine yV [] (by simp) fun hrn=>⟨?_,?_,?_,?_,?_⟩<;>(try simp)
 rintro i ⟨hi,hf⟩ p hpp;rcases yh i ks.length with h|h
 ·obtain⟨y,hy,hd⟩:=B2 h;have hli:ks[i]=y:=by
   rw[zc h] at hy;injection hy
  have hi1:IntKind.i64.wrap ((i:Int)+1)=((i+1:Nat):Int):=A5 (by omega);rw[hd] at hf;simp only[B8] at hf;refine A3 4000 ?_;simp[h,hli];by_cases hxy:y=x
  ·rw[zj (by simpa using hxy)] at hf;rw[←hf] at hR;refine A9 (by simp[hxy]) ?_;simp;exact yP hR
  ·rw[zf (by simpa using hxy)] at hf;refine A0 (by simpa using fun q=>hxy q.symm) ?_;simp;refine hpp _ (i+1) ⟨h,hf⟩ (by omega) ?_;refine yV [] (by simp[hi1]) fun hrn=>⟨?_,?_,?_,?_,?_⟩<;>(try simp[hi1])
 ·rw[zn h] at hf;have hf : -1=B8 (fun y=>y==x) ks 0:=hf;rw[←hf] at hR;refine A3 4000 ?_;simp[ru.2 h];exact yP hR
theorem A5L(ks:List Int)(x:Int)(id:Nat)(h8:ks.length<=1000000):A2 Tryz.prog 159 [.sl (ks.map (.int .i64)),.int .i64 x] [] id (.bool (ks.any (·==x))) []:=by
 have hI:=fun id=>B7h ks x id h8;rw[←T3 (fun y=>y==x) ks 0];refine w159.e.1 fun E hP hR hl hid=>?_;simp[w159];(refine yH rfl (hI _) ?_; simp);exact yP hR
def isK(ks:List Int)(l:List Tk):Bool:=match l with
 | t::_=>ks.any (·==t.kind)
 | []=>false
theorem B6C(z l:List Tk)(t:Tk)(ks:List Int)(J id:Nat)(hk:ks.any (·==t.kind)=true)(h8:ks.length<=1000000):
  A2 Tryz.prog 251 [.ptr J 0 0,.sl (ks.map (.int .i64))] [(J,tB z (t::l))] id (m7 t) [(J,some (tB z l))]:=by
 have hC:=fun id=>A5L ks t.kind id h8;rw[hk] at hC;rw[B5,B5];have hne:(((l.length:Int)+1)==0)=false:=by rw[beq_eq_false_iff_ne]; omega
 have het:m7 t = .agg [.int .i64 t.kind,.str t.text,.int .i64 t.n]:=rfl;refine w251.e.1 fun E hP hR hl hid=>?_;simp[w251];have hJ:=hl (J,_) (za ..);simp only at hJ;have J1:=lf hJ;simp[hne,het,J1];(refine I3 hP (by simp[hne,het,J1]) rfl (fun hc=>⟨hC _,by revert hc; simp[hne,het,J1]; try grind,by simp[hne,het,J1]⟩) ?_; refine A3 4000 ?_; simp[hne,het,J1]);refine⟨⟨fun a _=>rfl,by omega⟩,?_⟩;refine yE hR [] (by simp[het,J1,A4 hid]) fun hrn=>⟨?_,?_,?_,?_,?_,?_⟩<;>(try simp[het,J1,A4 hid])
theorem B6D(z l:List Tk)(ks:List Int)(J id:Nat)(hk:isK ks l=false)(h8:ks.length<=1000000):
  Y5 Tryz.prog 251 [.ptr J 0 0,.sl (ks.map (.int .i64))] [(J,tB z l)] id (.error (erV 1)):=by
 have hf:=fun id=>A8c 1 id;rw[B5];cases l with
 | nil =>
  refine w251.x.1 fun E hP hR hPn hl hid hB hu=>?_;simp[w251];have hJ:=hl (J,_) (za ..);simp only at hJ;have J1:=lf hJ;simp[J1];refine I3 hP (by simp) rfl (v:=.bool false) (rd:=[]) (fun hh=>by simp at hh) ?_;refine A3 4000 ?_;simp[J1];refine D5 hP rfl (hf _) (by simp[J1]) (by simp[J1]<;>rfl) (fun pv hpv=>⟨by simp[J1],by injection hpv with hpv; subst hpv; exact hPn _ _ (rfl) rfl (by simp[J1])⟩) (fun v wr h=>by cases h)
 | cons t l =>
  have hC:=fun id=>A5L ks t.kind id h8;have hk:ks.any (·==t.kind)=false:=hk;rw[hk] at hC;have hne:(((l.length:Int)+1)==0)=false:=by rw[beq_eq_false_iff_ne]; omega
  have het:m7 t = .agg [.int .i64 t.kind,.str t.text,.int .i64 t.n]:=rfl;refine w251.x.1 fun E hP hR hPn hl hid hB hu=>?_;simp[w251];have hJ:=hl (J,_) (za ..);simp only at hJ;have J1:=lf hJ;simp[hne,het,J1];(refine I3 hP (by simp[hne,het,J1]) rfl (fun hc=>⟨hC _,by revert hc; simp[hne,het,J1]; try grind,by simp[hne,het,J1]⟩) ?_; refine A3 4000 ?_; simp[hne,het,J1]);refine D5 hP rfl (hf _) (by simp[J1]) (by simp[J1]<;>rfl) (fun pv hpv=>⟨by simp[J1],by injection hpv with hpv; subst hpv; exact hPn _ _ (rfl) rfl (by simp[J1])⟩) (fun v wr h=>by cases h)
theorem B1X(z l:List Tk)(c:UInt8)(J id:Nat)(h:isS l c=true):
  A2 Tryz.prog 111 [.ptr J 0 0,.str [c]] [(J,tB z l)] id (.tup []) [(J,some (tB z (l.drop 1)))]:=by
 have hI:=fun id=>B6B z l c J id;rw[h] at hI;cases l with
 | nil=>cases h
 | cons t l =>
  rw[B5] at hI;rw[vi,vd,B5,B5];refine w111.e.1 fun E hP hR hl hid=>?_;simp[w111];have hJ:=hl (J,_) (za ..);simp only at hJ;have J1:=lf hJ;(refine yC rfl (hI _) ?_; simp[J1]);refine⟨by simp[m7]; omega,?_⟩;refine yE hR [] (by simp[J1,A4 hid]) fun hrn=>⟨?_,?_,?_,?_,?_,?_⟩<;>(try simp[J1,A4 hid])
theorem B6E(z l:List Tk)(c:UInt8)(J id:Nat)(h:isS l c=false):
  Y5 Tryz.prog 111 [.ptr J 0 0,.str [c]] [(J,tB z l)] id (.error (erV 1)):=by
 have hI:=fun id=>B6B z l c J id;have hf:=fun id=>A8c 1 id;rw[h] at hI;rw[B5] at *;refine w111.x.1 fun E hP hR hPn hl hid hB hu=>?_;simp[w111];have hJ:=hl (J,_) (za ..);simp only at hJ;have J1:=lf hJ;(refine yC rfl (hI _) ?_; simp[J1]);refine D5 hP rfl (hf _) (by simp[J1]) (by simp[J1]<;>rfl) (fun pv hpv=>⟨by simp[J1],by injection hpv with hpv; subst hpv; exact hPn _ _ (rfl) rfl (by simp[J1])⟩) (fun v wr h=>by cases h)
def C0j(l:List Tk)(c:UInt8):List Tk:=if isS l c=true then l.drop 1 else l
theorem v8{l:List Tk}{c:UInt8}(h:isS l c=true):C0j l c=l.drop 1:=by unfold C0j; rw[zj h]
theorem A2n{l:List Tk}{c:UInt8}(h:isS l c=false):C0j l c=l:=by unfold C0j; rw[zf (by simp[h])]
theorem A3W(z l:List Tk)(c:UInt8)(J id:Nat):
  A2 Tryz.prog 178 [.ptr J 0 0,.str [c]] [(J,tB z l)] id (.bool (isS l c)) [(J,some (tB z (C0j l c)))]:=by
 have hI:=fun id=>B6B z l c J id;cases h:isS l c with
 | false =>
  rw[A2n h];rw[h] at hI;rw[B5] at *;refine w178.e.1 fun E hP hR hl hid=>?_;simp[w178];have hJ:=hl (J,_) (za ..);simp only at hJ;have J1:=lf hJ;(refine yC rfl (hI _) ?_; simp[J1]);refine yE hR [] (by simp[J1,A4 hid]) fun hrn=>⟨?_,?_,?_,?_,?_,?_⟩<;>(try simp[J1,A4 hid])
 | true =>
  rw[v8 h];rw[h] at hI;cases l with
  | nil=>cases h
  | cons t l =>
   rw[B5] at hI;rw[vi,vd,B5,B5];refine w178.e.1 fun E hP hR hl hid=>?_;simp[w178];have hJ:=hl (J,_) (za ..);simp only at hJ;have J1:=lf hJ;(refine yC rfl (hI _) ?_; simp[J1]);refine⟨by simp[m7]; omega,?_⟩;refine yE hR [] (by simp[J1,A4 hid]) fun hrn=>⟨?_,?_,?_,?_,?_,?_⟩<;>(try simp[J1,A4 hid])
theorem C5i(l:List Tk):isK [1] l=isW l:=by
 cases l with
 | nil=>rfl
 | cons t l=>simp only[isK,isW,tz,ql,tw]; exact BEq.comm
theorem A3X(z l:List Tk)(t:Tk)(J id:Nat)(h:t.kind=1):
  A2 Tryz.prog 179 [.ptr J 0 0] [(J,tB z (t::l))] id (.str t.text) [(J,some (tB z l))]:=by
 have hN:=fun id=>B6C z l t [1] J id (by simp[h]) (by simp);have het:m7 t = .agg [.int .i64 t.kind,.str t.text,.int .i64 t.n]:=rfl;rw[het] at hN;rw[B5,B5] at *;refine w179.e.1 fun E hP hR hl hid=>?_;simp[w179];have hJ:=hl (J,_) (za ..);simp only at hJ;have J1:=lf hJ;(refine A2T hP rfl (hN _) (by simp[J1]<;>rfl) (by simp[J1]) (by simp[J1]<;>rfl) (by simp[J1]) ?_; refine A3 4000 ?_; simp[J1]);refine yE hR [] (by simp[J1,A4 hid]) fun hrn=>⟨?_,?_,?_,?_,?_,?_⟩<;>(try simp[J1,A4 hid])
theorem B1Y(z l:List Tk)(J id:Nat)(h:isW l=false):
  Y5 Tryz.prog 179 [.ptr J 0 0] [(J,tB z l)] id (.error (erV 1)):=by
 have hN:=fun id=>B6D z l [1] J id (by rw[C5i,h]) (by simp);rw[B5] at *;refine w179.x.1 fun E hP hR hPn hl hid hB hu=>?_;simp[w179];have hJ:=hl (J,_) (za ..);simp only at hJ;have J1:=lf hJ;refine A7c hP rfl (hN _) (by simp[J1]<;>rfl) (by simp[J1]) (by simp[J1]<;>rfl) (by simp[J1]) (fun pv hpv=>⟨by simp[J1],by injection hpv with hpv; subst hpv; exact hPn _ _ (rfl) rfl (by simp[J1])⟩) (fun v wr h=>by cases h)
theorem A2L{l:List Tk}(h:isW l=true):∃t r,l=t::r/\t.kind=1:=by
 cases l with
 | nil=>cases h
 | cons t r=>exact⟨t,r,rfl,by simpa [isW] using h⟩
theorem A3Y{l:List Tk}{c:UInt8}(h:isS l c=true):∃t r,l=t::r:=by
 cases l with
 | nil=>cases h
 | cons t r=>exact⟨t,r,rfl⟩
theorem B3M{l:List Tk}(h:isV l=true):∃t r,l=t::r/\[2,3].any (·==t.kind)=true:=by
 cases l with
 | nil=>cases h
 | cons t r =>
  refine⟨t,r,rfl,?_⟩;simp only[isV,ud,beq_iff_eq] at h;simp only[tz,ql,tw,ud,beq_iff_eq];exact h.imp Eq.symm Eq.symm
theorem C5j{l:List Tk}(h:isV l=false):isK [2,3] l=false:=by
 cases l with
 | nil=>rfl
 | cons t r =>
  simp only[isV,we,beq_eq_false_iff_ne] at h;simp only[isK,tz,ql,tw,we,beq_eq_false_iff_ne];exact h.imp zt zt
theorem C2Z(z l:List Tk)(J id:Nat)(h:pAg l=none):Y5 Tryz.prog 181 [.ptr J 0 0] [(J,tB z l)] id (.error (erV 1)):=by
 unfold pAg at h;by_cases h1:isW l=true
 rotate_left
 ·have hN:=fun id=>B1Y z l J id (by simpa using h1);rw[B5] at *;refine w181.x.1 fun E hP hR hPn hl hid hB hu=>?_;simp[w181];have hJ:=hl (J,_) (za ..);simp only at hJ;have J1:=lf hJ;refine D5 hP rfl (hN _) (by simp[J1]) (by simp[J1]<;>rfl) (fun pv hpv=>⟨by simp[J1],by injection hpv with hpv; subst hpv; exact hPn _ _ (rfl) rfl (by simp[J1])⟩) (fun v wr h=>by cases h)
 obtain⟨t,r,rfl,hk⟩:=A2L h1;have hN:=fun id=>A3X z r t J id hk;by_cases h2:isS r 58=true
 rotate_left
 ·have hS:=fun id=>B6E z r 58 J id (by simpa using h2);rw[B5] at hS;rw[B5,B5] at hN;rw[B5];refine w181.x.1 fun E hP hR hPn hl hid hB hu=>?_;simp[w181];have hJ:=hl (J,_) (za ..);simp only at hJ;have J1:=lf hJ;(refine yC rfl (hN _) ?_; simp[J1]);refine D5 hP rfl (hS _) (by simp[J1]) (by simp[J1]<;>rfl) (fun pv hpv=>⟨by simp[J1],by injection hpv with hpv; subst hpv; exact hPn _ _ (rfl) rfl (by simp[J1])⟩) (fun v wr h=>by cases h)
 have hS:=fun id=>B1X z r 58 J id h2;obtain⟨t2,r2,rfl⟩:=A3Y h2;have h3:isV r2=false:=by
  rw[Bool.eq_false_iff]; intro h3;rw[zj ⟨h1,h2,h3⟩] at h; cases h
 have hV:=fun id=>B6D z r2 [2,3] J id (C5j h3) (by simp);rw[vi,vd,B5,B5] at hS;rw[B5] at hV;rw[B5,B5] at hN;rw[B5];refine w181.x.1 fun E hP hR hPn hl hid hB hu=>?_;simp[w181];have hJ:=hl (J,_) (za ..);simp only at hJ;have J1:=lf hJ;(refine yC rfl (hN _) ?_; simp[J1]);(refine yC rfl (hS _) ?_; simp[J1]);refine A7c hP rfl (hV _) (by simp[J1]<;>rfl) (by simp[J1]) (by simp[J1]<;>rfl) (by simp[J1]) (fun pv hpv=>⟨by simp[J1],by injection hpv with hpv; subst hpv; exact hPn _ _ (rfl) rfl (by simp[J1])⟩) (fun v wr h=>by cases h)
theorem C2a(z l:List Tk)(a:Ag)(u:List Tk)(J id:Nat)(h:pAg l=some (a,u)):A2 Tryz.prog 181 [.ptr J 0 0] [(J,tB z l)] id (t7 a) [(J,some (tB z u))]:=by
 unfold pAg at h;split at h
 rotate_left
 ·cases h
 rename_i hh;obtain⟨h1,h2,h3⟩:=hh;obtain⟨t,r,rfl,hk⟩:=A2L h1;have hN:=fun id=>A3X z r t J id hk;rw[vi,vd] at h2;have hS:=fun id=>B1X z r 58 J id h2;obtain⟨t2,r2,rfl⟩:=A3Y h2;obtain⟨t3,r3,rfl,hk3⟩:=B3M h3;have hV:=fun id=>B6C z r3 t3 [2,3] J id hk3 (by simp);have het:m7 t3 = .agg [.int .i64 t3.kind,.str t3.text,.int .i64 t3.n]:=rfl;rw[het] at hV;injection h with h
 rw[zi] at h;obtain⟨rfl,rfl⟩:=h;show A2 _ _ _ _ _ (.agg [.str t.text,.bool (t3.kind==3),.str t3.text,.int .i64 t3.n]) [(J,some (tB z r3))];rw[vi,vd,B5,B5] at hS;rw[B5,B5] at hV;rw[B5,B5] at hN;rw[B5,B5];refine w181.e.1 fun E hP hR hl hid=>?_;simp[w181];have hJ:=hl (J,_) (za ..);simp only at hJ;have J1:=lf hJ;(refine yC rfl (hN _) ?_; simp[J1]);(refine yC rfl (hS _) ?_; simp[J1]);(refine A2T hP rfl (hV _) (by simp[J1]<;>rfl) (by simp[J1]) (by simp[J1]<;>rfl) (by simp[J1]) ?_; refine A3 4000 ?_; simp[J1]);refine yE hR [] (by simp[J1,A4 hid]) fun hrn=>⟨?_,?_,?_,?_,?_,?_⟩<;>(try simp[J1,A4 hid])
theorem B7i{a b c d:Nat}(h:[a,b,c,d].Nodup):((a=b)=False/\(b=a)=False)/\((a=c)=False/\(c=a)=False)/\((a=d)=False/\(d=a)=False)/\((b=c)=False/\(c=b)=False)/\((b=d)=False/\(d=b)=False)/\(c=d)=False/\(d=c)=False:=by
 simp at h;obtain⟨⟨h1,h2,h3⟩,⟨h4,h5⟩,h6⟩:=h;exact⟨⟨eq_false h1,eq_false (zt h1)⟩,⟨eq_false h2,eq_false (zt h2)⟩,⟨eq_false h3,eq_false (zt h3)⟩,⟨eq_false h4,eq_false (zt h4)⟩,⟨eq_false h5,eq_false (zt h5)⟩,eq_false h6,eq_false (zt h6)⟩
def U4(J:Nat):Bx:=⟨[.ptr J 0 0],.ptr J 0 0,false,false⟩
theorem Q1(J:Nat):U4 J=⟨[.ptr J 0 0],.ptr J 0 0,false,false⟩:=rfl
def sK(al nm:List UInt8)(v:AV):Bx:=⟨[.agg [.str al,.str nm,v,.nils]],.agg [.str [],.str [],.nils,.nils],false,false⟩
theorem A2M(al nm:List UInt8)(v:AV):sK al nm v=⟨[.agg [.str al,.str nm,v,.nils]],.agg [.str [],.str [],.nils,.nils],false,false⟩:=rfl
def aB(l:List Ag):Bx:=⟨l.map t7,.agg [.str [],.bool false,.str [],.int .i64 0],false,false⟩
theorem A2N(l:List Ag):aB l=⟨l.map t7,.agg [.str [],.bool false,.str [],.int .i64 0],false,false⟩:=rfl
theorem C0k(z t:List Tk)(l:List Ag)(al nm:List UInt8)(J V K M id:Nat)(hd:[J,V,K,M].Nodup)(h:pAg t=none):
  Y5 Tryz.prog 180 [.ptr K 0 0,.ptr V 0 0] [(J,tB z t),(V,U4 J),(K,sK al nm (.bsl M 0 l.length)),(M,aB l)] id (.error (erV 1)):=by
 have d:=B7i hd;have hA:=fun id=>C2Z z t J id h;rw[B5] at *;rw[Q1,A2M,A2N];refine w180.x.1 fun E hP hR hPn hl hid hB hu=>?_;simp[w180];have hJ:=hl (J,_) (za ..);simp only at hJ;have J1:=lf hJ;have hV:=hl (V,_) (zb _ (za ..));simp only at hV;have V1:=lf hV;have hK:=hl (K,_) (zb _ (zb _ (za ..)));simp only at hK;have K1:=lf hK;have hM:=hl (M,_) (zb _ (zb _ (zb _ (za ..))));simp only at hM;have M1:=lf hM;simp[J1,V1,K1,M1,d];refine D5 hP rfl (hA _) (by simp[J1,V1,K1,M1,d]) (by simp[J1,V1,K1,M1,d]<;>rfl) (fun pv hpv=>⟨by simp[J1,V1,K1,M1,d],by injection hpv with hpv; subst hpv; exact hPn _ _ (rfl) rfl (by simp[J1,V1,K1,M1,d])⟩) (fun v wr h=>by cases h)
theorem C0l(z t:List Tk)(l:List Ag)(a:Ag)(u:List Tk)(al nm:List UInt8)(J V K M id:Nat)(hd:[J,V,K,M].Nodup)(h:pAg t=some (a,u))(hl8:l.length<=1099511627776):
  A2 Tryz.prog 180 [.ptr K 0 0,.ptr V 0 0] [(J,tB z t),(V,U4 J),(K,sK al nm (.bsl M 0 l.length)),(M,aB l)] id (.tup []) [(J,some (tB z u)),(K,some (sK al nm (.bsl id 0 (l.length+1)))),(M,none),(id,some (aB (l++[a])))]:=by
 have d:=B7i hd;have hA:=fun id=>C2a z t a u J id h;have hex:(l++[a]).map t7=l.map t7++[t7 a]:=by simp
 have hoe:t7 a = .agg [.str a.name,.bool a.isText,.str a.text,.int .i64 a.n]:=rfl;rw[hoe] at hA hex;rw[B5,B5] at hA;rw[B5,B5,Q1,A2M,A2M,A2N,A2N,hex];refine w180.e.1 fun E hP hR hl hid=>?_;simp[w180];have hJ:=hl (J,_) (za ..);simp only at hJ;have J1:=lf hJ;have hV:=hl (V,_) (zb _ (za ..));simp only at hV;have V1:=lf hV;have hK:=hl (K,_) (zb _ (zb _ (za ..)));simp only at hK;have K1:=lf hK;have hM:=hl (M,_) (zb _ (zb _ (zb _ (za ..))));simp only at hM;have M1:=lf hM;simp[J1,V1,K1,M1,d];(refine yC rfl (hA _) ?_; simp[J1,V1,K1,M1,d]);refine⟨⟨by omega,by omega⟩,?_⟩;refine yE hR [(id,E.n0+5120)] (by simp[J1,V1,K1,M1,d,A4 hid]) fun hrn=>⟨?_,?_,?_,?_,?_,?_⟩<;>(try simp[J1,V1,K1,M1,d,A4 hid]);exact C2 rfl (C4 (A3H _) rfl)
theorem B1Z{t u:List Tk}{a:Ag}(h:pAg t=some (a,u)):u.length+3<=t.length:=by
 unfold pAg at h;split at h
 ·rename_i hh;obtain⟨h1,h2,h3⟩:=hh;injection h with h
  rw[zi] at h;rw[←h.2,zx];obtain⟨_,_,e,_⟩:=B3M h3;have:=congrArg List.length e;rw[zx,yd] at this;omega
 ·cases h
def agS(n0 J V K M:Nat)(z:List Tk)(al nm:List UInt8):Bool->List Ag->List Tk->St
 | true,l,t=>⟨[(0,true,.ptr J 0 0),(1,true,.str [41]),(2,true,.fn 180 [.ptr K 0 0,.ptr V 0 0])],[(J,some (tB z t)),(V,some (U4 J)),(K,some (sK al nm (.bsl M 0 l.length))),(M,some (aB l))],0⟩
 | false,l,t=>⟨[(0,true,.ptr J 0 0),(1,true,.str [41]),(2,true,.fn 180 [.ptr K 0 0,.ptr V 0 0])],[(J,some (tB z t)),(V,some (U4 J)),(K,some (sK al nm (.bsl n0 0 l.length))),(M,none),(n0,some (aB l))],1⟩
def B7j(J K M id:Nat)(z:List Tk)(al nm:List UInt8):Option (List Ag×List Tk)->Except AV (AV×List (Nat×Option Bx))
 | none=>.error (erV 1)
 | some (l,u)=>.ok (.tup [],[(J,some (tB z u)),(K,some (sK al nm (.bsl id 0 l.length))),(M,none),(id,some (aB l))])
theorem C0m(n:Nat)(z s:List Tk)(al nm:List UInt8)(J V K M id:Nat)(hd:[J,V,K,M].Nodup)(hn:s.length<n)(h8:s.length<=1099511627776):
  Y5 Tryz.prog 112 [.ptr J 0 0,.str [41],.fn 180 [.ptr K 0 0,.ptr V 0 0]] [(J,tB z s),(V,U4 J),(K,sK al nm (.bsl M 0 0)),(M,aB [])] id (B7j J K M id z al nm (A1t n [] s)):=by
 have d:=B7i hd;rw[B5,Q1,A2M,A2N];refine w112.x.1 fun E hP hR hPn hl hid hB hu=>?_;simp[w112];have hJ:=hl (J,_) (za ..);simp only at hJ;have J1:=lf hJ;have hV:=hl (V,_) (zb _ (za ..));simp only at hV;have V1:=lf hV;have hK:=hl (K,_) (zb _ (zb _ (za ..)));simp only at hK;have K1:=lf hK;have hM:=hl (M,_) (zb _ (zb _ (zb _ (za ..))));simp only at hM;have M1:=lf hM;refine D0 (X:=Bool×List Ag×List Tk×Nat) (fun q=>agS E.n0 J V K M z al nm q.1 q.2.1 q.2.2.1)
  (fun q=>(A1t q.2.2.2 q.2.1 q.2.2.1=A1t n [] s/\q.2.2.1.length<q.2.2.2)/\q.2.1.length+q.2.2.1.length<=s.length/\(q.1=true->q.2.1=[])) (fun q=>q.2.2.1.length) (true,[],s,n) ?_ ⟨⟨rfl,hn⟩,by simp,fun _=>rfl⟩ ?_
 ·refine yV [] (by simp[agS,tB,U4,sK,aB,J1,V1,K1,M1,d]) fun hrn=>⟨?_,?_,?_,?_,?_⟩<;>(try simp[agS,tB,U4,sK,aB,J1,V1,K1,M1,d])
 rintro⟨first,l,t,m⟩ ⟨⟨hx,hm⟩,hll,hfl⟩ p hp;simp only at hx hm hll hfl;obtain⟨m,rfl⟩:=wj (show m≠0 by omega);cases first with
 | true =>
  obtain rfl:=hfl rfl;cases hq:pAg t with
  | none =>
   have hdo:=fun id=>C0k z t [] al nm J V K M id hd hq;have e:B7j J K M id z al nm (A1t n [] s) = .error (erV 1):=by
    rw[←hx]; simp only[xx,A1t]; rw[hq]; rfl
   rw[B5,Q1,A2M,A2N] at hdo;unfold agS;refine A3 4000 ?_;simp[tB,U4,sK,aB,J1,V1,K1,M1,d];refine A28 hP (by simp<;>exact⟨rfl,rfl⟩) rfl (hdo _) (by simp[J1,V1,K1,M1,d]) (by simp[J1,V1,K1,M1,d]<;>rfl) (fun pv hpv=>⟨by simp[J1,V1,K1,M1,d],by injection hpv with hpv; subst hpv; exact hPn _ _ (e) rfl (by simp[J1,V1,K1,M1,d])⟩) (fun v wr h=>by cases h)
  | some w =>
   obtain⟨a,u⟩:=w;have hlt:=B1Z hq;have hdo:=fun id=>C0l z t [] a u al nm J V K M id hd hq (by simp);have hT:=fun id=>A3W z u 41 J id;have e0:A1t n [] s=if isS u 41=true then some ([a],u.drop 1) else A1t m [a] u:=by
    rw[←hx]; simp only[xx,A1t]; rw[hq]; rfl
   have hoe:t7 a = .agg [.str a.name,.bool a.isText,.str a.text,.int .i64 a.n]:=rfl;rw[B5,Q1,A2M,A2N,B5,A2N] at hdo;simp only[A2M] at hdo;by_cases hs:isS u 41=true
   ·rw[zj hs] at e0;rw[hs,v8 hs] at hT;generalize u.drop 1=v at *;rw[B5,B5] at hT;have e:B7j J K M id z al nm (A1t n [] s) = .ok (.tup [],[(J,some (tB z v)),(K,some (sK al nm (.bsl id 0 1))),(M,none),(id,some (aB [a]))]):=(by rw[e0]; rfl);unfold agS;refine A3 4000 ?_;simp[tB,U4,sK,aB,J1,V1,K1,M1,d];(refine L5 hP (by simp<;>exact⟨rfl,rfl⟩) rfl (hdo _) (by simp[J1,V1,K1,M1,d]) (by simp[J1,V1,K1,M1,d]<;>rfl) ?_; refine A3 4000 ?_; simp[J1,V1,K1,M1,d]);(refine yC rfl (hT _) ?_; simp[J1,V1,K1,M1,d]);have hrn:H5 [(id,E.n0+1024)]:=(by simp[tB,U4,sK,aB,hoe,J1,V1,K1,M1,d,A4 hid]);refine hR _ _ _ (e) ?_;refine E8 (by simp[tB,U4,sK,aB,hoe,J1,V1,K1,M1,d,A4 hid]<;>rfl) [(id,E.n0+1024)] hrn ⟨?_,?_,?_,?_,?_,?_⟩<;>(try simp[tB,U4,sK,aB,hoe,J1,V1,K1,M1,d,A4 hid])
   ·have hs:isS u 41=false:=(by simpa using hs);rw[zf (by simp[hs])] at e0;rw[hs,A2n hs,B5] at hT;unfold agS;refine A3 4000 ?_;simp[tB,U4,sK,aB,J1,V1,K1,M1,d];(refine L5 hP (by simp<;>exact⟨rfl,rfl⟩) rfl (hdo _) (by simp[J1,V1,K1,M1,d]) (by simp[J1,V1,K1,M1,d]<;>rfl) ?_; refine A3 4000 ?_; simp[J1,V1,K1,M1,d]);(refine yC rfl (hT _) ?_; simp[J1,V1,K1,M1,d]);refine hp _ (false,[a],u,m) ⟨⟨e0.symm,by simp; omega⟩,by simp at hll ⊢; omega,by simp⟩ (by simp; omega) ?_;refine yV [(E.n0,E.n0+1024)] (by simp[agS,tB,U4,sK,aB,hoe,J1,V1,K1,M1,d]) fun hrn=>⟨?_,?_,?_,?_,?_⟩<;>(try simp[agS,tB,U4,sK,aB,hoe,J1,V1,K1,M1,d])
 | false =>
  have hne0:([J,V,K,E.n0]:List Nat).Nodup:=by simp[J1,V1,K1,M1,d]
  cases hq:pAg t with
  | none =>
   have hdo:=fun id=>C0k z t l al nm J V K E.n0 id hne0 hq;have e:B7j J K M id z al nm (A1t n [] s) = .error (erV 1):=by
    rw[←hx]; simp only[xx,A1t]; rw[hq]; rfl
   rw[B5,Q1,A2M,A2N] at hdo;unfold agS;refine A3 4000 ?_;simp[tB,U4,sK,aB,J1,V1,K1,M1,d];refine A28 hP (by simp<;>exact⟨rfl,rfl⟩) rfl (hdo _) (by simp[J1,V1,K1,M1,d]) (by simp[J1,V1,K1,M1,d]<;>rfl) (fun pv hpv=>⟨by simp[J1,V1,K1,M1,d],by injection hpv with hpv; subst hpv; exact hPn _ _ (e) rfl (by simp[J1,V1,K1,M1,d])⟩) (fun v wr h=>by cases h)
  | some w =>
   obtain⟨a,u⟩:=w;have hlt:=B1Z hq;have hdo:=fun id=>C0l z t l a u al nm J V K E.n0 id hne0 hq (by omega);have hT:=fun id=>A3W z u 41 J id;have e0:A1t n [] s=if isS u 41=true then some (l++[a],u.drop 1) else A1t m (l++[a]) u:=by
    rw[←hx]; simp only[xx,A1t]; rw[hq]
   have hex:(l++[a]).map t7=l.map t7++[t7 a]:=(by simp);have hoe:t7 a = .agg [.str a.name,.bool a.isText,.str a.text,.int .i64 a.n]:=rfl;rw[hoe] at hex;rw[B5,Q1,A2M,A2N,B5,A2N] at hdo;simp only[A2M,hex] at hdo;by_cases hs:isS u 41=true
   ·rw[zj hs] at e0;rw[hs,v8 hs] at hT;generalize u.drop 1=v at *;rw[B5,B5] at hT;have e:B7j J K M id z al nm (A1t n [] s) = .ok (.tup [],[(J,some (tB z v)),(K,some (sK al nm (.bsl id 0 (l.length+1)))),(M,none),(id,some (aB (l++[a])))]):=(by rw[e0]; simp[B7j]);unfold agS;refine A3 4000 ?_;simp[tB,U4,sK,aB,J1,V1,K1,M1,d];(refine L5 hP (by simp<;>exact⟨rfl,rfl⟩) rfl (hdo _) (by simp[J1,V1,K1,M1,d]) (by simp[J1,V1,K1,M1,d]<;>rfl) ?_; refine A3 4000 ?_; simp[J1,V1,K1,M1,d]);(refine yC rfl (hT _) ?_; simp[J1,V1,K1,M1,d]);have hrn:H5 [(id,E.n0+1025)]:=(by simp[tB,U4,sK,aB,hoe,J1,V1,K1,M1,d,A4 hid]);refine hR _ _ _ (e) ?_;refine E8 (by simp[tB,U4,sK,aB,hoe,J1,V1,K1,M1,d,A4 hid]<;>rfl) [(id,E.n0+1025)] hrn ⟨?_,?_,?_,?_,?_,?_⟩<;>(try simp[tB,U4,sK,aB,hoe,J1,V1,K1,M1,d,A4 hid]);all_goals exact C2 rfl (C4 (A3H _) rfl)
   ·have hs:isS u 41=false:=(by simpa using hs);rw[zf (by simp[hs])] at e0;rw[hs,A2n hs,B5] at hT;unfold agS;refine A3 4000 ?_;simp[tB,U4,sK,aB,J1,V1,K1,M1,d];(refine L5 hP (by simp<;>exact⟨rfl,rfl⟩) rfl (hdo _) (by simp[J1,V1,K1,M1,d]) (by simp[J1,V1,K1,M1,d]<;>rfl) ?_; refine A3 4000 ?_; simp[J1,V1,K1,M1,d]);(refine yC rfl (hT _) ?_; simp[J1,V1,K1,M1,d]);refine hp _ (false,l++[a],u,m) ⟨⟨e0.symm,by simp; omega⟩,by simp at hll ⊢; omega,by simp⟩ (by simp; omega) ?_;refine yV [(E.n0,E.n0+1025)] (by simp[agS,tB,U4,sK,aB,hoe,J1,V1,K1,M1,d]) fun hrn=>⟨?_,?_,?_,?_,?_⟩<;>(try simp[agS,tB,U4,sK,aB,hoe,J1,V1,K1,M1,d]);all_goals exact C2 rfl (C4 (A3H _) rfl)
def A4Y(E:R4)(J:Nat)(z:List Tk)(al nm:List UInt8)(xs:List Ag)(u:List Tk):St :=
 ⟨[(1,true,.ptr E.n0 0 0),(2,true,.ptr (E.n0+1) 0 0),(3,true,.ptr (E.n0+2) 0 0)],
  [(J,some (tB z u)),(E.n0,some (U4 J)),(E.n0+1,some (sK [] [] .nils)),(E.n0+2,some (sK al nm (.bsl (E.n0+3) 0 xs.length))),(E.n0+3,some (aB xs))],4⟩
theorem B3N(i:Nat)(al nm:List UInt8):A4p i (.agg [.str al,.str nm,.nils,.nils]) (.agg [.str al,.str nm,.bsl i 0 0,.nils]):=.agg _ _ rfl fun m x y h1 h2=>by
 match m,h1,h2 with
 | 0,h1,h2|1,h1,h2|3,h1,h2=>simp at h1 h2; exact .inl (h1.symm.trans h2)
 | 2,h1,h2=>simp at h1 h2; exact .inr ⟨h1.symm,h2.symm⟩
 | m+4,h1,h2=>simp at h1
section
variable (E:R4) (hP:E.P=Tryz.prog) (z l:List Tk) (J id:Nat) (hJ:J<E.n0/\(J<id\/id+1024<=J))
include hP hJ
theorem B1a{a b c r:CC}(ha:a = .r [.bx 1 0,.al 2 .zQ])(hb:b = .r [.l 4 1,.c 5 179 [4],⟨some 6,none,[5],.build [.str [],.str [],.nils,.nils] [(1,1,.t 5)]⟩,.al 3 .zQ,.st 4 3 6])
  (hc:c = .seq (.r [.l 7 1,⟨some 8,none,[7],.call 178 [.t 7,.c (.str [58])]⟩]) (.cond (.t 8) (.seq (.r [.f 9 1 3,.l 10 9,.f 11 0 3,.st 1 11 10]) (.r [.l 12 1,.c 13 179 [12],.f 14 1 3,.st 1 14 13])) CC.skip))
  {al nm:List UInt8} {u:List Tk} (hh:pHd l=some (al,nm,u)) {k:List Itm} (hk:Wk E (.code r::k) (A4Y E J z al nm [] u)) :
  Wk E (.code (.seq a (.seq b (.seq c r)))::k) ⟨[(0,true,.ptr J 0 0)],[(J,some (tB z l))],0⟩:=by
 subst ha hb hc;have J1:=lf hJ;refine B8m (X:=Unit) (fun _=>A4Y E J z al nm [] u) (fun _=>True) (fun p hp=>?_) fun _ _=>hk;unfold pHd at hh;split at hh
 rotate_left
 ·cases hh
 rename_i h1;obtain⟨t,r,rfl,hkd⟩:=A2L h1;have hN:=fun id=>A3X z r t J id hkd;have hT:=fun id=>A3W z r 58 J id;rw[B5,B5] at hN;rw[vi,vd] at hh;by_cases h2:isS r 58=true
 ·rw[zj h2] at hh;rw[h2,v8 h2] at hT;obtain⟨t2,r2,rfl⟩:=A3Y h2;rw[vi,vd,B5,B5] at hT;split at hh
  rotate_left
  ·cases hh
  rename_i h3;obtain⟨t3,r3,rfl,hk3⟩:=A2L (show isW r2=true from h3);have hN2:=fun id=>A3X z r3 t3 J id hk3;rw[B5,B5] at hN2;simp only[txt,List.drop_succ_cons,wh,zd,zi] at hh;obtain⟨rfl,rfl,rfl⟩:=hh;rw[B5];refine A3 4000 ?_;simp[J1];(refine yC rfl (hN _) ?_; simp[J1]);(refine yC rfl (hT _) ?_; simp[J1]);(refine yC rfl (hN2 _) ?_; simp[J1]);refine hp _ () trivial ?_;refine E4.trans (E4.voidBox (E.n0+5120) (by simp[J1]; rfl) rfl (B3N _ _ _) (.agg [.str [],.bool false,.str [],.int .i64 0])) ?_;unfold A4Y;refine yV [(E.n0,E.n0),(E.n0+1,E.n0+1024),(E.n0+2,E.n0+5120),(E.n0+3,E.n0+17408)] (by simp[tB,U4,sK,aB,J1]) fun hrn=>⟨?_,?_,?_,?_,?_⟩<;>(try simp[tB,U4,sK,aB,J1])
 ·have h2:isS r 58=false:=by simpa using h2
  rw[zf (by simp[h2])] at hh;rw[h2,A2n h2,B5] at hT;simp only[txt,List.drop_succ_cons,wh,zd,zi] at hh;obtain⟨rfl,rfl,rfl⟩:=hh;rw[B5];refine A3 4000 ?_;simp[J1];(refine yC rfl (hN _) ?_; simp[J1]);(refine yC rfl (hT _) ?_; simp[J1]);refine hp _ () trivial ?_;refine E4.trans (E4.voidBox (E.n0+5120) (by simp[J1]; rfl) rfl (B3N _ _ _) (.agg [.str [],.bool false,.str [],.int .i64 0])) ?_;unfold A4Y;refine yV [(E.n0,E.n0),(E.n0+1,E.n0+1024),(E.n0+2,E.n0+5120),(E.n0+3,E.n0+9216)] (by simp[tB,U4,sK,aB,J1]) fun hrn=>⟨?_,?_,?_,?_,?_⟩<;>(try simp[tB,U4,sK,aB,J1])
theorem A8d{x r:CC}(hx:x = .seq (.r [.l 15 1,⟨some 16,none,[15],.call 178 [.t 15,.c (.str [40])]⟩]) (.cond (.t 16) (.r [.l 17 1,⟨some 18,none,[3,1],.mkf 180 [.t 3,.t 1]⟩,⟨some 19,none,[17,18],.call 112 [.t 17,.c (.str [41]),.t 18]⟩]) CC.skip))
  {al nm:List UInt8} {xs:List Ag} {u v:List Tk} (h8:u.length<=1099511627776) (hh:A2v u=some (xs,v)) {k:List Itm} (hk:Wk E (.code r::k) (A4Y E J z al nm xs v)) :
  Wk E (.code (.seq x r)::k) (A4Y E J z al nm [] u):=by
 subst hx;have J1:=lf hJ;refine A9M (C2o (X:=Unit) (fun _=>A4Y E J z al nm xs v) (fun _=>True) (fun p hp=>?_) fun _ _=>hk);have hT:=fun id=>A3W z u 40 J id;unfold A2v at hh;by_cases h1:isS u 40=true
 ·rw[zj h1] at hh;rw[h1,v8 h1] at hT;have hlen:(u.drop 1).length<u.length+1:=by rw[zx]; omega
  have hM:=fun id=>C0m (u.length+1) z (u.drop 1) al nm J E.n0 (E.n0+2) (E.n0+3) id (by simp[J1]) hlen (by omega);rw[hh] at hM;have hM:∀id,A2 Tryz.prog 112 [.ptr J 0 0,.str [41],.fn 180 [.ptr (E.n0+2) 0 0,.ptr E.n0 0 0]] [(J,tB z (u.drop 1)),(E.n0,U4 J),(E.n0+2,sK al nm (.bsl (E.n0+3) 0 0)),(E.n0+3,aB [])] id (.tup [])
    [(J,some (tB z v)),(E.n0+2,some (sK al nm (.bsl id 0 xs.length))),(E.n0+3,none),(id,some (aB xs))]:=hM
  generalize u.drop 1=w at *;rw[B5,B5] at hT;rw[B5,Q1,A2M,A2N,B5,A2N] at hM;simp only[A2M] at hM;unfold A4Y;refine A3 4000 ?_;simp[tB,U4,sK,aB,J1];(refine yC rfl (hT _) ?_; simp[J1]);(refine yC rfl (hM _) ?_; simp[J1]);refine hp _ () trivial ?_;unfold A4Y;refine yV [(E.n0,E.n0),(E.n0+1,E.n0+1),(E.n0+2,E.n0+2),(E.n0+3,E.n0+4100)] (by simp[tB,U4,sK,aB,J1]) fun hrn=>⟨?_,?_,?_,?_,?_⟩<;>(try simp[tB,U4,sK,aB,J1])
 ·have h1:isS u 40=false:=by simpa using h1
  rw[zf (by simp[h1])] at hh;simp only[zd,zi] at hh;obtain⟨rfl,rfl⟩:=hh;rw[h1,A2n h1,B5] at hT;unfold A4Y;refine A3 4000 ?_;simp[tB,U4,sK,aB,J1];(refine yC rfl (hT _) ?_; simp[J1]);refine hp _ () trivial ?_;unfold A4Y;refine yV [(E.n0,E.n0),(E.n0+1,E.n0+1),(E.n0+2,E.n0+2),(E.n0+3,E.n0+3)] (by simp[tB,U4,sK,aB,J1]) fun hrn=>⟨?_,?_,?_,?_,?_⟩<;>(try simp[tB,U4,sK,aB,J1])
end
def lK(v:AV):Bx:=⟨[v],.nils,false,false⟩
theorem S3(v:AV):lK v=⟨[v],.nils,false,false⟩:=rfl
def qB(l:List F6):Bx:=⟨l.map E0,.agg [.str [],.str [],.nils,.nils],false,false⟩
theorem A0S(l:List F6):qB l=⟨l.map E0,.agg [.str [],.str [],.nils,.nils],false,false⟩:=rfl
def C6I(o:Option (F6×List Tk)):Option (AV×List Tk):=o.map fun p=>(E0 p.1,p.2)
def B0I(o:Option (List F6×List Tk)):Option (AV×List Tk):=o.map fun p=>(.sl (p.1.map E0),p.2)
def B0J(n:Nat):Prop:=∀(z l:List Tk) (J id:Nat),3*l.length+1<=n->l.length<=1099511627776->Y5 Tryz.prog 114 [.ptr J 0 0] [(J,tB z l)] id (rdT J z (C6I (A1u n l)))
def B4r(n:Nat):Prop:=∀(z l:List Tk) (J id:Nat),3*l.length+1<=n->l.length<=1099511627776->Y5 Tryz.prog 54 [.ptr J 0 0] [(J,tB z l)] id (rdT J z (B0I (u9 n l)))
theorem B1b(s:F6):∃(a b:List UInt8) (x:List Ag) (k:List F6),E0 s = .agg [.str a,.str b,.sl (x.map t7),.sl (k.map E0)]:=by
 cases s with|mk a b x k=>exact⟨a,b,x,k,by simp[E0,A5i]⟩
theorem B6F:∀(n:Nat) (acc:List Ag) (t u:List Tk) (l:List Ag),A1t n acc t=some (l,u)->u.length<t.length
 | 0,_,_,_,_,h=>by cases h
 | n+1,acc,t,u,l,h=>by
  simp only[A1t] at h;split at h
  ·cases h
  rename_i p hp;have h1:=B1Z (a:=p.1) (u:=p.2) hp;split at h
  ·simp only[zd,zi] at h;rw[←h.2,zx]; omega
  ·have:=B6F n _ _ _ _ h; omega
theorem B3O{t u:List Tk}{l:List Ag}(h:A2v t=some (l,u)):u.length<=t.length:=by
 unfold A2v at h;split at h
 ·have:=B6F _ _ _ _ _ h;rw[zx] at this; omega
 ·simp only[zd,zi] at h;rw[h.2]; exact ya _
theorem B4s{t u:List Tk}{a b:List UInt8}(h:pHd t=some (a,b,u)):u.length<t.length:=by
 unfold pHd at h;split at h
 rotate_left
 ·cases h
 rename_i h1;obtain⟨_,_,e,_⟩:=A2L h1;have:=congrArg List.length e;rw[yd] at this;split at h
 ·split at h
  ·simp only[zd,zi] at h;rw[←h.2.2,zx]; omega
  ·cases h
 ·simp only[zd,zi] at h;rw[←h.2.2,zx]; omega
theorem B3P:∀n:Nat,(∀t s u,A1u n t=some (s,u)->u.length<t.length)/\(∀t s u,u9 n t=some (s,u)->u.length<t.length)/\(∀acc t s u,U3 n acc t=some (s,u)->u.length<t.length)
 | 0=>⟨fun _ _ _ h=>by simp[A1u] at h,fun _ _ _ h=>by simp[u9] at h,fun _ _ _ _ h=>by simp[U3] at h⟩
 | n+1=>by
  obtain⟨h1,h2,h3⟩:=B3P n;refine⟨fun t s u h=>?_,fun t s u h=>?_,fun acc t s u h=>?_⟩
  ·simp only[A1u] at h;split at h
   ·cases h
   rename_i a nm v hv;have e1:=B4s hv;split at h
   ·cases h
   rename_i xs w hw;have e2:=B3O hw;split at h
   ·split at h
    ·cases h
    rename_i k y hy;have:=h2 _ _ _ hy;simp only[zd,zi] at h;rw[←h.2]; omega
   ·simp only[zd,zi] at h;rw[←h.2]; omega
  ·simp only[u9] at h;split at h
   ·have:=h3 _ _ _ _ h;rw[zx] at this; omega
   ·cases h
  ·simp only[U3] at h;split at h
   ·cases h
   rename_i s' v hv;have e1:=h1 _ _ _ hv;split at h
   ·simp only[zd,zi] at h;rw[←h.2,zx]; omega
   ·have:=h3 _ _ _ _ h; omega
theorem B6G{n:Nat}{t u:List Tk}{s:F6}(h:A1u n t=some (s,u)):u.length<t.length:=(B3P n).1 t s u h
theorem C0n:w113.c = .reg true ((P9 w113.c).take 2++(P9 w113.c).getD 2 default::(((P9 w113.c).drop 3).take 2++(P9 w113.c).drop 5)) (C2X w113.c):=rfl
theorem C0o{n:Nat}(hO:B0J n)(z t:List Tk)(l:List F6)(J V K M id:Nat)(hd:[J,V,K,M].Nodup)(hn:3*t.length+1<=n)(h8:t.length<=1099511627776)(hp:A1u n t=none):
  Y5 Tryz.prog 113 [.ptr K 0 0,.ptr V 0 0] [(J,tB z t),(V,U4 J),(K,lK (.bsl M 0 l.length)),(M,qB l)] id (.error (erV 1)):=by
 have ho:=fun id=>hO z t J id hn h8;have d:=B7i hd;rw[hp] at ho;change ∀id,Y5 _ _ _ _ _ (.error (erV 1)) at ho;rw[B5] at *;rw[S3,Q1,A0S];refine A38 w113.hf w113.hc w113.hn w113.hr (by simp[Tryz.ntmps113]) fun E hP hR hPn hl hid hB hu=>?_;have hJ:=hl (J,_) (za ..);simp only at hJ;have J1:=lf hJ;have hV:=hl (V,_) (zb _ (za ..));simp only at hV;have V1:=lf hV;have hK:=hl (K,_) (zb _ (zb _ (za ..)));simp only at hK;have K1:=lf hK;have hM:=hl (M,_) (zb _ (zb _ (zb _ (za ..))));simp only at hM;have M1:=lf hM;rw[C0n];refine C3b _ _ _ _ (rs1:=[⟨true,.bsl M 0 l.length,[(K,lK (.bsl M 0 l.length))],[]⟩,⟨true,.ptr J 0 0,[(V,U4 J)],[]⟩])
  (r:=⟨true,.nili,[(J,tB z t)],goL [(J,tB z t)]⟩) (rs2:=[⟨true,.int .i64 l.length,[(M,qB l)],[]⟩,⟨true,.bsl (E.n0+4096) 0 1,[],[(E.n0+4096,some ⟨[.agg [.str [],.str [],.nils,.nils]],.agg [.str [],.str [],.nils,.nils],false,false⟩)]⟩]) (pv:=erV 1) ?_ ?_ ?_ ?_ ?_
 ·simp only[P9,w113,F8,CC.d,List.take,x6,CR.f,CR.l,St.app,B0c,W9,B5,S3,Q1,A0S];refine⟨A5Z (by simp) (by simp[J1,V1,K1,M1,d]),A5Z (by simp) (by simp[J1,V1,K1,M1,d]),trivial⟩
 ·simp[P9,w113,F8,St.apps,St.app,B5,S3,Q1,A0S];refine B5I (by simp) (by simp<;>rfl) (by rw[hP]; exact ho _) (by simp[J1,V1,K1,M1,d])
 ·simp[P9,w113,F8,x6,St.apps,St.app,B5,S3,Q1,A0S];refine⟨A5Z (by simp) (by simp[J1,V1,K1,M1,d]),A5Z (by simp) (by simp[J1,V1,K1,M1,d])⟩
 ·simp only[P9,C2X,B42,w113,F8,CC.d,pr,List.map,List.append,A1L,List.take,List.length,List.drop,yv,xm];simp[V7,J1,V1,K1,M1,d]
 ·refine hPn _ _ rfl rfl ?_;simp[P9,w113,F8,St.apps,St.app,B5,S3,Q1,A0S,J1,V1,K1,M1,d]
theorem C0p{n:Nat}(hO:B0J n)(z t:List Tk)(l:List F6)(a:F6)(u:List Tk)(J V K M id:Nat)(hd:[J,V,K,M].Nodup)(hn:3*t.length+1<=n)(h8:t.length<=1099511627776)(h:A1u n t=some (a,u))(hl8:l.length<=1099511627776):
  A2 Tryz.prog 113 [.ptr K 0 0,.ptr V 0 0] [(J,tB z t),(V,U4 J),(K,lK (.bsl M 0 l.length)),(M,qB l)] id (.tup []) [(J,some (tB z u)),(K,some (lK (.bsl id 0 (l.length+1)))),(M,none),(id,some (qB (l++[a])))]:=by
 have d:=B7i hd;have ho:=fun id=>hO z t J id hn h8;rw[h] at ho;have ho:∀id,A2 Tryz.prog 114 [.ptr J 0 0] [(J,tB z t)] id (E0 a) [(J,some (tB z u))]:=ho;have hex:(l++[a]).map E0=l.map E0++[E0 a]:=by simp
 obtain⟨sa,sn,sx,sk,hoe⟩:=B1b a;rw[hoe] at ho hex;rw[B5,B5] at ho;rw[B5,B5,Q1,S3,S3,A0S,A0S,hex];refine w113.e.1 fun E hP hR hl hid=>?_;simp[w113];have hJ:=hl (J,_) (za ..);simp only at hJ;have J1:=lf hJ;have hV:=hl (V,_) (zb _ (za ..));simp only at hV;have V1:=lf hV;have hK:=hl (K,_) (zb _ (zb _ (za ..)));simp only at hK;have K1:=lf hK;have hM:=hl (M,_) (zb _ (zb _ (zb _ (za ..))));simp only at hM;have M1:=lf hM;simp[J1,V1,K1,M1,d];(refine yC rfl (ho _) ?_; simp[J1,V1,K1,M1,d]);refine⟨⟨by omega,by omega⟩,by omega,?_⟩;refine yE hR [(id,E.n0+5120)] (by simp[J1,V1,K1,M1,d,A4 hid]) fun hrn=>⟨?_,?_,?_,?_,?_,?_⟩<;>(try simp[J1,V1,K1,M1,d,A4 hid]);exact C2 rfl (C4 (A3t _) (by simp))
def qsS(n0 J V K M:Nat)(z:List Tk):Bool->List F6->List Tk->St
 | true,l,t=>⟨[(0,true,.ptr J 0 0),(1,true,.str [125]),(2,true,.fn 113 [.ptr K 0 0,.ptr V 0 0])],[(J,some (tB z t)),(V,some (U4 J)),(K,some (lK (.bsl M 0 l.length))),(M,some (qB l))],0⟩
 | false,l,t=>⟨[(0,true,.ptr J 0 0),(1,true,.str [125]),(2,true,.fn 113 [.ptr K 0 0,.ptr V 0 0])],[(J,some (tB z t)),(V,some (U4 J)),(K,some (lK (.bsl n0 0 l.length))),(M,none),(n0,some (qB l))],1⟩
def B7k(J K M id:Nat)(z:List Tk):Option (List F6×List Tk)->Except AV (AV×List (Nat×Option Bx))
 | none=>.error (erV 1)
 | some (l,u)=>.ok (.tup [],[(J,some (tB z u)),(K,some (lK (.bsl id 0 l.length))),(M,none),(id,some (qB l))])
theorem C4I{n:Nat}(hO:∀m,m<n->B0J m)(z s:List Tk)(J V K M id:Nat)(hd:[J,V,K,M].Nodup)(hn:3*s.length+2<=n)(h8:s.length<=1099511627776):
  Y5 Tryz.prog 112 [.ptr J 0 0,.str [125],.fn 113 [.ptr K 0 0,.ptr V 0 0]] [(J,tB z s),(V,U4 J),(K,lK (.bsl M 0 0)),(M,qB [])] id (B7k J K M id z (U3 n [] s)):=by
 have d:=B7i hd;rw[B5,Q1,S3,A0S];refine w112.x.1 fun E hP hR hPn hl hid hB hu=>?_;simp[w112];have hJ:=hl (J,_) (za ..);simp only at hJ;have J1:=lf hJ;have hV:=hl (V,_) (zb _ (za ..));simp only at hV;have V1:=lf hV;have hK:=hl (K,_) (zb _ (zb _ (za ..)));simp only at hK;have K1:=lf hK;have hM:=hl (M,_) (zb _ (zb _ (zb _ (za ..))));simp only at hM;have M1:=lf hM;refine D0 (X:=Bool×List F6×List Tk×Nat) (fun q=>qsS E.n0 J V K M z q.1 q.2.1 q.2.2.1)
  (fun q=>(U3 q.2.2.2 q.2.1 q.2.2.1=U3 n [] s/\3*q.2.2.1.length+2<=q.2.2.2/\q.2.2.2<=n)/\q.2.1.length+q.2.2.1.length<=s.length/\(q.1=true->q.2.1=[])) (fun q=>q.2.2.1.length) (true,[],s,n) ?_ ⟨⟨rfl,hn,ya _⟩,by simp,fun _=>rfl⟩ ?_
 ·refine yV [] (by simp[qsS,tB,U4,lK,qB,J1,V1,K1,M1,d]) fun hrn=>⟨?_,?_,?_,?_,?_⟩<;>(try simp[qsS,tB,U4,lK,qB,J1,V1,K1,M1,d])
 rintro⟨first,l,t,m⟩ ⟨⟨hx,hm,hmn⟩,hll,hfl⟩ p hp;simp only at hx hm hmn hll hfl;obtain⟨m,rfl⟩:=wj (show m≠0 by omega);have hO:=hO m (by omega);cases first with
 | true =>
  obtain rfl:=hfl rfl;cases hq:A1u m t with
  | none =>
   have hdo:=fun id=>C0o hO z t [] J V K M id hd (by omega) (by omega) hq;have e:B7k J K M id z (U3 n [] s) = .error (erV 1):=by
    rw[←hx]; simp only[xx,U3]; rw[hq]; rfl
   rw[B5,Q1,S3,A0S] at hdo;unfold qsS;refine A3 4000 ?_;simp[tB,U4,lK,qB,J1,V1,K1,M1,d];refine A28 hP (by simp<;>exact⟨rfl,rfl⟩) rfl (hdo _) (by simp[J1,V1,K1,M1,d]) (by simp[J1,V1,K1,M1,d]<;>rfl) (fun pv hpv=>⟨by simp[J1,V1,K1,M1,d],by injection hpv with hpv; subst hpv; exact hPn _ _ (e) rfl (by simp[J1,V1,K1,M1,d])⟩) (fun v wr h=>by cases h)
  | some w =>
   obtain⟨a,u⟩:=w;have hlt:=B6G hq;have hdo:=fun id=>C0p hO z t [] a u J V K M id hd (by omega) (by omega) hq (by simp);have hT:=fun id=>A3W z u 125 J id;have e0:U3 n [] s=if isS u 125=true then some ([a],u.drop 1) else U3 m [a] u:=by
    rw[←hx]; simp only[xx,U3]; rw[hq]; rfl
   obtain⟨sa,sn,sx,sk,hoe⟩:=B1b a;rw[B5,Q1,S3,A0S,B5,A0S] at hdo;simp only[S3] at hdo;by_cases hs:isS u 125=true
   ·rw[zj hs] at e0;rw[hs,v8 hs] at hT;generalize u.drop 1=v at *;rw[B5,B5] at hT;have e:B7k J K M id z (U3 n [] s) = .ok (.tup [],[(J,some (tB z v)),(K,some (lK (.bsl id 0 1))),(M,none),(id,some (qB [a]))]):=(by rw[e0]; rfl);unfold qsS;refine A3 4000 ?_;simp[tB,U4,lK,qB,J1,V1,K1,M1,d];(refine L5 hP (by simp<;>exact⟨rfl,rfl⟩) rfl (hdo _) (by simp[J1,V1,K1,M1,d]) (by simp[J1,V1,K1,M1,d]<;>rfl) ?_; refine A3 4000 ?_; simp[J1,V1,K1,M1,d]);(refine yC rfl (hT _) ?_; simp[J1,V1,K1,M1,d]);have hrn:H5 [(id,E.n0+1024)]:=(by simp[tB,U4,lK,qB,hoe,J1,V1,K1,M1,d,A4 hid]);refine hR _ _ _ (e) ?_;refine E8 (by simp[tB,U4,lK,qB,hoe,J1,V1,K1,M1,d,A4 hid]<;>rfl) [(id,E.n0+1024)] hrn ⟨?_,?_,?_,?_,?_,?_⟩<;>(try simp[tB,U4,lK,qB,hoe,J1,V1,K1,M1,d,A4 hid])
   ·have hs:isS u 125=false:=(by simpa using hs);rw[zf (by simp[hs])] at e0;rw[hs,A2n hs,B5] at hT;unfold qsS;refine A3 4000 ?_;simp[tB,U4,lK,qB,J1,V1,K1,M1,d];(refine L5 hP (by simp<;>exact⟨rfl,rfl⟩) rfl (hdo _) (by simp[J1,V1,K1,M1,d]) (by simp[J1,V1,K1,M1,d]<;>rfl) ?_; refine A3 4000 ?_; simp[J1,V1,K1,M1,d]);(refine yC rfl (hT _) ?_; simp[J1,V1,K1,M1,d]);refine hp _ (false,[a],u,m) ⟨⟨e0.symm,by simp; omega,by simp; omega⟩,by simp at hll ⊢; omega,by simp⟩ (by simp; omega) ?_;refine yV [(E.n0,E.n0+1024)] (by simp[qsS,tB,U4,lK,qB,hoe,J1,V1,K1,M1,d]) fun hrn=>⟨?_,?_,?_,?_,?_⟩<;>(try simp[qsS,tB,U4,lK,qB,hoe,J1,V1,K1,M1,d])
 | false =>
  have hne0:([J,V,K,E.n0]:List Nat).Nodup:=by simp[J1,V1,K1,M1,d]
  cases hq:A1u m t with
  | none =>
   have hdo:=fun id=>C0o hO z t l J V K E.n0 id hne0 (by omega) (by omega) hq;have e:B7k J K M id z (U3 n [] s) = .error (erV 1):=by
    rw[←hx]; simp only[xx,U3]; rw[hq]; rfl
   rw[B5,Q1,S3,A0S] at hdo;unfold qsS;refine A3 4000 ?_;simp[tB,U4,lK,qB,J1,V1,K1,M1,d];refine A28 hP (by simp<;>exact⟨rfl,rfl⟩) rfl (hdo _) (by simp[J1,V1,K1,M1,d]) (by simp[J1,V1,K1,M1,d]<;>rfl) (fun pv hpv=>⟨by simp[J1,V1,K1,M1,d],by injection hpv with hpv; subst hpv; exact hPn _ _ (e) rfl (by simp[J1,V1,K1,M1,d])⟩) (fun v wr h=>by cases h)
  | some w =>
   obtain⟨a,u⟩:=w;have hlt:=B6G hq;have hdo:=fun id=>C0p hO z t l a u J V K E.n0 id hne0 (by omega) (by omega) hq (by omega);have hT:=fun id=>A3W z u 125 J id;have e0:U3 n [] s=if isS u 125=true then some (l++[a],u.drop 1) else U3 m (l++[a]) u:=by
    rw[←hx]; simp only[xx,U3]; rw[hq]
   have hex:(l++[a]).map E0=l.map E0++[E0 a]:=(by simp);obtain⟨sa,sn,sx,sk,hoe⟩:=B1b a;rw[hoe] at hex;rw[B5,Q1,S3,A0S,B5,A0S] at hdo;simp only[S3,hex] at hdo;by_cases hs:isS u 125=true
   ·rw[zj hs] at e0;rw[hs,v8 hs] at hT;generalize u.drop 1=v at *;rw[B5,B5] at hT;have e:B7k J K M id z (U3 n [] s) = .ok (.tup [],[(J,some (tB z v)),(K,some (lK (.bsl id 0 (l.length+1)))),(M,none),(id,some (qB (l++[a])))]):=(by rw[e0]; simp[B7k]);unfold qsS;refine A3 4000 ?_;simp[tB,U4,lK,qB,J1,V1,K1,M1,d];(refine L5 hP (by simp<;>exact⟨rfl,rfl⟩) rfl (hdo _) (by simp[J1,V1,K1,M1,d]) (by simp[J1,V1,K1,M1,d]<;>rfl) ?_; refine A3 4000 ?_; simp[J1,V1,K1,M1,d]);(refine yC rfl (hT _) ?_; simp[J1,V1,K1,M1,d]);have hrn:H5 [(id,E.n0+1025)]:=(by simp[tB,U4,lK,qB,hoe,J1,V1,K1,M1,d,A4 hid]);refine hR _ _ _ (e) ?_;refine E8 (by simp[tB,U4,lK,qB,hoe,J1,V1,K1,M1,d,A4 hid]<;>rfl) [(id,E.n0+1025)] hrn ⟨?_,?_,?_,?_,?_,?_⟩<;>(try simp[tB,U4,lK,qB,hoe,J1,V1,K1,M1,d,A4 hid]);all_goals exact C2 rfl (C4 (A3t _) (by simp))
   ·have hs:isS u 125=false:=(by simpa using hs);rw[zf (by simp[hs])] at e0;rw[hs,A2n hs,B5] at hT;unfold qsS;refine A3 4000 ?_;simp[tB,U4,lK,qB,J1,V1,K1,M1,d];(refine L5 hP (by simp<;>exact⟨rfl,rfl⟩) rfl (hdo _) (by simp[J1,V1,K1,M1,d]) (by simp[J1,V1,K1,M1,d]<;>rfl) ?_; refine A3 4000 ?_; simp[J1,V1,K1,M1,d]);(refine yC rfl (hT _) ?_; simp[J1,V1,K1,M1,d]);refine hp _ (false,l++[a],u,m) ⟨⟨e0.symm,by simp; omega,by simp; omega⟩,by simp at hll ⊢; omega,by simp⟩ (by simp; omega) ?_;refine yV [(E.n0,E.n0+1025)] (by simp[qsS,tB,U4,lK,qB,hoe,J1,V1,K1,M1,d]) fun hrn=>⟨?_,?_,?_,?_,?_⟩<;>(try simp[qsS,tB,U4,lK,qB,hoe,J1,V1,K1,M1,d]);all_goals exact C2 rfl (C4 (A3t _) (by simp))
def B3Q(E:R4)(J:Nat)(z u:List Tk):St :=
 ⟨[(1,true,.ptr E.n0 0 0),(3,true,.ptr (E.n0+1) 0 0)],[(J,some (tB z u)),(E.n0,some (U4 J)),(E.n0+1,some (lK (.bsl (E.n0+2) 0 0))),(E.n0+2,some (qB []))],3⟩
theorem C2b(E:R4)(hP:E.P=Tryz.prog)(z l:List Tk)(J id:Nat)(hJ:J<E.n0/\(J<id\/id+1024<=J)){a b c r:CC}(ha:a = .r [.bx 1 0,.v 2 .nils])(hb:b = .r [.l 4 1,⟨some 5,none,[4],.call 111 [.t 4,.c (.str [123])]⟩])
  (hc:c = .r [.al 3 .nils]) (h1:isS l 123=true) {k:List Itm} (hk:Wk E (.code r::k) (B3Q E J z (l.drop 1))) :
  Wk E (.code (.seq a (.seq b (.seq c r)))::k) ⟨[(0,true,.ptr J 0 0)],[(J,some (tB z l))],0⟩:=by
 subst ha hb hc;have J1:=lf hJ;refine B8m (X:=Unit) (fun _=>B3Q E J z (l.drop 1)) (fun _=>True) (fun p hp=>?_) fun _ _=>hk;have hN:=fun id=>B1X z l 123 J id h1;generalize l.drop 1=t at *;rw[B5,B5] at hN;rw[B5];refine A3 4000 ?_;simp[J1];(refine yC rfl (hN _) ?_; simp[J1]);refine hp _ () trivial ?_;refine E4.trans (E4.voidBox (E.n0+4096) (by simp[J1]; rfl) rfl .nils (.agg [.str [],.str [],.nils,.nils])) ?_;unfold B3Q;refine yV [(E.n0,E.n0),(E.n0+1,E.n0+4096),(E.n0+2,E.n0+5120)] (by simp[tB,U4,lK,qB,J1]) fun hrn=>⟨?_,?_,?_,?_,?_⟩<;>(try simp[tB,U4,lK,qB,J1])
theorem B7l{n:Nat}(hO:∀m,m<n->B0J m):B4r (n+1):=by
 intro z l J id hn h8;by_cases h1:isS l 123=true
 rotate_left
 ·have hN:=fun id=>B6E z l 123 J id (by simpa using h1);have e:u9 (n+1) l=none:=by simp only[u9]; rw[zf h1]
  rw[e];show Y5 _ _ _ _ _ (.error (erV 1));rw[B5] at *;refine w54.x.1 fun E hP hR hPn hl hid hB hu=>?_;simp[w54];have hJ:=hl (J,_) (za ..);simp only at hJ;have J1:=lf hJ;refine D5 hP rfl (hN _) (by simp[J1]) (by simp[J1]<;>rfl) (fun pv hpv=>⟨by simp[J1],by injection hpv with hpv; subst hpv; exact hPn _ _ (rfl) rfl (by simp[J1])⟩) (fun v wr h=>by cases h)
 have e:u9 (n+1) l=U3 n [] (l.drop 1):=by simp only[u9]; rw[zj h1]
 have hlen:(l.drop 1).length+1=l.length:=by
  obtain⟨t,r,rfl⟩:=A3Y h1;simp
 rw[e];refine A38 w54.hf w54.hc w54.hn w54.hr (by simp[Tryz.ntmps54]) fun E hP hR hPn hl hid hB hu=>?_;have hJ:=hl (J,_) (za ..);simp only at hJ;have J1:=lf hJ;refine C2b E hP z l J id hJ rfl rfl rfl h1 ?_;generalize l.drop 1=t at *;have hM:=fun id=>C4I hO z t J E.n0 (E.n0+1) (E.n0+2) id (by simp[J1]) (by omega) (by omega);cases hp:U3 n [] t with
 | none =>
  rw[hp] at hM;change ∀id,Y5 _ _ _ _ _ (.error (erV 1)) at hM;rw[B5,Q1,S3,A0S] at hM;unfold B3Q;refine A3 4000 ?_;simp[tB,U4,lK,qB,J1];refine D5 hP rfl (hM _) (by simp[J1]) (by simp[J1]<;>rfl) (fun pv hpv=>⟨by simp[J1],by injection hpv with hpv; subst hpv; exact hPn _ _ (by rw[hp]; rfl) rfl (by simp[J1])⟩) (fun v wr h=>by cases h)
 | some w =>
  obtain⟨ss,u⟩:=w;rw[hp] at hM;have hM:∀id,A2 Tryz.prog 112 [.ptr J 0 0,.str [125],.fn 113 [.ptr (E.n0+1) 0 0,.ptr E.n0 0 0]] [(J,tB z t),(E.n0,U4 J),(E.n0+1,lK (.bsl (E.n0+2) 0 0)),(E.n0+2,qB [])] id (.tup [])
    [(J,some (tB z u)),(E.n0+1,some (lK (.bsl id 0 ss.length))),(E.n0+2,none),(id,some (qB ss))]:=hM
  have e:rdT J z (B0I (U3 n [] t)) = .ok (.sl (ss.map E0),[(J,some (tB z u))]):=by rw[hp]; rfl
  rw[B5,Q1,S3,A0S,B5,A0S] at hM;simp only[S3] at hM;unfold B3Q;refine A3 4000 ?_;simp[tB,U4,lK,qB,J1];(refine yC rfl (hM _) ?_; simp[J1]);have hrn:H5 []:=by simp[tB,U4,J1,A4 hid]
  refine hR _ _ _ (e) ?_;refine L6 (by simp[tB,U4,J1,A4 hid]<;>rfl) (by simp[tB,U4,J1,A4 hid]<;>exact⟨rfl,rfl⟩) [] hrn ⟨?_,?_,?_,?_,?_,?_⟩<;>(try simp[tB,U4,J1,A4 hid])
theorem C2c{n:Nat}{l:List Tk}(h:pHd l=none):A1u (n+1) l=none:=by simp only[A1u]; rw[h]
theorem B7m{n:Nat}{l u:List Tk}{a b:List UInt8}(h:pHd l=some (a,b,u))(h2:A2v u=none):A1u (n+1) l=none:=by simp only[A1u]; rw[h]; simp only; rw[h2]
theorem C2d{n:Nat}{l u v:List Tk}{a b:List UInt8}{xs:List Ag}(h:pHd l=some (a,b,u))(h2:A2v u=some (xs,v))(h3:isS v 123=false):A1u (n+1) l=some (.mk a b xs [],v):=by
 simp only[A1u]; rw[h]; simp only; rw[h2]; simp only; rw[zf (by simp[h3])]
theorem C0q{n:Nat}{l u v:List Tk}{a b:List UInt8}{xs:List Ag}(h:pHd l=some (a,b,u))(h2:A2v u=some (xs,v))(h3:isS v 123=true):A1u (n+1) l=(u9 n v).map fun p=>(.mk a b xs p.1,p.2):=by
 simp only[A1u]; rw[h]; simp only; rw[h2]; simp only; rw[zj h3];cases u9 n v with
 | none=>rfl
 | some p=>rfl
theorem C2e(a b:List UInt8)(xs:List Ag):(AV.agg [.str a,.str b,.sl (xs.map t7),.nils]).nrm=E0 (.mk a b xs []):=by
 have h1:A4J (xs.map t7)=xs.map t7:=by
  induction xs with
  | nil=>rfl
  | cons x r ih=>simp[A4J,AV.nrm,ih,t7]
 simp[AV.nrm,A4J,h1,E0,A7u]
theorem C0r{n:Nat}(hS:B4r n):B0J (n+1):=by
 intro z l J id hn h8;cases hh:pHd l with
 | none =>
  rw[C2c hh];show Y5 _ _ _ _ _ (.error (erV 1));unfold pHd at hh;by_cases h1:isW l=true
  rotate_left
  ·have hN:=fun id=>B1Y z l J id (by simpa using h1);rw[B5] at *;refine w114.x.1 fun E hP hR hPn hl hid hB hu=>?_;simp[w114];have hJ:=hl (J,_) (za ..);simp only at hJ;have J1:=lf hJ;refine D5 hP rfl (hN _) (by simp[J1]) (by simp[J1]<;>rfl) (fun pv hpv=>⟨by simp[J1],by injection hpv with hpv; subst hpv; exact hPn _ _ (rfl) rfl (by simp[J1])⟩) (fun v wr h=>by cases h)
  rw[zj h1] at hh;obtain⟨t,r,rfl,hkd⟩:=A2L h1;have hN:=fun id=>A3X z r t J id hkd;have hT:=fun id=>A3W z r 58 J id;rw[vi,vd] at hh;have h2:isS r 58=true:=by
   apply zl;intro q;rw[zf q] at hh; cases hh
  rw[zj h2] at hh;rw[h2,v8 h2] at hT;obtain⟨t2,r2,rfl⟩:=A3Y h2;rw[vi,vd,B5,B5] at hT;have h3:isW r2=false:=by
   rw[Bool.eq_false_iff]; intro q;rw[zj (show isW ((t::t2::r2).drop 2)=true from q)] at hh; cases hh
  have hN2:=fun id=>B1Y z r2 J id h3;rw[B5,B5] at hN;rw[B5] at hN2;rw[B5];refine w114.x.1 fun E hP hR hPn hl hid hB hu=>?_;simp[w114];have hJ:=hl (J,_) (za ..);simp only at hJ;have J1:=lf hJ;(refine yC rfl (hN _) ?_; simp[J1]);(refine yC rfl (hT _) ?_; simp[J1]);refine D5 hP rfl (hN2 _) (by simp[J1]) (by simp[J1]<;>rfl) (fun pv hpv=>⟨by simp[J1],by injection hpv with hpv; subst hpv; exact hPn _ _ (rfl) rfl (by simp[J1])⟩) (fun v wr h=>by cases h)
 | some q =>
  obtain⟨al,nm,u⟩:=q;have hlt:=B4s hh;cases ha:A2v u with
  | none =>
   rw[B7m hh ha];show Y5 _ _ _ _ _ (.error (erV 1));unfold A2v at ha;have h1:isS u 40=true:=by
    apply zl;intro q;rw[zf q] at ha; cases ha
   rw[zj h1] at ha;have hT:=fun id=>A3W z u 40 J id;rw[h1,v8 h1] at hT;refine A38 w114.hf w114.hc w114.hn w114.hr (by simp[Tryz.ntmps114]) fun E hP hR hPn hl hid hB hu=>?_;have hJ:=hl (J,_) (za ..);simp only at hJ;have J1:=lf hJ;refine B1a E hP z l J id hJ rfl rfl rfl hh ?_;have hlen:(u.drop 1).length<u.length+1:=(by rw[zx]; omega);have hM:=fun id=>C0m (u.length+1) z (u.drop 1) al nm J E.n0 (E.n0+2) (E.n0+3) id (by simp[J1]) hlen (by omega);rw[ha] at hM;change ∀id,Y5 _ _ _ _ _ (.error (erV 1)) at hM;generalize u.drop 1=w at *;rw[B5,B5] at hT;rw[B5,Q1,A2M,A2N] at hM;unfold A4Y;refine A3 4000 ?_;simp[tB,U4,sK,aB,J1];(refine yC rfl (hT _) ?_; simp[J1]);refine D5 hP rfl (hM _) (by simp[J1]) (by simp[J1]<;>rfl) (fun pv hpv=>⟨by simp[J1],by injection hpv with hpv; subst hpv; exact hPn _ _ (rfl) rfl (by simp[J1])⟩) (fun v wr h=>by cases h)
  | some q =>
   obtain⟨xs,v⟩:=q;have hle:=B3O ha;have hI:=fun id=>B6B z v 123 J id;cases h3:isS v 123 with
   | false =>
    rw[h3,B5] at hI;rw[C2d hh ha h3];show A2 _ _ _ _ _ (E0 (.mk al nm xs [])) [(J,some (tB z v))];rw[←C2e];refine A2.nrm ?_;refine A5W w114.hf w114.hc w114.hn w114.hr (by simp[Tryz.ntmps114]) fun E hP hR hl hid=>?_;have hJ:=hl (J,_) (za ..);simp only at hJ;have J1:=lf hJ;refine B1a E hP z l J id hJ rfl rfl rfl hh (A8d E hP z J id hJ rfl (by omega) ha ?_);unfold A4Y;refine A3 4000 ?_;simp[tB,U4,sK,aB,J1];(refine yC rfl (hI _) ?_; simp[J1]);have hrn:H5 []:=(by simp[tB,U4,sK,aB,J1,A4 hid]);rw[hR];refine L6 (by simp<;>rfl) (by simp[tB,U4,sK,aB,J1,A4 hid]<;>exact⟨rfl,rfl⟩) [] hrn ⟨?_,?_,?_,?_,?_,?_⟩<;>(try simp[tB,U4,sK,aB,J1,A4 hid])
   | true =>
    rw[h3,B5] at hI;rw[C0q hh ha h3];have hK:=fun id=>hS z v J id (by omega) (by omega);cases hp:u9 n v with
    | none =>
     rw[hp] at hK;change ∀id,Y5 _ _ _ _ _ (.error (erV 1)) at hK;show Y5 _ _ _ _ _ (.error (erV 1));refine A38 w114.hf w114.hc w114.hn w114.hr (by simp[Tryz.ntmps114]) fun E hP hR hPn hl hid hB hu=>?_;have hJ:=hl (J,_) (za ..);simp only at hJ;have J1:=lf hJ;refine B1a E hP z l J id hJ rfl rfl rfl hh (A8d E hP z J id hJ rfl (by omega) ha ?_);rw[B5] at hK;unfold A4Y;refine A3 4000 ?_;simp[tB,U4,sK,aB,J1];(refine yC rfl (hI _) ?_; simp[J1]);refine D5 hP rfl (hK _) (by simp[J1]) (by simp[J1]<;>rfl) (fun pv hpv=>⟨by simp[J1],by injection hpv with hpv; subst hpv; exact hPn _ _ (rfl) rfl (by simp[J1])⟩) (fun v wr h=>by cases h)
    | some q =>
     obtain⟨ks,w⟩:=q;rw[hp] at hK;have hK:∀id,A2 Tryz.prog 54 [.ptr J 0 0] [(J,tB z v)] id (.sl (ks.map E0)) [(J,some (tB z w))]:=hK;show A2 _ _ _ _ _ (E0 (.mk al nm xs ks)) [(J,some (tB z w))];have hoe:E0 (.mk al nm xs ks) = .agg [.str al,.str nm,.sl (xs.map t7),.sl (ks.map E0)]:=(by simp[E0,A5i]);rw[hoe];refine A5W w114.hf w114.hc w114.hn w114.hr (by simp[Tryz.ntmps114]) fun E hP hR hl hid=>?_;have hJ:=hl (J,_) (za ..);simp only at hJ;have J1:=lf hJ;refine B1a E hP z l J id hJ rfl rfl rfl hh (A8d E hP z J id hJ rfl (by omega) ha ?_);rw[B5,B5] at hK;unfold A4Y;refine A3 4000 ?_;simp[tB,U4,sK,aB,J1];(refine yC rfl (hI _) ?_; simp[J1]);(refine yC rfl (hK _) ?_; simp[J1]);have hrn:H5 []:=(by simp[tB,U4,sK,aB,J1,A4 hid]);rw[hR];refine L6 (by simp<;>rfl) (by simp[tB,U4,sK,aB,J1,A4 hid]<;>exact⟨rfl,rfl⟩) [] hrn ⟨?_,?_,?_,?_,?_,?_⟩<;>(try simp[tB,U4,sK,aB,J1,A4 hid])
theorem C4J:∀n,B0J n/\B4r n:=fun n=>by
 induction n using Nat.strongRecOn with
 | _ n ih =>
  cases n with
  | zero=>exact⟨fun z l J id hn=>by omega,fun z l J id hn=>by omega⟩
  | succ n=>exact⟨C0r (ih n (by omega)).2,B7l fun m hm=>(ih m (by omega)).1⟩
end Go.Am
