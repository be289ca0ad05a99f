/- Parts of the proof: an abstract machine for Go functions, and what functions of the program give back (Lx11, Lx12). No condition. -/
import Derived.Test.YtgfmjhmjnnpcgaaGreatDoorYF
import Derived.Test.YtgfmjhmjnnpcgaaGreatDoorYB
namespace Go.Am
set_option linter.all false
open Go Go.RowKit Go.Proofs
set_option maxRecDepth 100000
set_option linter.all false
theorem upd_same{f:Nat→Option Bx}{i:Nat}{b:Option Bx}(h:f i=b):upd f i b=f:=by
 funext x
 unfold upd
 split
 ·rename_i hx; subst hx; exact h.symm
 ·rfl
theorem DropOk.of{n0:Nat}{bx':List (Nat×Option Bx)}:∀{l:List (Nat×Option Bx)},(∀q∈l,n0≤q.1)→DropOk n0 bx' l
 | [],_=>trivial
 | (i,b)::l,h=>⟨.inl (h (i,b) (List.mem_cons_self ..)),DropOk.of fun q hq=>h q (List.mem_cons_of_mem _ hq)⟩
theorem hY37{x m y r:Code}(h:Tryz.f37.body=some (.seq x (.seq m (.seq y r)))):compC Tryz.prog Tryz.f37.ntmps x=cc37a∧compC Tryz.prog Tryz.f37.ntmps y=cc37b∧compC Tryz.prog Tryz.f37.ntmps r = .seq (.seq cc37c (.block 0 (.loop cc37L))) (.seq cc37d CC.ret):=by
 have h0:=hcc37
 rw[h] at h0
 simp only[Option.map_some,Option.some.injEq,cc37] at h0
 obtain⟨_,_,e1,k1,h1⟩:=comp_seq h0
 injection e1 with e1 e1'
 subst e1 e1'
 obtain⟨_,_,e2,_,h2⟩:=comp_seq h1
 injection e2 with _ e2
 subst e2
 obtain⟨_,_,e3,k3,h3⟩:=comp_seq h2
 injection e3 with e3 e3'
 subst e3 e3'
 exact⟨k1,k3,h3⟩
theorem door37{x m r:Code}(h:Tryz.f37.body=some (.seq x (.seq m r))){Q:Exit→Act→World→Prop}{t:Array Value}{w:World}(hsz:5<t.size)
  (hQ:Q .normal ⟨t.setIfInBounds 5 (.func (.func 72) #[] #[t[2]?.getD undef,t[3]?.getD undef]),[⟨.fn (.func 72) #[t[2]?.getD undef,t[3]?.getD undef],#[]⟩]⟩ w):m.wp Tryz.prog Q ⟨t,[]⟩ w:=by
 have e:Tryz.f37.body=some (.seq _ (.seq _ _)):=rfl
 rw[e] at h
 injection h with h
 injection h with _ h
 injection h with h _
 subst h
 refine wp_region ?_
 have hmf:∀(fn:Fn) (first cap:Array Value) (w:World),(Instr.makeFunc fn first cap).run Tryz.prog w = .ok (.func fn first cap) w:=fun _ _ _ _=>rfl
 simp[wpOps,wpOp,go_sem,hmf,Exit.then,hsz]
 exact .inl (.inl hQ)
theorem all_endE{C:Cx Tryz.prog}{D:List Deferred}{G G':Gh}{w w':World}{bx:Nat→Option Bx}{n0 k id J4 J5:Nat}{F:Fr}{l:List (Nat×Option Bx)}{a:Act}{e:Int}(own:∀i,n0≤i→bx i=none)(old:∀i,G.used i→i<n0)(hs:RS C G bx w)(hid:∀x,id≤x→x<id+1024→¬G.used x)
  (hD:DescF C Tryz.f37.ntmps D n0 G w F (ov bx l) (· < n0+k) G' a w') (f4:F 2=some (true,.ptr J4 0 0)) (f5:F 3=some (true,.ptr J5 0 0)) (h4:ov bx l J4=some (oBx .nils)) (h5:ov bx l J5=some (iBx e)) (hl:∀q∈l,n0≤q.1) (d:J4≠J5) (j4:n0≤J4) (j5:n0≤J5) :
  ∃v,(results Tryz.f37 a.tmps).run Tryz.prog w' = .ok v w'∧∃G1,RS C G1 bx w'∧Evo G w G1 w'∧RV G1 w' (.tup [.nils,.int .i64 e]) v∧∀x,G1.used x→G.used x∨(id≤x∧x<id+1024):=by
 let E:Env:=⟨Tryz.prog,C,bx,Tryz.f37.ntmps,n0,G,w,own,old,hs,D,fun _=>True,fun _ _=>False⟩
 have hD':Desc E ⟨[(2,true,.ptr J4 0 0),(3,true,.ptr J5 0 0)],(J4,some (oBx .nils))::(J5,some (iBx e))::l,k⟩ G' a w':=by
  refine⟨hD.ev,?_,hD.used,hD.old,fun n c v hl=>?_,hD.size,hD.defers⟩
  ·show RS C G' (ov bx _) w'
   simp only[ov]
   rw[upd_same (f:=ov bx l) h5,upd_same h4]
   exact hD.rs
  ·simp only[lk] at hl
   repeat' split at hl
   all_goals first|cases hl|skip
   all_goals rename_i hn<;>subst hn
   ·exact hD.fr _ _ _ f4
   ·exact hD.fr _ _ _ f5
 have hh:Has E.β []:=Has.nil
 refine end_ok (E:=E) (id:=id) (rd:=[]) (wr:=[]) (hcr37) hh hid hD' ?_
 simp only[cr37]
 refine rt_end (by simp[oBx,iBx,d,Ne.symm d]<;>rfl) [] trivial (end_pure (by simp) (by simp) ?_)
 exact DropOk.of fun q hq=>by
  simp at hq
  rcases hq with rfl|rfl|hq
  ·exact j4
  ·exact j5
  ·exact hl q hq
theorem all_endO{C:Cx Tryz.prog}{D:List Deferred}{G G':Gh}{w w':World}{bx:Nat→Option Bx}{n0 k id J4 J5 M:Nat}{F:Fr}{l:List (Nat×Option Bx)}{a:Act}{ts:List Tk}(own:∀i,n0≤i→bx i=none)(old:∀i,G.used i→i<n0)(hs:RS C G bx w)(hid:∀x,id≤x→x<id+1024→¬G.used x)
  (hD:DescF C Tryz.f37.ntmps D n0 G w F (ov bx l) (· < n0+k) G' a w') (f4:F 2=some (true,.ptr J4 0 0)) (f5:F 3=some (true,.ptr J5 0 0)) (h4:ov bx l J4=some (oBx (.bsl M 0 ts.length))) (h5:ov bx l J5=some (iBx 0)) (hM:ov bx l M=some ⟨ts.map eTk,.agg [.int .i64 0,.str [],.int .i64 0],false,false⟩) (hl:∀q∈l,n0≤q.1) (d:J4≠J5) (d4:J4≠M) (d5:J5≠M) (j4:n0≤J4) (j5:n0≤J5) (jM:n0≤M) :
  ∃v,(results Tryz.f37 a.tmps).run Tryz.prog w' = .ok v w'∧∃G1,RS C G1 bx w'∧Evo G w G1 w'∧RV G1 w' (.tup [.sl (ts.map eTk),.int .i64 0]) v∧∀x,G1.used x→G.used x∨(id≤x∧x<id+1024):=by
 let E:Env:=⟨Tryz.prog,C,bx,Tryz.f37.ntmps,n0,G,w,own,old,hs,D,fun _=>True,fun _ _=>False⟩
 have hD':Desc E ⟨[(2,true,.ptr J4 0 0),(3,true,.ptr J5 0 0)],(J4,some (oBx (.bsl M 0 ts.length)))::(J5,some (iBx 0))::(M,some ⟨ts.map eTk,.agg [.int .i64 0,.str [],.int .i64 0],false,false⟩)::l,k⟩ G' a w':=by
  refine⟨hD.ev,?_,hD.used,hD.old,fun n c v hl=>?_,hD.size,hD.defers⟩
  ·show RS C G' (ov bx _) w'
   simp only[ov]
   rw[upd_same (f:=ov bx l) hM,upd_same h5,upd_same h4]
   exact hD.rs
  ·simp only[lk] at hl
   repeat' split at hl
   all_goals first|cases hl|skip
   all_goals rename_i hn<;>subst hn
   ·exact hD.fr _ _ _ f4
   ·exact hD.fr _ _ _ f5
 have hh:Has E.β []:=Has.nil
 refine end_ok (E:=E) (id:=id) (rd:=[]) (wr:=[]) (hcr37) hh hid hD' ?_
 simp only[cr37]
 refine rt_endR (by simp[oBx,iBx,d,Ne.symm d,d4,d5]<;>rfl) (by simp[oBx,iBx,d,Ne.symm d,d4,d5,Ne.symm d4,Ne.symm d5]<;>exact⟨rfl,rfl⟩) [] trivial (end_pure (by simp) (by simp) ?_)
 exact DropOk.of fun q hq=>by
  simp at hq
  rcases hq with rfl|rfl|rfl|rfl|hq
  all_goals first|exact j4|exact j5|exact jM|exact hl q hq
end Go.Am
namespace Go.Am
set_option linter.all false
open Go Go.RowKit Go.Proofs
set_option maxRecDepth 100000
set_option linter.all false
def lexV:Except Int (List Tk)→AV
 | .ok l=>.tup [.sl (l.map eTk),.int .i64 0]
 | .error e=>.tup [.nils,.int .i64 e]
theorem toks_at{s:List UInt8}{acc:List Tk}{j:Nat}(h:pToks ((s.drop j).length+1) acc (s.drop j)=fAll s):blk false (s.drop j)=s.drop j→match s.drop j with
  | []=>fAll s = .ok acc
  | c::r=>match pTok c r with
   | .error e=>fAll s = .error e
   | .ok p=>if 300<acc.length+1 then fAll s = .error 2 else pToks ((blk false p.2).length+1) (acc++[p.1]) (blk false p.2)=fAll s:=by
 intro hb
 rw[←h]
 unfold pToks
 rw[hb]
 cases hs:s.drop j with
 | nil=>rfl
 | cons c r =>
  simp only
  cases hp:pTok c r with
  | error e=>rfl
  | ok p =>
   simp only
   split
   ·rfl
   ·obtain⟨t,u⟩:=p
    have h1:=pTok_lt hp
    have h2:=blk_le false u
    have hA:(blk false (blk false u)).length<(blk false u).length+1:=by rw[blk_blk false u]; omega
    have hB:(blk false (blk false u)).length<(c::r).length:=by rw[blk_blk false u]; simp only[List.length_cons]; omega
    exact toks_fuel _ _ _ _ _ (blk_blk false u) hA hB
theorem atU_suf{s u:List UInt8}(h:u <:+ s):s.drop (atU s u)=u∧atU s u≤s.length:=by
 obtain⟨t,rfl⟩:=h
 unfold atU
 rw[List.length_append,Nat.add_sub_cancel]
 exact⟨List.drop_left,by omega⟩
theorem hY37L{x m y c hh sk ex k l m4 sk2 n dd rt:Code}{X Y:Operand}{bi b1:Nat}(h:Tryz.f37.body=some (.seq x (.seq m (.seq y (.seq (.seq c (.block bi (.loop (.seq (.seq hh (.cond X sk ex)) (.seq (.block b1 (.seq k (.seq l (.cond Y m4 sk2)))) n))))) (.seq dd rt)))))):
  compC Tryz.prog Tryz.f37.ntmps c=cc37c∧compC Tryz.prog Tryz.f37.ntmps (.seq (.seq hh (.cond X sk ex)) (.seq (.block b1 (.seq k (.seq l (.cond Y m4 sk2)))) n))=cc37L∧compC Tryz.prog Tryz.f37.ntmps hh=cc37h∧compC Tryz.prog Tryz.f37.ntmps k=cc37k∧compC Tryz.prog Tryz.f37.ntmps l=cc37l∧compC Tryz.prog Tryz.f37.ntmps m4=cc37m∧compC Tryz.prog Tryz.f37.ntmps n=cc37n∧compC Tryz.prog Tryz.f37.ntmps (.seq dd rt) = .seq cc37d CC.ret:=by
 obtain⟨_,_,kr⟩:=hY37 h
 obtain⟨_,_,e1,k1,h1⟩:=comp_seq kr
 injection e1 with e1 e1'
 subst e1 e1'
 obtain⟨_,_,e2,k2,h2⟩:=comp_seq k1
 injection e2 with e2 e2'
 subst e2 e2'
 obtain⟨_,e3,k3⟩:=comp_block h2
 injection e3 with _ e3
 subst e3
 obtain⟨_,e4,k4⟩:=comp_loop k3
 injection e4 with e4
 subst e4
 have k4':=k4
 unfold cc37L at k4
 obtain⟨_,_,e5,k5,h5⟩:=comp_seq k4
 injection e5 with e5 e5'
 subst e5 e5'
 obtain⟨_,_,e6,k6,h6⟩:=comp_seq k5
 injection e6 with e6 e6'
 subst e6 e6'
 obtain⟨_,_,e7,k7,h7⟩:=comp_seq h5
 injection e7 with e7 e7'
 subst e7 e7'
 unfold cc37t at k7
 obtain⟨_,e8,k8⟩:=comp_block k7
 injection e8 with _ e8
 subst e8
 obtain⟨_,_,e9,k9,h9⟩:=comp_seq k8
 injection e9 with e9 e9'
 subst e9 e9'
 obtain⟨_,_,e10,k10,h10⟩:=comp_seq h9
 injection e10 with e10 e10'
 subst e10 e10'
 obtain⟨_,_,_,e11,_,k11,_⟩:=comp_cond h10
 injection e11 with _ e11 _
 subst e11
 exact⟨k2,k4',k6,k9,k10,k11,h7,h1⟩
def crsOf:CC→List CR
 | .reg _ l _=>l
 | _=>[]
def psOf:CC→List (Nat×Nat)
 | .reg _ _ p=>p
 | _=>[]
def crsK:List CR:=crsOf cc37k
def psK:List (Nat×Nat):=psOf cc37k
set_option maxHeartbeats 16000000 in
theorem All_ok(s:List UInt8)(id:Nat)(h8:s.length≤1099511627776):FnOk Tryz.prog 37 [.str s] [] id (lexV (fAll s)) []:=by
 refine⟨⟨_,Tryz.func37,by decide,rfl⟩,fun C G bx w vs nb hs hv hh hnb hid=>calls_of_wp_defers Tryz.func37 rfl ?_⟩
 obtain⟨k1,k2,_⟩:=hY37 rfl
 obtain⟨kc,kL,kh,kk,kl,km,kn,kd⟩:=hY37L rfl
 have own:∀i,max nb (id+1024)≤i→bx i=none:=fun i hi=>by
  cases hbi:bx i with
  | none=>rfl
  | some b=>exact (hnb i (by omega) (hs.boxNames hbi).1).elim
 have old:∀i,G.used i→i<max nb (id+1024):=fun i hi=>by
  rcases Nat.lt_or_ge i nb with h|h
  ·omega
  ·exact (hnb i h hi).elim
 generalize max nb (id+1024)=n0 at own old
 let E:Env:=⟨Tryz.prog,C,bx,Tryz.f37.ntmps,n0,G,w,own,old,hs,[],fun _=>False,fun _ _=>False⟩
 have hD:Desc E ⟨frOf 0 [.str s],[],0⟩ G { tmps:=vs++Array.replicate (Tryz.f37.ntmps - vs.size) undef,defers:=[] } w:=by
  refine⟨Evo.refl G w,hs,fun i hi=>by have:=old i hi; show i<n0+0; omega,fun i _ hi=>hi,fun n c v hl=>?_,?_,rfl⟩
  ·obtain⟨rfl,_,h3⟩:=lk_frOf hl
   simp only[Nat.sub_zero] at h3
   refine⟨fun _=>?_,fun h=>by cases h⟩
   have:=hv.2 n v h3
   rw[Array.getD_eq_getD_getElem?] at this ⊢
   rw[Array.getElem?_append_left (by rw[←hv.1]; exact (List.getElem?_eq_some_iff.1 h3).1)]
   exact this
  ·have:=hv.1
   simp[Tryz.ntmps37] at this ⊢
   show _=Tryz.f37.ntmps
   simp[Tryz.ntmps37]; omega
 have hW:Wk E [.code cc37a,.post (fun σ=>σ=⟨[(3,true,.ptr (n0+1024) 0 0),(2,true,.ptr n0 0 0),(0,true,.str s)],[(n0+1024,some (iBx 0)),(n0,some (oBx .nils))],2048⟩)] ⟨frOf 0 [.str s],[],0⟩:=by
  refine w_go 4000 ?_
  simp[cc37a,E,iBx,oBx]
 refine wp_seq (wkN (E:=E) k1 hW (fun _ h=>h) (fun _ _ h=>h) hD fun τ G1 a w1 hD1 hτ=>?_)
 subst hτ
 clear hW
 obtain⟨at1,ad1⟩:=a
 have hd0:ad1=[]:=hD1.defers
 subst hd0
 have hsz:5<at1.size:=by have:=hD1.size; simp only at this; rw[this]; show 5<Tryz.f37.ntmps; simp[Tryz.ntmps37]
 show (Code.seq _ _).wp _ _ _ _
 refine wp_seq (door37 rfl hsz ?_)
 obtain⟨v4,hv4⟩:∃v4,at1[2]?.getD undef=v4:=⟨_,rfl⟩
 obtain⟨v5,hv5⟩:∃v5,at1[3]?.getD undef=v5:=⟨_,rfl⟩
 have g4:RV G1 w1 (.ptr n0 0 0) v4:=by
  have:=(hD1.fr 2 true _ rfl).1 rfl
  rw[Array.getD_eq_getD_getElem?] at this
  rw[←hv4]; exact this
 have g5:RV G1 w1 (.ptr (n0+1024) 0 0) v5:=by
  have:=(hD1.fr 3 true _ rfl).1 rfl
  rw[Array.getD_eq_getD_getElem?] at this
  rw[←hv5]; exact this
 rw[hv4,hv5]
 have own1:∀i,n0+2048≤i→ov bx [(n0+1024,some (iBx 0)),(n0,some (oBx .nils))] i=none:=fun i hi=>by
  simp only[ov,upd]
  rw[if_neg (by omega),if_neg (by omega)]
  exact own i (by omega)
 have hev:Evo G w G1 w1:=hD1.ev
 have hrs:RS C G1 (ov bx [(n0+1024,some (iBx 0)),(n0,some (oBx .nils))]) w1:=hD1.rs
 have hus:∀i,G1.used i→i<n0+2048:=hD1.used
 have hol:∀i,i<n0→G1.used i→G.used i:=hD1.old
 let D:List Deferred:=[⟨.fn (.func 72) #[v4,v5],#[]⟩]
 let E2:Env:=⟨Tryz.prog,C,ov bx [(n0+1024,some (iBx 0)),(n0,some (oBx .nils))],Tryz.f37.ntmps,n0+2048,G1,w1,own1,hus,hrs,D,fun _=>False,fun _ _=>False⟩
 have hD2:Desc E2 ⟨[(3,true,.ptr (n0+1024) 0 0),(2,true,.ptr n0 0 0),(0,true,.str s)],[(n0+1024,some (iBx 0)),(n0,some (oBx .nils))],0⟩ G1 ⟨at1.setIfInBounds 5 (.func (.func 72) #[] #[v4,v5]),D⟩ w1:=by
  refine⟨Evo.refl G1 w1,?_,fun i hi=>by have:=hus i hi; show i<n0+2048+0; omega,fun i _ hi=>hi,fun n c v hl=>?_,?_,rfl⟩
  ·show RS C G1 (ov (ov bx _) _) w1
   simp only[ov]
   rw[upd_same (f:=upd (upd bx n0 _) (n0+1024) _) (i:=n0) (by simp[upd]),upd_same (i:=n0+1024) (by simp[upd])]
   exact hrs
  ·have:=hD1.fr n c v hl
   have hn:n≠5:=fun h=>by subst h; simp at hl
   simp only[Array.getD_eq_getD_getElem?] at this ⊢
   rw[Array.getElem?_setIfInBounds_ne (Ne.symm hn)]
   exact this
  ·have:=hD1.size
   simp only[Array.size_setIfInBounds]
   exact this
 have hN2:E2.n0=n0+2048:=rfl
 have hPr:E2.P=Tryz.prog:=rfl
 have hinv:∀w3,(invoke (.fn (.func 72) #[v4,v5]) #[]).run Tryz.prog w3 = .ok (.enter 72 #[v4,v5]) w3:=fun w3=>by simp[go_sem]
 have pnk:∀{R:Ending→World→Prop} {e:Int} {k:Nat} {F:Fr} {l:List (Nat×Option Bx)} {G3:Gh} {a3:Act} {w3:World} {u:Value},(∀v G4 w4,RS C G4 bx w4→Evo G w G4 w4→RV G4 w4 (.tup [.nils,.int .i64 e]) v→(∀x,G4.used x→G.used x∨(id≤x∧x<id+1024))→R (.returned v) w4) →
   DescF C Tryz.f37.ntmps D (n0+2048) G1 w1 F (ov E2.β l) (· < n0+2048+k) G3 a3 w3→RV G3 w3 (erV e) u→F 2=some (true,.ptr n0 0 0)→F 3=some (true,.ptr (n0+1024) 0 0) →
   (∃x,(x = .nils∨∃M n,x = .bsl M 0 n)∧ov E2.β l n0=some (oBx x))→ov E2.β l (n0+1024)=some (iBx 0)→(∀x∈l,n0≤x.1)→Leaves Tryz.prog Tryz.f37 a3.tmps R a3.defers (.panicking [{ v:=u,recovered:=false }]) w3:=fun {R e k F l G3 a3 w3 u} hR h1 h2 f4 f5 h4 h5 hl=>by
  obtain⟨x,hx,b4⟩:=h4
  rw[show a3.defers=D from h1.defers]
  have hus3:=h1.used
  have hrs3:=h1.rs
  refine leaves_cons (by simp) (hinv w3) ((allD_pnk C G3 _ w3 e x 0 hx _ n0 (n0+1024) v4 v5 u hrs3 (g4.mono h1.ev) (g5.mono h1.ev) h2 b4 h5 (by omega) hus3 (fun x hx=>?_)).mono ?_)
  ·cases hb:ov E2.β l x with
   | none=>rfl
   | some b=>have:=hus3 x (hrs3.boxNames hb).1; omega
  rintro e' u' w' ⟨rfl,⟨v,rfl⟩,G4,l',k',r1,r2,r3,r4,r5,r6,r7⟩
  have hx:=DescF.step h1 r1 r2 (U':=fun x=>x<n0+(2048+k+k')) (fun x hx=>by have:=r7 x hx; omega) (fun x hx hu=>r6 x (by omega) hu)
  rw[←ov_append] at hx
  have h':=hx.rebase (n0:=n0) (by omega) hev hol
  have e4:=ov_bk (ov E2.β l) r3
  have e5:=ov_bk (ov E2.β l) r4
  have hE:∀m,ov E2.β m=ov bx (m++[(n0+1024,some (iBx 0)),(n0,some (oBx .nils))]):=fun m=>(ov_append bx m _).symm
  rw[hE] at h'
  rw[←ov_append,hE] at e4 e5
  obtain⟨v,s1,G5,s2,s3,s4,s5⟩:=all_endE own old hs hid h' f4 f5 e4 e5 (fun x hx=>by
   rcases List.mem_append.1 hx with hx|hx
   ·rcases List.mem_append.1 hx with hx|hx
    ·rcases r5 x hx with h|h|h
     ·omega
     ·omega
     ·omega
    ·exact hl x hx
   ·simp at hx
    rcases hx with rfl|rfl<;>simp) (by omega) (by omega) (by omega)
  exact⟨v,s1,hR v G5 w' s2 s3 s4 s5⟩
 have hR0:∀{e:Int},fAll s = .error e→∀v G4 w4,RS C G4 bx w4→Evo G w G4 w4→RV G4 w4 (.tup [.nils,.int .i64 e]) v→(∀x,G4.used x→G.used x∨(id≤x∧x<id+1024)) →
   ∃v' G',Ending.returned v = .returned v'∧RS C G' (appl bx []) w4∧Evo G w G' w4∧RV G' w4 (lexV (fAll s)) v'∧∀x,G'.used x→G.used x∨(id≤x∧x<id+1024):=fun {e} hn v G4 w4 r1 r2 r3 r4=>by
  refine⟨v,G4,rfl,r1,r2,?_,r4⟩
  rw[hn]; exact r3
 have hW2:Wk E2 [.code cc37b,.post (fun σ=>σ=⟨[(4,true,.ptr (E2.n0+2048) 0 0),(8,true,.ptr (E2.n0+2048) 0 0),(7,true,.agg [.str s,.int .i64 0]),(6,true,.str s),(3,true,.ptr (n0+1024) 0 0),(2,true,.ptr n0 0 0),(0,true,.str s)],
   [(E2.n0+2048,some (rB s 0)),(n0+1024,some (iBx 0)),(n0,some (oBx .nils))],4096⟩)] ⟨[(3,true,.ptr (n0+1024) 0 0),(2,true,.ptr n0 0 0),(0,true,.str s)],[(n0+1024,some (iBx 0)),(n0,some (oBx .nils))],0⟩:=by
  clear hD hD1 hD2 pnk hR0
  refine w_go 4000 ?_
  simp[cc37b,hN2,rB]
 show (Code.seq _ _).wp _ _ _ _
 refine wp_seq (wkN (E:=E2) k2 hW2 (fun _ h=>h) (fun _ _ h=>h) hD2 fun τ G2 a2 w2 hD3 hτ=>?_)
 subst hτ
 clear hW2
 have w4:n0<E2.n0:=by omega
 have w5:n0+1024<E2.n0:=by omega
 have wd:n0≠n0+1024:=by omega
 have kc':=all_c E2 hPr n0 (n0+1024) w4 w5 wd s h8
 show (Code.seq _ _).wp _ _ _ _
 refine wp_seq ?_
 show (Code.seq _ _).wp _ _ _ _
 refine wp_seq (wkN (E:=E2) kc kc' (fun _ h=>h) (fun _ _ h=>h) hD3 fun τ G3 a3 w3 hD4 hτ=>?_)
 obtain⟨G4,hD5⟩:=hτ G3 a3 w3 hD4
 show (Code.block _ _).wp _ _ _ _
 refine wp_block ?_
 refine loopQ (E:=E2) (aInv E2 n0 (n0+1024) s) (fun q=>q.2≤s.length∧blk false (s.drop q.2)=s.drop q.2∧pToks ((s.drop q.2).length+1) q.1 (s.drop q.2)=fAll s∧q.1.length≤300) (fun q=>s.length - q.2) ([],atB s 0) ?_ hD5 ?_
 ·obtain⟨q1,q2⟩:=atU_suf (s:=s) (u:=blk false (s.drop 0)) (blk_suf false s)
  refine⟨q2,?_,?_,by simp⟩
  ·show blk false (s.drop (atB s 0))=s.drop (atB s 0)
   unfold atB
   rw[q1,blk_blk]
  ·show pToks ((s.drop (atB s 0)).length+1) [] (s.drop (atB s 0))=fAll s
   unfold atB
   rw[q1]
   have h2:=blk_le false s
   exact toks_fuel _ _ _ _ _ (blk_blk false s) (by rw[List.drop_zero,blk_blk]; omega) (by rw[List.drop_zero,blk_blk]; omega)
 rintro⟨acc,j⟩ ⟨hj,hbl,hto,hac⟩ G5 a5 w5' hD6
 simp only at hj hbl hto hac
 have hta:=toks_at hto hbl
 have hinvF:∀(q:List Tk×Nat),lk (aInv E2 n0 (n0+1024) s q).fr 2=some (true,.ptr n0 0 0)∧lk (aInv E2 n0 (n0+1024) s q).fr 3=some (true,.ptr (n0+1024) 0 0):=fun q=>⟨rfl,rfl⟩
 rcases Nat.lt_or_ge j s.length with hlt|hge
 rotate_left
 ·-- the end
  have hjs:j=s.length:=by omega
  subst hjs
  rw[List.drop_length] at hta
  have hta:fAll s = .ok acc:=hta
  have hWa:=all_a E2 hPr n0 (n0+1024) w4 w5 wd s h8 acc
  refine wp_mono (hWa _ kL G5 a5 w5' hD6) fun e a6 w6 hq=>?_
  cases e with
  | normal=>obtain⟨_,_,_,h⟩:=hq; exact h.elim
  | ret=>obtain⟨_,_,_,h⟩:=hq; exact h.elim
  | panic chain=>obtain⟨_,_,_,_,_,_,_,_,_,_,_,h⟩:=hq; exact h.elim
  | exit i =>
   obtain⟨σ,G6,hD7,hx⟩:=hq
   have hx:(if i=0 then Conv E2 σ (aInv E2 n0 (n0+1024) s (acc,s.length)) else False):=hx
   split at hx
   rotate_left
   ·exact hx.elim
   rename_i hi0
   subst hi0
   obtain⟨G7,hD8⟩:=hx G6 a6 w6 hD7
   show (Code.seq _ _).wp _ _ _ _
   let E3:Env:={ E2 with Rt:=fun σ=>bk σ.bx n0=some (oBx (.bsl (n0+2049) 0 acc.length))∧bk σ.bx (n0+1024)=some (iBx 0)∧bk σ.bx (n0+2049)=some ⟨acc.map eTk,.agg [.int .i64 0,.str [],.int .i64 0],false,false⟩∧lk σ.fr 2=some (true,.ptr n0 0 0)∧lk σ.fr 3=some (true,.ptr (n0+1024) 0 0)∧∀x∈σ.bx,n0≤x.1 }
   have hRt:∀σ,E3.Rt σ=(bk σ.bx n0=some (oBx (.bsl (n0+2049) 0 acc.length))∧bk σ.bx (n0+1024)=some (iBx 0)∧bk σ.bx (n0+2049)=some ⟨acc.map eTk,.agg [.int .i64 0,.str [],.int .i64 0],false,false⟩∧lk σ.fr 2=some (true,.ptr n0 0 0)∧lk σ.fr 3=some (true,.ptr (n0+1024) 0 0)∧∀x∈σ.bx,n0≤x.1):=fun _=>rfl
   have hN3:E3.n0=n0+2048:=rfl
   have hW3:Wk E3 [.code (.seq cc37d CC.ret)] (aInv E2 n0 (n0+1024) s (acc,s.length)):=by
    clear hD hD1 hD2 hD3 hD4 hD5 hD6 hD7 hD8 pnk hR0
    unfold aInv oBx iBx rB
    refine w_go 4000 ?_
    simp[cc37d,hN3,hN2,hRt,oBx,iBx]
    omega
   have ends:∀{R:Ending→World→Prop} {σ:St} {G8:Gh} {a7:Act} {w7:World},(∀v G4 w4,RS C G4 bx w4→Evo G w G4 w4→RV G4 w4 (.tup [.sl (acc.map eTk),.int .i64 0]) v→(∀x,G4.used x→G.used x∨(id≤x∧x<id+1024))→R (.returned v) w4)→Desc E3 σ G8 a7 w7→E3.Rt σ→Leaves Tryz.prog Tryz.f37 a7.tmps R a7.defers .returning w7:=fun {R σ G8 a7 w7} hR h1 h2=>by
    obtain⟨b4,b5,bM,f4,f5,hl⟩:=h2
    rw[show a7.defers=D from h1.defers]
    refine leaves_cons (by simp) (hinv w7) ((allD_ret v4 v5 w7).mono ?_)
    rintro e u' w' ⟨rfl,⟨v,rfl⟩,rfl⟩
    have h1':=h1.weak (U':=fun x=>x<n0+(2048+σ.k)) (fun x hx=>by have:x<n0+2048+σ.k:=hx; omega)
    have h':=h1'.rebase (n0:=n0) (by omega) hev hol
    have hE:ov E3.β σ.bx=ov bx (σ.bx++[(n0+1024,some (iBx 0)),(n0,some (oBx .nils))]):=(ov_append bx σ.bx _).symm
    have e4:=ov_bk E3.β b4
    have e5:=ov_bk E3.β b5
    have eM:=ov_bk E3.β bM
    rw[hE] at h' e4 e5 eM
    obtain⟨v,r1,G9,r2,r3,r4,r5⟩:=all_endO own old hs hid h' f4 f5 e4 e5 eM (fun x hx=>by
     rcases List.mem_append.1 hx with hx|hx
     ·exact hl x hx
     ·simp at hx
      rcases hx with rfl|rfl<;>simp) (by omega) (by omega) (by omega) (by omega) (by omega) (by omega)
    exact⟨v,r1,hR v G9 w' r2 r3 r4 r5⟩
   have hR1:∀v G4 w4,RS C G4 bx w4→Evo G w G4 w4→RV G4 w4 (.tup [.sl (acc.map eTk),.int .i64 0]) v→(∀x,G4.used x→G.used x∨(id≤x∧x<id+1024)) →
     ∃v' G',Ending.returned v = .returned v'∧RS C G' (appl bx []) w4∧Evo G w G' w4∧RV G' w4 (lexV (fAll s)) v'∧∀x,G'.used x→G.used x∨(id≤x∧x<id+1024):=fun v G4 w4 r1 r2 r3 r4=>by
    refine⟨v,G4,rfl,r1,r2,?_,r4⟩
    rw[hta]; exact r3
   refine wp_mono (hW3 _ kd G7 _ w6 hD8) fun e a7 w7 hq=>?_
   cases e with
   | ret =>
    obtain⟨σ,G8,h1,h2⟩:=hq
    exact ends hR1 h1 h2
   | normal =>
    obtain⟨σ,G8,h1,h2⟩:=hq
    exact ends hR1 h1 h2
   | exit id=>obtain⟨_,_,_,h2⟩:=hq; exact h2.elim
   | panic chain=>obtain⟨_,_,_,_,_,_,_,_,_,_,_,h⟩:=hq; exact h.elim
   | _=>exact hq.elim
  | _=>exact hq.elim
 obtain⟨c,hcj,hdj⟩:=drop_cons hlt
 rw[hdj] at hta
 have hta:match pTok c (s.drop (j+1)) with
   | .error e=>fAll s = .error e
   | .ok p=>if 300<acc.length+1 then fAll s = .error 2 else pToks ((blk false p.2).length+1) (acc++[p.1]) (blk false p.2)=fAll s:=hta
 have hWh:=all_h E2 hPr n0 (n0+1024) w4 w5 wd s h8 acc j hlt
 show (Code.seq _ _).wp _ _ _ _
 refine wp_seq ?_
 show (Code.seq _ _).wp _ _ _ _
 refine wp_seq (wkN (E:=E2) kh hWh (fun _ h=>h) (fun _ _ h=>h) hD6 fun τ G6 a6 w6 hD7 hτ=>?_)
 obtain⟨h17,hcv⟩:=hτ
 have he:a6.eval (.tmp 17) = .bool true:=by
  have hr:=(hD7.fr 17 true _ h17).1 rfl
  show a6.tmps.getD 17 undef=_
  generalize a6.tmps.getD 17 undef=v at hr
  cases hr; rfl
 obtain⟨G7,hD8⟩:=hcv G6 a6 w6 hD7
 show (Code.cond (.tmp 17) _ _).wp _ _ _ _
 refine wp_cond_split he (fun _=>?_) (fun hb=>by cases hb)
 refine wp_skip ?_
 show (Code.seq _ _).wp _ _ _ _
 refine wp_seq ?_
 show (Code.block _ _).wp _ _ _ _
 refine wp_block ?_
 show (Code.seq _ _).wp _ _ _ _
 cases hpt:pTok c (s.drop (j+1)) with
 | error e =>
  rw[hpt] at hta
  have hta:fAll s = .error e:=hta
  have hT:=fun id=>token_ok s j c _ (n0+2048) id hj hdj h8
  rw[hpt] at hT
  have hT:∀id,FnPn Tryz.prog 74 [.ptr (n0+2048) 0 0] [(n0+2048,rB s j)] id (erV e):=hT
  refine wp_seq ?_
  obtain⟨ri,ro,re,rg⟩:=comp_reg (show compC Tryz.prog Tryz.f37.ntmps _ = .reg true (crsK.take 2++crsK.getD 2 default::([]++crsK.drop 3)) psK from kk)
  rw[re]
  refine region_pnQ (E:=E2) (σ:=aInv E2 n0 (n0+1024) s (acc,j)) (pv:=erV e) (l1:=crsK.take 2) (c:=crsK.getD 2 default) (l2:=[]) (l3:=crsK.drop 3) rg
   (rs1:=[⟨true,.bsl (n0+2049) 0 acc.length,[(n0,oBx (.bsl (n0+2049) 0 acc.length))],[]⟩,⟨true,.ptr (n0+2048) 0 0,[],[]⟩]) (r:=⟨true,.nili,[(n0+2048,rB s j)],goL [(n0+2048,rB s j)]⟩) (rs2:=[]) ?_ ?_ trivial ?_ (fun F B k' G9 u a9 w9 q1 q2 q3 q4=>?_) hD8
  ·simp only[crsK,crsOf,cc37k,CC.d,List.take,ARuns,CR.l,CR.m,St.app,putF,addW,aInv,oBx,iBx,rB]
   refine⟨ar_sem (by simp) (by simp[hN2]),ar_sem (by simp) (by simp[hN2]),trivial⟩
  ·simp[crsK,crsOf,cc37k,St.apps,St.app,aInv,oBx,iBx,rB]
   refine ar_call (by simp) (by simp<;>rfl) (hT _) (by simp[hN2])
  ·simp only[crsK,crsOf,psK,psOf,dynS,cc37k,CC.d,List.map,List.append,getR,List.take,List.length,List.drop,List.cons_append,List.nil_append]
   simp[apartR,hN2]
  ·have hB:=histB_ov q3
   rw[hB] at q1
   have f2:=q2 2 (by decide)
   have f3:=q2 3 (by decide)
   refine pnk (k:=k') (hR0 hta) q1 q4 f2 f3 ?_ ?_ ?_
   ·rw[←hB]
    rcases q3 n0 with h|h
    ·exact⟨.nils,.inl rfl,by rw[h]; simp[E2,ov,upd]⟩
    ·simp[crsK,crsOf,cc37k,St.apps,St.app,aInv,goL,addW,putF,hN2] at h
     rcases h with h|⟨h,_⟩
     ·exact⟨_,.inr ⟨_,_,rfl⟩,h⟩
     ·omega
   ·rw[←hB]
    rcases q3 (n0+1024) with h|h
    ·rw[h]; simp[E2,ov,upd]
    ·simp[crsK,crsOf,cc37k,St.apps,St.app,aInv,goL,addW,putF,hN2] at h
     exact h
   ·intro x hx
    simp[crsK,crsOf,cc37k,St.apps,St.app,aInv,goL,addW,putF,hN2] at hx
    rcases hx with rfl|rfl|rfl|rfl|rfl<;>simp<;>omega
 | ok p =>
  obtain⟨t,u⟩:=p
  rw[hpt] at hta
  simp only at hta
  have hWk:=all_k E2 hPr n0 (n0+1024) w4 w5 wd s h8 acc j hj c _ u t hdj hpt hac
  refine wp_seq (wkN (E:=E2) kk hWk (fun _ h=>h) (fun _ _ h=>h) hD8 fun τ G8 a8 w8 hD9 hτ=>?_)
  obtain⟨G9,hD10⟩:=hτ G8 a8 w8 hD9
  by_cases hmany:300<acc.length+1
  ·rw[if_pos hmany] at hta
   have hWl:=all_l E2 hPr n0 (n0+1024) w4 w5 wd s h8 (acc++[t]) (atU s u) true (by simp; omega)
   show (Code.seq _ _).wp _ _ _ _
   refine wp_seq (wkN (E:=E2) kl hWl (fun _ h=>h) (fun _ _ h=>h) hD10 fun τ G10 a10 w10 hD11 hτ=>?_)
   obtain⟨h27,hcv⟩:=hτ
   have he:a10.eval (.tmp 27) = .bool true:=by
    have hr:=(hD11.fr 27 true _ h27).1 rfl
    show a10.tmps.getD 27 undef=_
    generalize a10.tmps.getD 27 undef=v at hr
    cases hr; rfl
   obtain⟨G11,hD12⟩:=hcv G10 a10 w10 hD11
   show (Code.cond (.tmp 27) _ _).wp _ _ _ _
   refine wp_cond_split he (fun _=>?_) (fun hb=>by cases hb)
   have hf:=fun id=>lfail_ok 2 id
   let E1:Env:={ E2 with Pn:=fun pv σ=>pv=erV 2∧bk σ.bx n0=some (oBx (.bsl (n0+2049) 0 (acc++[t]).length))∧bk σ.bx (n0+1024)=some (iBx 0)∧lk σ.fr 2=some (true,.ptr n0 0 0)∧lk σ.fr 3=some (true,.ptr (n0+1024) 0 0)∧∀x∈σ.bx,n0≤x.1 }
   have hN1:E1.n0=n0+2048:=rfl
   have hP1:E1.P=Tryz.prog:=rfl
   have hW5:Wk E1 [.ops (crsOf cc37m) 0 [] [],.post (fun _=>False)] (aInv E2 n0 (n0+1024) s (acc++[t],atU s u)):=by
    clear hD hD1 hD2 hD3 hD4 hD5 hD6 hD7 hD8 hD9 hD10 hD11 hD12 pnk hR0
    unfold aInv
    refine w_go 4000 ?_
    simp[crsOf,cc37m]
    refine w_callE hP1 rfl (hf _) (by simp) (by simp) (fun pv hpv=>⟨by simp,by injection hpv with hpv; subst hpv; exact⟨rfl,by simp[hN2,oBx],by simp[hN2,iBx],rfl,rfl,by simp[hN2]; omega⟩⟩) (fun v wr h=>by cases h)
   refine reg_pn (E:=E1) (crs:=crsOf cc37m) (km.trans rfl) hW5 hD12 (fun σ G3 a3 w3 h1 h2=>h2.elim) (fun pv u σ G13 a13 w13 h1 h2 h3=>?_)
   obtain⟨rfl,b4,b5,f4,f5,hl⟩:=h3
   exact pnk (k:=2+1024*(crsOf cc37m).length) (hR0 hta) (h1.weak fun x hx=>by simp only[E1,aInv] at hx; omega) h2 f4 f5 ⟨_,.inr ⟨_,_,rfl⟩,ov_bk _ b4⟩ (ov_bk _ b5) hl
  ·rw[if_neg hmany] at hta
   have hWl:=all_l E2 hPr n0 (n0+1024) w4 w5 wd s h8 (acc++[t]) (atU s u) false (by simp; omega)
   show (Code.seq _ _).wp _ _ _ _
   refine wp_seq (wkN (E:=E2) kl hWl (fun _ h=>h) (fun _ _ h=>h) hD10 fun τ G10 a10 w10 hD11 hτ=>?_)
   obtain⟨h27,hcv⟩:=hτ
   have he:a10.eval (.tmp 27) = .bool false:=by
    have hr:=(hD11.fr 27 true _ h27).1 rfl
    show a10.tmps.getD 27 undef=_
    generalize a10.tmps.getD 27 undef=v at hr
    cases hr; rfl
   obtain⟨G11,hD12⟩:=hcv G10 a10 w10 hD11
   show (Code.cond (.tmp 27) _ _).wp _ _ _ _
   refine wp_cond_split he (fun hb=>by cases hb) (fun _=>?_)
   refine wp_skip ?_
   have hus2:u <:+ s:=by
    refine (pTok_lt hpt).2.trans ?_
    exact List.drop_suffix _ _
   obtain⟨q1,q2⟩:=atU_suf hus2
   have hWn:=all_n E2 hPr n0 (n0+1024) w4 w5 wd s h8 (acc++[t]) (atU s u) q2
   refine wkN (E:=E2) kn hWn (fun _ h=>h) (fun _ _ h=>h) hD12 fun τ G12 a12 w12 hD13 hτ=>?_
   obtain⟨G13,hD14⟩:=hτ G12 a12 w12 hD13
   obtain⟨p1,p2⟩:=atU_suf (s:=s) (u:=blk false u) ((blk_suf false u).trans hus2)
   have hu1:=(pTok_lt hpt).1
   have hu2:=blk_le false u
   have hjl:(s.drop (j+1)).length+(j+1)=s.length:=by rw[List.length_drop]; omega
   have hbb:atB s (atU s u)=atU s (blk false u):=by unfold atB; rw[q1]
   show ∃x' G',_∧_∧_
   refine⟨(acc++[t],atB s (atU s u)),G13,⟨?_,?_,?_,by simp; omega⟩,?_,hD14⟩
   ·show atB s (atU s u)≤s.length
    rw[hbb]; exact p2
   ·show blk false (s.drop (atB s (atU s u)))=s.drop (atB s (atU s u))
    rw[hbb,p1,blk_blk]
   ·show pToks ((s.drop (atB s (atU s u))).length+1) (acc++[t]) (s.drop (atB s (atU s u)))=fAll s
    rw[hbb,p1]; exact hta
   ·show s.length - atB s (atU s u)<s.length - j
    rw[hbb]
    unfold atU
    omega
end Go.Am
