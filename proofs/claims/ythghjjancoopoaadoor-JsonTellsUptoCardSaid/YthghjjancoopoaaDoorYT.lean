/- Parts of the proof: an abstract machine for Go functions, and what functions of the program give back (Rj11, Rj12, Rj13). No condition. -/
import Derived.Test.YthghjjancoopoaaDoorCcB
import Derived.Test.YthghjjancoopoaaDoorYS
import Derived.Test.YthghjjancoopoaaDoorYC
import Derived.Test.YthghjjancoopoaaDoorXD
import Derived.Recover
namespace Go.Am
set_option linter.all false
open Go Go.RowKit Go.Proofs
set_option maxRecDepth 100000
set_option linter.all false
theorem prsY_pnk(E:Env)(x0 x1 x2 x3 x4:AV)(J4 J5:Nat)(h4:J4<E.n0)(h5:J5<E.n0)(d:J4≠J5)(hR:∀fr bx k,bk bx J4=some (bO zOut)→bk bx J5=some (bB false)→(∀q∈bx,q.1=J4∨q.1=J5∨E.n0≤q.1)→E.Rt ⟨fr,bx,k⟩):
  Wk E [.code cc35c] ⟨[(0,true,.ptr J4 0 0),(1,true,.ptr J5 0 0),(2,true,wv)],[(J4,some (bO (.agg [x0,x1,x2,x3,x4]))),(J5,some (bB false))],0⟩:=by
 unfold wv bO bB zOut
 have e4:∀t,(J4=E.n0+t)=False:=fun t=>by simp; omega
 have e5:∀t,(J5=E.n0+t)=False:=fun t=>by simp; omega
 refine w_go 4000 ?_
 simp[cc35c,e4,e5,d,Ne.symm d]
 refine hR _ _ _ ?_ ?_ ?_
 ·simp[e4,e5,d,Ne.symm d,bO,zOut]
 ·simp[e4,e5,d,Ne.symm d,bB]
 ·simp
theorem hY35{x x' z:Code}{X:Operand}{Y:Code}(h:Tryd.f35.body=some (.seq x (.seq x' (.cond X Y z)))):compC Tryd.prog Tryd.f35.ntmps Y=cc35c:=by
 have h0:=hcc35
 rw[h] at h0
 simp only[Option.map_some,Option.some.injEq,cc35] at h0
 obtain⟨_,_,e1,_,h1⟩:=comp_seq h0
 injection e1 with _ e1
 subst e1
 obtain⟨_,_,e2,_,h2⟩:=comp_seq h1
 injection e2 with _ e2
 subst e2
 obtain⟨_,_,_,e3,_,h3,_⟩:=comp_cond h2
 injection e3 with _ e3 _
 subst e3
 exact h3
theorem prsD_pnk(C:Cx Tryd.prog)(G:Gh)(B:Nat→Option Bx)(w:World)(x0 x1 x2 x3 x4:AV)(n0 J4 J5:Nat)(v4 v5 u:Value)(hs:RS C G B w)(hv4:RV G w (.ptr J4 0 0) v4)(hv5:RV G w (.ptr J5 0 0) v5)(hu:RV G w wv u)
  (h4:B J4=some (bO (.agg [x0,x1,x2,x3,x4]))) (h5:B J5=some (bB false)) (d:J4≠J5) (hold:∀x,G.used x→x<n0) (how:∀x,n0≤x→B x=none) :
  CallsD Tryd.prog 35 #[v4,v5] (.panicking [{ v:=u,recovered:=false }]) w fun e u' w'=>u' = .panicking [{ v:=u,recovered:=true }]∧(∃v,e = .returned v) ∧
   ∃G' l k,RS C G' (ov B l) w'∧Evo G w G' w'∧bk l J4=some (bO zOut)∧bk l J5=some (bB false)∧(∀q∈l,q.1=J4∨q.1=J5∨n0≤q.1)∧(∀x,x<n0→G'.used x→G.used x)∧∀x,G'.used x→x<n0+k:=by
 obtain⟨y,rfl⟩:∃y,u = .iface 60 y:=by
  unfold wv at hu
  cases hu with|iface _ _ y h=>exact⟨y,rfl⟩
 refine callsD_of_wpS Tryd.func35 rfl fun c₀ cs hm=>?_
 apply wpS_seq
 apply wpS_region
 simp[wpOpsS,go_sem,recoverD,hm,Tryd.ntmps35,Exit.thenS]
 apply wpS_seq
 apply wpS_region
 simp[wpOpsS,go_sem,Exit.thenS]
 refine wpS_cond (t:=true) (by simp[Act.eval,Array.replicate]) ?_
 apply wpS_of_wp
 simp only[if_true]
 let E:Env:=⟨Tryd.prog,C,B,Tryd.f35.ntmps,n0,G,w,how,hold,hs,[],fun σ=>bk σ.bx J4=some (bO zOut)∧bk σ.bx J5=some (bB false)∧∀q∈σ.bx,q.1=J4∨q.1=J5∨n0≤q.1,fun _ _=>False⟩
 have l4:=hold J4 (hs.boxNames h4).1
 have l5:=hold J5 (hs.boxNames h5).1
 have hW:=prsY_pnk E x0 x1 x2 x3 x4 J4 J5 l4 l5 d fun fr bx k h1 h2 h3=>⟨h1,h2,h3⟩
 refine wp_mono (hW _ (hY35 rfl) G _ w ?_) fun e a w' hq=>?_
 ·refine⟨Evo.refl G w,?_,fun i hi=>by have:=hold i hi; show i<n0+0; omega,fun i _ hi=>hi,fun n c v hl=>?_,?_,rfl⟩
  ·have hh:Has B [(J4,bO (.agg [x0,x1,x2,x3,x4])),(J5,bB false)]:=fun q hq=>by
    simp at hq
    rcases hq with rfl|rfl
    ·exact h4
    ·exact h5
   have:=ov_someL hh
   simp only[someL] at this
   show RS C G (ov B _) w
   rw[this]; exact hs
  ·simp only[lk] at hl
   repeat' split at hl
   all_goals first|cases hl|skip
   all_goals rename_i hn<;>subst hn<;>refine⟨fun _=>?_,fun h=>by cases h⟩
   ·simpa [Array.getD_eq_getD_getElem?] using hv4
   ·simpa [Array.getD_eq_getD_getElem?] using hv5
   ·simpa [Array.getD_eq_getD_getElem?] using hu
  ·simp[E,Tryd.ntmps35]
 ·have fin:∀σ G',Desc E σ G' a w'→E.Rt σ→∀(cs':List Frame),a.defers=[]∧(∃v,(results Tryd.f35 a.tmps).run Tryd.prog w' = .ok v w')∧∃G' l k,RS C G' (ov B l) w'∧Evo G w G' w'∧bk l J4=some (bO zOut)∧bk l J5=some (bB false)∧(∀q∈l,q.1=J4∨q.1=J5∨n0≤q.1)∧(∀x,x<n0→G'.used x→G.used x)∧∀x,G'.used x→x<n0+k:=fun σ G' hD hR _=>by
   refine⟨hD.defers,⟨_,by simp[results,Tryd.results35]; rfl⟩,G',σ.bx,σ.k,hD.rs,hD.ev,hR.1,hR.2.1,hR.2.2,hD.old,hD.used⟩
  cases e with
  | normal =>
   obtain⟨σ,G',h1,h2⟩:=hq
   obtain⟨f1,⟨v,f2⟩,f3⟩:=fin σ G' h1 h2 cs
   exact⟨f1,_,rfl,v,f2,rfl,⟨v,rfl⟩,by obtain⟨g1,g2,g3,d1,d2,d3,d4,d5,d6,d7⟩:=f3; exact⟨g1,g2,d1,d2,d3,d4,fun x y h=>d5 (x,y) h,d6,g3,d7⟩⟩
  | ret =>
   obtain⟨σ,G',h1,h2⟩:=hq
   obtain⟨f1,⟨v,f2⟩,f3⟩:=fin σ G' h1 h2 cs
   exact⟨f1,_,rfl,v,f2,rfl,⟨v,rfl⟩,by obtain⟨g1,g2,g3,d1,d2,d3,d4,d5,d6,d7⟩:=f3; exact⟨g1,g2,d1,d2,d3,d4,fun x y h=>d5 (x,y) h,d6,g3,d7⟩⟩
  | exit id=>obtain⟨σ,G',h1,h2⟩:=hq; exact h2.elim
  | panic chain =>
   obtain⟨pv,u,σ,F,B,U,G',rfl,h1,h2,h3,h4⟩:=hq
   exact h4.elim
  | _=>exact hq.elim
theorem prsD_ret(v1 v2:Value)(w:World):CallsD Tryd.prog 35 #[v1,v2] .returning w fun e u' w'=>u' = .returning∧(∃v,e = .returned v)∧w'=w:=by
 refine callsD_of_wpS Tryd.func35 rfl fun c₀ cs hu=>?_
 apply wpS_seq
 apply wpS_region
 simp[wpOpsS,go_sem,recoverD,hu,Tryd.ntmps35,Exit.thenS]
 apply wpS_seq
 apply wpS_region
 simp[wpOpsS,go_sem,Exit.thenS]
 refine wpS_cond (t:=false) (by simp[Act.eval,Array.replicate]) ?_
 simp only[Bool.false_eq_true,if_false]
 apply wpS_of_wp
 refine wp_skip ?_
 exact⟨rfl,_,by rw[←hu],_,by simp[results,Tryd.results35]; rfl,rfl,⟨_,rfl⟩,rfl⟩
end Go.Am
namespace Go.Am
set_option linter.all false
open Go Go.RowKit Go.Proofs
set_option maxRecDepth 100000
set_option linter.all false
theorem hY19{x m y z1 z2 Y k z4 r:Code}{X:Operand}(h:Tryd.f19.body=some (.seq x (.seq m (.seq y (.seq z1 (.seq (.seq z2 (.cond X Y k)) (.seq z4 r))))))):compC Tryd.prog Tryd.f19.ntmps x=cc19a∧compC Tryd.prog Tryd.f19.ntmps y=cc19b∧compC Tryd.prog Tryd.f19.ntmps z1=cc19c∧compC Tryd.prog Tryd.f19.ntmps z2=cc19d∧compC Tryd.prog Tryd.f19.ntmps Y=cc19e∧compC Tryd.prog Tryd.f19.ntmps z4=cc19f:=by
 have h0:=hcc19
 rw[h] at h0
 simp only[Option.map_some,Option.some.injEq,cc19] at h0
 obtain⟨_,_,e1,k1,h1⟩:=comp_seq h0
 injection e1 with e1 e1'
 subst e1 e1'
 obtain⟨_,_,e2,_,h2⟩:=comp_seq h1
 injection e2 with _ e2
 subst e2
 obtain⟨_,_,e3,k3,h3⟩:=comp_seq h2
 injection e3 with e3 e3'
 subst e3 e3'
 obtain⟨_,_,e4,k4,h4⟩:=comp_seq h3
 injection e4 with e4 e4'
 subst e4 e4'
 obtain⟨_,_,e5,k5,h5⟩:=comp_seq h4
 injection e5 with e5 e5'
 subst e5 e5'
 obtain⟨_,_,e6,k6,h6⟩:=comp_seq k5
 injection e6 with e6 e6'
 subst e6
 obtain⟨_,_,_,e7,_,k7,_⟩:=comp_cond h6
 rw[e7] at e6'
 injection e6' with _ e6' _
 subst e6'
 obtain⟨_,_,e8,k8,_⟩:=comp_seq h5
 injection e8 with e8 e8'
 subst e8
 exact⟨k1,k3,k4,k6,k7,k8⟩
theorem door19{x m r:Code}(h:Tryd.f19.body=some (.seq x (.seq m r))){Q:Exit→Act→World→Prop}{t:Array Value}{w:World}(hsz:5<t.size)
  (hQ:Q .normal ⟨t.setIfInBounds 5 (.func (.func 35) #[] #[t[2]?.getD undef,t[3]?.getD undef]),[⟨.fn (.func 35) #[t[2]?.getD undef,t[3]?.getD undef],#[]⟩]⟩ w):m.wp Tryd.prog Q ⟨t,[]⟩ w:=by
 have e:Tryd.f19.body=some (.seq _ (.seq _ _)):=rfl
 rw[e] at h
 injection h with h
 injection h with _ h
 injection h with h _
 subst h
 refine wp_region ?_
 have hmf:∀(fn:Fn) (first cap:Array Value) (w:World),(Instr.makeFunc fn first cap).run Tryd.prog w = .ok (.func fn first cap) w:=fun _ _ _ _=>rfl
 simp[wpOps,wpOp,go_sem,hmf,Exit.then,hsz]
 exact .inl (.inl hQ)
theorem prs_end{C:Cx Tryd.prog}{D:List Deferred}{G G':Gh}{w w':World}{bx:Nat→Option Bx}{n0 k id J4 J5:Nat}{F:Fr}{l:List (Nat×Option Bx)}{a:Act}{cs:List AV}{b:Bool}(own:∀i,n0≤i→bx i=none)(old:∀i,G.used i→i<n0)(hs:RS C G bx w)(hid:∀x,id≤x→x<id+1024→¬G.used x)
  (hD:DescF C Tryd.f19.ntmps D n0 G w F (ov bx l) (· < n0+k) G' a w') (f4:F 2=some (true,.ptr J4 0 0)) (f5:F 3=some (true,.ptr J5 0 0)) (h4:ov bx l J4=some (bO (.agg cs))) (h5:ov bx l J5=some (bB b)) (hc:cs.length=5) (hp:pureL cs=true) (hl:∀q∈l,n0≤q.1) (d:J4≠J5) (j4:n0≤J4) (j5:n0≤J5) :
  ∃v,(results Tryd.f19 a.tmps).run Tryd.prog w' = .ok v w'∧∃G1,RS C G1 bx w'∧Evo G w G1 w'∧RV G1 w' (.tup [.agg cs,.bool b]) v∧∀x,G1.used x→G.used x∨(id≤x∧x<id+1024):=by
 let E:Env:=⟨Tryd.prog,C,bx,Tryd.f19.ntmps,n0,G,w,own,old,hs,D,fun _=>True,fun _ _=>False⟩
 have hD':Desc E ⟨[(2,true,.ptr J4 0 0),(3,true,.ptr J5 0 0)],(J4,some (bO (.agg cs)))::(J5,some (bB b))::l,k⟩ G' a w':=by
  refine⟨hD.ev,?_,hD.used,hD.old,fun n c v hl=>?_,hD.size,hD.defers⟩
  ·show RS C G' (ov bx _) w'
   simp only[ov]
   rw[upd_same (f:=ov bx l) h5,upd_same h4]
   exact hD.rs
  ·simp only[lk] at hl
   repeat' split at hl
   all_goals first|cases hl|skip
   all_goals rename_i hn<;>subst hn
   ·exact hD.fr _ _ _ f4
   ·exact hD.fr _ _ _ f5
 have hh:Has E.β []:=Has.nil
 refine end_ok (E:=E) (id:=id) (rd:=[]) (wr:=[]) (hcr19) hh hid hD' ?_
 simp only[cr19]
 have htk:cs.take 5=cs:=List.take_of_length_le (by omega)
 refine rt_end (by simp[bO,bB,d,Ne.symm d,hc,htk]<;>rfl) [] trivial (end_pure (by simp) (by simp[hp]) ?_)
 exact DropOk.of fun q hq=>by
  simp at hq
  rcases hq with rfl|rfl|hq
  ·exact j4
  ·exact j5
  ·exact hl q hq
end Go.Am
namespace Go.Am
set_option linter.all false
open Go Go.RowKit Go.Proofs
set_option maxRecDepth 100000
set_option linter.all false
theorem hY19r{x m y r:Code}(h:Tryd.f19.body=some (.seq x (.seq m (.seq y r)))):compC Tryd.prog Tryd.f19.ntmps r = .seq cc19c (.seq (.seq cc19d (.cond (.t 15) cc19e CC.skip)) (.seq cc19f CC.ret)):=by
 have h0:=hcc19
 rw[h] at h0
 simp only[Option.map_some,Option.some.injEq,cc19] at h0
 obtain⟨_,_,e1,k1,h1⟩:=comp_seq h0
 injection e1 with e1 e1'
 subst e1 e1'
 obtain⟨_,_,e2,_,h2⟩:=comp_seq h1
 injection e2 with _ e2
 subst e2
 obtain⟨_,_,e3,k3,h3⟩:=comp_seq h2
 injection e3 with e3 e3'
 subst e3 e3'
 exact h3
def prsO(s:List UInt8):AV:=match pAll s with
 | some o=>eO o
 | none=>zOut
def prsB(s:List UInt8):Bool:=(pAll s).isSome
set_option maxHeartbeats 16000000 in
theorem prs_ok(s:List UInt8)(id:Nat)(h8:s.length≤1099511627776):
  FnOk Tryd.prog 19 [.str s] [] id (.tup [prsO s,.bool (prsB s)]) []:=by
 refine⟨⟨_,Tryd.func19,by decide,rfl⟩,fun C G bx w vs nb hs hv hh hnb hid=>calls_of_wp_defers Tryd.func19 rfl ?_⟩
 obtain⟨k1,k2,k3,k4,k5,k6⟩:=hY19 rfl
 have kr:=hY19r rfl
 have own:∀i,max nb (id+1024)≤i→bx i=none:=fun i hi=>by
  cases hbi:bx i with
  | none=>rfl
  | some b=>exact (hnb i (by omega) (hs.boxNames hbi).1).elim
 have old:∀i,G.used i→i<max nb (id+1024):=fun i hi=>by
  rcases Nat.lt_or_ge i nb with h|h
  ·omega
  ·exact (hnb i h hi).elim
 generalize max nb (id+1024)=n0 at own old
 let E:Env:=⟨Tryd.prog,C,bx,Tryd.f19.ntmps,n0,G,w,own,old,hs,[],fun _=>False,fun _ _=>False⟩
 have hD:Desc E ⟨frOf 0 [.str s],[],0⟩ G { tmps:=vs++Array.replicate (Tryd.f19.ntmps - vs.size) undef,defers:=[] } w:=by
  refine⟨Evo.refl G w,hs,fun i hi=>by have:=old i hi; show i<n0+0; omega,fun i _ hi=>hi,fun n c v hl=>?_,?_,rfl⟩
  ·obtain⟨rfl,_,h3⟩:=lk_frOf hl
   simp only[Nat.sub_zero] at h3
   refine⟨fun _=>?_,fun h=>by cases h⟩
   have:=hv.2 n v h3
   rw[Array.getD_eq_getD_getElem?] at this ⊢
   rw[Array.getElem?_append_left (by rw[←hv.1]; exact (List.getElem?_eq_some_iff.1 h3).1)]
   exact this
  ·have:=hv.1
   simp[Tryd.ntmps19] at this ⊢
   show _=Tryd.f19.ntmps
   simp[Tryd.ntmps19]; omega
 have hW:Wk E [.code cc19a,.post (fun σ=>σ=⟨[(3,true,.ptr (n0+1024) 0 0),(2,true,.ptr n0 0 0),(0,true,.str s)],[(n0+1024,some (bB false)),(n0,some (bO zOut))],2048⟩)] ⟨frOf 0 [.str s],[],0⟩:=by
  refine w_go 4000 ?_
  simp[cc19a,E,bB,bO,zOut]
 refine wp_seq (wp_mono (hW _ k1 G _ w hD) fun e a w1 hq=>?_)
 clear hW
 cases e with
 | normal =>
  obtain⟨σ,G1,hD1,rfl⟩:=hq
  obtain⟨at1,ad1⟩:=a
  have hd0:ad1=[]:=hD1.defers
  subst hd0
  have hsz:5<at1.size:=by have:=hD1.size; simp only at this; rw[this]; show 5<Tryd.f19.ntmps; simp[Tryd.ntmps19]
  show (Code.seq _ _).wp _ _ _ _
  refine wp_seq (door19 rfl hsz ?_)
  obtain⟨v4,hv4⟩:∃v4,at1[2]?.getD undef=v4:=⟨_,rfl⟩
  obtain⟨v5,hv5⟩:∃v5,at1[3]?.getD undef=v5:=⟨_,rfl⟩
  have g4:RV G1 w1 (.ptr n0 0 0) v4:=by
   have:=(hD1.fr 2 true _ rfl).1 rfl
   rw[Array.getD_eq_getD_getElem?] at this
   rw[←hv4]; exact this
  have g5:RV G1 w1 (.ptr (n0+1024) 0 0) v5:=by
   have:=(hD1.fr 3 true _ rfl).1 rfl
   rw[Array.getD_eq_getD_getElem?] at this
   rw[←hv5]; exact this
  rw[hv4,hv5]
  have own1:∀i,n0+2048≤i→ov bx [(n0+1024,some (bB false)),(n0,some (bO zOut))] i=none:=fun i hi=>by
   simp only[ov,upd]
   rw[if_neg (by omega),if_neg (by omega)]
   exact own i (by omega)
  have hev:Evo G w G1 w1:=hD1.ev
  have hrs:RS C G1 (ov bx [(n0+1024,some (bB false)),(n0,some (bO zOut))]) w1:=hD1.rs
  have hus:∀i,G1.used i→i<n0+2048:=hD1.used
  have hol:∀i,i<n0→G1.used i→G.used i:=hD1.old
  let D:List Deferred:=[⟨.fn (.func 35) #[v4,v5],#[]⟩]
  let E1:Env:=⟨Tryd.prog,C,ov bx [(n0+1024,some (bB false)),(n0,some (bO zOut))],Tryd.f19.ntmps,n0+2048,G1,w1,own1,hus,hrs,D,fun _=>False,
   fun pv σ=>pv=wv∧(∃x0 x1 x2 x3 x4,bk σ.bx n0=some (bO (.agg [x0,x1,x2,x3,x4])))∧bk σ.bx (n0+1024)=some (bB false)∧lk σ.fr 2=some (true,.ptr n0 0 0)∧lk σ.fr 3=some (true,.ptr (n0+1024) 0 0)∧∀x∈σ.bx,n0≤x.1⟩
  have hD2:Desc E1 ⟨[(3,true,.ptr (n0+1024) 0 0),(2,true,.ptr n0 0 0),(0,true,.str s)],[(n0+1024,some (bB false)),(n0,some (bO zOut))],0⟩ G1 ⟨at1.setIfInBounds 5 (.func (.func 35) #[] #[v4,v5]),D⟩ w1:=by
   refine⟨Evo.refl G1 w1,?_,fun i hi=>by have:=hus i hi; show i<n0+2048+0; omega,fun i _ hi=>hi,fun n c v hl=>?_,?_,rfl⟩
   ·show RS C G1 (ov (ov bx _) _) w1
    simp only[ov]
    rw[upd_same (f:=upd (upd bx n0 _) (n0+1024) _) (i:=n0) (by simp[upd]),upd_same (i:=n0+1024) (by simp[upd])]
    exact hrs
   ·have:=hD1.fr n c v hl
    have hn:n≠5:=fun h=>by subst h; simp at hl
    simp only[Array.getD_eq_getD_getElem?] at this ⊢
    rw[Array.getElem?_setIfInBounds_ne (Ne.symm hn)]
    exact this
   ·have:=hD1.size
    simp only[Array.size_setIfInBounds]
    exact this
  have hN:E1.n0=n0+2048:=rfl
  let E2:Env:={ E1 with Pn:=fun _ _=>False }
  have hN2:E2.n0=n0+2048:=rfl
  have hinv:∀w3,(invoke (.fn (.func 35) #[v4,v5]) #[]).run Tryd.prog w3 = .ok (.enter 35 #[v4,v5]) w3:=fun w3=>by simp[go_sem]
  have fin:∀{F:Fr} {l:List (Nat×Option Bx)} {k:Nat} {G3:Gh} {a3:Act} {w3:World} {cs:List AV} {b:Bool},DescF C Tryd.f19.ntmps D (n0+2048) G1 w1 F (ov (ov bx [(n0+1024,some (bB false)),(n0,some (bO zOut))]) l) (· < n0+k) G3 a3 w3 →
    F 2=some (true,.ptr n0 0 0)→F 3=some (true,.ptr (n0+1024) 0 0)→bk l n0=some (bO (.agg cs))→bk l (n0+1024)=some (bB b)→cs.length=5→pureL cs=true→(∀x∈l,n0≤x.1) →
    ∃v,(results Tryd.f19 a3.tmps).run Tryd.prog w3 = .ok v w3∧∃G1,RS C G1 bx w3∧Evo G w G1 w3∧RV G1 w3 (.tup [.agg cs,.bool b]) v∧∀x,G1.used x→G.used x∨(id≤x∧x<id+1024):=fun {F l k G3 a3 w3 cs b} h f4 f5 b4 b5 hc hp hl=>by
   have h':=h.rebase (n0:=n0) (by omega) hev hol
   have e4:=ov_bk (ov bx [(n0+1024,some (bB false)),(n0,some (bO zOut))]) b4
   have e5:=ov_bk (ov bx [(n0+1024,some (bB false)),(n0,some (bO zOut))]) b5
   rw[←ov_append] at h' e4 e5
   exact prs_end own old hs hid h' f4 f5 e4 e5 hc hp (fun x hx=>by
    rcases List.mem_append.1 hx with hx|hx
    ·exact hl x hx
    ·simp at hx
     rcases hx with rfl|rfl<;>simp) (by omega) (by omega) (by omega)
  have pnk:∀{R:Ending→World→Prop} {σ:St} {k:Nat} {G3:Gh} {a3:Act} {w3:World} {pv:AV} {u:Value},(∀v G4 w4,RS C G4 bx w4→Evo G w G4 w4→RV G4 w4 (.tup [zOut,.bool false]) v→(∀x,G4.used x→G.used x∨(id≤x∧x<id+1024))→R (.returned v) w4) →
    DescF C Tryd.f19.ntmps D (n0+2048) G1 w1 (lk σ.fr) (ov E1.β σ.bx) (· < n0+2048+k) G3 a3 w3→RV G3 w3 pv u→E1.Pn pv σ→Leaves Tryd.prog Tryd.f19 a3.tmps R a3.defers (.panicking [{ v:=u,recovered:=false }]) w3:=fun {R σ k G3 a3 w3 pv u} hR h1 h2 h3=>by
   obtain⟨rfl,⟨x0,x1,x2,x3,x4,b4⟩,b5,f4,f5,hl⟩:=h3
   rw[show a3.defers=D from h1.defers]
   have hus3:=h1.used
   have hrs3:=h1.rs
   refine leaves_cons (by simp) (hinv w3) ((prsD_pnk C G3 _ w3 x0 x1 x2 x3 x4 _ n0 (n0+1024) v4 v5 u hrs3 (g4.mono h1.ev) (g5.mono h1.ev) h2 (ov_bk _ b4) (ov_bk _ b5) (by omega) hus3 (fun x hx=>?_)).mono ?_)
   ·cases hb:ov E1.β σ.bx x with
    | none=>rfl
    | some b=>have:=hus3 x (hrs3.boxNames hb).1; omega
   rintro e u' w' ⟨rfl,⟨v,rfl⟩,G4,l,k',r1,r2,r3,r4,r5,r6,r7⟩
   have hx:=DescF.step h1 r1 r2 (U':=fun x=>x<n0+(2048+k+k')) (fun x hx=>by have:=r7 x hx; omega) (fun x hx hu=>r6 x (by omega) hu)
   rw[←ov_append] at hx
   obtain⟨v,s1,G5,s2,s3,s4,s5⟩:=fin hx f4 f5 (bk_app r3) (bk_app r4) rfl rfl (fun x hx=>by
    rcases List.mem_append.1 hx with hx|hx
    ·rcases r5 x hx with h|h|h
     ·omega
     ·omega
     ·omega
    ·exact hl x hx)
   exact⟨v,s1,hR v G5 w' s2 s3 s4 s5⟩
  have hW2:Wk E2 [.code cc19b,.post (fun σ=>σ=⟨[(4,true,.ptr (n0+4096) 0 0),(8,true,.ptr (n0+4096) 0 0),(7,true,.agg [.str s]),(6,true,.str s),(3,true,.ptr (n0+1024) 0 0),(2,true,.ptr n0 0 0),(0,true,.str s)],
    [(n0+4096,some (bS s s)),(n0+1024,some (bB false)),(n0,some (bO zOut))],4096⟩)] ⟨[(3,true,.ptr (n0+1024) 0 0),(2,true,.ptr n0 0 0),(0,true,.str s)],[(n0+1024,some (bB false)),(n0,some (bO zOut))],0⟩:=by
   clear k1 k2 k3 k4 k5 k6 kr hD hD1 hD2 fin pnk
   refine w_go 4000 ?_
   simp[cc19b,hN2,bS]
  show (Code.seq _ _).wp _ _ _ _
  refine wp_seq (wp_mono (hW2 _ k2 G1 _ w1 hD2) fun e a2 w2 hq=>?_)
  clear hW2
  cases e with
  | normal =>
   obtain⟨σ,G2,hD3,rfl⟩:=hq
   have ho:=fun id=>out_is (2*s.length+1) s s (n0+4096) id (Nat.le_refl _) h8
   have hP:E1.P=Tryd.prog:=rfl
   have hR0:pAll s=none→∀v G4 w4,RS C G4 bx w4→Evo G w G4 w4→RV G4 w4 (.tup [zOut,.bool false]) v→(∀x,G4.used x→G.used x∨(id≤x∧x<id+1024)) →
     ∃v' G',Ending.returned v = .returned v'∧RS C G' (appl bx []) w4∧Evo G w G' w4∧RV G' w4 (.tup [prsO s,.bool (prsB s)]) v'∧∀x,G'.used x→G.used x∨(id≤x∧x<id+1024):=fun hn v G4 w4 r1 r2 r3 r4=>by
    refine⟨v,G4,rfl,r1,r2,?_,r4⟩
    unfold prsO prsB
    rw[hn]; exact r3
   cases hp:pOut (2*s.length+1) s with
   | none =>
    rw[hp] at ho
    change ∀id,FnE _ _ _ _ _ (.error wv) at ho
    have hn:pAll s=none:=by unfold pAll; rw[hp]
    have hW3:Wk E1 [.ops (crsOf cc19c) 0 [] [],.post (fun _=>False)] ⟨[(4,true,.ptr (n0+4096) 0 0),(8,true,.ptr (n0+4096) 0 0),(7,true,.agg [.str s]),(6,true,.str s),(3,true,.ptr (n0+1024) 0 0),(2,true,.ptr n0 0 0),(0,true,.str s)],
      [(n0+4096,some (bS s s)),(n0+1024,some (bB false)),(n0,some (bO zOut))],4096⟩:=by
     clear k1 k2 k3 k4 k5 k6 kr hD hD1 hD2 hD3 fin pnk hR0
     refine w_go 4000 ?_
     simp[crsOf,cc19c,hN]
     refine w_callE hP rfl (ho _) (by simp) (by simp<;>rfl) (fun pv hpv=>⟨by simp,by injection hpv with hpv; subst hpv; exact⟨rfl,⟨_,_,_,_,_,by simp[bO,zOut]<;>exact⟨rfl,rfl,rfl,rfl,rfl⟩⟩,by simp[bB],rfl,rfl,by simp⟩⟩) (fun v wr h=>by cases h)
    show (Code.seq _ _).wp _ _ _ _
    refine wp_seq (reg_pn (E:=E1) (crs:=crsOf cc19c) (k3.trans rfl) hW3 hD3 (fun σ G3 a3 w3 h1 h2=>h2.elim) (fun pv u σ G3 a3 w3 h1 h2 h3=>?_))
    exact pnk (k:=4096+1024*(crsOf cc19c).length) (hR0 hn) (h1.weak fun x hx=>by simp only[E1] at hx; omega) h2 h3
   | some p =>
    obtain⟨o,u⟩:=p
    rw[hp] at ho
    have ho:∀id,FnOk Tryd.prog 36 [.ptr (n0+4096) 0 0] [(n0+4096,bS s s)] id (eO o) [(n0+4096,some (bS s u))]:=ho
    obtain⟨ok,on,ot,oks,ols,hoe⟩:=eO_agg o
    rw[hoe] at ho
    by_cases hu:u=[]
    ·subst hu
     have hn:pAll s=some o:=by unfold pAll; rw[hp]
     let E3:Env:={ E1 with Pn:=fun _ _=>False,Rt:=fun σ=>bk σ.bx n0=some (bO (.agg [.int .i64 ok,.int .i64 on,.str ot,.sl (oks.map .str),.sl (ols.map eO)]))∧bk σ.bx (n0+1024)=some (bB true)∧lk σ.fr 2=some (true,.ptr n0 0 0)∧lk σ.fr 3=some (true,.ptr (n0+1024) 0 0)∧∀x∈σ.bx,n0≤x.1 }
     have hN3:E3.n0=n0+2048:=rfl
     have hP3:E3.P=Tryd.prog:=rfl
     have hRt:∀σ,E3.Rt σ=(bk σ.bx n0=some (bO (.agg [.int .i64 ok,.int .i64 on,.str ot,.sl (oks.map .str),.sl (ols.map eO)]))∧bk σ.bx (n0+1024)=some (bB true)∧lk σ.fr 2=some (true,.ptr n0 0 0)∧lk σ.fr 3=some (true,.ptr (n0+1024) 0 0)∧∀x∈σ.bx,n0≤x.1):=fun _=>rfl
     have hW3:Wk E3 [.code (.seq cc19c (.seq (.seq cc19d (.cond (.t 15) cc19e CC.skip)) (.seq cc19f CC.ret)))] ⟨[(4,true,.ptr (n0+4096) 0 0),(8,true,.ptr (n0+4096) 0 0),(7,true,.agg [.str s]),(6,true,.str s),(3,true,.ptr (n0+1024) 0 0),(2,true,.ptr n0 0 0),(0,true,.str s)],[(n0+4096,some (bS s s)),(n0+1024,some (bB false)),(n0,some (bO zOut))],4096⟩:=by
      clear k1 k2 k3 k4 k5 k6 kr hD hD1 hD2 hD3 fin pnk hR0
      refine w_go 4000 ?_
      simp[cc19c,cc19d,cc19e,cc19f,hN3,bS,bO,bB,zOut]
      refine w_call hP3 rfl (ho _) (by simp) (by simp[bS]<;>rfl) ?_
      refine w_go 4000 ?_
      simp[hN3,hRt,bS,bO,bB,zOut]
     have ends:∀{R:Ending→World→Prop} {σ:St} {G3:Gh} {a3:Act} {w3:World},(∀v G4 w4,RS C G4 bx w4→Evo G w G4 w4→RV G4 w4 (.tup [.agg [.int .i64 ok,.int .i64 on,.str ot,.sl (oks.map .str),.sl (ols.map eO)],.bool true]) v→(∀x,G4.used x→G.used x∨(id≤x∧x<id+1024))→R (.returned v) w4)→Desc E3 σ G3 a3 w3→E3.Rt σ→Leaves Tryd.prog Tryd.f19 a3.tmps R a3.defers .returning w3:=fun {R σ G3 a3 w3} hR h1 h2=>by
      obtain⟨b4,b5,f4,f5,hl⟩:=h2
      rw[show a3.defers=D from h1.defers]
      refine leaves_cons (by simp) (hinv w3) ((prsD_ret v4 v5 w3).mono ?_)
      rintro e u' w' ⟨rfl,⟨v,rfl⟩,rfl⟩
      obtain⟨v,r1,G4,r2,r3,r4,r5⟩:=fin (h1.weak (U':=fun x=>x<n0+(2048+σ.k)) (fun x hx=>by have:x<n0+2048+σ.k:=hx; omega)) f4 f5 b4 b5 rfl (by simp) hl
      exact⟨v,r1,hR v G4 w' r2 r3 r4 r5⟩
     have hR1:∀v G4 w4,RS C G4 bx w4→Evo G w G4 w4→RV G4 w4 (.tup [.agg [.int .i64 ok,.int .i64 on,.str ot,.sl (oks.map .str),.sl (ols.map eO)],.bool true]) v→(∀x,G4.used x→G.used x∨(id≤x∧x<id+1024)) →
       ∃v' G',Ending.returned v = .returned v'∧RS C G' (appl bx []) w4∧Evo G w G' w4∧RV G' w4 (.tup [prsO s,.bool (prsB s)]) v'∧∀x,G'.used x→G.used x∨(id≤x∧x<id+1024):=fun v G4 w4 r1 r2 r3 r4=>by
      refine⟨v,G4,rfl,r1,r2,?_,r4⟩
      unfold prsO prsB
      rw[hn]
      show RV G4 w4 (.tup [eO o,.bool true]) v
      rw[hoe]; exact r3
     refine wp_mono (hW3 _ kr G2 _ w2 hD3) fun e a3 w3 hq=>?_
     cases e with
     | ret =>
      obtain⟨σ,G3,h1,h2⟩:=hq
      exact ends hR1 h1 h2
     | normal =>
      obtain⟨σ,G3,h1,h2⟩:=hq
      exact ends hR1 h1 h2
     | exit id=>obtain⟨_,_,_,h2⟩:=hq; exact h2.elim
     | panic chain =>
      obtain⟨pv,u,σ,F,B,U,G',rfl,h1,h2,h3,h4⟩:=hq
      exact h4.elim
     | _=>exact hq.elim
    ·have hn:pAll s=none:=by
      unfold pAll; rw[hp]
      cases u with
      | nil=>exact (hu rfl).elim
      | cons a b=>rfl
     have hbe:(!(u==[]))=true:=by simpa using hu
     have hP2:E2.P=Tryd.prog:=rfl
     have hW3:Wk E2 [.code cc19c,.post (fun σ=>σ=⟨(10,true,.agg [.int .i64 ok,.int .i64 on,.str ot,.sl (oks.map .str),.sl (ols.map eO)])::(9,true,.ptr (n0+4096) 0 0)::[(4,true,.ptr (n0+4096) 0 0),(8,true,.ptr (n0+4096) 0 0),(7,true,.agg [.str s]),(6,true,.str s),(3,true,.ptr (n0+1024) 0 0),(2,true,.ptr n0 0 0),(0,true,.str s)],(n0,some (bO (.agg [.int .i64 ok,.int .i64 on,.str ot,.sl (oks.map .str),.sl (ols.map eO)])))::(n0+4096,some (bS s u))::[(n0+4096,some (bS s s)),(n0+1024,some (bB false)),(n0,some (bO zOut))],7168⟩)] ⟨[(4,true,.ptr (n0+4096) 0 0),(8,true,.ptr (n0+4096) 0 0),(7,true,.agg [.str s]),(6,true,.str s),(3,true,.ptr (n0+1024) 0 0),(2,true,.ptr n0 0 0),(0,true,.str s)],[(n0+4096,some (bS s s)),(n0+1024,some (bB false)),(n0,some (bO zOut))],4096⟩:=by
      clear k1 k2 k3 k4 k5 k6 kr hD hD1 hD2 hD3 fin pnk hR0
      refine w_go 4000 ?_
      simp[cc19c,hN2,bS,bO,bB,zOut]
      refine w_call hP2 rfl (ho _) (by simp) (by simp[bS]<;>rfl) ?_
      refine w_go 4000 ?_
      simp[hN2,bS,bO,bB,zOut]
     show (Code.seq _ _).wp _ _ _ _
     refine wp_seq (wp_mono (hW3 _ k3 G2 _ w2 hD3) fun e a3 w3 hq=>?_)
     clear hW3
     cases e with
     | normal =>
      obtain⟨σ,G3,hD4,rfl⟩:=hq
      have hW4:Wk E2 [.code cc19d,.post (fun σ=>lk σ.fr 15=some (true,.bool true)∧σ=⟨(15,true,.bool true)::(14,true,.str u)::(13,true,.ptr (n0+4096) 0 0)::(12,true,.ptr (n0+4096) 0 0)::(11,true,.ptr (n0+4096) 0 0)::(10,true,.agg [.int .i64 ok,.int .i64 on,.str ot,.sl (oks.map .str),.sl (ols.map eO)])::(9,true,.ptr (n0+4096) 0 0)::[(4,true,.ptr (n0+4096) 0 0),(8,true,.ptr (n0+4096) 0 0),(7,true,.agg [.str s]),(6,true,.str s),(3,true,.ptr (n0+1024) 0 0),(2,true,.ptr n0 0 0),(0,true,.str s)],(n0,some (bO (.agg [.int .i64 ok,.int .i64 on,.str ot,.sl (oks.map .str),.sl (ols.map eO)])))::(n0+4096,some (bS s u))::[(n0+4096,some (bS s s)),(n0+1024,some (bB false)),(n0,some (bO zOut))],12288⟩)]
        ⟨(10,true,.agg [.int .i64 ok,.int .i64 on,.str ot,.sl (oks.map .str),.sl (ols.map eO)])::(9,true,.ptr (n0+4096) 0 0)::[(4,true,.ptr (n0+4096) 0 0),(8,true,.ptr (n0+4096) 0 0),(7,true,.agg [.str s]),(6,true,.str s),(3,true,.ptr (n0+1024) 0 0),(2,true,.ptr n0 0 0),(0,true,.str s)],(n0,some (bO (.agg [.int .i64 ok,.int .i64 on,.str ot,.sl (oks.map .str),.sl (ols.map eO)])))::(n0+4096,some (bS s u))::[(n0+4096,some (bS s s)),(n0+1024,some (bB false)),(n0,some (bO zOut))],7168⟩:=by
       clear k1 k2 k3 k4 k5 k6 kr hD hD1 hD2 hD3 hD4 fin pnk hR0
       refine w_go 4000 ?_
       simp[cc19d,hN2,bS,bO,bB,zOut,hu]
      show (Code.seq _ _).wp _ _ _ _
      refine wp_seq ?_
      show (Code.seq _ _).wp _ _ _ _
      refine wp_seq (wp_mono (hW4 _ k4 G3 _ w3 hD4) fun e a4 w4 hq=>?_)
      clear hW4
      cases e with
      | normal =>
       obtain⟨σ,G4,hD5,h15,rfl⟩:=hq
       have hr:=(hD5.fr 15 true _ rfl).1 rfl
       have he:a4.eval (.tmp 15) = .bool true:=by
        show a4.tmps.getD 15 undef=_
        generalize a4.tmps.getD 15 undef=v at hr
        cases hr; rfl
       show (Code.cond (.tmp 15) _ _).wp _ _ _ _
       refine wp_cond_split he (fun _=>?_) (fun hb=>by cases hb)
       have hf:=fun id=>fail_ok id
       have hW5:Wk E1 [.ops (crsOf cc19e) 0 [] [],.post (fun _=>False)] ⟨(15,true,.bool true)::(14,true,.str u)::(13,true,.ptr (n0+4096) 0 0)::(12,true,.ptr (n0+4096) 0 0)::(11,true,.ptr (n0+4096) 0 0)::(10,true,.agg [.int .i64 ok,.int .i64 on,.str ot,.sl (oks.map .str),.sl (ols.map eO)])::(9,true,.ptr (n0+4096) 0 0)::[(4,true,.ptr (n0+4096) 0 0),(8,true,.ptr (n0+4096) 0 0),(7,true,.agg [.str s]),(6,true,.str s),(3,true,.ptr (n0+1024) 0 0),(2,true,.ptr n0 0 0),(0,true,.str s)],(n0,some (bO (.agg [.int .i64 ok,.int .i64 on,.str ot,.sl (oks.map .str),.sl (ols.map eO)])))::(n0+4096,some (bS s u))::[(n0+4096,some (bS s s)),(n0+1024,some (bB false)),(n0,some (bO zOut))],12288⟩:=by
        clear k1 k2 k3 k4 k5 k6 kr hD hD1 hD2 hD3 hD4 hD5 fin pnk hR0
        refine w_go 4000 ?_
        simp[crsOf,cc19e,hN]
        refine w_callE hP rfl (hf _) (by simp) (by simp) (fun pv hpv=>⟨by simp,by injection hpv with hpv; subst hpv; exact⟨rfl,⟨_,_,_,_,_,by simp[bO]<;>exact⟨rfl,rfl,rfl,rfl,rfl⟩⟩,by simp[bB],rfl,rfl,by simp⟩⟩) (fun v wr h=>by cases h)
       refine reg_pn (E:=E1) (crs:=crsOf cc19e) (k5.trans rfl) hW5 hD5 (fun σ G3 a3 w3 h1 h2=>h2.elim) (fun pv u σ G3 a3 w3 h1 h2 h3=>?_)
       exact pnk (k:=12288+1024*(crsOf cc19e).length) (hR0 hn) (h1.weak fun x hx=>by simp only[E1] at hx; omega) h2 h3
      | ret=>obtain⟨_,_,_,h2⟩:=hq; exact h2.elim
      | exit id=>obtain⟨_,_,_,h2⟩:=hq; exact h2.elim
      | panic chain =>
       obtain⟨pv,u,σ,F,B,U,G',rfl,h1,h2,h3,h4⟩:=hq
       exact h4.elim
      | _=>exact hq.elim
     | ret=>obtain⟨_,_,_,h2⟩:=hq; exact h2.elim
     | exit id=>obtain⟨_,_,_,h2⟩:=hq; exact h2.elim
     | panic chain =>
      obtain⟨pv,u,σ,F,B,U,G',rfl,h1,h2,h3,h4⟩:=hq
      exact h4.elim
     | _=>exact hq.elim
  | ret=>obtain⟨_,_,_,h2⟩:=hq; exact h2.elim
  | exit id=>obtain⟨_,_,_,h2⟩:=hq; exact h2.elim
  | panic chain =>
   obtain⟨pv,u,σ,F,B,U,G',rfl,h1,h2,h3,h4⟩:=hq
   exact h4.elim
  | _=>exact hq.elim
 | ret=>obtain⟨_,_,_,h2⟩:=hq; exact h2.elim
 | exit id=>obtain⟨_,_,_,h2⟩:=hq; exact h2.elim
 | panic chain =>
  obtain⟨pv,u,σ,F,B,U,G',rfl,h1,h2,h3,h4⟩:=hq
  exact h4.elim
 | _=>exact hq.elim
end Go.Am
