/- Parts of the proof: an abstract machine for Go functions, and what functions of the program give back (Ex11, Ex12, Ex13, Ex14). No condition. -/
import Derived.Test.YtbjmmndeeeoloaaDoorCcB
import Derived.Test.YtbjmmndeeeoloaaDoorYB
import Derived.Test.YtbjmmndeeeoloaaDoorXD
import Derived.Recover
namespace Go.Am
set_option linter.all false
open Go Go.RowKit Go.Proofs
set_option maxRecDepth 100000
set_option linter.all false
def zOut:AV:=.agg [.int .i64 0,.int .i64 0,.str [],.nils,.nils]
def bO(v:AV):Bx:=⟨[v],zOut,false,false⟩
def bB(b:Bool):Bx:=⟨[.bool b],.bool false,false,false⟩
theorem rawY_pnk(E:Env)(J4 J5:Nat)(h4:J4<E.n0)(h5:J5<E.n0)(d:J4≠J5)(hR:∀fr bx k,bk bx J4=some (bO zOut)→bk bx J5=some (bB false)→(∀q∈bx,q.1=J4∨q.1=J5∨E.n0≤q.1)→E.Rt ⟨fr,bx,k⟩):
  Wk E [.code cc57c] ⟨[(0,true,.ptr J4 0 0),(1,true,.ptr J5 0 0),(2,true,tm)],[(J4,some (bO zOut)),(J5,some (bB false))],0⟩:=by
 unfold tm bO bB zOut
 have e4:∀t,(J4=E.n0+t)=False:=fun t=>by simp; omega
 have e5:∀t,(J5=E.n0+t)=False:=fun t=>by simp; omega
 refine w_go 4000 ?_
 simp[cc57c,e4,e5,d,Ne.symm d]
 refine hR _ _ _ ?_ ?_ ?_
 ·simp[e4,e5,d,Ne.symm d,bO,zOut]
 ·simp[e4,e5,d,Ne.symm d,bB]
 ·simp
theorem hY57{x x' z:Code}{X:Operand}{Y:Code}(h:Tryd.f57.body=some (.seq x (.seq x' (.cond X Y z)))):compC Tryd.prog Tryd.f57.ntmps Y=cc57c:=by
 have h0:=hcc57
 rw[h] at h0
 simp only[Option.map_some,Option.some.injEq,cc57] at h0
 obtain⟨_,_,e1,_,h1⟩:=comp_seq h0
 injection e1 with _ e1
 subst e1
 obtain⟨_,_,e2,_,h2⟩:=comp_seq h1
 injection e2 with _ e2
 subst e2
 obtain⟨_,_,_,e3,_,h3,_⟩:=comp_cond h2
 injection e3 with _ e3 _
 subst e3
 exact h3
theorem rawD_pnk(C:Cx Tryd.prog)(G:Gh)(B:Nat→Option Bx)(w:World)(n0 J4 J5:Nat)(v4 v5 u:Value)(hs:RS C G B w)(hv4:RV G w (.ptr J4 0 0) v4)(hv5:RV G w (.ptr J5 0 0) v5)(hu:RV G w tm u)
  (h4:B J4=some (bO zOut)) (h5:B J5=some (bB false)) (d:J4≠J5) (hold:∀x,G.used x→x<n0) (how:∀x,n0≤x→B x=none) :
  CallsD Tryd.prog 57 #[v4,v5] (.panicking [{ v:=u,recovered:=false }]) w fun e u' w'=>u' = .panicking [{ v:=u,recovered:=true }]∧(∃v,e = .returned v) ∧
   ∃G' l k,RS C G' (ov B l) w'∧Evo G w G' w'∧bk l J4=some (bO zOut)∧bk l J5=some (bB false)∧(∀q∈l,q.1=J4∨q.1=J5∨n0≤q.1)∧(∀x,x<n0→G'.used x→G.used x)∧∀x,G'.used x→x<n0+k:=by
 obtain⟨y,rfl⟩:∃y,u = .iface 100 y:=by
  unfold tm at hu
  cases hu with|iface _ _ y h=>exact⟨y,rfl⟩
 refine callsD_of_wpS Tryd.func57 rfl fun c₀ cs hm=>?_
 apply wpS_seq
 apply wpS_region
 simp[wpOpsS,go_sem,recoverD,hm,Tryd.ntmps57,Exit.thenS]
 apply wpS_seq
 apply wpS_region
 simp[wpOpsS,go_sem,Exit.thenS]
 refine wpS_cond (t:=true) (by simp[Act.eval,Array.replicate]) ?_
 apply wpS_of_wp
 simp only[if_true]
 let E:Env:=⟨Tryd.prog,C,B,Tryd.f57.ntmps,n0,G,w,how,hold,hs,[],fun σ=>bk σ.bx J4=some (bO zOut)∧bk σ.bx J5=some (bB false)∧∀q∈σ.bx,q.1=J4∨q.1=J5∨n0≤q.1,fun _ _=>False⟩
 have l4:=hold J4 (hs.boxNames h4).1
 have l5:=hold J5 (hs.boxNames h5).1
 have hW:=rawY_pnk E J4 J5 l4 l5 d fun fr bx k h1 h2 h3=>⟨h1,h2,h3⟩
 refine wp_mono (hW _ (hY57 rfl) G _ w ?_) fun e a w' hq=>?_
 ·refine⟨Evo.refl G w,?_,fun i hi=>by have:=hold i hi; show i<n0+0; omega,fun i _ hi=>hi,fun n c v hl=>?_,?_,rfl⟩
  ·have hh:Has B [(J4,bO zOut),(J5,bB false)]:=fun q hq=>by
    simp at hq
    rcases hq with rfl|rfl
    ·exact h4
    ·exact h5
   have:=ov_someL hh
   simp only[someL] at this
   show RS C G (ov B _) w
   rw[this]; exact hs
  ·simp only[lk] at hl
   repeat' split at hl
   all_goals first|cases hl|skip
   all_goals rename_i hn<;>subst hn<;>refine⟨fun _=>?_,fun h=>by cases h⟩
   ·simpa [Array.getD_eq_getD_getElem?] using hv4
   ·simpa [Array.getD_eq_getD_getElem?] using hv5
   ·simpa [Array.getD_eq_getD_getElem?] using hu
  ·simp[E,Tryd.ntmps57]
 ·have fin:∀σ G',Desc E σ G' a w'→E.Rt σ→∀(cs':List Frame),a.defers=[]∧(∃v,(results Tryd.f57 a.tmps).run Tryd.prog w' = .ok v w')∧∃G' l k,RS C G' (ov B l) w'∧Evo G w G' w'∧bk l J4=some (bO zOut)∧bk l J5=some (bB false)∧(∀q∈l,q.1=J4∨q.1=J5∨n0≤q.1)∧(∀x,x<n0→G'.used x→G.used x)∧∀x,G'.used x→x<n0+k:=fun σ G' hD hR _=>by
   refine⟨hD.defers,⟨_,by simp[results,Tryd.results57]; rfl⟩,G',σ.bx,σ.k,hD.rs,hD.ev,hR.1,hR.2.1,hR.2.2,hD.old,hD.used⟩
  cases e with
  | normal =>
   obtain⟨σ,G',h1,h2⟩:=hq
   obtain⟨f1,⟨v,f2⟩,f3⟩:=fin σ G' h1 h2 cs
   exact⟨f1,_,rfl,v,f2,rfl,⟨v,rfl⟩,by obtain⟨g1,g2,g3,d1,d2,d3,d4,d5,d6,d7⟩:=f3; exact⟨g1,g2,d1,d2,d3,d4,fun x y h=>d5 (x,y) h,d6,g3,d7⟩⟩
  | ret =>
   obtain⟨σ,G',h1,h2⟩:=hq
   obtain⟨f1,⟨v,f2⟩,f3⟩:=fin σ G' h1 h2 cs
   exact⟨f1,_,rfl,v,f2,rfl,⟨v,rfl⟩,by obtain⟨g1,g2,g3,d1,d2,d3,d4,d5,d6,d7⟩:=f3; exact⟨g1,g2,d1,d2,d3,d4,fun x y h=>d5 (x,y) h,d6,g3,d7⟩⟩
  | exit id=>obtain⟨σ,G',h1,h2⟩:=hq; exact h2.elim
  | panic chain =>
   obtain⟨pv,u,σ,F,B,U,G',rfl,h1,h2,h3,h4⟩:=hq
   exact h4.elim
  | _=>exact hq.elim
theorem rawD_ret(v1 v2:Value)(w:World):CallsD Tryd.prog 57 #[v1,v2] .returning w fun e u' w'=>u' = .returning∧(∃v,e = .returned v)∧w'=w:=by
 refine callsD_of_wpS Tryd.func57 rfl fun c₀ cs hu=>?_
 apply wpS_seq
 apply wpS_region
 simp[wpOpsS,go_sem,recoverD,hu,Tryd.ntmps57,Exit.thenS]
 apply wpS_seq
 apply wpS_region
 simp[wpOpsS,go_sem,Exit.thenS]
 refine wpS_cond (t:=false) (by simp[Act.eval,Array.replicate]) ?_
 simp only[Bool.false_eq_true,if_false]
 apply wpS_of_wp
 refine wp_skip ?_
 exact⟨rfl,_,by rw[←hu],_,by simp[results,Tryd.results57]; rfl,rfl,⟨_,rfl⟩,rfl⟩
end Go.Am
namespace Go.Am
set_option linter.all false
open Go Go.RowKit Go.Proofs
set_option maxRecDepth 100000
set_option linter.all false
theorem hY29{x m y z r:Code}(h:Tryd.f29.body=some (.seq x (.seq m (.seq y (.seq z r))))):compC Tryd.prog Tryd.f29.ntmps x=cc29a∧compC Tryd.prog Tryd.f29.ntmps y=cc29b∧compC Tryd.prog Tryd.f29.ntmps z=cc29c:=by
 have h0:=hcc29
 rw[h] at h0
 simp only[Option.map_some,Option.some.injEq,cc29] at h0
 obtain⟨_,_,e1,k1,h1⟩:=comp_seq h0
 injection e1 with e1 e1'
 subst e1 e1'
 obtain⟨_,_,e2,_,h2⟩:=comp_seq h1
 injection e2 with _ e2
 subst e2
 obtain⟨_,_,e3,k3,h3⟩:=comp_seq h2
 injection e3 with e3 e3'
 subst e3 e3'
 obtain⟨_,_,e4,k4,h4⟩:=comp_seq h3
 injection e4 with e4 e4'
 subst e4 e4'
 exact⟨k1,k3,k4⟩
theorem door29{x m r:Code}(h:Tryd.f29.body=some (.seq x (.seq m r))){Q:Exit→Act→World→Prop}{t:Array Value}{w:World}(hsz:7<t.size)
  (hQ:Q .normal ⟨t.setIfInBounds 7 (.func (.func 57) #[] #[t[4]?.getD undef,t[5]?.getD undef]),[⟨.fn (.func 57) #[t[4]?.getD undef,t[5]?.getD undef],#[]⟩]⟩ w):m.wp Tryd.prog Q ⟨t,[]⟩ w:=by
 have e:Tryd.f29.body=some (.seq _ (.seq _ _)):=rfl
 rw[e] at h
 injection h with h
 injection h with _ h
 injection h with h _
 subst h
 refine wp_region ?_
 have hmf:∀(fn:Fn) (first cap:Array Value) (w:World),(Instr.makeFunc fn first cap).run Tryd.prog w = .ok (.func fn first cap) w:=fun _ _ _ _=>rfl
 simp[wpOps,wpOp,go_sem,hmf,Exit.then,hsz]
 exact .inl (.inl hQ)
theorem DropOk.of{n0:Nat}{bx':List (Nat×Option Bx)}:∀{l:List (Nat×Option Bx)},(∀q∈l,n0≤q.1)→DropOk n0 bx' l
 | [],_=>trivial
 | (i,b)::l,h=>⟨.inl (h (i,b) (List.mem_cons_self ..)),DropOk.of fun q hq=>h q (List.mem_cons_of_mem _ hq)⟩
theorem upd_same{f:Nat→Option Bx}{i:Nat}{b:Option Bx}(h:f i=b):upd f i b=f:=by
 funext x
 unfold upd
 split
 ·rename_i hx; subst hx; exact h.symm
 ·rfl
theorem raw_end{C:Cx Tryd.prog}{D:List Deferred}{G G':Gh}{w w':World}{bx:Nat→Option Bx}{n0 k id J4 J5:Nat}{F:Fr}{l:List (Nat×Option Bx)}{a:Act}{cs:List AV}{b:Bool}(own:∀i,n0≤i→bx i=none)(old:∀i,G.used i→i<n0)(hs:RS C G bx w)(hid:∀x,id≤x→x<id+1024→¬G.used x)
  (hD:DescF C Tryd.f29.ntmps D n0 G w F (ov bx l) (· < n0+k) G' a w') (f4:F 4=some (true,.ptr J4 0 0)) (f5:F 5=some (true,.ptr J5 0 0)) (h4:ov bx l J4=some (bO (.agg cs))) (h5:ov bx l J5=some (bB b)) (hc:cs.length=5) (hp:pureL cs=true) (hl:∀q∈l,n0≤q.1) (d:J4≠J5) (j4:n0≤J4) (j5:n0≤J5) :
  ∃v,(results Tryd.f29 a.tmps).run Tryd.prog w' = .ok v w'∧∃G1,RS C G1 bx w'∧Evo G w G1 w'∧RV G1 w' (.tup [.agg cs,.bool b]) v∧∀x,G1.used x→G.used x∨(id≤x∧x<id+1024):=by
 let E:Env:=⟨Tryd.prog,C,bx,Tryd.f29.ntmps,n0,G,w,own,old,hs,D,fun _=>True,fun _ _=>False⟩
 have hD':Desc E ⟨[(4,true,.ptr J4 0 0),(5,true,.ptr J5 0 0)],(J4,some (bO (.agg cs)))::(J5,some (bB b))::l,k⟩ G' a w':=by
  refine⟨hD.ev,?_,hD.used,hD.old,fun n c v hl=>?_,hD.size,hD.defers⟩
  ·show RS C G' (ov bx _) w'
   simp only[ov]
   rw[upd_same (f:=ov bx l) h5,upd_same h4]
   exact hD.rs
  ·simp only[lk] at hl
   repeat' split at hl
   all_goals first|cases hl|skip
   all_goals rename_i hn<;>subst hn
   ·exact hD.fr _ _ _ f4
   ·exact hD.fr _ _ _ f5
 have hh:Has E.β []:=Has.nil
 refine end_ok (E:=E) (id:=id) (rd:=[]) (wr:=[]) (hcr29) hh hid hD' ?_
 simp only[cr29]
 have htk:cs.take 5=cs:=List.take_of_length_le (by omega)
 refine rt_end (by simp[bO,bB,d,Ne.symm d,hc,htk]<;>rfl) [] trivial (end_pure (by simp) (by simp[hp]) ?_)
 exact DropOk.of fun q hq=>by
  simp at hq
  rcases hq with rfl|rfl|hq
  ·exact j4
  ·exact j5
  ·exact hl q hq
end Go.Am
namespace Go.Am
set_option linter.all false
open Go Go.RowKit Go.Proofs
set_option maxRecDepth 100000
set_option linter.all false
theorem bk_app{n:Nat}{b:Bx}{r:List (Nat×Option Bx)}:∀{l:List (Nat×Option Bx)},bk l n=some b→bk (l++r) n=some b
 | [],h=>by cases h
 | (m,c)::l,h=>by
  simp only[bk,List.cons_append] at h ⊢
  split
  ·rename_i hm; rw[if_pos hm] at h; exact h
  ·rename_i hm; rw[if_neg hm] at h; exact bk_app h
def crsOf:CC→List CR
 | .reg _ l _=>l
 | _=>[]
def rawO(s:Sta)(q:List Sel):AV:=if qW s q≤2000 then eO (qO s q) else zOut
theorem rawO_eq(s:Sta)(q:List Sel):∃cs,rawO s q = .agg cs∧cs.length=5∧pureL cs=true:=by
 unfold rawO
 split
 ·cases qO s q with|mk a b c d e =>
  rw[eO_eq]
  exact⟨_,rfl,rfl,by simp⟩
 ·exact⟨_,rfl,rfl,rfl⟩
theorem raw_ok{s:Sta}(hS:RtS s)(q:List Sel)(hf:fFits s.types q=0)(hq8:szL q≤1000000)(id:Nat):
  FnOk Tryd.prog 29 [eSta s,.sl (q.map eSel)] [] id (.tup [rawO s q,.bool (decide (qW s q≤2000))]) []:=by
 refine⟨⟨_,Tryd.func29,by decide,rfl⟩,fun C G bx w vs nb hs hv hh hnb hid=>calls_of_wp_defers Tryd.func29 rfl ?_⟩
 obtain⟨k1,k2,k3⟩:=hY29 rfl
 have own:∀i,max nb (id+1024)≤i→bx i=none:=fun i hi=>by
  cases hbi:bx i with
  | none=>rfl
  | some b=>exact (hnb i (by omega) (hs.boxNames hbi).1).elim
 have old:∀i,G.used i→i<max nb (id+1024):=fun i hi=>by
  rcases Nat.lt_or_ge i nb with h|h
  ·omega
  ·exact (hnb i h hi).elim
 generalize max nb (id+1024)=n0 at own old
 let E:Env:=⟨Tryd.prog,C,bx,Tryd.f29.ntmps,n0,G,w,own,old,hs,[],fun _=>False,fun _ _=>False⟩
 have hD:Desc E ⟨frOf 0 [eSta s,.sl (q.map eSel)],[],0⟩ G { tmps:=vs++Array.replicate (Tryd.f29.ntmps - vs.size) undef,defers:=[] } w:=by
  refine⟨Evo.refl G w,hs,fun i hi=>by have:=old i hi; show i<n0+0; omega,fun i _ hi=>hi,fun n c v hl=>?_,?_,rfl⟩
  ·obtain⟨rfl,_,h3⟩:=lk_frOf hl
   simp only[Nat.sub_zero] at h3
   refine⟨fun _=>?_,fun h=>by cases h⟩
   have:=hv.2 n v h3
   rw[Array.getD_eq_getD_getElem?] at this ⊢
   rw[Array.getElem?_append_left (by rw[←hv.1]; exact (List.getElem?_eq_some_iff.1 h3).1)]
   exact this
  ·have:=hv.1
   simp[Tryd.ntmps29] at this ⊢
   show _=Tryd.f29.ntmps
   simp[Tryd.ntmps29]; omega
 have hW:Wk E [.code cc29a,.post (fun σ=>σ=⟨[(5,true,.ptr (n0+2048) 0 0),(4,true,.ptr (n0+1024) 0 0),(2,true,.ptr n0 0 0),(0,true,eSta s),(1,true,.sl (q.map eSel))],[(n0+2048,some (bB false)),(n0+1024,some (bO zOut)),(n0,some ⟨[eSta s],eSta s,false,false⟩)],3072⟩)] ⟨frOf 0 [eSta s,.sl (q.map eSel)],[],0⟩:=by
  refine w_go 4000 ?_
  simp[cc29a,E,bB,bO,zOut]
 refine wp_seq (wp_mono (hW _ k1 G _ w hD) fun e a w1 hq=>?_)
 clear hW
 cases e with
 | normal =>
  obtain⟨σ,G1,hD1,rfl⟩:=hq
  obtain⟨at1,ad1⟩:=a
  have hd0:ad1=[]:=hD1.defers
  subst hd0
  have hsz:7<at1.size:=by have:=hD1.size; simp only at this; rw[this]; show 7<Tryd.f29.ntmps; simp[Tryd.ntmps29]
  show (Code.seq _ _).wp _ _ _ _
  refine wp_seq (door29 rfl hsz ?_)
  obtain⟨v4,hv4⟩:∃v4,at1[4]?.getD undef=v4:=⟨_,rfl⟩
  obtain⟨v5,hv5⟩:∃v5,at1[5]?.getD undef=v5:=⟨_,rfl⟩
  have g4:RV G1 w1 (.ptr (n0+1024) 0 0) v4:=by
   have:=(hD1.fr 4 true _ rfl).1 rfl
   rw[Array.getD_eq_getD_getElem?] at this
   rw[←hv4]; exact this
  have g5:RV G1 w1 (.ptr (n0+2048) 0 0) v5:=by
   have:=(hD1.fr 5 true _ rfl).1 rfl
   rw[Array.getD_eq_getD_getElem?] at this
   rw[←hv5]; exact this
  rw[hv4,hv5]
  have own1:∀i,n0+3072≤i→ov bx [(n0+2048,some (bB false)),(n0+1024,some (bO zOut)),(n0,some ⟨[eSta s],eSta s,false,false⟩)] i=none:=fun i hi=>by
   simp only[ov,upd]
   rw[if_neg (by omega),if_neg (by omega),if_neg (by omega)]
   exact own i (by omega)
  have hev:Evo G w G1 w1:=hD1.ev
  have hrs:RS C G1 (ov bx [(n0+2048,some (bB false)),(n0+1024,some (bO zOut)),(n0,some ⟨[eSta s],eSta s,false,false⟩)]) w1:=hD1.rs
  have hus:∀i,G1.used i→i<n0+3072:=hD1.used
  have hol:∀i,i<n0→G1.used i→G.used i:=hD1.old
  let D:List Deferred:=[⟨.fn (.func 57) #[v4,v5],#[]⟩]
  let E1:Env:=⟨Tryd.prog,C,ov bx [(n0+2048,some (bB false)),(n0+1024,some (bO zOut)),(n0,some ⟨[eSta s],eSta s,false,false⟩)],Tryd.f29.ntmps,n0+3072,G1,w1,own1,hus,hrs,D,fun _=>False,
   fun pv σ=>pv=tm∧¬qW s q≤2000∧bk σ.bx (n0+1024)=some (bO zOut)∧bk σ.bx (n0+2048)=some (bB false)∧lk σ.fr 4=some (true,.ptr (n0+1024) 0 0)∧lk σ.fr 5=some (true,.ptr (n0+2048) 0 0)∧∀x∈σ.bx,n0≤x.1⟩
  have hD2:Desc E1 ⟨[(5,true,.ptr (n0+2048) 0 0),(4,true,.ptr (n0+1024) 0 0),(2,true,.ptr n0 0 0),(0,true,eSta s),(1,true,.sl (q.map eSel))],[(n0+2048,some (bB false)),(n0+1024,some (bO zOut)),(n0,some ⟨[eSta s],eSta s,false,false⟩)],0⟩ G1 ⟨at1.setIfInBounds 7 (.func (.func 57) #[] #[v4,v5]),D⟩ w1:=by
   refine⟨Evo.refl G1 w1,?_,fun i hi=>by have:=hus i hi; show i<n0+3072+0; omega,fun i _ hi=>hi,fun n c v hl=>?_,?_,rfl⟩
   ·show RS C G1 (ov (ov bx _) _) w1
    simp only[ov]
    rw[upd_same (f:=upd (upd (upd bx n0 _) (n0+1024) _) (n0+2048) _) (i:=n0) (by simp[upd]),upd_same (i:=n0+1024) (by simp[upd]),upd_same (i:=n0+2048) (by simp[upd])]
    exact hrs
   ·have:=hD1.fr n c v hl
    have hn:n≠7:=fun h=>by subst h; simp at hl
    simp only[Array.getD_eq_getD_getElem?] at this ⊢
    rw[Array.getElem?_setIfInBounds_ne (Ne.symm hn)]
    exact this
   ·have:=hD1.size
    simp only[Array.size_setIfInBounds]
    exact this
  have hN:E1.n0=n0+3072:=rfl
  let E2:Env:={ E1 with Pn:=fun _ _=>False }
  have hN2:E2.n0=n0+3072:=rfl
  have hW2:Wk E2 [.code cc29b,.post (fun σ=>σ=⟨[(6,true,.ptr (n0+5120) 0 0),(10,true,.ptr (n0+5120) 0 0),(9,true,.agg [.sl (s.types.map eTy),.sl (s.things.map eTg),.int .i64 0]),(8,true,.agg [.sl (s.types.map eTy),.sl (s.things.map eTg)]),(5,true,.ptr (n0+2048) 0 0),(4,true,.ptr (n0+1024) 0 0),(2,true,.ptr n0 0 0),(0,true,eSta s),(1,true,.sl (q.map eSel))],
    [(n0+5120,some (bR s 0)),(n0+2048,some (bB false)),(n0+1024,some (bO zOut)),(n0,some ⟨[eSta s],eSta s,false,false⟩)],4096⟩)] ⟨[(5,true,.ptr (n0+2048) 0 0),(4,true,.ptr (n0+1024) 0 0),(2,true,.ptr n0 0 0),(0,true,eSta s),(1,true,.sl (q.map eSel))],[(n0+2048,some (bB false)),(n0+1024,some (bO zOut)),(n0,some ⟨[eSta s],eSta s,false,false⟩)],0⟩:=by
   clear k1 k2 k3 hD hD1 hD2
   refine w_go 4000 ?_
   simp[cc29b,hN2,eSta,bR]
  show (Code.seq _ _).wp _ _ _ _
  refine wp_seq (wp_mono (hW2 _ k2 G1 _ w1 hD2) fun e a2 w2 hq=>?_)
  clear hW2
  cases e with
  | normal =>
   obtain⟨σ,G2,hD3,rfl⟩:=hq
   have hQ:=fun id=>runQ_ok hS q hf hq8 (n0+5120) 0 id (by omega)
   obtain⟨ok,on,ot,oks,ols,hoe⟩:∃(a b:Int) (c:List UInt8) (d:List (List UInt8)) (e:List Out),eO (qO s q) = .agg [.int .i64 a,.int .i64 b,.str c,.sl (d.map .str),.sl (e.map eO)]:=by
    cases qO s q with|mk a b c d e=>exact⟨a,b,c,d,e,eO_eq a b c d e⟩
   rw[hoe] at hQ
   have hP:E1.P=Tryd.prog:=rfl
   have hW3:Wk E1 [.ops (crsOf cc29c) 0 [] [],.post (fun σ=>qW s q≤2000∧bk σ.bx (n0+1024)=some (bO (eO (qO s q)))∧bk σ.bx (n0+2048)=some (bB true)∧lk σ.fr 4=some (true,.ptr (n0+1024) 0 0)∧lk σ.fr 5=some (true,.ptr (n0+2048) 0 0)∧∀x∈σ.bx,n0≤x.1)]
     ⟨[(6,true,.ptr (n0+5120) 0 0),(10,true,.ptr (n0+5120) 0 0),(9,true,.agg [.sl (s.types.map eTy),.sl (s.things.map eTg),.int .i64 0]),(8,true,.agg [.sl (s.types.map eTy),.sl (s.things.map eTg)]),(5,true,.ptr (n0+2048) 0 0),(4,true,.ptr (n0+1024) 0 0),(2,true,.ptr n0 0 0),(0,true,eSta s),(1,true,.sl (q.map eSel))],
    [(n0+5120,some (bR s 0)),(n0+2048,some (bB false)),(n0+1024,some (bO zOut)),(n0,some ⟨[eSta s],eSta s,false,false⟩)],4096⟩:=by
    clear k1 k2 k3 hD hD1 hD2 hD3
    rw[hoe]
    refine w_go 4000 ?_
    simp[crsOf,cc29c,hN]
    by_cases h1:0+qW s q≤2000
    ·have hQ1:∀id,FnOk Tryd.prog 58 _ _ id _ _:=fun id=>by
      have:=hQ id
      rw[rnR_ok h1] at this; exact this
     (refine w_call hP rfl (hQ1 _) (by simp[hN,bO,bB,bR,zOut]) (by simp[hN,bO,bB,bR,zOut]<;>rfl) ?_; refine w_go 4000 ?_; simp[hN,bO,bB,bR,zOut])
     refine⟨by omega,fun a b h=>?_⟩
     rcases h with⟨h,_⟩|⟨h,_⟩|⟨h,_⟩|⟨h,_⟩|⟨h,_⟩|⟨h,_⟩|⟨h,_⟩<;>omega
    ·simp only[rnR_no h1] at hQ
     refine w_callE hP rfl (hQ _) (by simp) (by simp<;>rfl) (fun pv hpv=>⟨by simp,by injection hpv with hpv; subst hpv; exact⟨rfl,by omega,by simp[bO,zOut],by simp[bB],rfl,rfl,by simp⟩⟩) (fun v wr h=>by cases h)
   have hinv:∀w3,(invoke (.fn (.func 57) #[v4,v5]) #[]).run Tryd.prog w3 = .ok (.enter 57 #[v4,v5]) w3:=fun w3=>by simp[go_sem]
   have fin:∀{F:Fr} {l:List (Nat×Option Bx)} {k:Nat} {G3:Gh} {a3:Act} {w3:World} {cs:List AV} {b:Bool},DescF C Tryd.f29.ntmps D (n0+3072) G1 w1 F (ov (ov bx [(n0+2048,some (bB false)),(n0+1024,some (bO zOut)),(n0,some ⟨[eSta s],eSta s,false,false⟩)]) l) (· < n0+k) G3 a3 w3 →
     F 4=some (true,.ptr (n0+1024) 0 0)→F 5=some (true,.ptr (n0+2048) 0 0)→bk l (n0+1024)=some (bO (.agg cs))→bk l (n0+2048)=some (bB b)→cs.length=5→pureL cs=true→(∀x∈l,n0≤x.1) →
     ∃v,(results Tryd.f29 a3.tmps).run Tryd.prog w3 = .ok v w3∧∃G1,RS C G1 bx w3∧Evo G w G1 w3∧RV G1 w3 (.tup [.agg cs,.bool b]) v∧∀x,G1.used x→G.used x∨(id≤x∧x<id+1024):=fun {F l k G3 a3 w3 cs b} h f4 f5 b4 b5 hc hp hl=>by
    have h':=h.rebase (n0:=n0) (by omega) hev hol
    have e4:=ov_bk (ov bx [(n0+2048,some (bB false)),(n0+1024,some (bO zOut)),(n0,some ⟨[eSta s],eSta s,false,false⟩)]) b4
    have e5:=ov_bk (ov bx [(n0+2048,some (bB false)),(n0+1024,some (bO zOut)),(n0,some ⟨[eSta s],eSta s,false,false⟩)]) b5
    rw[←ov_append] at h' e4 e5
    exact raw_end own old hs hid h' f4 f5 e4 e5 hc hp (fun x hx=>by
     rcases List.mem_append.1 hx with hx|hx
     ·exact hl x hx
     ·simp at hx
      rcases hx with rfl|rfl|rfl<;>simp) (by omega) (by omega) (by omega)
   show (Code.seq _ _).wp _ _ _ _
   refine wp_seq (reg_pn (E:=E1) (crs:=crsOf cc29c) (k3.trans rfl) hW3 hD3 (fun σ G3 a3 w3 h1 h2=>?_) (fun pv u σ G3 a3 w3 h1 h2 h3=>?_))
   ·obtain⟨q1,b4,b5,f4,f5,hl⟩:=h2
    show Code.ret.wp _ _ _ _
    refine wp_ret ?_
    show Leaves _ _ _ _ a3.defers .returning w3
    rw[show a3.defers=D from h1.defers]
    refine leaves_cons (by simp) (hinv w3) ((rawD_ret v4 v5 w3).mono ?_)
    rintro e u' w' ⟨rfl,⟨v,rfl⟩,rfl⟩
    obtain⟨cs,hcs,hc5,hcp⟩:=rawO_eq s q
    rw[show eO (qO s q) = .agg cs by rw[←hcs]; unfold rawO; rw[if_pos q1]] at b4
    obtain⟨v,r1,G4,r2,r3,r4,r5⟩:=fin (h1.weak (U':=fun x=>x<n0+(3072+σ.k)) (fun x hx=>by have:x<n0+3072+σ.k:=hx; omega)) f4 f5 b4 b5 hc5 hcp hl
    rw[hcs,decide_eq_true q1]
    exact⟨v,r1,v,G4,rfl,r2,r3,r4,r5⟩
   ·obtain⟨rfl,q1,b4,b5,f4,f5,hl⟩:=h3
    show Leaves _ _ _ _ a3.defers (.panicking [{ v:=u,recovered:=false }]) w3
    rw[show a3.defers=D from h1.defers]
    have hus3:=h1.used
    have hrs3:=h1.rs
    refine leaves_cons (by simp) (hinv w3) ((rawD_pnk C G3 _ w3 _ (n0+1024) (n0+2048) v4 v5 u hrs3 (g4.mono h1.ev) (g5.mono h1.ev) h2 (ov_bk _ b4) (ov_bk _ b5) (by omega) hus3 (fun x hx=>?_)).mono ?_)
    ·cases hb:ov E1.β σ.bx x with
     | none=>rfl
     | some b=>have:=hus3 x (hrs3.boxNames hb).1; omega
    rintro e u' w' ⟨rfl,⟨v,rfl⟩,G4,l,k,r1,r2,r3,r4,r5,r6,r7⟩
    have hx:=DescF.step h1 r1 r2 (U':=fun x=>x<n0+(3072+4096+1024*(crsOf cc29c).length+k)) (fun x hx=>by have:=r7 x hx; simp only[E1] at this; omega) (fun x hx hu=>r6 x (by simp only[E1] at hx ⊢; omega) hu)
    rw[←ov_append] at hx
    obtain⟨cs,hcs,hc5,hcp⟩:=rawO_eq s q
    have hz:zOut = .agg cs:=by rw[←hcs]; unfold rawO; rw[if_neg q1]
    rw[hz] at r3
    obtain⟨v,s1,G5,s2,s3,s4,s5⟩:=fin hx f4 f5 (bk_app r3) (bk_app r4) hc5 hcp (fun x hx=>by
     rcases List.mem_append.1 hx with hx|hx
     ·rcases r5 x hx with h|h|h
      ·omega
      ·omega
      ·simp only[E1] at h; omega
     ·exact hl x hx)
    rw[hcs,decide_eq_false q1]
    exact⟨v,s1,v,G5,rfl,s2,s3,s4,s5⟩
  | ret=>obtain⟨_,_,_,h2⟩:=hq; exact h2.elim
  | exit id=>obtain⟨_,_,_,h2⟩:=hq; exact h2.elim
  | panic chain =>
   obtain⟨pv,u,σ,F,B,U,G',rfl,h1,h2,h3,h4⟩:=hq
   exact h4.elim
  | _=>exact hq.elim
 | ret=>obtain⟨_,_,_,h2⟩:=hq; exact h2.elim
 | exit id=>obtain⟨_,_,_,h2⟩:=hq; exact h2.elim
 | panic chain =>
  obtain⟨pv,u,σ,F,B,U,G',rfl,h1,h2,h3,h4⟩:=hq
  exact h4.elim
 | _=>exact hq.elim
end Go.Am
namespace Go.Am
set_option linter.all false
open Go Go.RowKit Go.Proofs
set_option maxRecDepth 100000
set_option linter.all false
theorem chk_one{s:Sel}{r ah:List Sel}(h:fChkL (s::r) ah=0):s.args.length≤5∧fChkL s.kids []=0∧fChkL r (ah++[s])=0:=by
 simp only[fChkL] at h
 split at h
 ·rename_i h0; exact (h0 h).elim
 rename_i h0
 have h0:=Classical.byContradiction h0
 split at h
 ·rename_i h1; exact (h1 h).elim
 rename_i h1
 have h1:=Classical.byContradiction h1
 rw[fChkK_eq] at h1
 refine⟨?_,h1,h⟩
 rw[fSel1_nm] at h0
 split at h0
 ·rename_i h2; exact (h2 h0).elim
 split at h0
 ·rename_i h2; exact (h2 h0).elim
 rename_i h2
 have h2:=Classical.byContradiction h2
 unfold fArgs at h2
 split at h2
 ·cases h2
 ·omega
theorem deep_le{m:Nat}:∀(l:List Sel) (a:Nat),a≤l.foldl (fun d s=>max d (deepL m s.kids+1)) a∧∀s∈l,deepL m s.kids+1≤l.foldl (fun d s=>max d (deepL m s.kids+1)) a
 | [],a=>⟨Nat.le_refl _,fun s hs=>by cases hs⟩
 | x::r,a=>by
  obtain⟨h1,h2⟩:=deep_le (m:=m) r (max a (deepL m x.kids+1))
  simp only[List.foldl_cons]
  refine⟨by omega,fun s hs=>?_⟩
  rcases List.mem_cons.1 hs with rfl|hs
  ·omega
  ·exact h2 s hs
theorem sz_many:∀(m:Nat) (l ah:List Sel),deepL m l≤m→fChkL l ah=0→szL l≤6*manyL m l
 | 0,l,ah,hd,hc=>by
  cases l with
  | nil=>simp[szL]
  | cons a r=>simp[deepL] at hd
 | m+1,l,ah,hd,hc=>by
  have hk:∀s∈l,deepL m s.kids≤m:=fun s hs=>by
   have:=(deep_le (m:=m) l (min l.length 1)).2 s hs
   simp only[deepL] at hd
   omega
  have key:∀(l ah:List Sel),(∀s∈l,deepL m s.kids≤m)→fChkL l ah=0→szL l≤6*(l.length+(l.map fun s=>manyL m s.kids).sum):=fun l=>by
   induction l with
   | nil=>intro ah _ _; simp[szL]
   | cons a r ih =>
    intro ah hk hc
    obtain⟨h1,h2,h3⟩:=chk_one hc
    have h4:=sz_many m a.kids [] (hk a (List.mem_cons_self ..)) h2
    have h5:=ih _ (fun s hs=>hk s (List.mem_cons_of_mem _ hs)) h3
    have h6:=sz_eq a
    simp only[szL,List.length_cons,List.map_cons,List.sum_cons]
    omega
  exact key l ah hk hc
theorem sz_query{q:List Sel}(h:fQuery q=0):szL q≤240:=by
 unfold fQuery at h
 split at h
 ·cases h
 split at h
 ·cases h
 rename_i h1
 have:=sz_many 5 q [] (by omega) h
 omega
def fExec(s:Sta)(q:List Sel):Int:=if fSt s≠0 then fSt s else if fValid s.types q≠0 then fValid s.types q else if qW s q≤2000 then 0 else 2
def execO(s:Sta)(q:List Sel):AV:=if fExec s q=0 then eO (qO s q) else zOut.nrm
theorem fValid_fits{l:List Ty}{q:List Sel}(h:fValid l q=0):fCheckT l=0∧fQuery q=0∧fFits l q=0:=by
 unfold fValid at h
 split at h
 ·rename_i h0; exact (h0 h).elim
 rename_i h0
 split at h
 ·rename_i h1; exact (h1 h).elim
 rename_i h1
 exact⟨Classical.byContradiction h0,Classical.byContradiction h1,h⟩
theorem Query_ok(s:Sta)(q:List Sel)(id:Nat)(hq8:szL q≤1099511627776):FnOk Tryd.prog 16 [eSta s,.sl (q.map eSel)] [] id (.tup [execO s q,.int .i64 (fExec s q)]) []:=by
 have hSt:=fun id=>stCheck_ok s id
 have hVq:=fun id=>vQuery_ok s.types q id hq8
 have hRw:fSt s=0→fValid s.types q=0→∀id,FnOk Tryd.prog 29 [eSta s,.sl (q.map eSel)] [] id (.tup [rawO s q,.bool (decide (qW s q≤2000))]) []:=fun h1 h2 id=>raw_ok (rtS_of h1) q (fValid_fits h2).2.2 (by have:=sz_query (fValid_fits h2).2.1; omega) id
 obtain⟨V,hV0,hV1,hV2⟩:∃V:AV,V.nrm=execO s q∧(fExec s q≠0→V = .agg [.int .i64 0,.int .i64 0,.str [],.nils,.nils])∧(fExec s q=0→V=rawO s q):=by
  by_cases h:fExec s q=0
  ·refine⟨rawO s q,?_,fun k=>(k h).elim,fun _=>rfl⟩
   have hw:qW s q≤2000:=by
    unfold fExec at h
    split at h
    ·rename_i h0; exact (h0 h).elim
    split at h
    ·rename_i h0; exact (h0 h).elim
    split at h
    ·assumption
    ·cases h
   unfold rawO execO
   rw[if_pos hw,if_pos h,nrm_eO]
  ·exact⟨_,by unfold execO; rw[if_neg h]; rfl,fun _=>rfl,fun k=>(h k).elim⟩
 have hn:(AV.tup [V,.int .i64 (fExec s q)]).nrm = .tup [execO s q,.int .i64 (fExec s q)]:=by simp[AV.nrm,nrmL,hV0]
 rw[←hn]
 refine FnOk.nrm ?_
 have hs:eSta s = .agg [.sl (s.types.map eTy),.sl (s.things.map eTg)]:=rfl
 rw[hs] at *
 refine fn_okc Tryd.func16 hcc16 (by decide) hcr16 (by simp[Tryd.ntmps16]) fun E hP hR hl hid=>?_
 simp only[cr16] at hR
 refine w_go 4000 ?_
 simp[cc16]
 (refine w_call hP rfl (hSt _) (by simp) (by simp<;>rfl) ?_; refine w_go 4000 ?_; simp)
 refine goc (fun h=>?_) (fun h=>?_)<;>simp
 ·have h1:fSt s=0:=by simpa using h
  (refine w_call hP rfl (hVq _) (by simp) (by simp<;>rfl) ?_; refine w_go 4000 ?_; simp)
  refine goc (fun h=>?_) (fun h=>?_)<;>simp
  ·have h2:fValid s.types q≠0:=by simpa using h
   have he:fExec s q=fValid s.types q:=by unfold fExec; rw[if_neg (by omega),if_pos h2]
   rw[hV1 (by omega),he] at hR
   rw[hR]; exact rt_end (by simp<;>rfl) [] trivial (end_pure (by simp) (by simp) (by simp))
  ·have h2:fValid s.types q=0:=by simpa using h
   have hQ:=hRw h1 h2
   by_cases h3:qW s q≤2000
   ·have he:fExec s q=0:=by unfold fExec; rw[if_neg (by omega),if_neg (by omega),if_pos h3]
    obtain⟨ok,on,ot,oks,ols,hoe⟩:∃(a b:Int) (c:List UInt8) (d:List (List UInt8)) (e:List Out),rawO s q = .agg [.int .i64 a,.int .i64 b,.str c,.sl (d.map .str),.sl (e.map eO)]:=by
     unfold rawO
     rw[if_pos h3]
     cases qO s q with|mk a b c d e=>exact⟨a,b,c,d,e,eO_eq a b c d e⟩
    rw[hV2 he,he,hoe] at hR
    rw[hoe,decide_eq_true h3] at hQ
    (refine w_call hP rfl (hQ _) (by simp) (by simp<;>rfl) ?_; refine w_go 4000 ?_; simp)
    rw[hR]; exact rt_end (by simp<;>rfl) [] trivial (end_pure (by simp) (by simp) (by simp))
   ·have he:fExec s q=2:=by unfold fExec; rw[if_neg (by omega),if_neg (by omega),if_neg h3]
    rw[hV1 (by omega),he] at hR
    have hz:rawO s q = .agg [.int .i64 0,.int .i64 0,.str [],.nils,.nils]:=by unfold rawO; rw[if_neg h3]; rfl
    rw[hz,decide_eq_false h3] at hQ
    (refine w_call hP rfl (hQ _) (by simp) (by simp<;>rfl) ?_; refine w_go 4000 ?_; simp)
    rw[hR]; exact rt_end (by simp<;>rfl) [] trivial (end_pure (by simp) (by simp) (by simp))
 ·have h1:fSt s≠0:=by simpa using h
  have he:fExec s q=fSt s:=by unfold fExec; rw[if_pos h1]
  rw[hV1 (by omega),he] at hR
  refine goc_true (by simpa using h1) ?_
  simp
  rw[hR]; exact rt_end (by simp<;>rfl) [] trivial (end_pure (by simp) (by simp) (by simp))
end Go.Am
