/- Parts of the proof: an abstract machine for Go functions, and what functions of the program give back (Lx9, Lx10). No condition. -/
import Derived.Test.YtgfmjhmjnnpcgaaGreatDoorCcB
import Derived.Test.YtgfmjhmjnnpcgaaGreatDoorYE
import Derived.Recover
namespace Go.Am
set_option linter.all false
open Go Go.RowKit Go.Proofs
set_option maxRecDepth 100000
set_option linter.all false
def oBx(v:AV):Bx:=⟨[v],.nils,false,false⟩
def iBx(e:Int):Bx:=⟨[.int .i64 e],.int .i64 0,false,false⟩
theorem wkN{E:Env}{cc:CC}{c:Code}{σ:St}{p:St→Prop}{Q:Exit→Act→World→Prop}(hc:compC E.P E.N c=cc)(hW:Wk E [.code cc,.post p] σ)(hR:∀τ,¬E.Rt τ)(hP:∀pv τ,¬E.Pn pv τ){G:Gh}{a:Act}{w:World}(hD:Desc E σ G a w)
  (hk:∀τ G a w,Desc E τ G a w→p τ→Q .normal a w):c.wp E.P Q a w:=by
 refine wp_mono (hW _ hc G a w hD) fun e a w hq=>?_
 cases e with
 | normal=>obtain⟨σ',G',h1,h2⟩:=hq; exact hk _ _ _ _ h1 h2
 | ret=>obtain⟨σ',G',h1,h2⟩:=hq; exact (hR _ h2).elim
 | exit id=>obtain⟨_,_,_,h⟩:=hq; exact h.elim
 | panic chain=>obtain⟨pv,u,σ,F,B,U,G',rfl,h1,h2,h3,h4⟩:=hq; exact (hP _ _ h4).elim
 | _=>exact hq.elim
theorem allY_pnk(E:Env)(e:Int)(x:AV)(y:Int)(J4 J5:Nat)(h4:J4<E.n0)(h5:J5<E.n0)(d:J4≠J5)(hx:x = .nils∨∃M n,x = .bsl M 0 n)(hR:∀fr bx k,bk bx J4=some (oBx .nils)→bk bx J5=some (iBx e)→(∀q∈bx,q.1=J4∨q.1=J5∨E.n0≤q.1)→E.Rt ⟨fr,bx,k⟩):
  Wk E [.code cc72c] ⟨[(0,true,.ptr J4 0 0),(1,true,.ptr J5 0 0),(2,true,erV e)],[(J4,some (oBx x)),(J5,some (iBx y))],0⟩:=by
 unfold erV oBx iBx
 have e4:∀t,(J4=E.n0+t)=False:=fun t=>by simp; omega
 have e5:∀t,(J5=E.n0+t)=False:=fun t=>by simp; omega
 rcases hx with rfl|⟨M,n,rfl⟩
 ·refine w_go 4000 ?_
  simp[cc72c,e4,e5,d,Ne.symm d]
  refine hR _ _ _ ?_ ?_ ?_
  ·simp[e4,e5,d,Ne.symm d,oBx]
  ·simp[e4,e5,d,Ne.symm d,iBx]
  ·simp
 ·refine w_go 4000 ?_
  simp[cc72c,e4,e5,d,Ne.symm d]
  refine hR _ _ _ ?_ ?_ ?_
  ·simp[e4,e5,d,Ne.symm d,oBx]
  ·simp[e4,e5,d,Ne.symm d,iBx]
  ·simp
theorem hY72{x x' z:Code}{X:Operand}{Y:Code}(h:Tryz.f72.body=some (.seq x (.seq x' (.cond X Y z)))):compC Tryz.prog Tryz.f72.ntmps Y=cc72c:=by
 have h0:=hcc72
 rw[h] at h0
 simp only[Option.map_some,Option.some.injEq,cc72] at h0
 obtain⟨_,_,e1,_,h1⟩:=comp_seq h0
 injection e1 with _ e1
 subst e1
 obtain⟨_,_,e2,_,h2⟩:=comp_seq h1
 injection e2 with _ e2
 subst e2
 obtain⟨_,_,_,e3,_,h3,_⟩:=comp_cond h2
 injection e3 with _ e3 _
 subst e3
 exact h3
theorem allD_pnk(C:Cx Tryz.prog)(G:Gh)(B:Nat→Option Bx)(w:World)(er:Int)(x:AV)(y:Int)(hx:x = .nils∨∃M n,x = .bsl M 0 n)(n0 J4 J5:Nat)(v4 v5 u:Value)(hs:RS C G B w)(hv4:RV G w (.ptr J4 0 0) v4)(hv5:RV G w (.ptr J5 0 0) v5)(hu:RV G w (erV er) u)
  (h4:B J4=some (oBx x)) (h5:B J5=some (iBx y)) (d:J4≠J5) (hold:∀x,G.used x→x<n0) (how:∀x,n0≤x→B x=none) :
  CallsD Tryz.prog 72 #[v4,v5] (.panicking [{ v:=u,recovered:=false }]) w fun e u' w'=>u' = .panicking [{ v:=u,recovered:=true }]∧(∃v,e = .returned v) ∧
   ∃G' l k,RS C G' (ov B l) w'∧Evo G w G' w'∧bk l J4=some (oBx .nils)∧bk l J5=some (iBx er)∧(∀q∈l,q.1=J4∨q.1=J5∨n0≤q.1)∧(∀x,x<n0→G'.used x→G.used x)∧∀x,G'.used x→x<n0+k:=by
 obtain⟨q,rfl⟩:∃q,u = .iface 23 q:=by
  unfold erV at hu
  cases hu with|iface _ _ q h=>exact⟨q,rfl⟩
 refine callsD_of_wpS Tryz.func72 rfl fun c₀ cs hm=>?_
 apply wpS_seq
 apply wpS_region
 simp[wpOpsS,go_sem,recoverD,hm,Tryz.ntmps72,Exit.thenS]
 apply wpS_seq
 apply wpS_region
 simp[wpOpsS,go_sem,Exit.thenS]
 refine wpS_cond (t:=true) (by simp[Act.eval,Array.replicate]) ?_
 apply wpS_of_wp
 simp only[if_true]
 let E:Env:=⟨Tryz.prog,C,B,Tryz.f72.ntmps,n0,G,w,how,hold,hs,[],fun σ=>bk σ.bx J4=some (oBx .nils)∧bk σ.bx J5=some (iBx er)∧∀q∈σ.bx,q.1=J4∨q.1=J5∨n0≤q.1,fun _ _=>False⟩
 have l4:=hold J4 (hs.boxNames h4).1
 have l5:=hold J5 (hs.boxNames h5).1
 have hW:=allY_pnk E er x y J4 J5 l4 l5 d hx fun fr bx k h1 h2 h3=>⟨h1,h2,h3⟩
 refine wp_mono (hW _ (hY72 rfl) G _ w ?_) fun e a w' hq=>?_
 ·refine⟨Evo.refl G w,?_,fun i hi=>by have:=hold i hi; show i<n0+0; omega,fun i _ hi=>hi,fun n c v hl=>?_,?_,rfl⟩
  ·have hh:Has B [(J4,oBx x),(J5,iBx y)]:=fun q hq=>by
    simp at hq
    rcases hq with rfl|rfl
    ·exact h4
    ·exact h5
   have:=ov_someL hh
   simp only[someL] at this
   show RS C G (ov B _) w
   rw[this]; exact hs
  ·simp only[lk] at hl
   repeat' split at hl
   all_goals first|cases hl|skip
   all_goals rename_i hn<;>subst hn<;>refine⟨fun _=>?_,fun h=>by cases h⟩
   ·simpa [Array.getD_eq_getD_getElem?] using hv4
   ·simpa [Array.getD_eq_getD_getElem?] using hv5
   ·simpa [Array.getD_eq_getD_getElem?] using hu
  ·simp[E,Tryz.ntmps72]
 ·have fin:∀σ G',Desc E σ G' a w'→E.Rt σ→∀(cs':List Frame),a.defers=[]∧(∃v,(results Tryz.f72 a.tmps).run Tryz.prog w' = .ok v w')∧∃G' l k,RS C G' (ov B l) w'∧Evo G w G' w'∧bk l J4=some (oBx .nils)∧bk l J5=some (iBx er)∧(∀q∈l,q.1=J4∨q.1=J5∨n0≤q.1)∧(∀x,x<n0→G'.used x→G.used x)∧∀x,G'.used x→x<n0+k:=fun σ G' hD hR _=>by
   refine⟨hD.defers,⟨_,by simp[results,Tryz.results72]; rfl⟩,G',σ.bx,σ.k,hD.rs,hD.ev,hR.1,hR.2.1,hR.2.2,hD.old,hD.used⟩
  cases e with
  | normal =>
   obtain⟨σ,G',h1,h2⟩:=hq
   obtain⟨f1,⟨v,f2⟩,f3⟩:=fin σ G' h1 h2 cs
   exact⟨f1,_,rfl,v,f2,rfl,⟨v,rfl⟩,by obtain⟨g1,g2,g3,d1,d2,d3,d4,d5,d6,d7⟩:=f3; exact⟨g1,g2,d1,d2,d3,d4,fun x y h=>d5 (x,y) h,d6,g3,d7⟩⟩
  | ret =>
   obtain⟨σ,G',h1,h2⟩:=hq
   obtain⟨f1,⟨v,f2⟩,f3⟩:=fin σ G' h1 h2 cs
   exact⟨f1,_,rfl,v,f2,rfl,⟨v,rfl⟩,by obtain⟨g1,g2,g3,d1,d2,d3,d4,d5,d6,d7⟩:=f3; exact⟨g1,g2,d1,d2,d3,d4,fun x y h=>d5 (x,y) h,d6,g3,d7⟩⟩
  | exit id=>obtain⟨σ,G',h1,h2⟩:=hq; exact h2.elim
  | panic chain =>
   obtain⟨pv,u,σ,F,B,U,G',rfl,h1,h2,h3,h4⟩:=hq
   exact h4.elim
  | _=>exact hq.elim
theorem allD_ret(v1 v2:Value)(w:World):CallsD Tryz.prog 72 #[v1,v2] .returning w fun e u' w'=>u' = .returning∧(∃v,e = .returned v)∧w'=w:=by
 refine callsD_of_wpS Tryz.func72 rfl fun c₀ cs hu=>?_
 apply wpS_seq
 apply wpS_region
 simp[wpOpsS,go_sem,recoverD,hu,Tryz.ntmps72,Exit.thenS]
 apply wpS_seq
 apply wpS_region
 simp[wpOpsS,go_sem,Exit.thenS]
 refine wpS_cond (t:=false) (by simp[Act.eval,Array.replicate]) ?_
 simp only[Bool.false_eq_true,if_false]
 apply wpS_of_wp
 refine wp_skip ?_
 exact⟨rfl,_,by rw[←hu],_,by simp[results,Tryz.results72]; rfl,rfl,⟨_,rfl⟩,rfl⟩
end Go.Am
namespace Go.Am
set_option linter.all false
open Go Go.RowKit Go.Proofs
set_option maxRecDepth 100000
set_option linter.all false
theorem loopQ{E:Env}{cb:Code}{X:Type}(inv:X→St)(ok:X→Prop)(m:X→Nat){Q:Exit→Act→World→Prop}(x0:X)(hx0:ok x0){G:Gh}{a:Act}{w:World}(hD:Desc E (inv x0) G a w)
  (step:∀x,ok x→∀G a w,Desc E (inv x) G a w→cb.wp E.P (fun e a' w'=>match e with
   | .normal=>∃x' G',ok x'∧m x'<m x∧Desc E (inv x') G' a' w'
   | e=>Q e a' w') a w):(Code.loop cb).wp E.P Q a w:=by
 refine wp_loop_ghost (fun n a w=>∃x G,ok x∧m x=n∧Desc E (inv x) G a w) (m x0) ⟨x0,G,hx0,rfl,hD⟩ fun n a w hI=>?_
 obtain⟨x,G2,hx,rfl,hD2⟩:=hI
 refine wp_mono (step x hx G2 a w hD2) fun e a' w' hq=>?_
 cases e with
 | normal =>
  obtain⟨x',G',h1,h2,h3⟩:=hq
  exact⟨m x',h2,x',G',h1,rfl,h3⟩
 | _=>exact hq
theorem histB_ov{β:Nat→Option Bx}{l:List (Nat×Option Bx)}{B:Nat→Option Bx}(h:HistB β l B):B=ov β (l.map fun q=>(q.1,B q.1)):=by
 funext y
 have key:∀l:List (Nat×Option Bx),ov β (l.map fun q=>(q.1,B q.1)) y=if y∈l.map (·.1) then B y else β y:=fun l=>by
  induction l with
  | nil=>simp[ov]
  | cons q l ih =>
   simp only[List.map_cons,ov,upd,List.mem_cons]
   by_cases hq:y=q.1
   ·subst hq; simp
   ·rw[if_neg hq,ih]
    by_cases hy:y∈l.map (·.1)
    ·rw[if_pos hy,if_pos (.inr hy)]
    ·rw[if_neg hy,if_neg (by rintro (h|h); exact hq h; exact hy h)]
 rw[key]
 split
 ·rfl
 ·rename_i hn
  rcases h y with h|h
  ·exact h
  ·exact (hn (List.mem_map.2 ⟨_,h,rfl⟩)).elim
def aInv(E:Env)(O I:Nat)(s:List UInt8)(q:List Tk×Nat):St :=
 ⟨[(0,true,.str s),(2,true,.ptr O 0 0),(3,true,.ptr I 0 0),(4,true,.ptr E.n0 0 0)],[(E.n0,some (rB s q.2)),(O,some (oBx (.bsl (E.n0+1) 0 q.1.length))),(I,some (iBx 0)),(E.n0+1,some ⟨q.1.map eTk,.agg [.int .i64 0,.str [],.int .i64 0],false,false⟩)],2⟩
theorem pure_eTk(t:Tk):(eTk t).pureB=true:=rfl
@[simp] theorem pure_tks (l:List Tk):pureL (l.map eTk)=true:=pureL_map pure_eTk l
@[simp] theorem names_tks (S:Nat→Prop) (l:List Tk):namesL S (l.map eTk):=namesL_pure _ (pure_tks l)
@[simp] theorem ren_tks (R:Rn) (S:Nat→Prop) (l:List Tk):RenL R S (l.map eTk) (l.map eTk):=renL_pure rfl (pure_tks l)
section
variable (E:Env) (hP:E.P=Tryz.prog) (O I:Nat) (h4:O<E.n0) (h5:I<E.n0) (d:O≠I) (s:List UInt8) (h8:s.length≤1099511627776)
include hP h4 h5 d h8
theorem all_c :
  Wk E [.code cc37c,.post fun σ=>Conv E σ (aInv E O I s ([],atB s 0))] ⟨[(4,true,.ptr (E.n0+2048) 0 0),(8,true,.ptr (E.n0+2048) 0 0),(7,true,.agg [.str s,.int .i64 0]),(6,true,.str s),(3,true,.ptr I 0 0),(2,true,.ptr O 0 0),(0,true,.str s)],[(E.n0+2048,some (rB s 0)),(I,some (iBx 0)),(O,some (oBx .nils))],4096⟩:=by
 have e4:∀t,(O=E.n0+t)=False:=fun t=>by simp; omega
 have e5:∀t,(I=E.n0+t)=False:=fun t=>by simp; omega
 have f4:∀t,(E.n0+t=O)=False:=fun t=>by simp; omega
 have f5:∀t,(E.n0+t=I)=False:=fun t=>by simp; omega
 have g4:(O=E.n0)=False:=by simp; omega
 have g5:(I=E.n0)=False:=by simp; omega
 have k4:(E.n0=O)=False:=by simp; omega
 have k5:(E.n0=I)=False:=by simp; omega
 have hb:=fun id=>blank_ok s 0 (E.n0+2048) id (by omega) h8
 rw[rB_eq,rB_eq] at hb
 rw[rB_eq]
 unfold oBx iBx
 refine w_go 4000 ?_
 simp[cc37c,e4,e5,f4,f5,d,Ne.symm d]
 refine w_call hP rfl (hb _) (by simp) (by simp<;>rfl) ?_
 refine w_go 4000 ?_
 simp[e4,e5,f4,f5,d,Ne.symm d]
 unfold aInv
 refine Conv.trans (Conv.voidBox O (x:=.nils) (y:=.bsl (E.n0+6144) 0 0) (by simp[e4,e5,f4,f5,d,Ne.symm d]; rfl) rfl .nils (.agg [.int .i64 0,.str [],.int .i64 0])) ?_
 have hrn:rnOk [(E.n0,E.n0+2048),(E.n0+1,E.n0+6144)]:=by simp[rB,oBx,iBx,h4,h5,e4,e5,f4,f5,g4,g5,k4,k5,d,Ne.symm d]
 refine Conv.sub [(E.n0,E.n0+2048),(E.n0+1,E.n0+6144)] hrn ?_ ?_ ?_ ?_ ?_<;>(try simp[rB,oBx,iBx,h4,h5,e4,e5,f4,f5,g4,g5,k4,k5,d,Ne.symm d])
theorem all_a(acc:List Tk):
  Wk E [.code cc37L,.post (fun _=>False),.blk 0,.post fun σ=>Conv E σ (aInv E O I s (acc,s.length))] (aInv E O I s (acc,s.length)):=by
 have e4:∀t,(O=E.n0+t)=False:=fun t=>by simp; omega
 have e5:∀t,(I=E.n0+t)=False:=fun t=>by simp; omega
 have f4:∀t,(E.n0+t=O)=False:=fun t=>by simp; omega
 have f5:∀t,(E.n0+t=I)=False:=fun t=>by simp; omega
 have g4:(O=E.n0)=False:=by simp; omega
 have g5:(I=E.n0)=False:=by simp; omega
 have k4:(E.n0=O)=False:=by simp; omega
 have k5:(E.n0=I)=False:=by simp; omega
 unfold aInv oBx iBx rB
 refine w_go 4000 ?_
 simp[cc37L,cc37h,cc37t,h4,h5,e4,e5,f4,f5,g4,g5,k4,k5,d,Ne.symm d]
 have hrn:rnOk [(E.n0,E.n0),(E.n0+1,E.n0+1)]:=by simp[h4,h5,e4,e5,f4,f5,g4,g5,k4,k5,d,Ne.symm d]
 refine Conv.sub [(E.n0,E.n0),(E.n0+1,E.n0+1)] hrn ?_ ?_ ?_ ?_ ?_<;>(try simp[h4,h5,e4,e5,f4,f5,g4,g5,k4,k5,d,Ne.symm d])
theorem all_h(acc:List Tk)(j:Nat)(hj:j<s.length):
  Wk E [.code cc37h,.post fun σ=>lk σ.fr 17=some (true,.bool true)∧Conv E σ (aInv E O I s (acc,j))] (aInv E O I s (acc,j)):=by
 have e4:∀t,(O=E.n0+t)=False:=fun t=>by simp; omega
 have e5:∀t,(I=E.n0+t)=False:=fun t=>by simp; omega
 have f4:∀t,(E.n0+t=O)=False:=fun t=>by simp; omega
 have f5:∀t,(E.n0+t=I)=False:=fun t=>by simp; omega
 have g4:(O=E.n0)=False:=by simp; omega
 have g5:(I=E.n0)=False:=by simp; omega
 have k4:(E.n0=O)=False:=by simp; omega
 have k5:(E.n0=I)=False:=by simp; omega
 unfold aInv oBx iBx rB
 refine w_go 4000 ?_
 simp[cc37h,hj,h4,h5,e4,e5,f4,f5,g4,g5,k4,k5,d,Ne.symm d]
 have hrn:rnOk [(E.n0,E.n0),(E.n0+1,E.n0+1)]:=by simp[h4,h5,e4,e5,f4,f5,g4,g5,k4,k5,d,Ne.symm d]
 refine Conv.sub [(E.n0,E.n0),(E.n0+1,E.n0+1)] hrn ?_ ?_ ?_ ?_ ?_<;>(try simp[h4,h5,e4,e5,f4,f5,g4,g5,k4,k5,d,Ne.symm d])
theorem all_k(acc:List Tk)(j:Nat)(hj:j≤s.length)(c:UInt8)(r u:List UInt8)(t:Tk)(hd:s.drop j=c::r)(ht:pTok c r = .ok (t,u))(hl:acc.length≤300):
  Wk E [.code cc37k,.post fun σ=>Conv E σ (aInv E O I s (acc++[t],atU s u))] (aInv E O I s (acc,j)):=by
 have e4:∀t,(O=E.n0+t)=False:=fun t=>by simp; omega
 have e5:∀t,(I=E.n0+t)=False:=fun t=>by simp; omega
 have f4:∀t,(E.n0+t=O)=False:=fun t=>by simp; omega
 have f5:∀t,(E.n0+t=I)=False:=fun t=>by simp; omega
 have g4:(O=E.n0)=False:=by simp; omega
 have g5:(I=E.n0)=False:=by simp; omega
 have k4:(E.n0=O)=False:=by simp; omega
 have k5:(E.n0=I)=False:=by simp; omega
 have hT:=fun id=>token_ok s j c r E.n0 id hj hd h8
 rw[ht] at hT
 have hT:∀id,FnOk Tryz.prog 74 [.ptr E.n0 0 0] [(E.n0,rB s j)] id (.agg [.int .i64 t.kind,.str t.text,.int .i64 t.n]) [(E.n0,some (rB s (atU s u)))]:=hT
 rw[rB_eq,rB_eq] at hT
 unfold aInv oBx iBx rB
 refine w_go 4000 ?_
 simp[cc37k,h4,h5,e4,e5,f4,f5,g4,g5,k4,k5,d,Ne.symm d]
 refine w_call hP rfl (hT _) (by simp) (by simp<;>rfl) ?_
 refine w_go 4000 ?_
 simp[h4,h5,e4,e5,f4,f5,g4,g5,k4,k5,d,Ne.symm d]
 refine⟨⟨by omega,by omega⟩,?_⟩
 have hrn:rnOk [(E.n0,E.n0),(E.n0+1,E.n0+4098)]:=by simp[eTk,h4,h5,e4,e5,f4,f5,g4,g5,k4,k5,d,Ne.symm d]
 refine Conv.sub [(E.n0,E.n0),(E.n0+1,E.n0+4098)] hrn ?_ ?_ ?_ ?_ ?_<;>(try simp[eTk,h4,h5,e4,e5,f4,f5,g4,g5,k4,k5,d,Ne.symm d])
 exact renL_pure rfl (pureL_append (pure_tks _) rfl)
theorem all_l(acc:List Tk)(j:Nat)(b:Bool)(hb:decide (300<(acc.length:Int))=b):
  Wk E [.code cc37l,.post fun σ=>lk σ.fr 27=some (true,.bool b)∧Conv E σ (aInv E O I s (acc,j))] (aInv E O I s (acc,j)):=by
 have e4:∀t,(O=E.n0+t)=False:=fun t=>by simp; omega
 have e5:∀t,(I=E.n0+t)=False:=fun t=>by simp; omega
 have f4:∀t,(E.n0+t=O)=False:=fun t=>by simp; omega
 have f5:∀t,(E.n0+t=I)=False:=fun t=>by simp; omega
 have g4:(O=E.n0)=False:=by simp; omega
 have g5:(I=E.n0)=False:=by simp; omega
 have k4:(E.n0=O)=False:=by simp; omega
 have k5:(E.n0=I)=False:=by simp; omega
 unfold aInv oBx iBx rB
 refine w_go 4000 ?_
 simp[cc37l,hb,h4,h5,e4,e5,f4,f5,g4,g5,k4,k5,d,Ne.symm d]
 have hrn:rnOk [(E.n0,E.n0),(E.n0+1,E.n0+1)]:=by simp[h4,h5,e4,e5,f4,f5,g4,g5,k4,k5,d,Ne.symm d]
 refine Conv.sub [(E.n0,E.n0),(E.n0+1,E.n0+1)] hrn ?_ ?_ ?_ ?_ ?_<;>(try simp[h4,h5,e4,e5,f4,f5,g4,g5,k4,k5,d,Ne.symm d])
theorem all_n(acc:List Tk)(j:Nat)(hj:j≤s.length):
  Wk E [.code cc37n,.post fun σ=>Conv E σ (aInv E O I s (acc,atB s j))] (aInv E O I s (acc,j)):=by
 have e4:∀t,(O=E.n0+t)=False:=fun t=>by simp; omega
 have e5:∀t,(I=E.n0+t)=False:=fun t=>by simp; omega
 have f4:∀t,(E.n0+t=O)=False:=fun t=>by simp; omega
 have f5:∀t,(E.n0+t=I)=False:=fun t=>by simp; omega
 have g4:(O=E.n0)=False:=by simp; omega
 have g5:(I=E.n0)=False:=by simp; omega
 have k4:(E.n0=O)=False:=by simp; omega
 have k5:(E.n0=I)=False:=by simp; omega
 have hb:=fun id=>blank_ok s j E.n0 id hj h8
 rw[rB_eq,rB_eq] at hb
 unfold aInv oBx iBx rB
 refine w_go 4000 ?_
 simp[cc37n,h4,h5,e4,e5,f4,f5,g4,g5,k4,k5,d,Ne.symm d]
 refine w_call hP rfl (hb _) (by simp) (by simp<;>rfl) ?_
 refine w_go 4000 ?_
 simp[h4,h5,e4,e5,f4,f5,g4,g5,k4,k5,d,Ne.symm d]
 have hrn:rnOk [(E.n0,E.n0),(E.n0+1,E.n0+1)]:=by simp[h4,h5,e4,e5,f4,f5,g4,g5,k4,k5,d,Ne.symm d]
 refine Conv.sub [(E.n0,E.n0),(E.n0+1,E.n0+1)] hrn ?_ ?_ ?_ ?_ ?_<;>(try simp[h4,h5,e4,e5,f4,f5,g4,g5,k4,k5,d,Ne.symm d])
end
end Go.Am
