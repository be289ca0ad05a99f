/- Parts of the proof: an abstract machine for Go functions, and what functions of the program give back (Am44, Am45, Am46, Am47, Am48, Am49). No condition. -/
import Derived.Test.YtblnaikecokobaaGreatXC
import Derived.Lib.LazyBuf
namespace Go.Am
set_option linter.all false
open Go Go.RowKit
set_option linter.all false
section
variable {E:Env} {σ:St} {k:List Itm}
theorem Conv.frz(n:Nat){x x':AV}{fz:List (Nat×Bx)}(hx:lk σ.fr n=some (true,x))(hp:(rsvs (bk σ.bx) [x]).1)(h1:(rsvs (bk σ.bx) [x]).2.1=[x'])(h2:(rsvs (bk σ.bx) [x]).2.2=fz):Conv E σ ⟨(n,true,x')::σ.fr,addW σ.bx (wrF fz),σ.k⟩:=fun G a w hD=>by
 obtain⟨g1,g2⟩:=rsvs_local (bx':=ov E.β σ.bx) hp
 have ge:=g2 (g1.ov E.β)
 obtain⟨G1,q1,q2,q3,q4⟩:=freezeAll (rsvs (bk σ.bx) [x]).2.2 hD.rs fun q hq=>let ⟨z1,z2⟩:=rsvs_mem hp q hq; ⟨.inl (ov_bk E.β z1),z2⟩
 have h1':(rsvs (ov E.β σ.bx) [x]).1:=by rw[ge]; exact hp
 have q4':Stays G G1 w (rsvs (ov E.β σ.bx) [x]).2.2:=by rw[ge]; exact q4
 obtain⟨m1,m2⟩:=rsvs_rv q2 h1' q4'
 rw[ge] at m1 m2
 have hxr:=(hD.fr n true x hx).1 rfl
 have hxr':RV G1 w x' (a.tmps.getD n undef):=m2 (fun _=>a.tmps.getD n undef) (fun i y hy=>by
  cases i with
  | zero=>simp at hy; subst hy; exact hxr
  | succ i=>simp at hy) 0 x' (by rw[h1]; rfl)
 subst h2
 refine⟨G1,hD.ev.trans q2,?_,fun id h=>hD.used id (q3 id h),fun id hi h=>hD.old id hi (q3 id h),fun m c v hm=>?_,hD.size,hD.defers⟩
 ·show RS E.C G1 (ov E.β (addW σ.bx (wrF (rsvs (bk σ.bx) [x]).2.2))) w
  rw[ov_addW]; exact q1
 ·simp only[lk] at hm
  split at hm
  ·rename_i he
   subst he
   simp only[Option.some.injEq,Prod.mk.injEq] at hm
   obtain⟨rfl,rfl⟩:=hm
   exact⟨fun _=>hxr',fun h=>by cases h⟩
  ·exact⟨fun hc=>((hD.fr m c v hm).1 hc).mono q2,(hD.fr m c v hm).2⟩
theorem opd_t{X:Operand}{d:Nat}(h:opd X=some (.t d)):X = .tmp d:=by
 cases X<;>simp[opd] at h
 subst h; rfl
theorem opd_nils{X:Operand}(w:World)(h:opd X=some (.c .nils)):X = .const (.slice none 0 0):=by
 cases X with
 | const v =>
  simp only[opd,Option.map_eq_some_iff] at h
  obtain⟨x,h1,h2⟩:=h
  injection h2 with h2
  subst h2
  have:=rv_ofV (G:=⟨fun _ _=>False,fun _=>False,fun _=>none,fun _=>False⟩) (w:=w) h1
  cases this
  rfl
 | _=>simp[opd] at h
theorem comp_nil{P:Program}{op:Op}{d:Nat}(w:World)(h:comp P op=some (.bin .eql (some [8]) (.t d) (.c .nils))):∃t e t',op = .binOp .eql t (.tmp d) (.const (.slice none 0 0)) t'∧P.underlying t=some (.slice e):=by
 have hop:∃o t x y t',op = .binOp o t x y t':=by
  unfold comp at h
  split at h
  all_goals first|exact⟨_,_,_,_,_,rfl⟩|skip
  all_goals exfalso
  all_goals try simp only[compCall,compLen,compApp,compMM,compBuild] at h
  all_goals repeat' split at h
  all_goals first|cases h; done|(refine (map_ne h ?_).elim; intro a h; cases h; done)
 obtain⟨o,t,x,y,t',rfl⟩:=hop
 simp only[comp] at h
 split at h
 ·rename_i x' y' hx hy
  split at h
  ·cases h
  ·split at h
   ·rename_i ks hk
    split at h
    ·injection h with h
     injection h with h1 h2 h3 h4
     injection h2 with h2
     have:=plainFields_le hk 8 (by rw[h2]; simp)
     omega
    ·cases h
   ·cases h
  ·rename_i e ht
   injection h with h
   injection h with h1 h2 h3 h4
   subst h1 h3 h4
   rw[opd_t hx,opd_nils w hy]
   exact⟨t,e,t',rfl,ht⟩
  ·cases h
 ·cases h
theorem w_nil{s d e:Nat}{xs:List AV}(hs:lk σ.fr s=some (true,.sl xs))(hd:d≠e)
  (h1:xs=[]→Wk E k ⟨(e,true,.bool true)::(d,true,.sl xs)::σ.fr,σ.bx,σ.k+2048⟩) (h2:Wk E k ⟨(e,true,.bool false)::(d,true,.sl xs)::σ.fr,σ.bx,σ.k+2048⟩) :
  Wk E (.code (.reg false [⟨some d,none,[s],.mv (.t s)⟩,⟨some e,none,[d],.bin .eql (some [8]) (.t d) (.c .nils)⟩] [])::k) σ:=fun c hc G a w hD=>by
 obtain⟨id,ops,rfl,hg⟩:=comp_reg hc
 unfold compG at hg
 split at hg
 ·cases hg
 ·rename_i cs hcs
  simp only[CC.reg.injEq,true_and,and_true] at hg
  subst hg
  obtain⟨hlen,hget⟩:=compL_get hcs
  have hsz:ops.size=2:=by simpa using hlen.symm
  obtain⟨o0,ho0⟩:∃o,ops[0]?=some o:=⟨_,Array.getElem?_eq_getElem (by omega)⟩
  obtain⟨o1,ho1⟩:∃o,ops[1]?=some o:=⟨_,Array.getElem?_eq_getElem (by omega)⟩
  obtain⟨c0,hc0,hr0⟩:=hget 0 o0 (by simpa using ho0)
  obtain⟨c1,hc1,hr1⟩:=hget 1 o1 (by simpa using ho1)
  simp only[List.getElem?_cons_zero,Option.some.injEq] at hc0
  simp only[List.getElem?_cons_succ,List.getElem?_cons_zero,Option.some.injEq] at hc1
  subst hc0 hc1
  refine wp_region ?_
  rw[hsz,show List.range 2=[0,1] from rfl,wpOps_cons]
  refine op_ok (id:=E.n0+σ.k) (nb:=E.n0+σ.k) (r:=⟨true,.sl xs,[],[]⟩) hD ho0 hr0 ⟨trivial,rfl,fun _=>?_,fun h=>by cases h⟩ (fun x hx _ h=>absurd (hD.used _ h) (by omega)) (by omega) (fun x hx h=>absurd (hD.used _ h) (by omega)) fun G1 u1 w1 hD1=>?_
  ·refine .sem true (.mv (.t s)) True (.sl xs) [] [] (by simp[ceF,hs]) ?_ trivial
   simp[sem,veF,hs]
  ·rw[wpOps_cons]
   have hcr:=hr1
   unfold compR at hr1
   split at hr1
   ·rename_i cc g hcomp hgd
    split at hr1
    ·rename_i hdst
     injection hr1 with hr1
     injection hr1 with e1 e2 e3 e4
     subst e2 e4
     obtain⟨t,el,t',hop,ht⟩:=comp_nil w hcomp
     have hval:=DescF.opd hD1 (X:=.tmp d) (x:=.t d) rfl fun n hn=>by
      injection hn with hn
      subst hn
      simp[ceF,updF,upd_eq]
     have hv2:veF (updF (lk σ.fr) (some d) ⟨true,.sl xs,[],[]⟩) (.t d) = .sl xs:=by simp[veF,updF,upd_eq]
     rw[hv2] at hval
     have hwant:=guard_eq hD1 (o:=o1) (g:=none) hgd trivial
     refine wpOp_run ho1 hwant ?_
     have fin:∀b:Bool,(b=true→xs=[])→(execOp (a.put o0.dst u1).eval o1).run E.P w1 = .ok (.value (.bool b)) w1→o1.wp E.P (a.put o0.dst u1) w1 (fun a w=>wpOps E.P ops (Post E (WW E k).1 (WW E k).2) [] a w) (Post E (WW E k).1 (WW E k).2):=fun b hb hrun=>by
      unfold Oper.wp
      rw[hrun,Oper.upon_value]
      show Post E (WW E k).1 (WW E k).2 .normal _ _
      have hdN:∀q,o1.dst=some q→q<E.N:=fun q hq=>by
       simp only[Bool.and_eq_true] at hdst
       have:=hdst.1
       rw[hq] at this
       simpa using this
      have hD2:=DescF.put hD1 (dst:=o1.dst) (r:=⟨true,.bool b,[],[]⟩) (u:=.bool b) hdN (fun _=>.bool b) (fun h=>by cases h)
      rw[e1] at hD2
      have hF:updF (updF (lk σ.fr) (some d) ⟨true,.sl xs,[],[]⟩) (some e) ⟨true,.bool b,[],[]⟩=lk ((e,true,.bool b)::(d,true,.sl xs)::σ.fr):=by
       funext n; simp only[updF,upd,lk]
      rw[hF] at hD2
      have hD3:Desc E ⟨(e,true,.bool b)::(d,true,.sl xs)::σ.fr,σ.bx,σ.k+2048⟩ G1 ((a.put o0.dst u1).put o1.dst (.bool b)) w1:=by
       rw[e1]
       exact hD2.weak fun i hi=>hi.elim (fun h=>by have:=hD.used _ h; show i<E.n0+(σ.k+2048); omega) fun h=>by show i<E.n0+(σ.k+2048); omega
      cases b with
      | true=>exact⟨_,G1,hD3,h1 (hb rfl)⟩
      | false=>exact⟨_,G1,hD3,h2⟩
     have hex:execOp (a.put o0.dst u1).eval o1=(do pure (.value (←(do eqGuard .eql t (.tmp d) (.const (.slice none 0 0)) ((a.put o0.dst u1).eval (.tmp d)) (.slice none 0 0); binOp .eql t ((a.put o0.dst u1).eval (.tmp d)) (.slice none 0 0):Sem Value)))):=by
      unfold execOp; simp only[hop,Act.eval]
     generalize (a.put o0.dst u1).eval (.tmp d)=v at *
     cases hval with
     | sl _ A cp sz u q1 q2 q3 q4 q5 q6 q7 =>
      refine fin A.isNone (fun h=>?_) ?_
      ·cases A with
       | none=>exact (q3 rfl).1
       | some _=>cases h
      ·rw[hex]
       simp only[eqGuard,Sem.run_bind,Sem.run_pure,Result.andThen_ok,run_eql_slice_nil _ t el A _ _ ht]
       rfl
    ·cases hr1
   ·cases hr1
end
end Go.Am
namespace Go.Am
set_option linter.all false
open Go Go.RowKit
set_option linter.all false
section
variable {E:Env} {σ:St} {k:List Itm}
theorem wk_mono(i:Itm){k1 k2:List Itm}(h1:∀σ,Wk E k1 σ→Wk E k2 σ)(h2:∀id σ,Wx E id k1 σ→Wx E id k2 σ)(h:Wk E (i::k1) σ):Wk E (i::k2) σ:=by
 cases i with
 | blk id=>exact h1 σ h
 | post p=>exact h
 | code cc =>
  intro c hc G a w hD
  refine wp_mono (h c hc G a w hD) fun e a' w' hq=>?_
  cases e with
  | normal=>obtain⟨σ',G',q1,q2⟩:=hq; exact⟨σ',G',q1,h1 _ q2⟩
  | exit id=>obtain⟨σ',G',q1,q2⟩:=hq; exact⟨σ',G',q1,h2 _ _ q2⟩
  | _=>exact hq
 | ops crs j acc ps =>
  rcases h with⟨rs,q1,q2,q3⟩|h
  ·exact .inl ⟨rs,q1,q2,h1 _ q3⟩
  ·exact .inr h
theorem w_cutS{i:Itm}{y z:CC}{X:Type}(inv:X→St)(ok:X→Prop)(h:∀p:St→Prop,(∀σ' x,ok x→Conv E σ' (inv x)→p σ')→Wk E (i::.code y::.post p::k) σ)
  (hk:∀x,ok x→Wk E (.code z::k) (inv x)):Wk E (i::.code (.seq y z)::k) σ:=by
 refine wk_mono i (k1:=.code y::.post (fun σ'=>∃x,ok x∧Conv E σ' (inv x))::k) (fun σ1 q=>?_) (fun id σ1 q=>q) (h (fun σ'=>∃x,ok x∧Conv E σ' (inv x)) (fun σ' x h1 h2=>⟨x,h1,h2⟩))
 refine w_seq (fun c hc G a w hD=>?_)
 refine wp_mono (q c hc G a w hD) fun e a' w' hq=>?_
 cases e with
 | normal =>
  obtain⟨σ',G',h1,x,h2,h3⟩:=hq
  obtain⟨G2,h4⟩:=h3 G' a' w' h1
  exact⟨inv x,G2,h4,hk x h2⟩
 | _=>exact hq
end
end Go.Am
namespace Go.Am
set_option linter.all false
open Go Go.RowKit
set_option linter.all false
mutual
def AV.nrm:AV→AV
 | .nils=>.sl []
 | .sl xs=>.sl (nrmL xs)
 | .agg cs=>.agg (nrmL cs)
 | .tup cs=>.tup (nrmL cs)
 | .int k n=>.int k n
 | .bool b=>.bool b
 | .str s=>.str s
 | .nilp=>.nilp
 | .ptr a b c=>.ptr a b c
 | .cptr cs=>.cptr cs
 | .bsl a b c=>.bsl a b c
 | .fn f cs=>.fn f cs
 | .nilf=>.nilf
 | .iface t v=>.iface t v
 | .nili=>.nili
def nrmL:List AV→List AV
 | []=>[]
 | x::l=>x.nrm::nrmL l
end
theorem nrmL_map:∀l:List AV,nrmL l=l.map AV.nrm
 | []=>rfl
 | x::l=>by simp[nrmL,nrmL_map l]
theorem nrm_cells(x:AV):x.nrm.cells=x.cells.map AV.nrm:=by
 cases x<;>simp[AV.nrm,AV.cells,nrmL_map]
theorem nil_sl{G:Gh}{w:World}:RV G w (.sl []) (.slice none 0 0) :=
 .sl [] none 0 0 (fun _ _=>undef) (Nat.le_refl _) (by simp[maxLen]) (fun _=>⟨rfl,rfl⟩) (fun i x hi=>by simp at hi) (fun a i x j y _ hi=>by simp at hi) (fun a i x j y _ hi=>by simp at hi) (fun i x j y hi=>by simp at hi)
theorem map_get{l:List AV}{i:Nat}{y:AV}(h:(l.map AV.nrm)[i]?=some y):∃x,l[i]?=some x∧y=x.nrm:=by
 rw[List.getElem?_map] at h
 cases hx:l[i]? with
 | none=>rw[hx] at h; cases h
 | some x=>rw[hx] at h; exact⟨x,rfl,(Option.some.inj h).symm⟩
theorem RV.nrm{G:Gh}{w:World}{x:AV}{v:Value}(h:RV G w x v):RV G w x.nrm v:=by
 induction h with
 | int k n=>exact .int k n
 | bool b=>exact .bool b
 | str s=>exact .str s
 | nilp=>exact .nilp
 | ptr id i off v ho hu hb=>exact .ptr id i off v ho hu hb
 | cptr cs a u h1 h2 h3 ih=>exact .cptr cs a u h1 h2 h3
 | nils=>exact nil_sl
 | sl xs A c s u hc hm hn hs h1 h2 h3 ih =>
  have e:xs.length=(xs.map AV.nrm).length:=by simp
  simp only[AV.nrm,nrmL_map]
  rw[e]
  refine .sl (xs.map AV.nrm) A c s u (by rw[←e]; exact hc) hm (fun ha=>by rw[(hn ha).1]; exact⟨rfl,(hn ha).2⟩) (fun i x hx=>?_) (fun a i x j y ha hx hy=>?_) (fun a i x j y ha hx hy=>?_) (fun i x j y hx hy=>?_)
  ·obtain⟨x0,hx0,rfl⟩:=map_get hx
   rw[nrm_cells,List.length_map]; exact hs i x0 hx0
  ·obtain⟨x0,hx0,rfl⟩:=map_get hx
   rw[nrm_cells] at hy
   obtain⟨y0,hy0,rfl⟩:=map_get hy
   exact h1 a i x0 j y0 ha hx0 hy0
  ·obtain⟨x0,hx0,rfl⟩:=map_get hx
   rw[nrm_cells] at hy
   obtain⟨y0,hy0,rfl⟩:=map_get hy
   exact h2 a i x0 j y0 ha hx0 hy0
  ·obtain⟨x0,hx0,rfl⟩:=map_get hx
   rw[nrm_cells] at hy
   obtain⟨y0,hy0,rfl⟩:=map_get hy
   exact ih i x0 j y0 hx0 hy0
 | bsl id off len v ho hu hb hn=>exact .bsl id off len v ho hu hb hn
 | fn f caps vs hl h ih=>exact .fn f caps vs hl h
 | nilf=>exact .nilf
 | iface t x v h ih=>exact .iface t x v h
 | nili=>exact .nili
 | agg cs vs hl h ih =>
  simp only[AV.nrm,nrmL_map]
  refine .agg _ vs (by rw[List.length_map]; exact hl) fun i y hy=>?_
  obtain⟨x0,hx0,rfl⟩:=map_get hy
  exact ih i x0 hx0
 | tup cs vs hl h ih =>
  simp only[AV.nrm,nrmL_map]
  refine .tup _ vs (by rw[List.length_map]; exact hl) fun i y hy=>?_
  obtain⟨x0,hx0,rfl⟩:=map_get hy
  exact ih i x0 hx0
theorem FnOk.nrm{P:Program}{f:Nat}{args:List AV}{rd:List (Nat×Bx)}{id:Nat}{res:AV}{wr:List (Nat×Option Bx)}(h:FnOk P f args rd id res wr):FnOk P f args rd id res.nrm wr :=
 ⟨h.1,fun C G bx w vs nb hs hv hh hnb hid=>(h.2 C G bx w vs nb hs hv hh hnb hid).mono fun e w' ⟨v,G',h1,h2,h3,h4,h5⟩=>⟨v,G',h1,h2,h3,h4.nrm,h5⟩⟩
end Go.Am
namespace Go.Am
set_option linter.all false
open Go Go.RowKit
set_option linter.all false
section
variable {E:Env} {σ:St}
theorem Conv.subK(l:List (Nat×Nat))(hl:rnOk l){σ':St}(hk:newIn E.n0 (E.n0+σ'.k) l)(h1:SubF (mkRn (E.n0+σ'.k) l hl) E.G0.used σ.fr σ'.fr)(h2:SubB (mkRn (E.n0+σ'.k) l hl) E.G0.used σ.bx σ'.bx)(h3:DropOk E.n0 σ'.bx σ.bx)
  (h4:goneOk E.n0 σ'.bx l):Conv E σ σ':=fun G a w hD=>by
 have hlow:∀x,x<E.n0→lkN l x=none:=fun x hx=>by
  cases h:lkN l x with
  | none=>rfl
  | some b=>have:=newIn_mem hk _ (lkN_mem h); simp only at this; omega
 have hold:∀x,lkN l x=none→(mkRn (E.n0+σ'.k) l hl).ρ x=none∨(mkRn (E.n0+σ'.k) l hl).ρ x=some x:=fun x hx=>by
  show rnF (E.n0+σ'.k) l x=none∨rnF (E.n0+σ'.k) l x=some x
  unfold rnF
  rw[hx]
  simp only
  split
  ·split
   ·exact .inl rfl
   ·exact .inr rfl
  ·exact .inl rfl
 have hfix:∀x,E.G0.used x→(mkRn (E.n0+σ'.k) l hl).ρ x=some x∨(mkRn (E.n0+σ'.k) l hl).ρ x=none:=fun x hx=>(hold x (hlow x (E.old x hx))).symm
 have hst:∀x,x<E.n0→goneN l x=false→(mkRn (E.n0+σ'.k) l hl).ρ x=some x:=fun x hx hg=>by
  show rnF (E.n0+σ'.k) l x=some x
  unfold rnF
  rw[hlow x hx]
  have hx':x<E.n0+σ'.k:=by omega
  simp[hx',hg]
 refine⟨G.ren (mkRn (E.n0+σ'.k) l hl) E.G0.used,Evo.ren hD.ev hfix,hD.rs.ren fun y b' hy=>?_,fun y hy=>?_,fun y hy hu=>?_,fun n c v hv=>?_,hD.size,hD.defers⟩
 ·by_cases hk:hasKey y σ'.bx
  ·obtain⟨x,b0,q1,q2,q3⟩:=h2.get y b' hy hk
   exact⟨x,b0,q1,ov_bk E.β q2,q3⟩
  ·rw[ov_nokey hk] at hy
   have hlt:y<E.n0:=by
    rcases Nat.lt_or_ge y E.n0 with h|h
    ·exact h
    ·rw[E.own y h] at hy; cases hy
   refine⟨y,b',hst y hlt (goneOk_get h4 y hlt hk),by rw[h3.get y hlt hk E.β]; exact hy,BxR.same fun i x hx=>?_⟩
   exact namesIn_mono (fun z hz=>(hfix z hz).imp _root_.id fun h=>⟨h,hz⟩) x ((E.rs0.boxNames hy).2 i x hx)
 ·rcases hy with⟨x,hx,hu⟩|hy
  ·have hx':rnF (E.n0+σ'.k) l y=some x:=hx
   cases h:lkN l y with
   | some b=>exact (newIn_mem hk _ (lkN_mem h)).2
   | none =>
    unfold rnF at hx'
    rw[h] at hx'
    simp only at hx'
    split at hx'
    ·assumption
    ·cases hx'
  ·have:=E.old y hy; omega
 ·rcases hu with⟨x,hx,hu⟩|hu
  ·rcases hold y (hlow y hy) with h|h
   ·rw[h] at hx; cases hx
   ·rw[h] at hx
    injection hx with hx
    subst hx
    exact hD.old _ hy hu
  ·exact hu
 ·obtain⟨v0,q1,q2⟩:=h1.get n c v hv
  obtain⟨r1,r2⟩:=hD.fr n c v0 q1
  exact⟨fun hc=>(r1 hc).ren (q2 hc),r2⟩
theorem w_keep{dst:Option Nat}{us:List Nat}{z:AV}{n:Nat}{qs:List (Nat×Opd)}{l:List CR}{j:Nat}{acc:List RR}{ps:List (Nat×Nat)}{k:List Itm}{vs:List (Nat×AV)}{xs:List AV}(hv:(qs.map fun q=>(q.1,veF (lk σ.fr) q.2))=vs)(hu:uses (lk σ.fr) us)
  (ho:setOk n z.cells.length vs) (hx:setAll (List.replicate n z) vs=xs)
  (h:Wk E (.ops l (j+1) (accN ps ⟨true,.bsl (E.n0+(σ.k+1024*j)) 0 n,[],[(E.n0+(σ.k+1024*j),some ⟨xs,z,false,false⟩)]⟩ acc) ps::k) (σ.app dst ⟨true,.bsl (E.n0+(σ.k+1024*j)) 0 n,[],[(E.n0+(σ.k+1024*j),some ⟨xs,z,false,false⟩)]⟩)) :
  Wk E (.ops (⟨dst,none,us,.bslice z n qs⟩::l) j acc ps::k) σ:=by
 subst hv hx
 refine w_op (r:=⟨true,.bsl (E.n0+(σ.k+1024*j)) 0 n,[],[(E.n0+(σ.k+1024*j),some ⟨setAll (List.replicate n z) (qs.map fun q=>(q.1,veF (lk σ.fr) q.2)),z,false,false⟩)]⟩) ⟨trivial,rfl,fun _=>?_,fun h=>by cases h⟩ (w_accN h)
 have:=ExR.keep (P:=E.P) (us:=us) (id:=E.n0+σ.k+1024*j) (F:=lk σ.fr) (B:=bk σ.bx) true z n qs hu ho
 rw[Nat.add_assoc] at this
 rw[Nat.add_assoc]
 exact this
structure Aside(S:Nat→Prop)(tl:List (Nat×Option Bx)):Prop where
 keys:∀q∈tl,S q.1∧q.2.isSome=true
 nd:(tl.map Prod.fst).Nodup
 names:∀q∈tl,∀b,q.2=some b→∀x∈b.xs,namesIn S x
theorem Aside.nil(S:Nat→Prop):Aside S []:=⟨fun q hq=>(by cases hq),List.nodup_nil,fun q hq=>(by cases hq)⟩
theorem bk_nodup:∀{tl:List (Nat×Option Bx)},(tl.map Prod.fst).Nodup→∀{y:Nat} {b:Bx},(y,some b)∈tl→Am.bk tl y=some b
 | [],_,y,b,h=>by cases h
 | (z,c)::l,hn,y,b,h=>by
  rw[List.map_cons,List.nodup_cons] at hn
  simp only[Am.bk]
  rcases List.mem_cons.1 h with e|h
  ·injection e with e1 e2
   subst e1 e2
   simp
  ·have hne:y≠z:=fun e=>hn.1 (e▸List.mem_map.2 ⟨_,h,rfl⟩)
   rw[if_neg hne]
   exact bk_nodup hn.2 h
theorem Aside.sub{A:Nat→Prop}{tl:List (Nat×Option Bx)}(h:Aside A tl){R:Rn}{S:Nat→Prop}{bx:List (Nat×Option Bx)}(hR:∀z,A z→R.ρ z=some z)(hb:∀y b,(y,some b)∈tl→Am.bk bx y=some b):SubB R S bx tl:=by
 have go:∀l:List (Nat×Option Bx),(∀q∈l,q∈tl)→SubB R S bx l:=by
  intro l
  induction l with
  | nil=>intro _; trivial
  | cons q l ih =>
   intro hl
   obtain⟨y,c⟩:=q
   have hm:=hl _ (List.mem_cons_self ..)
   have hk:=h.keys _ hm
   cases c with
   | none=>simp at hk
   | some b =>
    refine⟨⟨y,b,hR y hk.1,hb y b hm,BxR.same fun i x hx=>?_⟩,ih fun q hq=>hl q (List.mem_cons_of_mem _ hq)⟩
    exact namesIn_mono (fun z hz=>.inl (hR z hz)) x (h.names _ hm b rfl x (List.mem_of_getElem? hx))
 exact go tl fun q hq=>hq
theorem Aside.cons{S:Nat→Prop}{tl:List (Nat×Option Bx)}(h:Aside S tl){y:Nat}{b:Bx}(h1:S y)(h2:∀q∈tl,q.1≠y)(h3:∀x∈b.xs,namesIn S x):Aside S ((y,some b)::tl):=by
 refine⟨fun q hq=>?_,?_,fun q hq b' hb'=>?_⟩
 ·rcases List.mem_cons.1 hq with rfl|hq
  ·exact⟨h1,rfl⟩
  ·exact h.keys q hq
 ·rw[List.map_cons,List.nodup_cons]
  exact⟨fun hm=>by obtain⟨q,hq,e⟩:=List.mem_map.1 hm; exact h2 q hq e,h.nd⟩
 ·rcases List.mem_cons.1 hq with rfl|hq
  ·injection hb' with hb'; subst hb'; exact h3
  ·exact h.names q hq b' hb'
theorem Aside.append{S:Nat→Prop}{a b:List (Nat×Option Bx)}(ha:Aside S a)(hb:Aside S b)(hd:∀p∈a,∀p'∈b,p.1≠p'.1):Aside S (a++b):=by
 refine⟨fun q hq=>(List.mem_append.1 hq).elim (ha.keys q) (hb.keys q),?_,fun q hq=>(List.mem_append.1 hq).elim (ha.names q) (hb.names q)⟩
 rw[List.map_append,List.nodup_append]
 refine⟨ha.nd,hb.nd,fun x hx y hy=>?_⟩
 obtain⟨p,hp,rfl⟩:=List.mem_map.1 hx
 obtain⟨p',hp',rfl⟩:=List.mem_map.1 hy
 exact hd p hp p' hp'
theorem Aside.mono{S T:Nat→Prop}{a:List (Nat×Option Bx)}(h:Aside S a)(hST:∀z,S z→T z):Aside T a :=
 ⟨fun q hq=>⟨hST _ (h.keys q hq).1,(h.keys q hq).2⟩,h.nd,fun q hq b hb x hx=>namesIn_mono hST x (h.names q hq b hb x hx)⟩
theorem rn_keep{n:Nat}{l:List (Nat×Nat)}{hl:rnOk l}{z:Nat}(h1:lkN l z=none)(h2:goneN l z=false)(h3:z<n):(mkRn n l hl).ρ z=some z:=by
 show rnF n l z=some z
 unfold rnF
 rw[h1]
 simp[h2,h3]
theorem renL_keep{R:Rn}{S A:Nat→Prop}(hR:∀z,A z→R.ρ z=some z):∀{l:List AV},(∀x∈l,namesIn A x)→RenL R S l l
 | [],_=>.nil
 | x::l,h=>.cons x x l l (.same x (namesIn_mono (fun z hz=>.inl (hR z hz)) x (h x (List.mem_cons_self ..)))) (renL_keep hR fun y hy=>h y (List.mem_cons_of_mem _ hy))
theorem renL_app{R:Rn}{S:Nat→Prop}:∀{a b c d:List AV},RenL R S a b→RenL R S c d→RenL R S (a++c) (b++d)
 | [],[],_,_,_,h=>h
 | x::a,y::b,_,_,.cons _ _ _ _ h hl,h'=>.cons _ _ _ _ h (renL_app hl h')
theorem bk_skip{q:Nat×Option Bx}{l:List (Nat×Option Bx)}{y:Nat}(h:y≠q.1):Am.bk (q::l) y=Am.bk l y:=by
 obtain⟨m,b⟩:=q
 simp only[Am.bk]
 rw[if_neg h]
theorem dropOk_own{n0:Nat}{bx':List (Nat×Option Bx)}:∀{l:List (Nat×Option Bx)},(∀q∈l,n0≤q.1)→DropOk n0 bx' l
 | [],_=>trivial
 | (x,b)::l,h=>⟨.inl (h _ (List.mem_cons_self ..)),dropOk_own fun q hq=>h q (List.mem_cons_of_mem _ hq)⟩
end
end Go.Am
namespace Go.Am
set_option linter.all false
open Go Go.RowKit
set_option linter.all false
inductive Rd(L:List (Nat×Bx)):AV→AV→Prop
 | same (x:AV):Rd L x x
 | nils:Rd L .nils (.sl [])
 | bsl (id off len:Nat) (b:Bx) (ys:List AV) (hb:(id,b)∈L) (hle:off+len≤b.xs.length) (hl:ys.length=len)
   (hc:∀(i:Nat) x y,b.xs[off+i]?=some x→ys[i]?=some y→x.cells.length=y.cells.length)
   (h:∀(i:Nat) x y (j:Nat) c d,b.xs[off+i]?=some x→ys[i]?=some y→x.cells[j]?=some c→y.cells[j]?=some d→Rd L c d):Rd L (.bsl id off len) (.sl ys)
 | ptr (id:Nat) (b:Bx) (x:AV) (ds:List AV) (hb:(id,b)∈L) (hx:b.xs=[x]) (hl:ds.length=x.cells.length)
   (h:∀(j:Nat) c d,x.cells[j]?=some c→ds[j]?=some d→Rd L c d):Rd L (.ptr id 0 0) (.cptr ds)
 | agg (cs ds:List AV) (hl:cs.length=ds.length) (h:∀(i:Nat) c d,cs[i]?=some c→ds[i]?=some d→Rd L c d):Rd L (.agg cs) (.agg ds)
 | tup (cs ds:List AV) (hl:cs.length=ds.length) (h:∀(i:Nat) c d,cs[i]?=some c→ds[i]?=some d→Rd L c d):Rd L (.tup cs) (.tup ds)
 | fn (f:Nat) (cs ds:List AV) (hl:cs.length=ds.length) (h:∀(i:Nat) c d,cs[i]?=some c→ds[i]?=some d→Rd L c d):Rd L (.fn f cs) (.fn f ds)
theorem Rd.mono{L L':List (Nat×Bx)}(hL:∀q∈L,q∈L'){x y:AV}(h:Rd L x y):Rd L' x y:=by
 induction h with
 | same x=>exact .same x
 | nils=>exact .nils
 | bsl id off len b ys hb hle hl hc h ih=>exact .bsl id off len b ys (hL _ hb) hle hl hc ih
 | ptr id b x ds hb hx hl h ih=>exact .ptr id b x ds (hL _ hb) hx hl ih
 | agg cs ds hl h ih=>exact .agg cs ds hl ih
 | tup cs ds hl h ih=>exact .tup cs ds hl ih
 | fn f cs ds hl h ih=>exact .fn f cs ds hl ih
section
variable {P:Program} {C:Cx} {G:Gh} {bx:Nat→Option Bx} {w:World}
theorem tree_read{G1:Gh}{L:List (Nat×Bx)}(hs:RS C G bx w)(hL:Has bx L)(ev:Evo G w G1 w)(hz:∀q∈L,∀b s,G.bm q.1=some (b,s)→∀o,o<q.2.xs.length*s→G1.fz b o){x y:AV}(h:Rd L x y):∀{v:Value},RV G w x v→RV G1 w y v:=by
 induction h with
 | same x=>intro v hv; exact hv.mono ev
 | nils =>
  intro v hv
  cases hv
  exact .sl [] none 0 0 (fun _ _=>undef) (Nat.le_refl _) (by simp[maxLen]) (fun _=>⟨rfl,rfl⟩) (fun i x hi=>by simp at hi) (fun a i x j y _ hi=>by simp at hi) (fun a i x j y _ hi=>by simp at hi) (fun i x j y hi=>by simp at hi)
 | agg cs ds hl h ih =>
  intro v hv
  cases hv with|agg _ vs hl' h' =>
  exact .agg ds vs (hl▸hl') fun i y hy=>by
   obtain⟨c,hc⟩:∃c,cs[i]?=some c:=⟨_,List.getElem?_eq_getElem (by rw[hl]; exact (List.getElem?_eq_some_iff.1 hy).1)⟩
   exact ih i c y hc hy (h' i c hc)
 | tup cs ds hl h ih =>
  intro v hv
  cases hv with|tup _ vs hl' h' =>
  exact .tup ds vs (hl▸hl') fun i y hy=>by
   obtain⟨c,hc⟩:∃c,cs[i]?=some c:=⟨_,List.getElem?_eq_getElem (by rw[hl]; exact (List.getElem?_eq_some_iff.1 hy).1)⟩
   exact ih i c y hc hy (h' i c hc)
 | fn f cs ds hl h ih =>
  intro v hv
  cases hv with|fn _ _ vs hl' h' =>
  exact .fn f ds vs (hl▸hl') fun i y hy=>by
   obtain⟨c,hc⟩:∃c,cs[i]?=some c:=⟨_,List.getElem?_eq_getElem (by rw[hl]; exact (List.getElem?_eq_some_iff.1 hy).1)⟩
   exact ih i c y hc hy (h' i c hc)
 | ptr id b x ds hb hx hl h ih =>
  intro v hv
  have hbx:=hL _ hb
  simp only at hbx
  have h0:b.xs[0]?=some x:=by rw[hx]; rfl
  have hn:¬G.nl id:=hs.lies hbx h0
  obtain⟨blk,s,cur,e,h1,h2,h3,⟨h4,h5⟩,h6,h7,h8⟩:=hs.box id b hbx hn
  cases hv with|ptr _ _ _ _ ho hu hbm =>
  have:=hbm blk s h1
  simp only[Nat.zero_mul,Nat.zero_add] at this
  subst this
  obtain⟨hcs,hct⟩:=h6 0 x h0
  have hlen:b.xs.length=1:=by rw[hx]; rfl
  have key:∀j d,ds[j]?=some d→∃c u,x.cells[j]?=some c∧cur[j]?=some u∧RV G w c u∧j<s:=fun j d hj=>by
   have hjl:j<x.cells.length:=by rw[←hl]; exact (List.getElem?_eq_some_iff.1 hj).1
   obtain⟨u,hu1,hu2⟩:=hct j _ (List.getElem?_eq_getElem hjl)
   exact⟨_,u,List.getElem?_eq_getElem hjl,by simpa using hu1,hu2,by omega⟩
  refine .cptr ds _ (fun j=>cur.getD j undef) (fun j y hj=>?_) (fun j y hj=>?_) (fun j y hj=>?_)
  ·obtain⟨c,u,k1,k2,k3,k4⟩:=key j y hj
   exact hz _ hb blk s h1 _ (by simp only[hlen]; omega)
  ·obtain⟨c,u,k1,k2,k3,k4⟩:=key j y hj
   have ha:(⟨blk,0,none⟩:Addr).add j=⟨blk,j,none⟩:=by unfold Addr.add; split<;>simp_all
   rw[ha,cell_of_heap h2,k2]
   simp[Array.getD_eq_getD_getElem?,k2]
  ·obtain⟨c,u,k1,k2,k3,k4⟩:=key j y hj
   have:cur.getD j undef=u:=by simp[Array.getD_eq_getD_getElem?,k2]
   show RV G1 w y (cur.getD j undef)
   rw[this]
   exact ih j c y k1 hj k3
 | bsl id off len b ys hb hle hl hc h ih =>
  intro v hv
  have hbx:=hL _ hb
  simp only at hbx
  by_cases hn:G.nl id
  ·cases hv with|bsl _ _ _ _ _ _ _ hnl =>
   obtain⟨rfl,_,rfl⟩:=hnl hn
   have:ys=[]:=List.length_eq_zero_iff.1 hl
   subst this
   exact .sl [] none 0 0 (fun _ _=>undef) (Nat.le_refl _) (by simp[maxLen]) (fun _=>⟨rfl,rfl⟩) (fun i x hi=>by simp at hi) (fun a i x j y _ hi=>by simp at hi) (fun a i x j y _ hi=>by simp at hi) (fun i x j y hi=>by simp at hi)
  ·obtain⟨blk,s,cur,e,h1,h2,h3,⟨h4,h5⟩,h6,h7,h8⟩:=hs.box id b hbx hn
   cases hv with|bsl _ _ _ _ hone hu hbm hnl =>
   obtain⟨c,cur',e',hv,hlc,hcm,hh,hzz⟩:=hbm blk s h1
   subst hv
   have key:∀i y j d,ys[i]?=some y→y.cells[j]?=some d→∃x c u,b.xs[off+i]?=some x∧x.cells[j]?=some c∧cur[(off+i)*s+j]?=some u∧RV G w c u∧j<s∧off+i<b.xs.length:=fun i y j d hi hj=>by
    have hil:i<ys.length:=(List.getElem?_eq_some_iff.1 hi).1
    have hx:=List.getElem?_eq_getElem (l:=b.xs) (i:=off+i) (by omega)
    have hcl:=hc i _ y hx hi
    have hjl:j<(b.xs[off+i]'(by omega)).cells.length:=by rw[hcl]; exact (List.getElem?_eq_some_iff.1 hj).1
    obtain⟨hcs,hct⟩:=h6 _ _ hx
    obtain⟨u,hu1,hu2⟩:=hct j _ (List.getElem?_eq_getElem hjl)
    exact⟨_,_,u,hx,List.getElem?_eq_getElem hjl,hu1,hu2,by omega,by omega⟩
   have ho:∀i j,(off+i)*s+j=off*s+(i*s+j):=fun i j=>by rw[Nat.add_mul]; omega
   have:=RV.sl (G:=G1) (w:=w) ys (some ⟨blk,off*s,none⟩) c s (fun i j=>cur.getD ((off+i)*s+j) undef) (by omega) hcm (fun h=>by cases h) (fun i y hi=>?_) (fun a i y j d ha hi hj=>?_) (fun a i y j d ha hi hj=>?_) (fun i y j d hi hj=>?_)
   ·rw[hl] at this; exact this
   ·have hil:i<ys.length:=(List.getElem?_eq_some_iff.1 hi).1
    have hx:=List.getElem?_eq_getElem (l:=b.xs) (i:=off+i) (by omega)
    rw[←hc i _ y hx hi]
    exact (h6 _ _ hx).1
   ·injection ha with ha
    subst ha
    obtain⟨x,c,u,k1,k2,k3,k4,k5,k6⟩:=key i y j d hi hj
    refine hz _ hb blk s h1 _ ?_
    simp only
    rw[←ho]
    have:(off+i+1)*s≤b.xs.length*s:=Nat.mul_le_mul_right _ (by omega)
    rw[Nat.add_mul (off+i) 1] at this
    omega
   ·injection ha with ha
    subst ha
    obtain⟨x,c,u,k1,k2,k3,k4,k5,k6⟩:=key i y j d hi hj
    have ha:(⟨blk,off*s,none⟩:Addr).add (i*s+j)=⟨blk,off*s+(i*s+j),none⟩:=by unfold Addr.add; split<;>simp_all
    rw[ha,cell_of_heap h2,←ho,k3]
    simp[Array.getD_eq_getD_getElem?,k3]
   ·obtain⟨x,c,u,k1,k2,k3,k4,k5,k6⟩:=key i y j d hi hj
    have:cur.getD ((off+i)*s+j) undef=u:=by simp[Array.getD_eq_getD_getElem?,k3]
    simp only[this]
    exact ih i x y j c d k1 hi k2 hj k4
mutual
def AV.flatB:AV→Bool
 | .int _ _=>true
 | .bool _=>true
 | .str _=>true
 | .tup vs=>flatL vs
 | .agg vs=>flatL vs
 | _=>false
def flatL:List AV→Bool
 | []=>true
 | x::r=>x.flatB&&flatL r
end
theorem flatL_get{l:List AV}(h:flatL l=true){i:Nat}{x:AV}(hx:l[i]?=some x):x.flatB=true:=by
 induction l generalizing i with
 | nil=>simp at hx
 | cons y r ih =>
  simp only[flatL,Bool.and_eq_true] at h
  cases i with
  | zero=>simp at hx; subst hx; exact h.1
  | succ i=>exact ih h.2 (by simpa using hx)
theorem RV.flat{G:Gh}{w:World}{x:AV}{v:Value}(h:RV G w x v):x.flatB=true→∀(G':Gh) (w':World),RV G' w' x v:=by
 induction h with
 | int k n=>intro _ _ _; exact .int k n
 | bool b=>intro _ _ _; exact .bool b
 | str s=>intro _ _ _; exact .str s
 | agg cs vs hl h ih=>intro hf G' w'; simp only[AV.flatB] at hf; exact .agg cs vs hl fun i y hy=>ih i y hy (flatL_get hf hy) G' w'
 | tup cs vs hl h ih=>intro hf G' w'; simp only[AV.flatB] at hf; exact .tup cs vs hl fun i y hy=>ih i y hy (flatL_get hf hy) G' w'
 | _=>intro hf; simp[AV.flatB] at hf
theorem FnOk.read{f:Nat}{args args':List AV}{rd:List (Nat×Bx)}{id:Nat}{res:AV}(h:FnOk P f args' [] id res [])(hr:res.flatB=true)(hl:args.length=args'.length)(ha:∀(i:Nat) x y,args[i]?=some x→args'[i]?=some y→Rd rd x y):FnOk P f args rd id res []:=by
 refine⟨h.1,fun C G bx w vs nb hs hv hh hnb hid=>?_⟩
 let G0:Gh:=⟨fun b o=>∃u,w.cell? ⟨b,o,none⟩=some u,G.used,fun _=>none,fun _=>False⟩
 let C0:Cx:=⟨w.heap.size,w,fun b o=>∃u,w.cell? ⟨b,o,none⟩=some u⟩
 have hs0:RS C0 G0 (fun _=>none) w:=⟨Below.refl _ w,Nat.le_refl _,fun b o h=>h,fun b o h _=>h,fun id x hx=>(by cases hx),fun id x hx=>(by cases hx),fun id h=>h.elim,fun id b s h=>(by cases h),fun id id' b s s' h=>(by cases h),fun id b s h=>(by cases h)⟩
 have ev:Evo G w G0 w:=⟨fun b o hf=>hs.fzok b o hf,fun _ _=>rfl,fun _ h=>h,fun _ _=>.inr rfl,fun _ _ h=>h.elim,fun _ b s _ hb=>by cases hb⟩
 have hz:∀q∈rd,∀b s,G.bm q.1=some (b,s)→∀o,o<q.2.xs.length*s→G0.fz b o:=fun q hq b s hb o ho=>by
  have hn:¬G.nl q.1:=fun hn=>by rw[(hs.nlu _ hn).2] at hb; cases hb
  obtain⟨b',s',cur,e,h1,h2,h3,⟨h4,h5⟩,_⟩:=hs.box q.1 q.2 (hh q hq) hn
  rw[hb] at h1
  injection h1 with h1
  injection h1 with e1 e2
  subst e1 e2
  exact⟨_,by rw[cell_of_heap h2]; exact Array.getElem?_eq_getElem (by omega)⟩
 have hv0:RVs G0 w args' vs:=⟨hl▸hv.1,fun i y hy=>by
  obtain⟨x,hx⟩:∃x,args[i]?=some x:=⟨_,List.getElem?_eq_getElem (by rw[hl]; exact (List.getElem?_eq_some_iff.1 hy).1)⟩
  exact tree_read hs hh ev hz (ha i x y hx hy) (hv.2 i x hx)⟩
 obtain⟨_,hc⟩:=h
 refine Calls.mono (hc C0 G0 (fun _=>none) w vs nb hs0 hv0 Has.nil hnb hid) fun e w' hq=>?_
 obtain⟨v,G',rfl,s1,e1,r1,u1⟩:=hq
 have hb:=s1.below
 have hblk:∀b,b<w.heap.size→w'.heap[b]?=w.heap[b]?:=fun b h=>hb.block b h
 have hlt:∀b o,G.fz b o→b<w.heap.size:=fun b o h=>let ⟨u,hu⟩:=hs.fzok b o h; lt_of_cellAt hu
 have ev':Evo G w G w':=evo_of_heap (fun b o h=>hblk b (hlt b o h)) fun id b s h cur e hh=>⟨cur,by rw[hblk b (hs.rows id b s h)]; exact hh,rfl⟩
 refine⟨v,G,rfl,?_,ev',RV.flat r1 hr G w',fun x hx=>.inl hx⟩
 have hsz:w.heap.size≤w'.heap.size:=hb.size
 refine⟨hs.below.trans (hb.mono hs.size),Nat.le_trans hs.size hsz,fun b o h=>?_,hs.fzold,fun id x hx hn=>?_,hs.nil,hs.nlu,hs.used,hs.inj,fun id b s h=>Nat.lt_of_lt_of_le (hs.rows id b s h) hsz⟩
 ·obtain⟨u,hu⟩:=hs.fzok b o h
  exact⟨u,by rw[World.cell?_of_block (hblk b (hlt b o h))]; exact hu⟩
 ·obtain⟨b,s,cur,e,h1,h2,h3,h4,h5,h6⟩:=hs.box id x hx hn
  exact⟨b,s,cur,e,h1,by rw[hblk b (hs.rows id b s h1)]; exact h2,h3,h4,h5.mono ev',h6⟩
theorem RS.freezeZ(hs:RS C G bx w){id:Nat}{x:Bx}(hx:bx id=some x)(hro:x.ro=false):
  ∃G',RS C G' (upd bx id (some { x with frz:=true })) w∧Evo G w G' w∧(∀i,G'.used i→G.used i)∧G'.bm=G.bm∧∀b s,G.bm id=some (b,s)→∀o,o<x.xs.length*s→G'.fz b o:=by
 by_cases hn:G.nl id
 ·have h0:=(hs.nil id x hx hn).1
  refine⟨G,⟨hs.below,hs.size,hs.fzok,hs.fzold,fun i y hy hn'=>?_,fun i y hy hn'=>?_,hs.nlu,hs.used,hs.inj,hs.rows⟩,Evo.refl G w,fun _ h=>h,rfl,fun b s hb=>by rw[(hs.nlu _ hn).2] at hb; cases hb⟩
  ·have hi:i≠id:=fun hi=>hn' (hi▸hn)
   rw[upd_ne _ _ _ hi] at hy
   exact hs.box i y hy hn'
  ·by_cases hi:i=id
   ·subst hi
    rw[upd_eq] at hy
    injection hy with hy
    subst hy
    exact⟨h0,hro⟩
   ·rw[upd_ne _ _ _ hi] at hy
    exact hs.nil i y hy hn'
 ·obtain⟨b,s,cur,e,h1,h2,h3,⟨h4,h5⟩,h6,h7,h8⟩:=hs.box id x hx hn
  have hB:=h3 hro
  have ev:Evo G w (G.keep b (x.xs.length*s)) w:=Evo.keep b _
  refine⟨G.keep b (x.xs.length*s),⟨hs.below,hs.size,fun b' o hf=>?_,fun b' o hf hb=>?_,fun i y hy hn'=>?_,fun i y hy hn'=>?_,hs.nlu,hs.used,hs.inj,hs.rows⟩,ev,fun _ h=>h,rfl,fun b' s' hb o ho=>?_⟩
  ·rcases hf with hf|⟨rfl,ho⟩
   ·exact hs.fzok b' o hf
   ·exact⟨_,by rw[cell_of_heap h2]; exact Array.getElem?_eq_getElem (by omega)⟩
  ·rcases hf with hf|⟨rfl,ho⟩
   ·exact hs.fzold b' o hf hb
   ·omega
  ·by_cases hi:i=id
   ·subst hi
    rw[upd_eq] at hy
    injection hy with hy
    subst hy
    exact⟨b,s,cur,e,h1,h2,h3,⟨h4,h5⟩,h6.mono ev,fun h=>(by cases h),fun o ho=>ho.elim (h8 o) fun h=>h.2⟩
   ·rw[upd_ne _ _ _ hi] at hy
    obtain⟨b2,s2,cur2,e2,k1,k2,k3,k4,k5,k6,k7⟩:=hs.box i y hy hn'
    have hne:b2≠b:=fun hbb=>hi (hs.inj i id b2 s2 s k1 (hbb▸h1))
    exact⟨b2,s2,cur2,e2,k1,k2,k3,k4,k5.mono ev,fun hf o ho=>ho.elim (k6 hf o) fun h=>hne h.1,fun o ho=>ho.elim (k7 o) fun h=>(hne h.1).elim⟩
  ·by_cases hi:i=id
   ·subst hi; exact (hn hn').elim
   ·rw[upd_ne _ _ _ hi] at hy
    exact hs.nil i y hy hn'
  ·rw[h1] at hb
   injection hb with hb
   injection hb with e1 e2
   subst e1 e2
   exact .inr ⟨rfl,ho⟩
theorem freezeZ:∀(l:List (Nat×Bx)) {G:Gh} {bx:Nat→Option Bx},RS C G bx w→(∀p∈l,(bx p.1=some p.2∨bx p.1=some { p.2 with frz:=true })∧p.2.ro=false) →
  ∃G',RS C G' (appl bx (wrF l)) w∧Evo G w G' w∧(∀i,G'.used i→G.used i)∧G'.bm=G.bm∧∀q∈l,∀b s,G.bm q.1=some (b,s)→∀o,o<q.2.xs.length*s→G'.fz b o
 | [],G,bx,hs,_=>⟨G,hs,Evo.refl G w,fun _ h=>h,rfl,fun p hp=>by cases hp⟩
 | (i,b)::r,G,bx,hs,hl=>by
  obtain⟨hb,hro⟩:=hl (i,b) (by simp)
  simp only at hb hro
  have key:∃G1,RS C G1 (upd bx i (some { b with frz:=true })) w∧Evo G w G1 w∧(∀i,G1.used i→G.used i)∧G1.bm=G.bm∧∀blk s,G.bm i=some (blk,s)→∀o,o<b.xs.length*s→G1.fz blk o:=by
   rcases hb with hb|hb
   ·exact hs.freezeZ hb hro
   ·exact hs.freezeZ (x:={ b with frz:=true }) hb hro
  obtain⟨G1,s1,e1,u1,m1,k1⟩:=key
  obtain⟨G2,s2,e2,u2,m2,k2⟩:=freezeZ r s1 fun p hp=>by
   obtain⟨h1,h2⟩:=hl p (by simp[hp])
   refine⟨?_,h2⟩
   by_cases hi:p.1=i
   ·obtain⟨j,c⟩:=p
    simp only at hi h1 h2 ⊢
    subst hi
    rw[upd_eq]
    right
    rcases hb with hb|hb<;>rcases h1 with h1|h1<;>rw[hb] at h1<;>injection h1 with h1
    ·rw[h1]
    ·rw[h1]
    ·rw[←h1]
    ·have:b.xs=c.xs∧b.d=c.d∧b.ro=c.ro:=by injection h1 with q1 q2 q3; exact⟨q1,q2,q3⟩
     obtain⟨q1,q2,q3⟩:=this
     rw[q1,q2,q3]
   ·rw[upd_ne _ _ _ hi]; exact h1
  refine⟨G2,s2,e1.trans e2,fun i h=>u1 i (u2 i h),m2.trans m1,fun p hp blk s hbm o ho=>?_⟩
  rcases List.mem_cons.1 hp with rfl|hp
  ·exact e2.fz _ _ (k1 blk s hbm o ho)
  ·exact k2 p hp blk s (by rw[m1]; exact hbm) o ho
end
theorem appl_wrF_out{bx:Nat→Option Bx}{y:Nat}:∀{l:List (Nat×Bx)},(∀q∈l,q.1≠y)→appl bx (wrF l) y=bx y
 | [],_=>rfl
 | (i,b)::l,h=>by
  simp only[wrF,appl]
  rw[appl_wrF_out (l:=l) fun q hq=>h q (List.mem_cons_of_mem _ hq)]
  exact upd_ne _ _ _ (fun e=>h (i,b) (List.mem_cons_self ..) e.symm)
theorem hasKey_iff{y:Nat}:∀{l:List (Nat×Option Bx)},hasKey y l↔∃q∈l,q.1=y
 | []=>by simp[hasKey]
 | (i,b)::l=>by
  simp only[hasKey,hasKey_iff (l:=l),List.mem_cons]
  constructor
  ·rintro (rfl|⟨q,hq,rfl⟩)
   ·exact⟨_,.inl rfl,rfl⟩
   ·exact⟨q,.inr hq,rfl⟩
  ·rintro⟨q,rfl|hq,rfl⟩
   ·exact .inl rfl
   ·exact .inr ⟨q,hq,rfl⟩
theorem bk_key{y:Nat}{b:Bx}:∀{l:List (Nat×Option Bx)},bk l y=some b→hasKey y l
 | [],h=>by cases h
 | (i,c)::l,h=>by
  simp only[bk] at h
  split at h
  ·rename_i e; exact .inl e
  ·exact .inr (bk_key h)
section
variable {E:Env} {σ:St}
theorem Conv.deep(n:Nat)(L:List (Nat×Bx)){x y:AV}(hx:lk σ.fr n=some (true,x))(hL:∀q∈L,bk σ.bx q.1=some q.2∧q.2.ro=false)(hr:Rd L x y)(hown:∀q∈σ.bx,E.n0≤q.1):Conv E σ ⟨(n,true,y)::σ.fr,[],σ.k⟩:=fun G a w hD=>by
 have hLo:Has (ov E.β σ.bx) L:=fun q hq=>ov_bk E.β (hL q hq).1
 obtain⟨G1,q1,q2,q3,q4,q5⟩:=freezeZ L hD.rs fun q hq=>⟨.inl (hLo q hq),(hL q hq).2⟩
 have hxr':RV G1 w y (a.tmps.getD n undef):=tree_read hD.rs hLo q2 q5 hr ((hD.fr n true x hx).1 rfl)
 have hlo:∀z,hasKey z σ.bx→E.n0≤z:=fun z hz=>by obtain⟨q,hq,rfl⟩:=hasKey_iff.1 hz; exact hown q hq
 refine⟨G1,hD.ev.trans q2,?_,fun id h=>hD.used id (q3 id h),fun id hi h=>hD.old id hi (q3 id h),fun m c v hm=>?_,hD.size,hD.defers⟩
 ·refine RS.weak q1 fun id b hb=>?_
  have hb:E.β id=some b:=hb
  have hlt:id<E.n0:=by
   rcases Nat.lt_or_ge id E.n0 with h|h
   ·exact h
   ·rw[E.own id h] at hb; cases hb
  rw[appl_wrF_out fun q hq e=>by
   have:=hlo q.1 (bk_key (hL q hq).1)
   omega]
  rw[ov_nokey fun h=>by have:=hlo id h; omega]
  exact hb
 ·simp only[lk] at hm
  split at hm
  ·rename_i he
   subst he
   simp only[Option.some.injEq,Prod.mk.injEq] at hm
   obtain⟨rfl,rfl⟩:=hm
   exact⟨fun _=>hxr',fun h=>by cases h⟩
  ·exact⟨fun hc=>((hD.fr m c v hm).1 hc).mono q2,(hD.fr m c v hm).2⟩
end
theorem FnOk.more{P:Program}{f:Nat}{args:List AV}{rd rd':List (Nat×Bx)}{id:Nat}{res:AV}{wr:List (Nat×Option Bx)}(h:FnOk P f args rd id res wr)(hm:∀q∈rd,q∈rd'):FnOk P f args rd' id res wr :=
 ⟨h.1,fun C G bx w vs nb hs hv hh hnb hid=>h.2 C G bx w vs nb hs hv (fun q hq=>hh q (hm q hq)) hnb hid⟩
theorem HasL.of{B:Nat→Option Bx}:∀{l:List (Nat×Bx)},Has B l→HasL B l
 | [],_=>trivial
 | (i,b)::l,h=>⟨h (i,b) (List.mem_cons_self ..),HasL.of fun q hq=>h q (List.mem_cons_of_mem _ hq)⟩
theorem bk_addW:∀(wr l:List (Nat×Option Bx)),bk (addW l wr)=appl (bk l) wr
 | [],_=>rfl
 | (i,b)::r,l=>by
  rw[addW,bk_addW r]
  rfl
theorem fn_okB0{P:Program}{f:Nat}{fn:Func}{c:Code}{crs:List CRes}{args:List AV}{rd:List (Nat×Bx)}{id:Nat}{res:AV}{wr:List (Nat×Option Bx)}
  (hf : P.funcs[f]? = some fn) (hb : fn.body = some c) (hnm : (fn.name == "runtime.NumGoroutine") = false) (hrs : compRes P fn.results.toList = some crs) (hN : args.length ≤ fn.ntmps)
  (h:∀E:Env,E.P=P→E.N=fn.ntmps→E.Rt=RtOk E.n0 id E.G0.used crs rd res wr→(∀q∈rd,q.1<E.n0∧(q.1<id∨id+1024≤q.1))→id+1024≤E.n0→Has E.β rd→(∀z,E.G0.used z→z<id∨id+1024≤z)→Wk E [.code (compC P fn.ntmps c)] ⟨frOf 0 args,someL rd,0⟩):FnOk P f args rd id res wr :=
 fn_core (o:=.ok (res,wr)) (fun n0 S=>RtOk n0 id S crs rd res wr) (fun _ _ _=>False) hf hb hnm hrs hN (fun _ _ _ h=>⟨_,rfl,h⟩) (fun _ _ _ h=>h.elim) fun E h1 h2 h3 _ h5 h6 h7 h8=>h E h1 h2 h3 h5 h6 h7 h8
theorem fn_okb{P:Program}{f:Nat}{fn:Func}{cc:CC}{crs:List CRes}{args:List AV}{rd:List (Nat×Bx)}{id:Nat}{res:AV}{wr:List (Nat×Option Bx)}
  (hf : P.funcs[f]? = some fn) (hcc : fn.body.map (compC P fn.ntmps) = some cc) (hnm : (fn.name == "runtime.NumGoroutine") = false) (hrs : compRes P fn.results.toList = some crs) (hN : args.length ≤ fn.ntmps)
  (h:∀E:Env,E.P=P→E.Rt=RtOk E.n0 id E.G0.used crs rd res wr→(∀q∈rd,q.1<E.n0∧(q.1<id∨id+1024≤q.1))→id+1024≤E.n0→Has E.β rd→(∀z,E.G0.used z→z<id∨id+1024≤z)→Wk E [.code cc] ⟨frOf 0 args,someL rd,0⟩):FnOk P f args rd id res wr:=by
 obtain⟨c,hb,rfl⟩:=Option.map_eq_some_iff.1 hcc
 exact fn_okB0 hf hb hnm hrs hN fun E h1 _ h3 h4 h5 h6 h7=>h E h1 h3 h4 h5 h6 h7
section
variable {E:Env} {σ:St}
theorem old_names{rd:List (Nat×Bx)}(hh:Has E.β rd){j:Nat}{b:Bx}(h:(j,b)∈rd):∀x∈b.xs,namesIn E.G0.used x:=fun x hx=>by
 obtain⟨i,hi⟩:=List.mem_iff_getElem?.1 hx
 exact (E.rs0.boxNames (hh _ h)).2 i x hi
theorem old_fix{id:Nat}(hu:∀z,E.G0.used z→z<id∨id+1024≤z){n:Nat}{rn:List (Nat×Nat)}{hrn:rnOk rn}(hk:∀z,z<E.n0→(z<id∨id+1024≤z)→lkN rn z=none):∀z,E.G0.used z→(mkRn n rn hrn).fix E.G0.used z:=fun z hz=>by
 rcases rnF_old (n0:=n) (hk z (E.old z hz) (hu z hz)) with h|h
 ·exact .inr ⟨h,hz⟩
 ·exact .inl h
theorem renR_old{id:Nat}(hu:∀z,E.G0.used z→z<id∨id+1024≤z){n:Nat}{rn:List (Nat×Nat)}{hrn:rnOk rn}{x:AV}(hx:namesIn E.G0.used x)(hk:∀z,z<E.n0→(z<id∨id+1024≤z)→lkN rn z=none):RenR (mkRn n rn hrn) E.G0.used x x :=
 .same x (namesIn_mono (old_fix hu hk) x hx)
theorem renL_old{id:Nat}(hu:∀z,E.G0.used z→z<id∨id+1024≤z){n:Nat}{rn:List (Nat×Nat)}{hrn:rnOk rn}(hk:∀z,z<E.n0→(z<id∨id+1024≤z)→lkN rn z=none):∀{l:List AV},(∀x∈l,namesIn E.G0.used x)→RenL (mkRn n rn hrn) E.G0.used l l
 | [],_=>.nil
 | x::l,h=>.cons x x l l (renR_old hu (h x (List.mem_cons_self ..)) hk) (renL_old hu hk fun y hy=>h y (List.mem_cons_of_mem _ hy))
end
theorem FnOk.nil{P:Program}{f:Nat}{z:AV}{args:List AV}{rd:List (Nat×Bx)}{id:Nat}{res:AV}{wr:List (Nat×Option Bx)}
  (h:∀T,(∀q∈rd,q.1≠T)→(T<id∨id+1024≤T)→FnOk P f (.bsl T 0 0::args) ((T,⟨[],z,false,false⟩)::rd) id res ((T,none)::wr))
  (hw:∀q∈wr,(id≤q.1∧q.1<id+1024)∧∀b,q.2=some b→∀x∈b.xs,x.pureB=true) (hr:namesIn (fun x=>id≤x∧x<id+1024) res):FnOk P f (.nils::args) rd id res wr:=by
 obtain⟨T0,hT0⟩:∃T0,∀q∈rd,q.1<T0:=by
  clear h hw hr
  induction rd with
  | nil=>exact⟨0,fun q hq=>(by cases hq)⟩
  | cons p l ih =>
   obtain⟨T1,h1⟩:=ih
   exact⟨max T1 (p.1+1),fun q hq=>by
    rcases List.mem_cons.1 hq with rfl|hq
    ·omega
    ·have:=h1 q hq; omega⟩
 refine⟨(h (id+1024+T0) (fun q hq=>by have:=hT0 q hq; omega) (by omega)).1,fun C G bx w vs nb hs hv hh hnb hid=>?_⟩
 let T:=max nb (id+1024)
 have hT:¬G.used T:=hnb T (Nat.le_max_left ..)
 have hlt:∀x,G.used x→x<T:=fun x hx=>by
  rcases Nat.lt_or_ge x nb with h|h
  ·exact Nat.lt_of_lt_of_le h (Nat.le_max_left ..)
  ·exact (hnb x h hx).elim
 obtain⟨r1,r2,r3⟩:=hs.void hT z false
 have hu1:∀x,(G.void T).used x→x=T∨G.used x:=fun x hx=>hx
 have hne:∀q∈rd,q.1≠T:=fun q hq e=>hT (e▸(hs.boxNames (hh q hq)).1)
 obtain⟨hl,hvv⟩:=hv
 obtain⟨_,hc⟩:=h T hne (.inr (Nat.le_max_right ..))
 have hv':RVs (G.void T) w (.bsl T 0 0::args) vs:=⟨hl,fun i y hy=>by
  cases i with
  | zero =>
   simp only[List.getElem?_cons_zero,Option.some.injEq] at hy
   subst hy
   have:=hvv 0 .nils rfl
   generalize vs.getD 0 undef=u at this ⊢
   cases this
   exact r3
  | succ i=>exact (hvv (i+1) y (by simpa using hy)).mono r2⟩
 have hh':Has (upd bx T (some ⟨[],z,false,false⟩)) ((T,⟨[],z,false,false⟩)::rd):=fun q hq=>by
  rcases List.mem_cons.1 hq with rfl|hq
  ·exact upd_eq ..
  ·rw[upd_ne _ _ _ (hne q hq)]; exact hh q hq
 refine Calls.mono (hc C (G.void T) _ w vs (T+1) r1 hv' hh' (fun x hx hux=>?_) (fun x h1 h2 hux=>?_)) fun e w' hq=>?_
 ·rcases hu1 x hux with rfl|h'
  ·omega
  ·have:=hlt x h'; omega
 ·rcases hu1 x hux with e|h'
  ·have:id+1024≤T:=Nat.le_max_right ..
   omega
  ·exact hid x h1 h2 h'
 obtain⟨v,G',rfl,s1,e1,q1,u1⟩:=hq
 have hbT:bx T=none:=by
  cases hb:bx T with
  | none=>rfl
  | some b=>exact (hT (hs.boxNames hb).1).elim
 have hupd:upd (upd bx T (some ⟨[],z,false,false⟩)) T none=bx:=by
  funext y
  by_cases hy:y=T
  ·subst hy; rw[upd_eq,hbT]
  ·rw[upd_ne _ _ _ hy,upd_ne _ _ _ hy]
 have s2:RS C G' (appl bx wr) w':=by
  have:=s1
  simp only[appl] at this
  rw[hupd] at this
  exact this
 have hρ:∀x,x<T→(mkRn T [] trivial).ρ x=some x:=fun x hx=>by
  show rnF T [] x=some x
  unfold rnF
  simp[lkN,goneN,hx]
 have hid':id+1024≤T:=Nat.le_max_right ..
 have hfix:∀x,G.used x→(mkRn T [] trivial).ρ x=some x∨(mkRn T [] trivial).ρ x=none:=fun x hx=>.inl (hρ x (hlt x hx))
 refine⟨v,G'.ren (mkRn T [] trivial) G.used,rfl,s2.ren fun y b' hy=>?_,Evo.ren (r2.trans e1) hfix,q1.ren (.same _ (namesIn_mono (fun z hz=>.inl (hρ z (by omega))) _ hr)),fun y hy=>?_⟩
 ·by_cases hk:y∈keysW wr
  ·have hlt':y<T:=by
    obtain⟨q,hq,rfl⟩:∃q∈wr,q.1=y:=by
     have:∀l:List (Nat×Option Bx),y∈keysW l→∃q∈l,q.1=y:=fun l=>by
      induction l with
      | nil=>intro h; cases h
      | cons p l ih =>
       intro h
       obtain⟨i,b⟩:=p
       rcases List.mem_cons.1 h with rfl|h
       ·exact⟨_,List.mem_cons_self ..,rfl⟩
       ·obtain⟨q,h1,h2⟩:=ih h; exact⟨q,List.mem_cons_of_mem _ h1,h2⟩
     exact this wr hk
    have:=(hw q hq).1; omega
   refine⟨y,b',hρ y hlt',hy,BxR.same fun i x hx=>?_⟩
   have hq:∀(l:List (Nat×Option Bx)) (B:Nat→Option Bx),y∈keysW l→appl B l y=some b'→∃q∈l,q.2=some b':=fun l=>by
    induction l with
    | nil=>intro B h; cases h
    | cons p l ih =>
     intro B h1 h2
     obtain⟨i',b⟩:=p
     by_cases hk':y∈keysW l
     ·obtain⟨q,g1,g2⟩:=ih (upd B i' b) hk' h2
      exact⟨q,List.mem_cons_of_mem _ g1,g2⟩
     ·rcases List.mem_cons.1 h1 with rfl|h1
      ·simp only[appl] at h2
       rw[appl_out hk',upd_eq] at h2
       exact⟨_,List.mem_cons_self ..,h2⟩
      ·exact (hk' h1).elim
   obtain⟨q,hqm,hqb⟩:=hq wr bx hk hy
   exact namesIn_pure _ ((hw q hqm).2 b' hqb x (List.mem_of_getElem? hx))
  ·rw[appl_out hk] at hy
   have hub:=hs.boxNames hy
   exact⟨y,b',hρ y (hlt y hub.1),by rw[appl_out hk]; exact hy,BxR.same fun i x hx=>namesIn_mono (fun z hz=>.inl (hρ z (hlt z hz))) x (hub.2 i x hx)⟩
 ·rcases hy with⟨x,hx,hu⟩|hy
  ·have hx':rnF T [] y=some x:=hx
   unfold rnF at hx'
   simp only[lkN,goneN] at hx'
   split at hx'
   ·rename_i hyT
    simp at hx'
    subst hx'
    rcases u1 _ hu with h1|h1
    ·rcases hu1 _ h1 with e|h1
     ·omega
     ·exact .inl h1
    ·exact .inr h1
   ·cases hx'
  ·exact .inl hy
end Go.Am
namespace Go.Am
set_option linter.all false
open Go Go.RowKit
set_option linter.all false
theorem ov_key{β:Nat→Option Bx}{y:Nat}:∀{l:List (Nat×Option Bx)},hasKey y l→ov β l y=bk l y
 | [],h=>h.elim
 | (i,b)::l,h=>by
  simp only[ov,bk]
  by_cases e:y=i
  ·subst e; rw[upd_eq,if_pos rfl]
  ·rw[upd_ne _ _ _ e,if_neg e]
   exact ov_key (h.resolve_left e)
structure Kept(n0:Nat)(L:List (Nat×Bx))(bx M:List (Nat×Option Bx)):Prop where
 kept:∀y b,bk M y=some b→bk bx y=some b∧∀q∈L,q.1≠y
 cov:∀q∈bx,n0≤q.1∨hasKey q.1 M
section
variable {E:Env} {σ:St}
theorem Kept.weak{L:List (Nat×Bx)}{bx M:List (Nat×Option Bx)}(h:Kept E.n0 L bx M)(hL:∀q∈L,bk bx q.1=some q.2){y:Nat}{b:Bx}(hb:ov E.β M y=some b):appl (ov E.β bx) (wrF L) y=some b:=by
 by_cases hk:hasKey y M
 ·rw[ov_key hk] at hb
  obtain⟨h1,h2⟩:=h.kept y b hb
  rw[appl_wrF_out h2]
  exact ov_bk E.β h1
 ·rw[ov_nokey hk] at hb
  have hlt:y<E.n0:=by
   rcases Nat.lt_or_ge y E.n0 with h|h
   ·exact h
   ·rw[E.own y h] at hb; cases hb
  have hno:¬hasKey y bx:=fun h'=>by
   obtain⟨q,hq,rfl⟩:=hasKey_iff.1 h'
   rcases h.cov q hq with h1|h1
   ·omega
   ·exact hk h1
  rw[appl_wrF_out fun q hq e=>by subst e; exact hno (bk_key (hL q hq)),ov_nokey hno]
  exact hb
theorem Conv.deepL(n:Nat)(L:List (Nat×Bx))(M:List (Nat×Option Bx)){x y:AV}(hx:lk σ.fr n=some (true,x))(hL:∀q∈L,bk σ.bx q.1=some q.2∧q.2.ro=false)(hr:Rd L x y)(hK:Kept E.n0 L σ.bx M):Conv E σ ⟨(n,true,y)::σ.fr,M,σ.k⟩:=fun G a w hD=>by
 have hLo:Has (ov E.β σ.bx) L:=fun q hq=>ov_bk E.β (hL q hq).1
 obtain⟨G1,q1,q2,q3,q4,q5⟩:=freezeZ L hD.rs fun q hq=>⟨.inl (hLo q hq),(hL q hq).2⟩
 have hxr':RV G1 w y (a.tmps.getD n undef):=tree_read hD.rs hLo q2 q5 hr ((hD.fr n true x hx).1 rfl)
 refine⟨G1,hD.ev.trans q2,RS.weak q1 fun id b hb=>hK.weak (fun q hq=>(hL q hq).1) hb,fun id h=>hD.used id (q3 id h),fun id hi h=>hD.old id hi (q3 id h),fun m c v hm=>?_,hD.size,hD.defers⟩
 simp only[lk] at hm
 split at hm
 ·rename_i he
  subst he
  simp only[Option.some.injEq,Prod.mk.injEq] at hm
  obtain⟨rfl,rfl⟩:=hm
  exact⟨fun _=>hxr',fun h=>by cases h⟩
 ·exact⟨fun hc=>((hD.fr m c v hm).1 hc).mono q2,(hD.fr m c v hm).2⟩
theorem Conv.deepBox(j:Nat)(L:List (Nat×Bx))(M:List (Nat×Option Bx)){b:Bx}{x y:AV}(hb:bk σ.bx j=some b)(hx:b.xs=[x])(hc:x.cells.length=y.cells.length)(hr:∀(m:Nat) c d,x.cells[m]?=some c→y.cells[m]?=some d→Rd L c d)
  (hL:∀q∈L,bk σ.bx q.1=some q.2∧q.2.ro=false) (hK:Kept E.n0 L σ.bx M) (hj:∀q∈L,q.1≠j):Conv E σ ⟨σ.fr,(j,some { b with xs:=[y] })::M,σ.k⟩:=fun G a w hD=>by
 have hLo:Has (ov E.β σ.bx) L:=fun q hq=>ov_bk E.β (hL q hq).1
 obtain⟨G1,q1,q2,q3,q4,q5⟩:=freezeZ L hD.rs fun q hq=>⟨.inl (hLo q hq),(hL q hq).2⟩
 have hbj:=ov_bk E.β hb
 have hK':Kept E.n0 L σ.bx ((j,some b)::M):=⟨fun z c hz=>by
  simp only[bk] at hz
  split at hz
  ·rename_i e; subst e; injection hz with hz; subst hz; exact⟨hb,hj⟩
  ·exact hK.kept z c hz,fun q hq=>(hK.cov q hq).imp _root_.id .inr⟩
 have r1:RS E.C G1 (ov E.β ((j,some b)::M)) w:=RS.weak q1 fun id b hb=>hK'.weak (fun q hq=>(hL q hq).1) hb
 have hbj1:ov E.β ((j,some b)::M) j=some b:=by simp only[ov,upd_eq]
 have r4:RS E.C G1 (ov E.β ((j,some { b with xs:=[y] })::M)) w:=by
  refine⟨r1.below,r1.size,r1.fzok,r1.fzold,fun i b' hi hn=>?_,fun i b' hi hn=>?_,r1.nlu,r1.used,r1.inj,r1.rows⟩
  ·by_cases hij:i=j
   ·subst hij
    simp only[ov,upd_eq,Option.some.injEq] at hi
    subst hi
    obtain⟨blk,s,cur,e,k1,k2,k3,k4,k5,k6,k7⟩:=r1.box i b hbj1 hn
    have hn0:¬G.nl i:=hD.rs.lies hbj (i:=0) (y:=x) (by rw[hx]; rfl)
    obtain⟨blk',s',cur',e',m1,m2,m3,m4,m5,m6,m7⟩:=hD.rs.box i b hbj hn0
    rw[q4,m1] at k1
    injection k1 with k1
    injection k1 with e1 e2
    subst e1 e2
    rw[m2] at k2
    injection k2 with k2
    injection k2 with e1 e2
    subst e1 e2
    have hlen:b.xs.length=1:=by rw[hx]; rfl
    refine⟨blk',s',cur',e',by rw[q4]; exact m1,m2,k3,⟨k4.1,by have:=k4.2; rw[hlen] at this; exact this⟩,fun i' y' hy'=>?_,k6,by have:=k7; rw[hlen] at this; exact this⟩
    cases i' with
    | succ i'=>simp at hy'
    | zero =>
     simp only[List.getElem?_cons_zero,Option.some.injEq] at hy'
     subst hy'
     obtain⟨d1,d2⟩:=m5 0 x (by rw[hx]; rfl)
     refine⟨hc.symm.trans d1,fun m z hz=>?_⟩
     obtain⟨z0,hz0⟩:∃z0,x.cells[m]?=some z0:=⟨_,List.getElem?_eq_getElem (by rw[hc]; exact (List.getElem?_eq_some_iff.1 hz).1)⟩
     obtain⟨u,hu1,hu2⟩:=d2 m z0 hz0
     exact⟨u,hu1,tree_read hD.rs hLo q2 q5 (hr m z0 z hz0 hz) hu2⟩
   ·simp only[ov,upd_ne _ _ _ hij] at hi
    exact r1.box i b' (by simp only[ov,upd_ne _ _ _ hij]; exact hi) hn
  ·by_cases hij:i=j
   ·subst hij
    exfalso
    have:=(r1.nil i b hbj1 hn).1
    rw[hx] at this; cases this
   ·simp only[ov,upd_ne _ _ _ hij] at hi
    exact r1.nil i b' (by simp only[ov,upd_ne _ _ _ hij]; exact hi) hn
 exact⟨G1,hD.ev.trans q2,r4,fun id h=>hD.used id (q3 id h),fun id hi h=>hD.old id hi (q3 id h),fun m c v hm=>⟨fun hc=>((hD.fr m c v hm).1 hc).mono q2,(hD.fr m c v hm).2⟩,hD.size,hD.defers⟩
theorem Conv.stay{σ':St}(hk:σ.k≤σ'.k)(hf:∀n c v,lk σ'.fr n=some (c,v)→lk σ.fr n=some (c,v))(hb:∀y b,bk σ'.bx y=some b→bk σ.bx y=some b)(hc:∀q∈σ.bx,E.n0≤q.1∨hasKey q.1 σ'.bx):Conv E σ σ':=fun G a w hD=>by
 have hK:Kept E.n0 [] σ.bx σ'.bx:=⟨fun y b h=>⟨hb y b h,fun q hq=>by cases hq⟩,hc⟩
 exact⟨G,hD.ev,RS.weak hD.rs fun id b h=>hK.weak (fun q hq=>by cases hq) h,fun id h=>by have:=hD.used id h; omega,hD.old,fun n c v h=>hD.fr n c v (hf n c v h),hD.size,hD.defers⟩
end
def goneL(rd:List (Nat×Bx)):List (Nat×Option Bx):=rd.map fun q=>(q.1,none)
theorem bk_goneL(rd:List (Nat×Bx))(y:Nat):bk (goneL rd) y=none:=by
 induction rd with
 | nil=>rfl
 | cons q l ih =>
  simp only[goneL,List.map_cons,bk] at ih ⊢
  split
  ·rfl
  ·exact ih
theorem hasKey_goneL{rd:List (Nat×Bx)}{q:Nat×Bx}(h:q∈rd):hasKey q.1 (goneL rd):=hasKey_iff.2 ⟨(q.1,none),List.mem_map.2 ⟨q,h,rfl⟩,rfl⟩
theorem appl_goneL{f:Nat→Option Bx}{y:Nat}:∀{rd:List (Nat×Bx)},(y∈rd.map Prod.fst∨f y=none)→appl f (goneL rd) y=none
 | [],h=>by
  rcases h with h|h
  ·cases h
  ·exact h
 | q::l,h=>by
  show appl (upd f q.1 none) (goneL l) y=none
  refine appl_goneL ?_
  by_cases e:y=q.1
  ·right; rw[e,upd_eq]
  ·rcases h with h|h
   ·rcases List.mem_cons.1 h with h|h
    ·exact (e h).elim
    ·exact .inl h
   ·right; rw[upd_ne _ _ _ e]; exact h
theorem finB_none{R:Rn}{S:Nat→Prop}{bx':List (Nat×Option Bx)}{fin:Nat→Option Bx}:∀{l:List Nat},(∀y∈l,fin y=none)→FinB R S bx' fin l
 | [],_=>trivial
 | y::l,h=>⟨by rw[h y (List.mem_cons_self ..)]; trivial,finB_none fun z hz=>h z (List.mem_cons_of_mem _ hz)⟩
theorem freshL_gone{id:Nat}{rd':List (Nat×Option Bx)}:∀{rd:List (Nat×Bx)},(∀q∈rd,hasKey q.1 rd')→freshL id rd' (goneL rd)
 | [],_=>trivial
 | q::l,h=>⟨.inl (h q (List.mem_cons_self ..)),freshL_gone fun z hz=>h z (List.mem_cons_of_mem _ hz)⟩
theorem dropOk_of{n0:Nat}{bx':List (Nat×Option Bx)}:∀{l:List (Nat×Option Bx)},(∀q∈l,n0≤q.1∨hasKey q.1 bx')→DropOk n0 bx' l
 | [],_=>trivial
 | (x,b)::l,h=>⟨h _ (List.mem_cons_self ..),dropOk_of fun q hq=>h q (List.mem_cons_of_mem _ hq)⟩
theorem end_moved{n0 id:Nat}{S:Nat→Prop}{rd:List (Nat×Bx)}{res:AV}{vs:List AV}{bx':List (Nat×Option Bx)}(h:tupOf vs=res)(hp:res.pureB=true)(hd:∀q∈bx',n0≤q.1∨q.1∈rd.map Prod.fst):EndP n0 id S rd res (goneL rd) vs bx' [] trivial:=by
 have hkey:∀y,y∈rd.map Prod.fst→hasKey y (someL rd):=fun y hy=>by
  obtain⟨q,hq,rfl⟩:=List.mem_map.1 hy
  exact hasKey_someL.2 (List.mem_map.2 ⟨q,hq,rfl⟩)
 refine⟨by rw[h]; exact .same _ (namesIn_pure _ hp),finB_none fun y hy=>appl_goneL (.inl ?_),dropOk_of fun q hq=>(hd q hq).imp _root_.id (hkey _),freshL_gone fun q hq=>hkey _ (List.mem_map.2 ⟨q,hq,rfl⟩),trivial,trivial⟩
 rcases List.mem_append.1 hy with hy|hy
 ·exact hy
 ·simpa [keysW,goneL] using hy
end Go.Am
