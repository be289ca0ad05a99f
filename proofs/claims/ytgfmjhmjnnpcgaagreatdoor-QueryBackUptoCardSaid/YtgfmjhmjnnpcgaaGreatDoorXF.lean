/- Parts of the proof: an abstract machine for Go functions, and what functions of the program give back (Am45, Am46, Am47, Am48, Am49, Am50, Am51, Am52, Am53). No condition. -/
import Derived.Test.YtgfmjhmjnnpcgaaGreatDoorXE
import Derived.Below
namespace Go.Am
set_option linter.all false
open Go Go.RowKit
set_option linter.all false
section
variable {E:Env} {σ:St} {k:List Itm}
theorem wk_mono(i:Itm){k1 k2:List Itm}(h1:∀σ,Wk E k1 σ→Wk E k2 σ)(h2:∀id σ,Wx E id k1 σ→Wx E id k2 σ)(h:Wk E (i::k1) σ):Wk E (i::k2) σ:=by
 cases i with
 | blk id=>exact h1 σ h
 | post p=>exact h
 | code cc =>
  intro c hc G a w hD
  refine wp_mono (h c hc G a w hD) fun e a' w' hq=>?_
  cases e with
  | normal=>obtain⟨σ',G',q1,q2⟩:=hq; exact⟨σ',G',q1,h1 _ q2⟩
  | exit id=>obtain⟨σ',G',q1,q2⟩:=hq; exact⟨σ',G',q1,h2 _ _ q2⟩
  | _=>exact hq
 | ops crs j acc ps =>
  rcases h with⟨rs,q1,q2,q3⟩|h
  ·exact .inl ⟨rs,q1,q2,h1 _ q3⟩
  ·exact .inr h
theorem w_cutS{i:Itm}{y z:CC}{X:Type}(inv:X→St)(ok:X→Prop)(h:∀p:St→Prop,(∀σ' x,ok x→Conv E σ' (inv x)→p σ')→Wk E (i::.code y::.post p::k) σ)
  (hk:∀x,ok x→Wk E (.code z::k) (inv x)):Wk E (i::.code (.seq y z)::k) σ:=by
 refine wk_mono i (k1:=.code y::.post (fun σ'=>∃x,ok x∧Conv E σ' (inv x))::k) (fun σ1 q=>?_) (fun id σ1 q=>q) (h (fun σ'=>∃x,ok x∧Conv E σ' (inv x)) (fun σ' x h1 h2=>⟨x,h1,h2⟩))
 refine w_seq (fun c hc G a w hD=>?_)
 refine wp_mono (q c hc G a w hD) fun e a' w' hq=>?_
 cases e with
 | normal =>
  obtain⟨σ',G',h1,x,h2,h3⟩:=hq
  obtain⟨G2,h4⟩:=h3 G' a' w' h1
  exact⟨inv x,G2,h4,hk x h2⟩
 | _=>exact hq
end
end Go.Am
namespace Go.Am
set_option linter.all false
open Go Go.RowKit
set_option linter.all false
mutual
def AV.nrm:AV→AV
 | .nils=>.sl []
 | .sl xs=>.sl (nrmL xs)
 | .agg cs=>.agg (nrmL cs)
 | .tup cs=>.tup (nrmL cs)
 | .int k n=>.int k n
 | .bool b=>.bool b
 | .str s=>.str s
 | .nilp=>.nilp
 | .ptr a b c=>.ptr a b c
 | .cptr cs=>.cptr cs
 | .bsl a b c=>.bsl a b c
 | .fn f cs=>.fn f cs
 | .fnb f cs=>.fnb f cs
 | .nilf=>.nilf
 | .iface t v=>.iface t v
 | .nili=>.nili
def nrmL:List AV→List AV
 | []=>[]
 | x::l=>x.nrm::nrmL l
end
theorem nrmL_map:∀l:List AV,nrmL l=l.map AV.nrm
 | []=>rfl
 | x::l=>by simp[nrmL,nrmL_map l]
theorem nrm_cells(x:AV):x.nrm.cells=x.cells.map AV.nrm:=by
 cases x<;>simp[AV.nrm,AV.cells,nrmL_map]
theorem nil_sl{G:Gh}{w:World}:RV G w (.sl []) (.slice none 0 0) :=
 .sl [] none 0 0 (fun _ _=>undef) (Nat.le_refl _) (by simp[maxLen]) (fun _=>⟨rfl,rfl⟩) (fun i x hi=>by simp at hi) (fun a i x j y _ hi=>by simp at hi) (fun a i x j y _ hi=>by simp at hi) (fun i x j y hi=>by simp at hi)
theorem map_get{l:List AV}{i:Nat}{y:AV}(h:(l.map AV.nrm)[i]?=some y):∃x,l[i]?=some x∧y=x.nrm:=by
 rw[List.getElem?_map] at h
 cases hx:l[i]? with
 | none=>rw[hx] at h; cases h
 | some x=>rw[hx] at h; exact⟨x,rfl,(Option.some.inj h).symm⟩
theorem RV.nrm{G:Gh}{w:World}{x:AV}{v:Value}(h:RV G w x v):RV G w x.nrm v:=by
 induction h with
 | int k n=>exact .int k n
 | bool b=>exact .bool b
 | str s=>exact .str s
 | nilp=>exact .nilp
 | ptr id i off v ho hu hb=>exact .ptr id i off v ho hu hb
 | cptr cs a u h1 h2 h3 ih=>exact .cptr cs a u h1 h2 h3
 | nils=>exact nil_sl
 | sl xs A c s u hc hm hn hs h1 h2 h3 ih =>
  have e:xs.length=(xs.map AV.nrm).length:=by simp
  simp only[AV.nrm,nrmL_map]
  rw[e]
  refine .sl (xs.map AV.nrm) A c s u (by rw[←e]; exact hc) hm (fun ha=>by rw[(hn ha).1]; exact⟨rfl,(hn ha).2⟩) (fun i x hx=>?_) (fun a i x j y ha hx hy=>?_) (fun a i x j y ha hx hy=>?_) (fun i x j y hx hy=>?_)
  ·obtain⟨x0,hx0,rfl⟩:=map_get hx
   rw[nrm_cells,List.length_map]; exact hs i x0 hx0
  ·obtain⟨x0,hx0,rfl⟩:=map_get hx
   rw[nrm_cells] at hy
   obtain⟨y0,hy0,rfl⟩:=map_get hy
   exact h1 a i x0 j y0 ha hx0 hy0
  ·obtain⟨x0,hx0,rfl⟩:=map_get hx
   rw[nrm_cells] at hy
   obtain⟨y0,hy0,rfl⟩:=map_get hy
   exact h2 a i x0 j y0 ha hx0 hy0
  ·obtain⟨x0,hx0,rfl⟩:=map_get hx
   rw[nrm_cells] at hy
   obtain⟨y0,hy0,rfl⟩:=map_get hy
   exact ih i x0 j y0 hx0 hy0
 | bsl id off len v ho hu hb hn=>exact .bsl id off len v ho hu hb hn
 | fn f caps vs hl h ih=>exact .fn f caps vs hl h
 | fnb f caps vs hl h ih=>exact .fnb f caps vs hl h
 | nilf=>exact .nilf
 | iface t x v h ih=>exact .iface t x v h
 | nili=>exact .nili
 | agg cs vs hl h ih =>
  simp only[AV.nrm,nrmL_map]
  refine .agg _ vs (by rw[List.length_map]; exact hl) fun i y hy=>?_
  obtain⟨x0,hx0,rfl⟩:=map_get hy
  exact ih i x0 hx0
 | tup cs vs hl h ih =>
  simp only[AV.nrm,nrmL_map]
  refine .tup _ vs (by rw[List.length_map]; exact hl) fun i y hy=>?_
  obtain⟨x0,hx0,rfl⟩:=map_get hy
  exact ih i x0 hx0
theorem FnOk.nrm{P:Program}{f:Nat}{args:List AV}{rd:List (Nat×Bx)}{id:Nat}{res:AV}{wr:List (Nat×Option Bx)}(h:FnOk P f args rd id res wr):FnOk P f args rd id res.nrm wr :=
 ⟨h.1,fun C G bx w vs nb hs hv hh hnb hid=>(h.2 C G bx w vs nb hs hv hh hnb hid).mono fun e w' ⟨v,G',h1,h2,h3,h4,h5⟩=>⟨v,G',h1,h2,h3,h4.nrm,h5⟩⟩
theorem FnOk.nrmA{P:Program}{f:Nat}{args:List AV}{rd:List (Nat×Bx)}{id:Nat}{res:AV}{wr:List (Nat×Option Bx)}(h:FnOk P f (nrmL args) rd id res wr):FnOk P f args rd id res wr:=by
 refine⟨h.1,fun C G bx w vs nb hs hv hh hnb hid=>h.2 C G bx w vs nb hs ⟨by rw[nrmL_map,List.length_map]; exact hv.1,fun i y hy=>?_⟩ hh hnb hid⟩
 rw[nrmL_map] at hy
 obtain⟨x0,hx0,rfl⟩:=map_get hy
 exact (hv.2 i x0 hx0).nrm
end Go.Am
namespace Go.Am
set_option linter.all false
open Go Go.RowKit
set_option linter.all false
section
variable {E:Env} {σ:St}
structure Aside(S:Nat→Prop)(tl:List (Nat×Option Bx)):Prop where
 keys:∀q∈tl,S q.1∧q.2.isSome=true
 nd:(tl.map Prod.fst).Nodup
 names:∀q∈tl,∀b,q.2=some b→∀x∈b.xs,namesIn S x
theorem Aside.nil(S:Nat→Prop):Aside S []:=⟨fun q hq=>(by cases hq),List.nodup_nil,fun q hq=>(by cases hq)⟩
theorem Aside.sub{A:Nat→Prop}{tl:List (Nat×Option Bx)}(h:Aside A tl){R:Rn}{S:Nat→Prop}{bx:List (Nat×Option Bx)}(hR:∀z,A z→R.ρ z=some z)(hb:∀y b,(y,some b)∈tl→Am.bk bx y=some b):SubB R S bx tl:=by
 have go:∀l:List (Nat×Option Bx),(∀q∈l,q∈tl)→SubB R S bx l:=by
  intro l
  induction l with
  | nil=>intro _; trivial
  | cons q l ih =>
   intro hl
   obtain⟨y,c⟩:=q
   have hm:=hl _ (List.mem_cons_self ..)
   have hk:=h.keys _ hm
   cases c with
   | none=>simp at hk
   | some b =>
    refine⟨⟨y,b,hR y hk.1,hb y b hm,BxR.same fun i x hx=>?_⟩,ih fun q hq=>hl q (List.mem_cons_of_mem _ hq)⟩
    exact namesIn_mono (fun z hz=>.inl (hR z hz)) x (h.names _ hm b rfl x (List.mem_of_getElem? hx))
 exact go tl fun q hq=>hq
theorem Aside.cons{S:Nat→Prop}{tl:List (Nat×Option Bx)}(h:Aside S tl){y:Nat}{b:Bx}(h1:S y)(h2:∀q∈tl,q.1≠y)(h3:∀x∈b.xs,namesIn S x):Aside S ((y,some b)::tl):=by
 refine⟨fun q hq=>?_,?_,fun q hq b' hb'=>?_⟩
 ·rcases List.mem_cons.1 hq with rfl|hq
  ·exact⟨h1,rfl⟩
  ·exact h.keys q hq
 ·rw[List.map_cons,List.nodup_cons]
  exact⟨fun hm=>by obtain⟨q,hq,e⟩:=List.mem_map.1 hm; exact h2 q hq e,h.nd⟩
 ·rcases List.mem_cons.1 hq with rfl|hq
  ·injection hb' with hb'; subst hb'; exact h3
  ·exact h.names q hq b' hb'
theorem Aside.append{S:Nat→Prop}{a b:List (Nat×Option Bx)}(ha:Aside S a)(hb:Aside S b)(hd:∀p∈a,∀p'∈b,p.1≠p'.1):Aside S (a++b):=by
 refine⟨fun q hq=>(List.mem_append.1 hq).elim (ha.keys q) (hb.keys q),?_,fun q hq=>(List.mem_append.1 hq).elim (ha.names q) (hb.names q)⟩
 rw[List.map_append,List.nodup_append]
 refine⟨ha.nd,hb.nd,fun x hx y hy=>?_⟩
 obtain⟨p,hp,rfl⟩:=List.mem_map.1 hx
 obtain⟨p',hp',rfl⟩:=List.mem_map.1 hy
 exact hd p hp p' hp'
theorem Aside.mono{S T:Nat→Prop}{a:List (Nat×Option Bx)}(h:Aside S a)(hST:∀z,S z→T z):Aside T a :=
 ⟨fun q hq=>⟨hST _ (h.keys q hq).1,(h.keys q hq).2⟩,h.nd,fun q hq b hb x hx=>namesIn_mono hST x (h.names q hq b hb x hx)⟩
theorem renL_app{R:Rn}{S:Nat→Prop}:∀{a b c d:List AV},RenL R S a b→RenL R S c d→RenL R S (a++c) (b++d)
 | [],[],_,_,_,h=>h
 | x::a,y::b,_,_,.cons _ _ _ _ h hl,h'=>.cons _ _ _ _ h (renL_app hl h')
end
end Go.Am
namespace Go.Am
set_option linter.all false
open Go Go.RowKit
set_option linter.all false
inductive Rd(L:List (Nat×Bx)):AV→AV→Prop
 | same (x:AV):Rd L x x
 | nils:Rd L .nils (.sl [])
 | bsl (id off len:Nat) (b:Bx) (ys:List AV) (hb:(id,b)∈L) (hle:off+len≤b.xs.length) (hl:ys.length=len)
   (hc:∀(i:Nat) x y,b.xs[off+i]?=some x→ys[i]?=some y→x.cells.length=y.cells.length)
   (h:∀(i:Nat) x y (j:Nat) c d,b.xs[off+i]?=some x→ys[i]?=some y→x.cells[j]?=some c→y.cells[j]?=some d→Rd L c d):Rd L (.bsl id off len) (.sl ys)
 | ptr (id:Nat) (b:Bx) (x:AV) (ds:List AV) (hb:(id,b)∈L) (hx:b.xs=[x]) (hl:ds.length=x.cells.length)
   (h:∀(j:Nat) c d,x.cells[j]?=some c→ds[j]?=some d→Rd L c d):Rd L (.ptr id 0 0) (.cptr ds)
 | agg (cs ds:List AV) (hl:cs.length=ds.length) (h:∀(i:Nat) c d,cs[i]?=some c→ds[i]?=some d→Rd L c d):Rd L (.agg cs) (.agg ds)
 | tup (cs ds:List AV) (hl:cs.length=ds.length) (h:∀(i:Nat) c d,cs[i]?=some c→ds[i]?=some d→Rd L c d):Rd L (.tup cs) (.tup ds)
 | fn (f:Nat) (cs ds:List AV) (hl:cs.length=ds.length) (h:∀(i:Nat) c d,cs[i]?=some c→ds[i]?=some d→Rd L c d):Rd L (.fn f cs) (.fn f ds)
theorem Rd.mono{L L':List (Nat×Bx)}(hL:∀q∈L,q∈L'){x y:AV}(h:Rd L x y):Rd L' x y:=by
 induction h with
 | same x=>exact .same x
 | nils=>exact .nils
 | bsl id off len b ys hb hle hl hc h ih=>exact .bsl id off len b ys (hL _ hb) hle hl hc ih
 | ptr id b x ds hb hx hl h ih=>exact .ptr id b x ds (hL _ hb) hx hl ih
 | agg cs ds hl h ih=>exact .agg cs ds hl ih
 | tup cs ds hl h ih=>exact .tup cs ds hl ih
 | fn f cs ds hl h ih=>exact .fn f cs ds hl ih
section
variable {P:Program} {C:Cx P} {G:Gh} {bx:Nat→Option Bx} {w:World}
theorem tree_read{G1:Gh}{L:List (Nat×Bx)}(hs:RS C G bx w)(hL:Has bx L)(ev:Evo G w G1 w)(hz:∀q∈L,∀b s,G.bm q.1=some (b,s)→∀o,o<q.2.xs.length*s→G1.fz b o){x y:AV}(h:Rd L x y):∀{v:Value},RV G w x v→RV G1 w y v:=by
 induction h with
 | same x=>intro v hv; exact hv.mono ev
 | nils =>
  intro v hv
  cases hv
  exact .sl [] none 0 0 (fun _ _=>undef) (Nat.le_refl _) (by simp[maxLen]) (fun _=>⟨rfl,rfl⟩) (fun i x hi=>by simp at hi) (fun a i x j y _ hi=>by simp at hi) (fun a i x j y _ hi=>by simp at hi) (fun i x j y hi=>by simp at hi)
 | agg cs ds hl h ih =>
  intro v hv
  cases hv with|agg _ vs hl' h' =>
  exact .agg ds vs (hl▸hl') fun i y hy=>by
   obtain⟨c,hc⟩:∃c,cs[i]?=some c:=⟨_,List.getElem?_eq_getElem (by rw[hl]; exact (List.getElem?_eq_some_iff.1 hy).1)⟩
   exact ih i c y hc hy (h' i c hc)
 | tup cs ds hl h ih =>
  intro v hv
  cases hv with|tup _ vs hl' h' =>
  exact .tup ds vs (hl▸hl') fun i y hy=>by
   obtain⟨c,hc⟩:∃c,cs[i]?=some c:=⟨_,List.getElem?_eq_getElem (by rw[hl]; exact (List.getElem?_eq_some_iff.1 hy).1)⟩
   exact ih i c y hc hy (h' i c hc)
 | fn f cs ds hl h ih =>
  intro v hv
  cases hv with|fn _ _ vs hl' h' =>
  exact .fn f ds vs (hl▸hl') fun i y hy=>by
   obtain⟨c,hc⟩:∃c,cs[i]?=some c:=⟨_,List.getElem?_eq_getElem (by rw[hl]; exact (List.getElem?_eq_some_iff.1 hy).1)⟩
   exact ih i c y hc hy (h' i c hc)
 | ptr id b x ds hb hx hl h ih =>
  intro v hv
  have hbx:=hL _ hb
  simp only at hbx
  have h0:b.xs[0]?=some x:=by rw[hx]; rfl
  have hn:¬G.nl id:=hs.lies hbx h0
  obtain⟨blk,s,cur,e,h1,h2,h3,⟨h4,h5⟩,h6,h7,h8⟩:=hs.box id b hbx hn
  cases hv with|ptr _ _ _ _ ho hu hbm =>
  have:=hbm blk s h1
  simp only[Nat.zero_mul,Nat.zero_add] at this
  subst this
  obtain⟨hcs,hct⟩:=h6 0 x h0
  have hlen:b.xs.length=1:=by rw[hx]; rfl
  have key:∀j d,ds[j]?=some d→∃c u,x.cells[j]?=some c∧cur[j]?=some u∧RV G w c u∧j<s:=fun j d hj=>by
   have hjl:j<x.cells.length:=by rw[←hl]; exact (List.getElem?_eq_some_iff.1 hj).1
   obtain⟨u,hu1,hu2⟩:=hct j _ (List.getElem?_eq_getElem hjl)
   exact⟨_,u,List.getElem?_eq_getElem hjl,by simpa using hu1,hu2,by omega⟩
  refine .cptr ds _ (fun j=>cur.getD j undef) (fun j y hj=>?_) (fun j y hj=>?_) (fun j y hj=>?_)
  ·obtain⟨c,u,k1,k2,k3,k4⟩:=key j y hj
   exact hz _ hb blk s h1 _ (by simp only[hlen]; omega)
  ·obtain⟨c,u,k1,k2,k3,k4⟩:=key j y hj
   have ha:(⟨blk,0,none⟩:Addr).add j=⟨blk,j,none⟩:=by unfold Addr.add; split<;>simp_all
   rw[ha,cell_of_heap h2,k2]
   simp[Array.getD_eq_getD_getElem?,k2]
  ·obtain⟨c,u,k1,k2,k3,k4⟩:=key j y hj
   have:cur.getD j undef=u:=by simp[Array.getD_eq_getD_getElem?,k2]
   show RV G1 w y (cur.getD j undef)
   rw[this]
   exact ih j c y k1 hj k3
 | bsl id off len b ys hb hle hl hc h ih =>
  intro v hv
  have hbx:=hL _ hb
  simp only at hbx
  by_cases hn:G.nl id
  ·cases hv with|bsl _ _ _ _ _ _ _ hnl =>
   obtain⟨rfl,_,rfl⟩:=hnl hn
   have:ys=[]:=List.length_eq_zero_iff.1 hl
   subst this
   exact .sl [] none 0 0 (fun _ _=>undef) (Nat.le_refl _) (by simp[maxLen]) (fun _=>⟨rfl,rfl⟩) (fun i x hi=>by simp at hi) (fun a i x j y _ hi=>by simp at hi) (fun a i x j y _ hi=>by simp at hi) (fun i x j y hi=>by simp at hi)
  ·obtain⟨blk,s,cur,e,h1,h2,h3,⟨h4,h5⟩,h6,h7,h8⟩:=hs.box id b hbx hn
   cases hv with|bsl _ _ _ _ hone hu hbm hnl =>
   obtain⟨c,cur',e',hv,hlc,hcm,hh,hzz⟩:=hbm blk s h1
   subst hv
   have key:∀i y j d,ys[i]?=some y→y.cells[j]?=some d→∃x c u,b.xs[off+i]?=some x∧x.cells[j]?=some c∧cur[(off+i)*s+j]?=some u∧RV G w c u∧j<s∧off+i<b.xs.length:=fun i y j d hi hj=>by
    have hil:i<ys.length:=(List.getElem?_eq_some_iff.1 hi).1
    have hx:=List.getElem?_eq_getElem (l:=b.xs) (i:=off+i) (by omega)
    have hcl:=hc i _ y hx hi
    have hjl:j<(b.xs[off+i]'(by omega)).cells.length:=by rw[hcl]; exact (List.getElem?_eq_some_iff.1 hj).1
    obtain⟨hcs,hct⟩:=h6 _ _ hx
    obtain⟨u,hu1,hu2⟩:=hct j _ (List.getElem?_eq_getElem hjl)
    exact⟨_,_,u,hx,List.getElem?_eq_getElem hjl,hu1,hu2,by omega,by omega⟩
   have ho:∀i j,(off+i)*s+j=off*s+(i*s+j):=fun i j=>by rw[Nat.add_mul]; omega
   have:=RV.sl (G:=G1) (w:=w) ys (some ⟨blk,off*s,none⟩) c s (fun i j=>cur.getD ((off+i)*s+j) undef) (by omega) hcm (fun h=>by cases h) (fun i y hi=>?_) (fun a i y j d ha hi hj=>?_) (fun a i y j d ha hi hj=>?_) (fun i y j d hi hj=>?_)
   ·rw[hl] at this; exact this
   ·have hil:i<ys.length:=(List.getElem?_eq_some_iff.1 hi).1
    have hx:=List.getElem?_eq_getElem (l:=b.xs) (i:=off+i) (by omega)
    rw[←hc i _ y hx hi]
    exact (h6 _ _ hx).1
   ·injection ha with ha
    subst ha
    obtain⟨x,c,u,k1,k2,k3,k4,k5,k6⟩:=key i y j d hi hj
    refine hz _ hb blk s h1 _ ?_
    simp only
    rw[←ho]
    have:(off+i+1)*s≤b.xs.length*s:=Nat.mul_le_mul_right _ (by omega)
    rw[Nat.add_mul (off+i) 1] at this
    omega
   ·injection ha with ha
    subst ha
    obtain⟨x,c,u,k1,k2,k3,k4,k5,k6⟩:=key i y j d hi hj
    have ha:(⟨blk,off*s,none⟩:Addr).add (i*s+j)=⟨blk,off*s+(i*s+j),none⟩:=by unfold Addr.add; split<;>simp_all
    rw[ha,cell_of_heap h2,←ho,k3]
    simp[Array.getD_eq_getD_getElem?,k3]
   ·obtain⟨x,c,u,k1,k2,k3,k4,k5,k6⟩:=key i y j d hi hj
    have:cur.getD ((off+i)*s+j) undef=u:=by simp[Array.getD_eq_getD_getElem?,k3]
    simp only[this]
    exact ih i x y j c d k1 hi k2 hj k4
mutual
def AV.flatB:AV→Bool
 | .int _ _=>true
 | .bool _=>true
 | .str _=>true
 | .tup vs=>flatL vs
 | .agg vs=>flatL vs
 | _=>false
def flatL:List AV→Bool
 | []=>true
 | x::r=>x.flatB&&flatL r
end
theorem flatL_get{l:List AV}(h:flatL l=true){i:Nat}{x:AV}(hx:l[i]?=some x):x.flatB=true:=by
 induction l generalizing i with
 | nil=>simp at hx
 | cons y r ih =>
  simp only[flatL,Bool.and_eq_true] at h
  cases i with
  | zero=>simp at hx; subst hx; exact h.1
  | succ i=>exact ih h.2 (by simpa using hx)
theorem RV.flat{G:Gh}{w:World}{x:AV}{v:Value}(h:RV G w x v):x.flatB=true→∀(G':Gh) (w':World),RV G' w' x v:=by
 induction h with
 | int k n=>intro _ _ _; exact .int k n
 | bool b=>intro _ _ _; exact .bool b
 | str s=>intro _ _ _; exact .str s
 | agg cs vs hl h ih=>intro hf G' w'; simp only[AV.flatB] at hf; exact .agg cs vs hl fun i y hy=>ih i y hy (flatL_get hf hy) G' w'
 | tup cs vs hl h ih=>intro hf G' w'; simp only[AV.flatB] at hf; exact .tup cs vs hl fun i y hy=>ih i y hy (flatL_get hf hy) G' w'
 | _=>intro hf; simp[AV.flatB] at hf
theorem FnOk.read{f:Nat}{args args':List AV}{rd:List (Nat×Bx)}{id:Nat}{res:AV}(h:FnOk P f args' [] id res [])(hr:res.flatB=true)(hl:args.length=args'.length)(ha:∀(i:Nat) x y,args[i]?=some x→args'[i]?=some y→Rd rd x y):FnOk P f args rd id res []:=by
 refine⟨h.1,fun C G bx w vs nb hs hv hh hnb hid=>?_⟩
 let G0:Gh:=⟨fun b o=>∃u,w.cell? ⟨b,o,none⟩=some u,G.used,fun _=>none,fun _=>False⟩
 let C0:Cx P:=⟨w.heap.size,w,fun b o=>∃u,w.cell? ⟨b,o,none⟩=some u,fun _ hb=>(C.tab w hs.below).below hb⟩
 have hs0:RS C0 G0 (fun _=>none) w:=⟨Below.refl _ w,Nat.le_refl _,fun b o h=>h,fun b o h _=>h,fun id x hx=>(by cases hx),fun id x hx=>(by cases hx),fun id h=>h.elim,fun id b s h=>(by cases h),fun id id' b s s' h=>(by cases h),fun id b s h=>(by cases h)⟩
 have ev:Evo G w G0 w:=⟨fun b o hf=>hs.fzok b o hf,fun _ _=>rfl,fun _ h=>h,fun _ _=>.inr rfl,fun _ _ h=>h.elim,fun _ b s _ hb=>by cases hb⟩
 have hz:∀q∈rd,∀b s,G.bm q.1=some (b,s)→∀o,o<q.2.xs.length*s→G0.fz b o:=fun q hq b s hb o ho=>by
  have hn:¬G.nl q.1:=fun hn=>by rw[(hs.nlu _ hn).2] at hb; cases hb
  obtain⟨b',s',cur,e,h1,h2,h3,⟨h4,h5⟩,_⟩:=hs.box q.1 q.2 (hh q hq) hn
  rw[hb] at h1
  injection h1 with h1
  injection h1 with e1 e2
  subst e1 e2
  exact⟨_,by rw[cell_of_heap h2]; exact Array.getElem?_eq_getElem (by omega)⟩
 have hv0:RVs G0 w args' vs:=⟨hl▸hv.1,fun i y hy=>by
  obtain⟨x,hx⟩:∃x,args[i]?=some x:=⟨_,List.getElem?_eq_getElem (by rw[hl]; exact (List.getElem?_eq_some_iff.1 hy).1)⟩
  exact tree_read hs hh ev hz (ha i x y hx hy) (hv.2 i x hx)⟩
 obtain⟨_,hc⟩:=h
 refine Calls.mono (hc C0 G0 (fun _=>none) w vs nb hs0 hv0 Has.nil hnb hid) fun e w' hq=>?_
 obtain⟨v,G',rfl,s1,e1,r1,u1⟩:=hq
 have hb:=s1.below
 have hblk:∀b,b<w.heap.size→w'.heap[b]?=w.heap[b]?:=fun b h=>hb.block b h
 have hlt:∀b o,G.fz b o→b<w.heap.size:=fun b o h=>let ⟨u,hu⟩:=hs.fzok b o h; lt_of_cellAt hu
 have ev':Evo G w G w':=evo_of_heap (fun b o h=>hblk b (hlt b o h)) fun id b s h cur e hh=>⟨cur,by rw[hblk b (hs.rows id b s h)]; exact hh,rfl⟩
 refine⟨v,G,rfl,?_,ev',RV.flat r1 hr G w',fun x hx=>.inl hx⟩
 have hsz:w.heap.size≤w'.heap.size:=hb.size
 refine⟨hs.below.trans (hb.mono hs.size),Nat.le_trans hs.size hsz,fun b o h=>?_,hs.fzold,fun id x hx hn=>?_,hs.nil,hs.nlu,hs.used,hs.inj,fun id b s h=>Nat.lt_of_lt_of_le (hs.rows id b s h) hsz⟩
 ·obtain⟨u,hu⟩:=hs.fzok b o h
  exact⟨u,by rw[World.cell?_of_block (hblk b (hlt b o h))]; exact hu⟩
 ·obtain⟨b,s,cur,e,h1,h2,h3,h4,h5,h6⟩:=hs.box id x hx hn
  exact⟨b,s,cur,e,h1,by rw[hblk b (hs.rows id b s h1)]; exact h2,h3,h4,h5.mono ev',h6⟩
theorem RS.freezeZ(hs:RS C G bx w){id:Nat}{x:Bx}(hx:bx id=some x)(hro:x.ro=false):
  ∃G',RS C G' (upd bx id (some { x with frz:=true })) w∧Evo G w G' w∧(∀i,G'.used i→G.used i)∧G'.bm=G.bm∧∀b s,G.bm id=some (b,s)→∀o,o<x.xs.length*s→G'.fz b o:=by
 by_cases hn:G.nl id
 ·have h0:=(hs.nil id x hx hn).1
  refine⟨G,⟨hs.below,hs.size,hs.fzok,hs.fzold,fun i y hy hn'=>?_,fun i y hy hn'=>?_,hs.nlu,hs.used,hs.inj,hs.rows⟩,Evo.refl G w,fun _ h=>h,rfl,fun b s hb=>by rw[(hs.nlu _ hn).2] at hb; cases hb⟩
  ·have hi:i≠id:=fun hi=>hn' (hi▸hn)
   rw[upd_ne _ _ _ hi] at hy
   exact hs.box i y hy hn'
  ·by_cases hi:i=id
   ·subst hi
    rw[upd_eq] at hy
    injection hy with hy
    subst hy
    exact⟨h0,hro⟩
   ·rw[upd_ne _ _ _ hi] at hy
    exact hs.nil i y hy hn'
 ·obtain⟨b,s,cur,e,h1,h2,h3,⟨h4,h5⟩,h6,h7,h8⟩:=hs.box id x hx hn
  have hB:=h3 hro
  have ev:Evo G w (G.keep b (x.xs.length*s)) w:=Evo.keep b _
  refine⟨G.keep b (x.xs.length*s),⟨hs.below,hs.size,fun b' o hf=>?_,fun b' o hf hb=>?_,fun i y hy hn'=>?_,fun i y hy hn'=>?_,hs.nlu,hs.used,hs.inj,hs.rows⟩,ev,fun _ h=>h,rfl,fun b' s' hb o ho=>?_⟩
  ·rcases hf with hf|⟨rfl,ho⟩
   ·exact hs.fzok b' o hf
   ·exact⟨_,by rw[cell_of_heap h2]; exact Array.getElem?_eq_getElem (by omega)⟩
  ·rcases hf with hf|⟨rfl,ho⟩
   ·exact hs.fzold b' o hf hb
   ·omega
  ·by_cases hi:i=id
   ·subst hi
    rw[upd_eq] at hy
    injection hy with hy
    subst hy
    exact⟨b,s,cur,e,h1,h2,h3,⟨h4,h5⟩,h6.mono ev,fun h=>(by cases h),fun o ho=>ho.elim (h8 o) fun h=>h.2⟩
   ·rw[upd_ne _ _ _ hi] at hy
    obtain⟨b2,s2,cur2,e2,k1,k2,k3,k4,k5,k6,k7⟩:=hs.box i y hy hn'
    have hne:b2≠b:=fun hbb=>hi (hs.inj i id b2 s2 s k1 (hbb▸h1))
    exact⟨b2,s2,cur2,e2,k1,k2,k3,k4,k5.mono ev,fun hf o ho=>ho.elim (k6 hf o) fun h=>hne h.1,fun o ho=>ho.elim (k7 o) fun h=>(hne h.1).elim⟩
  ·by_cases hi:i=id
   ·subst hi; exact (hn hn').elim
   ·rw[upd_ne _ _ _ hi] at hy
    exact hs.nil i y hy hn'
  ·rw[h1] at hb
   injection hb with hb
   injection hb with e1 e2
   subst e1 e2
   exact .inr ⟨rfl,ho⟩
theorem freezeZ:∀(l:List (Nat×Bx)) {G:Gh} {bx:Nat→Option Bx},RS C G bx w→(∀p∈l,(bx p.1=some p.2∨bx p.1=some { p.2 with frz:=true })∧p.2.ro=false) →
  ∃G',RS C G' (appl bx (wrF l)) w∧Evo G w G' w∧(∀i,G'.used i→G.used i)∧G'.bm=G.bm∧∀q∈l,∀b s,G.bm q.1=some (b,s)→∀o,o<q.2.xs.length*s→G'.fz b o
 | [],G,bx,hs,_=>⟨G,hs,Evo.refl G w,fun _ h=>h,rfl,fun p hp=>by cases hp⟩
 | (i,b)::r,G,bx,hs,hl=>by
  obtain⟨hb,hro⟩:=hl (i,b) (by simp)
  simp only at hb hro
  have key:∃G1,RS C G1 (upd bx i (some { b with frz:=true })) w∧Evo G w G1 w∧(∀i,G1.used i→G.used i)∧G1.bm=G.bm∧∀blk s,G.bm i=some (blk,s)→∀o,o<b.xs.length*s→G1.fz blk o:=by
   rcases hb with hb|hb
   ·exact hs.freezeZ hb hro
   ·exact hs.freezeZ (x:={ b with frz:=true }) hb hro
  obtain⟨G1,s1,e1,u1,m1,k1⟩:=key
  obtain⟨G2,s2,e2,u2,m2,k2⟩:=freezeZ r s1 fun p hp=>by
   obtain⟨h1,h2⟩:=hl p (by simp[hp])
   refine⟨?_,h2⟩
   by_cases hi:p.1=i
   ·obtain⟨j,c⟩:=p
    simp only at hi h1 h2 ⊢
    subst hi
    rw[upd_eq]
    right
    rcases hb with hb|hb<;>rcases h1 with h1|h1<;>rw[hb] at h1<;>injection h1 with h1
    ·rw[h1]
    ·rw[h1]
    ·rw[←h1]
    ·have:b.xs=c.xs∧b.d=c.d∧b.ro=c.ro:=by injection h1 with q1 q2 q3; exact⟨q1,q2,q3⟩
     obtain⟨q1,q2,q3⟩:=this
     rw[q1,q2,q3]
   ·rw[upd_ne _ _ _ hi]; exact h1
  refine⟨G2,s2,e1.trans e2,fun i h=>u1 i (u2 i h),m2.trans m1,fun p hp blk s hbm o ho=>?_⟩
  rcases List.mem_cons.1 hp with rfl|hp
  ·exact e2.fz _ _ (k1 blk s hbm o ho)
  ·exact k2 p hp blk s (by rw[m1]; exact hbm) o ho
end
theorem appl_wrF_out{bx:Nat→Option Bx}{y:Nat}:∀{l:List (Nat×Bx)},(∀q∈l,q.1≠y)→appl bx (wrF l) y=bx y
 | [],_=>rfl
 | (i,b)::l,h=>by
  simp only[wrF,appl]
  rw[appl_wrF_out (l:=l) fun q hq=>h q (List.mem_cons_of_mem _ hq)]
  exact upd_ne _ _ _ (fun e=>h (i,b) (List.mem_cons_self ..) e.symm)
theorem hasKey_iff{y:Nat}:∀{l:List (Nat×Option Bx)},hasKey y l↔∃q∈l,q.1=y
 | []=>by simp[hasKey]
 | (i,b)::l=>by
  simp only[hasKey,hasKey_iff (l:=l),List.mem_cons]
  constructor
  ·rintro (rfl|⟨q,hq,rfl⟩)
   ·exact⟨_,.inl rfl,rfl⟩
   ·exact⟨q,.inr hq,rfl⟩
  ·rintro⟨q,rfl|hq,rfl⟩
   ·exact .inl rfl
   ·exact .inr ⟨q,hq,rfl⟩
theorem bk_key{y:Nat}{b:Bx}:∀{l:List (Nat×Option Bx)},bk l y=some b→hasKey y l
 | [],h=>by cases h
 | (i,c)::l,h=>by
  simp only[bk] at h
  split at h
  ·rename_i e; exact .inl e
  ·exact .inr (bk_key h)
section
variable {E:Env} {σ:St}
end
theorem FnOk.more{P:Program}{f:Nat}{args:List AV}{rd rd':List (Nat×Bx)}{id:Nat}{res:AV}{wr:List (Nat×Option Bx)}(h:FnOk P f args rd id res wr)(hm:∀q∈rd,q∈rd'):FnOk P f args rd' id res wr :=
 ⟨h.1,fun C G bx w vs nb hs hv hh hnb hid=>h.2 C G bx w vs nb hs hv (fun q hq=>hh q (hm q hq)) hnb hid⟩
theorem HasL.of{B:Nat→Option Bx}:∀{l:List (Nat×Bx)},Has B l→HasL B l
 | [],_=>trivial
 | (i,b)::l,h=>⟨h (i,b) (List.mem_cons_self ..),HasL.of fun q hq=>h q (List.mem_cons_of_mem _ hq)⟩
section
variable {E:Env} {σ:St}
end
theorem FnOk.nil{P:Program}{f:Nat}{z:AV}{args:List AV}{rd:List (Nat×Bx)}{id:Nat}{res:AV}{wr:List (Nat×Option Bx)}
  (h:∀T,(∀q∈rd,q.1≠T)→(T<id∨id+1024≤T)→FnOk P f (.bsl T 0 0::args) ((T,⟨[],z,false,false⟩)::rd) id res ((T,none)::wr))
  (hw:∀q∈wr,(id≤q.1∧q.1<id+1024)∧∀b,q.2=some b→∀x∈b.xs,x.pureB=true) (hr:namesIn (fun x=>id≤x∧x<id+1024) res):FnOk P f (.nils::args) rd id res wr:=by
 obtain⟨T0,hT0⟩:∃T0,∀q∈rd,q.1<T0:=by
  clear h hw hr
  induction rd with
  | nil=>exact⟨0,fun q hq=>(by cases hq)⟩
  | cons p l ih =>
   obtain⟨T1,h1⟩:=ih
   exact⟨max T1 (p.1+1),fun q hq=>by
    rcases List.mem_cons.1 hq with rfl|hq
    ·omega
    ·have:=h1 q hq; omega⟩
 refine⟨(h (id+1024+T0) (fun q hq=>by have:=hT0 q hq; omega) (by omega)).1,fun C G bx w vs nb hs hv hh hnb hid=>?_⟩
 let T:=max nb (id+1024)
 have hT:¬G.used T:=hnb T (Nat.le_max_left ..)
 have hlt:∀x,G.used x→x<T:=fun x hx=>by
  rcases Nat.lt_or_ge x nb with h|h
  ·exact Nat.lt_of_lt_of_le h (Nat.le_max_left ..)
  ·exact (hnb x h hx).elim
 obtain⟨r1,r2,r3⟩:=hs.void hT z false
 have hu1:∀x,(G.void T).used x→x=T∨G.used x:=fun x hx=>hx
 have hne:∀q∈rd,q.1≠T:=fun q hq e=>hT (e▸(hs.boxNames (hh q hq)).1)
 obtain⟨hl,hvv⟩:=hv
 obtain⟨_,hc⟩:=h T hne (.inr (Nat.le_max_right ..))
 have hv':RVs (G.void T) w (.bsl T 0 0::args) vs:=⟨hl,fun i y hy=>by
  cases i with
  | zero =>
   simp only[List.getElem?_cons_zero,Option.some.injEq] at hy
   subst hy
   have:=hvv 0 .nils rfl
   generalize vs.getD 0 undef=u at this ⊢
   cases this
   exact r3
  | succ i=>exact (hvv (i+1) y (by simpa using hy)).mono r2⟩
 have hh':Has (upd bx T (some ⟨[],z,false,false⟩)) ((T,⟨[],z,false,false⟩)::rd):=fun q hq=>by
  rcases List.mem_cons.1 hq with rfl|hq
  ·exact upd_eq ..
  ·rw[upd_ne _ _ _ (hne q hq)]; exact hh q hq
 refine Calls.mono (hc C (G.void T) _ w vs (T+1) r1 hv' hh' (fun x hx hux=>?_) (fun x h1 h2 hux=>?_)) fun e w' hq=>?_
 ·rcases hu1 x hux with rfl|h'
  ·omega
  ·have:=hlt x h'; omega
 ·rcases hu1 x hux with e|h'
  ·have:id+1024≤T:=Nat.le_max_right ..
   omega
  ·exact hid x h1 h2 h'
 obtain⟨v,G',rfl,s1,e1,q1,u1⟩:=hq
 have hbT:bx T=none:=by
  cases hb:bx T with
  | none=>rfl
  | some b=>exact (hT (hs.boxNames hb).1).elim
 have hupd:upd (upd bx T (some ⟨[],z,false,false⟩)) T none=bx:=by
  funext y
  by_cases hy:y=T
  ·subst hy; rw[upd_eq,hbT]
  ·rw[upd_ne _ _ _ hy,upd_ne _ _ _ hy]
 have s2:RS C G' (appl bx wr) w':=by
  have:=s1
  simp only[appl] at this
  rw[hupd] at this
  exact this
 have hρ:∀x,x<T→(mkRn T [] trivial).ρ x=some x:=fun x hx=>by
  show rnF T [] x=some x
  unfold rnF
  simp[lkN,goneN,hx]
 have hid':id+1024≤T:=Nat.le_max_right ..
 have hfix:∀x,G.used x→(mkRn T [] trivial).ρ x=some x∨(mkRn T [] trivial).ρ x=none:=fun x hx=>.inl (hρ x (hlt x hx))
 refine⟨v,G'.ren (mkRn T [] trivial) G.used,rfl,s2.ren fun y b' hy=>?_,Evo.ren (r2.trans e1) hfix,q1.ren (.same _ (namesIn_mono (fun z hz=>.inl (hρ z (by omega))) _ hr)),fun y hy=>?_⟩
 ·by_cases hk:y∈keysW wr
  ·have hlt':y<T:=by
    obtain⟨q,hq,rfl⟩:∃q∈wr,q.1=y:=by
     have:∀l:List (Nat×Option Bx),y∈keysW l→∃q∈l,q.1=y:=fun l=>by
      induction l with
      | nil=>intro h; cases h
      | cons p l ih =>
       intro h
       obtain⟨i,b⟩:=p
       rcases List.mem_cons.1 h with rfl|h
       ·exact⟨_,List.mem_cons_self ..,rfl⟩
       ·obtain⟨q,h1,h2⟩:=ih h; exact⟨q,List.mem_cons_of_mem _ h1,h2⟩
     exact this wr hk
    have:=(hw q hq).1; omega
   refine⟨y,b',hρ y hlt',hy,BxR.same fun i x hx=>?_⟩
   have hq:∀(l:List (Nat×Option Bx)) (B:Nat→Option Bx),y∈keysW l→appl B l y=some b'→∃q∈l,q.2=some b':=fun l=>by
    induction l with
    | nil=>intro B h; cases h
    | cons p l ih =>
     intro B h1 h2
     obtain⟨i',b⟩:=p
     by_cases hk':y∈keysW l
     ·obtain⟨q,g1,g2⟩:=ih (upd B i' b) hk' h2
      exact⟨q,List.mem_cons_of_mem _ g1,g2⟩
     ·rcases List.mem_cons.1 h1 with rfl|h1
      ·simp only[appl] at h2
       rw[appl_out hk',upd_eq] at h2
       exact⟨_,List.mem_cons_self ..,h2⟩
      ·exact (hk' h1).elim
   obtain⟨q,hqm,hqb⟩:=hq wr bx hk hy
   exact namesIn_pure _ ((hw q hqm).2 b' hqb x (List.mem_of_getElem? hx))
  ·rw[appl_out hk] at hy
   have hub:=hs.boxNames hy
   exact⟨y,b',hρ y (hlt y hub.1),by rw[appl_out hk]; exact hy,BxR.same fun i x hx=>namesIn_mono (fun z hz=>.inl (hρ z (hlt z hz))) x (hub.2 i x hx)⟩
 ·rcases hy with⟨x,hx,hu⟩|hy
  ·have hx':rnF T [] y=some x:=hx
   unfold rnF at hx'
   simp only[lkN,goneN] at hx'
   split at hx'
   ·rename_i hyT
    simp at hx'
    subst hx'
    rcases u1 _ hu with h1|h1
    ·rcases hu1 _ h1 with e|h1
     ·omega
     ·exact .inl h1
    ·exact .inr h1
   ·cases hx'
  ·exact .inl hy
end Go.Am
namespace Go.Am
set_option linter.all false
open Go Go.RowKit
set_option linter.all false
theorem ov_key{β:Nat→Option Bx}{y:Nat}:∀{l:List (Nat×Option Bx)},hasKey y l→ov β l y=bk l y
 | [],h=>h.elim
 | (i,b)::l,h=>by
  simp only[ov,bk]
  by_cases e:y=i
  ·subst e; rw[upd_eq,if_pos rfl]
  ·rw[upd_ne _ _ _ e,if_neg e]
   exact ov_key (h.resolve_left e)
structure Kept(n0:Nat)(L:List (Nat×Bx))(bx M:List (Nat×Option Bx)):Prop where
 kept:∀y b,bk M y=some b→bk bx y=some b∧∀q∈L,q.1≠y
 cov:∀q∈bx,n0≤q.1∨hasKey q.1 M
section
variable {E:Env} {σ:St}
theorem Kept.weak{L:List (Nat×Bx)}{bx M:List (Nat×Option Bx)}(h:Kept E.n0 L bx M)(hL:∀q∈L,bk bx q.1=some q.2){y:Nat}{b:Bx}(hb:ov E.β M y=some b):appl (ov E.β bx) (wrF L) y=some b:=by
 by_cases hk:hasKey y M
 ·rw[ov_key hk] at hb
  obtain⟨h1,h2⟩:=h.kept y b hb
  rw[appl_wrF_out h2]
  exact ov_bk E.β h1
 ·rw[ov_nokey hk] at hb
  have hlt:y<E.n0:=by
   rcases Nat.lt_or_ge y E.n0 with h|h
   ·exact h
   ·rw[E.own y h] at hb; cases hb
  have hno:¬hasKey y bx:=fun h'=>by
   obtain⟨q,hq,rfl⟩:=hasKey_iff.1 h'
   rcases h.cov q hq with h1|h1
   ·omega
   ·exact hk h1
  rw[appl_wrF_out fun q hq e=>by subst e; exact hno (bk_key (hL q hq)),ov_nokey hno]
  exact hb
theorem Conv.deepL(n:Nat)(L:List (Nat×Bx))(M:List (Nat×Option Bx)){x y:AV}(hx:lk σ.fr n=some (true,x))(hL:∀q∈L,bk σ.bx q.1=some q.2∧q.2.ro=false)(hr:Rd L x y)(hK:Kept E.n0 L σ.bx M):Conv E σ ⟨(n,true,y)::σ.fr,M,σ.k⟩:=fun G a w hD=>by
 have hLo:Has (ov E.β σ.bx) L:=fun q hq=>ov_bk E.β (hL q hq).1
 obtain⟨G1,q1,q2,q3,q4,q5⟩:=freezeZ L hD.rs fun q hq=>⟨.inl (hLo q hq),(hL q hq).2⟩
 have hxr':RV G1 w y (a.tmps.getD n undef):=tree_read hD.rs hLo q2 q5 hr ((hD.fr n true x hx).1 rfl)
 refine⟨G1,hD.ev.trans q2,RS.weak q1 fun id b hb=>hK.weak (fun q hq=>(hL q hq).1) hb,fun id h=>hD.used id (q3 id h),fun id hi h=>hD.old id hi (q3 id h),fun m c v hm=>?_,hD.size,hD.defers⟩
 simp only[lk] at hm
 split at hm
 ·rename_i he
  subst he
  simp only[Option.some.injEq,Prod.mk.injEq] at hm
  obtain⟨rfl,rfl⟩:=hm
  exact⟨fun _=>hxr',fun h=>by cases h⟩
 ·exact⟨fun hc=>((hD.fr m c v hm).1 hc).mono q2,(hD.fr m c v hm).2⟩
theorem Conv.deepBox(j:Nat)(L:List (Nat×Bx))(M:List (Nat×Option Bx)){b:Bx}{x y:AV}(hb:bk σ.bx j=some b)(hx:b.xs=[x])(hc:x.cells.length=y.cells.length)(hr:∀(m:Nat) c d,x.cells[m]?=some c→y.cells[m]?=some d→Rd L c d)
  (hL:∀q∈L,bk σ.bx q.1=some q.2∧q.2.ro=false) (hK:Kept E.n0 L σ.bx M) (hj:∀q∈L,q.1≠j):Conv E σ ⟨σ.fr,(j,some { b with xs:=[y] })::M,σ.k⟩:=fun G a w hD=>by
 have hLo:Has (ov E.β σ.bx) L:=fun q hq=>ov_bk E.β (hL q hq).1
 obtain⟨G1,q1,q2,q3,q4,q5⟩:=freezeZ L hD.rs fun q hq=>⟨.inl (hLo q hq),(hL q hq).2⟩
 have hbj:=ov_bk E.β hb
 have hK':Kept E.n0 L σ.bx ((j,some b)::M):=⟨fun z c hz=>by
  simp only[bk] at hz
  split at hz
  ·rename_i e; subst e; injection hz with hz; subst hz; exact⟨hb,hj⟩
  ·exact hK.kept z c hz,fun q hq=>(hK.cov q hq).imp _root_.id .inr⟩
 have r1:RS E.C G1 (ov E.β ((j,some b)::M)) w:=RS.weak q1 fun id b hb=>hK'.weak (fun q hq=>(hL q hq).1) hb
 have hbj1:ov E.β ((j,some b)::M) j=some b:=by simp only[ov,upd_eq]
 have r4:RS E.C G1 (ov E.β ((j,some { b with xs:=[y] })::M)) w:=by
  refine⟨r1.below,r1.size,r1.fzok,r1.fzold,fun i b' hi hn=>?_,fun i b' hi hn=>?_,r1.nlu,r1.used,r1.inj,r1.rows⟩
  ·by_cases hij:i=j
   ·subst hij
    simp only[ov,upd_eq,Option.some.injEq] at hi
    subst hi
    obtain⟨blk,s,cur,e,k1,k2,k3,k4,k5,k6,k7⟩:=r1.box i b hbj1 hn
    have hn0:¬G.nl i:=hD.rs.lies hbj (i:=0) (y:=x) (by rw[hx]; rfl)
    obtain⟨blk',s',cur',e',m1,m2,m3,m4,m5,m6,m7⟩:=hD.rs.box i b hbj hn0
    rw[q4,m1] at k1
    injection k1 with k1
    injection k1 with e1 e2
    subst e1 e2
    rw[m2] at k2
    injection k2 with k2
    injection k2 with e1 e2
    subst e1 e2
    have hlen:b.xs.length=1:=by rw[hx]; rfl
    refine⟨blk',s',cur',e',by rw[q4]; exact m1,m2,k3,⟨k4.1,by have:=k4.2; rw[hlen] at this; exact this⟩,fun i' y' hy'=>?_,k6,by have:=k7; rw[hlen] at this; exact this⟩
    cases i' with
    | succ i'=>simp at hy'
    | zero =>
     simp only[List.getElem?_cons_zero,Option.some.injEq] at hy'
     subst hy'
     obtain⟨d1,d2⟩:=m5 0 x (by rw[hx]; rfl)
     refine⟨hc.symm.trans d1,fun m z hz=>?_⟩
     obtain⟨z0,hz0⟩:∃z0,x.cells[m]?=some z0:=⟨_,List.getElem?_eq_getElem (by rw[hc]; exact (List.getElem?_eq_some_iff.1 hz).1)⟩
     obtain⟨u,hu1,hu2⟩:=d2 m z0 hz0
     exact⟨u,hu1,tree_read hD.rs hLo q2 q5 (hr m z0 z hz0 hz) hu2⟩
   ·simp only[ov,upd_ne _ _ _ hij] at hi
    exact r1.box i b' (by simp only[ov,upd_ne _ _ _ hij]; exact hi) hn
  ·by_cases hij:i=j
   ·subst hij
    exfalso
    have:=(r1.nil i b hbj1 hn).1
    rw[hx] at this; cases this
   ·simp only[ov,upd_ne _ _ _ hij] at hi
    exact r1.nil i b' (by simp only[ov,upd_ne _ _ _ hij]; exact hi) hn
 exact⟨G1,hD.ev.trans q2,r4,fun id h=>hD.used id (q3 id h),fun id hi h=>hD.old id hi (q3 id h),fun m c v hm=>⟨fun hc=>((hD.fr m c v hm).1 hc).mono q2,(hD.fr m c v hm).2⟩,hD.size,hD.defers⟩
theorem Conv.stay{σ':St}(hk:σ.k≤σ'.k)(hf:∀n c v,lk σ'.fr n=some (c,v)→lk σ.fr n=some (c,v))(hb:∀y b,bk σ'.bx y=some b→bk σ.bx y=some b)(hc:∀q∈σ.bx,E.n0≤q.1∨hasKey q.1 σ'.bx):Conv E σ σ':=fun G a w hD=>by
 have hK:Kept E.n0 [] σ.bx σ'.bx:=⟨fun y b h=>⟨hb y b h,fun q hq=>by cases hq⟩,hc⟩
 exact⟨G,hD.ev,RS.weak hD.rs fun id b h=>hK.weak (fun q hq=>by cases hq) h,fun id h=>by have:=hD.used id h; omega,hD.old,fun n c v h=>hD.fr n c v (hf n c v h),hD.size,hD.defers⟩
end
end Go.Am
namespace Go.Am
set_option linter.all false
open Go Go.RowKit
set_option linter.all false
theorem fn_okE{P:Program}{f:Nat}{fn:Func}{cc:CC}{crs:List CRes}{args:List AV}{rd:List (Nat×Bx)}{id:Nat}{o:Except AV (AV×List (Nat×Option Bx))}
  (hf : P.funcs[f]? = some fn) (hcc : fn.body.map (compC P fn.ntmps) = some cc) (hnm : (fn.name == "runtime.NumGoroutine") = false) (hrs : compRes P fn.results.toList = some crs) (hN : args.length ≤ fn.ntmps)
  (h:∀E:Env,E.P=P→(∀v wr σ,o = .ok (v,wr)→RtOk E.n0 id E.G0.used crs rd v wr σ→E.Rt σ)→(∀pv σ,o = .error pv→pv.pureB=true→DropOk E.n0 (someL rd) σ.bx→E.Pn pv σ)→(∀q∈rd,q.1<E.n0∧(q.1<id∨id+1024≤q.1))→id+1024≤E.n0→Has E.β rd→(∀z,E.G0.used z→z<id∨id+1024≤z)→Wk E [.code cc] ⟨frOf 0 args,someL rd,0⟩):FnE P f args rd id o:=by
 obtain⟨c,hb,rfl⟩:=Option.map_eq_some_iff.1 hcc
 exact fn_core (o:=o) (fun n0 S σ=>∃q,o = .ok q∧RtOk n0 id S crs rd q.1 q.2 σ) (fun n0 pv σ=>o = .error pv∧pv.pureB=true∧DropOk n0 (someL rd) σ.bx) hf hb hnm hrs hN (fun _ _ _ h=>h) (fun _ _ _ h=>h)
  fun E h1 h2 h3 h4 h5 h6 h7 h8=>h E h1 (fun v wr σ ho hr=>by rw[h3]; exact⟨_,ho,hr⟩) (fun pv σ ho hp hd=>by rw[h4]; exact⟨ho,hp,hd⟩) h5 h6 h7 h8
section
variable {E:Env} {σ:St} {k:List Itm} {P:Program}
theorem FnE.ok{f:Nat}{args:List AV}{rd:List (Nat×Bx)}{id:Nat}{v:AV}{wr:List (Nat×Option Bx)}(h:FnE P f args rd id (.ok (v,wr))):FnOk P f args rd id v wr:=h
theorem w_callE(hP:E.P=P){dst:Option Nat}{us:List Nat}{f:Nat}{xs:List Opd}{l:List CR}{j:Nat}{acc:List RR}{ps:List (Nat×Nat)}{args:List AV}{rd:List (Nat×Bx)}{o:Except AV (AV×List (Nat×Option Bx))}
  (ha:xs.map (veF (lk σ.fr))=args) (hc:FnE P f args rd (E.n0+(σ.k+1024*j)) o) (hu:uses (lk σ.fr) us) (hh:HasL (bk σ.bx) rd)
  (he:∀pv,o = .error pv→dynP ((⟨true,.nili,rd,goL rd⟩::acc).reverse) j ps∧E.Pn pv ⟨σ.fr,addW σ.bx (goL rd),σ.k⟩)
  (h:∀v wr,o = .ok (v,wr)→Wk E (.ops l (j+1) (accN ps ⟨true,v,rd,wr⟩ acc) ps::k) (σ.app dst ⟨true,v,rd,wr⟩)):Wk E (.ops (⟨dst,none,us,.call f xs⟩::l) j acc ps::k) σ:=by
 cases o with
 | ok q=>exact w_call hP ha hc hu hh (h q.1 q.2 rfl)
 | error pv =>
  subst hP ha
  refine w_pn (pv:=pv) (r:=⟨true,.nili,rd,goL rd⟩) ⟨trivial,rfl,.call f xs _ _ hu (.inl ⟨⟨?_,rfl⟩,hh.has⟩)⟩ (he pv rfl).1 (he pv rfl).2
  rw[Nat.add_assoc]; exact hc
theorem w_callvE(hP:E.P=P){dst:Option Nat}{us:List Nat}{f:Nat}{caps:List AV}{x:Opd}{xs:List Opd}{l:List CR}{j:Nat}{acc:List RR}{ps:List (Nat×Nat)}{args:List AV}{rd:List (Nat×Bx)}{o:Except AV (AV×List (Nat×Option Bx))}
  (hx:veF (lk σ.fr) x = .fn f caps) (ha:xs.map (veF (lk σ.fr))=args) (hc:FnE P f (args++caps) rd (E.n0+(σ.k+1024*j)) o) (hu:uses (lk σ.fr) us) (hh:HasL (bk σ.bx) rd)
  (he:∀pv,o = .error pv→dynP ((⟨true,.nili,rd,goL rd⟩::acc).reverse) j ps∧E.Pn pv ⟨σ.fr,addW σ.bx (goL rd),σ.k⟩)
  (h:∀v wr,o = .ok (v,wr)→Wk E (.ops l (j+1) (accN ps ⟨true,v,rd,wr⟩ acc) ps::k) (σ.app dst ⟨true,v,rd,wr⟩)):Wk E (.ops (⟨dst,none,us,.callv x xs⟩::l) j acc ps::k) σ:=by
 cases o with
 | ok q=>exact w_callv hP hx ha hc hu hh (h q.1 q.2 rfl)
 | error pv =>
  subst hP ha
  refine w_pn (pv:=pv) (r:=⟨true,.nili,rd,goL rd⟩) ⟨trivial,rfl,.callv x xs f caps _ _ hu hx (.inl ⟨⟨?_,rfl⟩,hh.has⟩)⟩ (he pv rfl).1 (he pv rfl).2
  rw[Nat.add_assoc]; exact hc
theorem w_callRE(hP:E.P=P){dst:Option Nat}{us:List Nat}{f:Nat}{xs:List Opd}{l:List CR}{j:Nat}{acc:List RR}{ps:List (Nat×Nat)}{args args':List AV}{fz rd:List (Nat×Bx)}{o:Except AV (AV×List (Nat×Option Bx))}
  (ha:xs.map (veF (lk σ.fr))=args) (hc:FnE P f args' rd (E.n0+(σ.k+1024*j)) o) (hr:RsvIs (bk σ.bx) args args' fz) (hu:uses (lk σ.fr) us) (hh:HasL (bk σ.bx) rd) (hd:apartL (keysR rd) (keysR fz))
  (he:∀pv,o = .error pv→dynP ((⟨true,.nili,fz++rd,wrF fz++goL rd⟩::acc).reverse) j ps∧E.Pn pv ⟨σ.fr,addW σ.bx (wrF fz++goL rd),σ.k⟩)
  (h:∀v wr,o = .ok (v,wr)→Wk E (.ops l (j+1) (accN ps ⟨true,v,fz++rd,wrF fz++wr⟩ acc) ps::k) (σ.app dst ⟨true,v,fz++rd,wrF fz++wr⟩)) :
  Wk E (.ops (⟨dst,none,us,.call f xs⟩::l) j acc ps::k) σ:=by
 cases o with
 | ok q=>exact w_callR hP ha hc hr hu hh hd (h q.1 q.2 rfl)
 | error pv =>
  subst hP ha
  refine w_pn (pv:=pv) (r:=⟨true,.nili,fz++rd,wrF fz++goL rd⟩) ⟨trivial,rfl,.call f xs _ _ hu (.inr ⟨rd,goL rd,?_⟩)⟩ (he pv rfl).1 (he pv rfl).2
  rw[hr.eq,Nat.add_assoc]
  exact⟨hr.1,⟨hc,rfl⟩,hh.has,fun q hq q1 hq1 e=>apartL_iff.1 hd q.1 (List.mem_map.2 ⟨q,hq,rfl⟩) (List.mem_map.2 ⟨q1,hq1,e.symm⟩),rfl,rfl⟩
theorem w_panic{dst:Option Nat}{us:List Nat}{x:Opd}{l:List CR}{j:Nat}{acc:List RR}{ps:List (Nat×Nat)}{t:Nat}{v:AV}(hx:veF (lk σ.fr) x = .iface t v)(hu:uses (lk σ.fr) us)
  (h:dynP ((⟨true,.nili,[],[]⟩::acc).reverse) j ps∧E.Pn (.iface t v) σ):Wk E (.ops (⟨dst,none,us,.pnk x⟩::l) j acc ps::k) σ :=
 w_pn (pv:=.iface t v) (r:=⟨true,.nili,[],[]⟩) ⟨trivial,rfl,.pnk x t v _ _ hu hx⟩ h.1 h.2
end
attribute [simp] goL dynP
end Go.Am
namespace Go.Am
set_option linter.all false
open Go Go.RowKit
set_option linter.all false
theorem lt_of_cell{w:World}{a:Addr}{u:Value}(h:w.cell? a=some u):a.block<w.heap.size:=by
 rcases Nat.lt_or_ge a.block w.heap.size with h1|h1
 ·exact h1
 ·simp[World.cell?,Array.getElem?_eq_none h1] at h
theorem Evo.below{P:Program}{C:Cx P}{G:Gh}{bx:Nat→Option Bx}{w w':World}(h:RS C G bx w)(hb:Below w.heap.size w w'):Evo G w G w':=by
 refine⟨fun _ _ h=>h,fun a ha=>?_,fun _ h=>h,fun _ _=>.inl rfl,fun _ _ h=>h,fun id b s _ _ cur e hw=>⟨cur,?_,rfl⟩⟩
 ·obtain⟨u,hu⟩:=h.fzok _ _ ha
  exact hb.cell (show a.block<w.heap.size from lt_of_cell (a:=⟨a.block,a.off,none⟩) hu)
 ·rw[hb.block b (Array.getElem?_eq_some_iff.1 hw).1]; exact hw
theorem RS.grown{P:Program}{C:Cx P}{G:Gh}{bx:Nat→Option Bx}{w w':World}(h:RS C G bx w)(hb:Below w.heap.size w w'):RS C G bx w':=by
 have he:=Evo.below h hb
 refine⟨h.below.trans (hb.mono h.size),Nat.le_trans h.size hb.size,fun b o ho=>?_,h.fzold,fun id x hx hn=>?_,h.nil,h.nlu,h.used,h.inj,fun id b s hi=>Nat.lt_of_lt_of_le (h.rows id b s hi) hb.size⟩
 ·obtain⟨u,hu⟩:=h.fzok b o ho
  exact⟨u,by rw[hb.cell (show b<w.heap.size from lt_of_cell (a:=⟨b,o,none⟩) hu)]; exact hu⟩
 ·obtain⟨b,s,cur,e,h1,h2,h3,h4,h5,h6⟩:=h.box id x hx hn
  refine⟨b,s,cur,e,h1,by rw[hb.block b (Array.getElem?_eq_some_iff.1 h2).1]; exact h2,h3,h4,fun i y hy=>?_,h6⟩
  obtain⟨k1,k2⟩:=h5 i y hy
  refine⟨k1,fun j z hz=>?_⟩
  obtain⟨u,u1,u2⟩:=k2 j z hz
  exact⟨u,u1,u2.mono he⟩
theorem fn_lib{P:Program}{f:Nat}{args:List AV}{rd:List (Nat×Bx)}{id:Nat}{res:AV}(hp:PlainF P f)
  (h:∀(C:Cx P) (G:Gh) (bx:Nat→Option Bx) (w:World) (vs:Array Value),RS C G bx w→RVs G w args vs→Has bx rd→Calls P f vs w fun e w'=>∃v,e = .returned v∧(∀G w,RV G w res v)∧Below w.heap.size w w'):FnOk P f args rd id res [] :=
 ⟨hp,fun C G bx w vs nb hs hv hh hnb hid=>Calls.mono (h C G bx w vs hs hv hh) fun e w' ⟨v,h1,h2,h3⟩=>⟨v,G,h1,hs.grown h3,Evo.below hs h3,h2 _ _,fun _ hx=>.inl hx⟩⟩
end Go.Am
namespace Go.Am
set_option linter.all false
open Go Go.RowKit
set_option linter.all false
section
variable {P:Program} {C:Cx P} {N:Nat} {D:List Deferred} {n0:Nat} {G0:Gh} {w0:World} {G:Gh} {a:Act} {w:World} {ops:Array Oper} {Q:Exit→Act→World→Prop}
theorem seq_pnF{crs:List CR}(hlen:crs.length=ops.size)(hcr:∀(i:Nat) o,ops[i]?=some o→∃c,crs[i]?=some c∧compR P N ops o=some c){base:Nat}(hn:n0≤base){pv:AV}{r:RR}{F':Fr}{B':Nat→Option Bx}
  (hK:∀G a w u,DescF C N D n0 G0 w0 F' (appl B' r.wr) (· < base+1024*ops.size) G a w→RV G w pv u→Q (.panic [{ v:=u,recovered:=false }]) a w) :
  ∀(rs:List RR) (m j:Nat) (F:Fr) (B:Nat→Option Bx) (G:Gh) (a:Act) (w:World),j+m=ops.size→PRuns P base pv r j (crs.drop j) F B rs→runF (crs.drop j) rs F=F'→runB rs B=B'→DescF C N D n0 G0 w0 F B (· < base+1024*j) G a w →
   wpOps P ops Q (List.range' j m) a w:=by
 intro rs
 induction rs with
 | nil =>
  intro m j F B G a w hj hr hF hB hd
  simp only[runB] at hB
  subst hB
  have hjn:j<ops.size:=by
   rcases Nat.lt_or_ge j ops.size with h|h
   ·exact h
   ·rw[List.drop_of_length_le (by omega)] at hr; exact hr.elim
  obtain⟨o,ho⟩:∃o,ops[j]?=some o:=⟨_,Array.getElem?_eq_getElem hjn⟩
  obtain⟨cr,hc1,hc2⟩:=hcr j o ho
  have hdrop:crs.drop j=cr::crs.drop (j+1):=by
   rw[List.drop_eq_getElem_cons (by omega)]
   rw[List.getElem?_eq_getElem (by omega)] at hc1
   injection hc1 with hc1
   rw[hc1]
  rw[hdrop] at hr hF
  simp only[runF] at hF
  subst hF
  obtain⟨m,rfl⟩:∃k,m=k+1:=⟨m - 1,by omega⟩
  rw[List.range'_succ,wpOps_cons]
  exact op_pn hd ho hc2 hr (fun x hx _ h=>absurd (hd.used _ h) (by omega)) (by omega) (nb:=base+1024*j) (fun x hx h=>absurd (hd.used _ h) (by omega)) fun G' u w' hd' hv=>hK G' a w' u (hd'.weak fun id h=>h.elim (fun h=>by have:=hd.used _ h; omega) fun h=>by omega) hv
 | cons r0 rs ih =>
  intro m j F B G a w hj hr hF hB hd
  have hjn:j<ops.size:=by
   rcases Nat.lt_or_ge j ops.size with h|h
   ·exact h
   ·rw[List.drop_of_length_le (by omega)] at hr; exact hr.elim
  obtain⟨o,ho⟩:∃o,ops[j]?=some o:=⟨_,Array.getElem?_eq_getElem hjn⟩
  obtain⟨cr,hc1,hc2⟩:=hcr j o ho
  have hdrop:crs.drop j=cr::crs.drop (j+1):=by
   rw[List.drop_eq_getElem_cons (by omega)]
   rw[List.getElem?_eq_getElem (by omega)] at hc1
   injection hc1 with hc1
   rw[hc1]
  rw[hdrop] at hr hF
  obtain⟨hr1,hr2⟩:=hr
  obtain⟨m,rfl⟩:∃k,m=k+1:=⟨m - 1,by omega⟩
  rw[List.range'_succ,wpOps_cons]
  refine op_ok hd ho hc2 hr1 (fun x hx _ h=>absurd (hd.used _ h) (by omega)) (by omega) (nb:=base+1024*j) (fun x hx h=>absurd (hd.used _ h) (by omega)) fun G' u w' hd'=>?_
  exact ih m (j+1) _ _ G' _ w' (by omega) hr2 hF hB (hd'.weak fun id h=>h.elim (fun h=>by have:=hd.used _ h; omega) fun h=>by omega)
theorem DescF.rebase{n1:Nat}{G1:Gh}{w1:World}{F:Fr}{B:Nat→Option Bx}{U:Nat→Prop}(h:DescF C N D n1 G1 w1 F B U G a w)(hn:n0≤n1)(e:Evo G0 w0 G1 w1)(ho:∀id,id<n0→G1.used id→G0.used id):DescF C N D n0 G0 w0 F B U G a w :=
 ⟨e.trans h.ev,h.rs,h.used,fun id hi hu=>ho id hi (h.old id (by omega) hu),h.fr,h.size,h.defers⟩
theorem ov_append(β:Nat→Option Bx):∀(l r:List (Nat×Option Bx)),ov β (l++r)=ov (ov β r) l
 | [],r=>rfl
 | (i,b)::l,r=>by simp only[List.cons_append,ov,ov_append β l r]
end
theorem APn.runF{P:Program}{base:Nat}{pv:AV}{r:RR}:∀{rs:List RR} {l:List CR} {j:Nat} {σ:St},APn P base pv r j l σ rs→runF l rs (lk σ.fr)=lk (σ.apps l rs).fr
 | [],[],_,_,h=>h.elim
 | _::_,[],_,_,h=>h.elim
 | [],cr::l,j,σ,h=>rfl
 | r0::rs,cr::l,j,σ,h=>by
  have:=APn.runF h.2
  simp only[St.app,lk_put] at this
  exact this
theorem reg_pn{E:Env}{σ:St}{id:Nat}{ops:Array Oper}{crs:List CR}{K:St→Prop}{Q:Exit→Act→World→Prop}(hc:compG E.P E.N ops false = .reg false crs [])(h:Wk E [.ops crs 0 [] [],.post K] σ){G:Gh}{a:Act}{w:World}(hD:Desc E σ G a w)
  (hn:∀σ' G a w,Desc E σ' G a w→K σ'→Q .normal a w)
  (hp:∀pv u σ' G a w,DescF E.C E.N E.D E.n0 E.G0 E.w0 (lk σ'.fr) (ov E.β σ'.bx) (· < E.n0+σ.k+1024*crs.length) G a w→RV G w pv u→E.Pn pv σ'→Q (.panic [{ v:=u,recovered:=false }]) a w):(Code.region id ops false).wp E.P Q a w:=by
 unfold compG at hc
 split at hc
 ·cases hc
 ·rename_i cs hcs
  obtain⟨hlen,hget⟩:=compL_get hcs
  have hlen':cs.length=ops.size:=by simpa using hlen
  have hcr:∀(i:Nat) o,ops[i]?=some o→∃c,cs[i]?=some c∧compR E.P E.N ops o=some c:=fun i o ho=>hget i o (by simpa using ho)
  simp only[CC.reg.injEq,true_and,and_true] at hc
  subst hc
  refine wp_region ?_
  rw[List.range_eq_range']
  rcases h with⟨rs,h1,h2,h3⟩|⟨rs,pv,r,h1,h2,h3⟩
  ·obtain⟨q1,q2,q3,q4⟩:=h1.runs E.β
   refine seq_ok hlen' hcr (base:=E.n0+σ.k) (by omega) (Q:=Q) (F':=runF cs rs (lk σ.fr)) (B':=runB rs (ov E.β σ.bx)) (fun G a w h=>hn _ G a w ?_ h3) ops.size 0 rs _ _ G a w (by omega) q1 rfl rfl (hD.weak fun id hid=>by omega)
   rw[q2,q3] at h
   simp only[Desc,St.bump,q4]
   exact h.weak fun id hid=>by rw[hlen']; omega
  ·obtain⟨q1,q2,q3,cp,q4,q5⟩:=h1.runs E.β
   have q6:=h1.runF
   refine seq_pnF hlen' hcr (base:=E.n0+σ.k) (by omega) (Q:=Q) (pv:=pv) (r:=r) (F':=runF cs rs (lk σ.fr)) (B':=runB rs (ov E.β σ.bx)) (fun G a w u h hv=>hp pv u _ G a w ?_ hv h3) rs ops.size 0 _ _ G a w (by omega) q1 rfl rfl (hD.weak fun id hid=>by omega)
   rw[q6,q3,←ov_addW] at h
   exact h.weak fun id hid=>by rw[hlen']; omega
end Go.Am
namespace Go.Am
set_option linter.all false
open Go Go.RowKit
set_option linter.all false
def G00:Gh:=⟨fun _ _=>False,fun _=>False,fun _=>none,fun _=>False⟩
theorem rs00{P:Program}(w:World)(ht:Tabs P w):RS (P:=P) ⟨w.heap.size,w,fun _ _=>False,fun w' h=>ht.below h⟩ G00 (fun _=>none) w :=
 ⟨Below.refl _ _,Nat.le_refl _,fun b o h=>False.elim h,fun b o h=>False.elim h,(fun id x h=>nomatch h),(fun id x h=>nomatch h),fun id h=>False.elim h,(fun id b s h=>nomatch h),(fun id id' b s s' h=>nomatch h),(fun id b s h=>nomatch h)⟩
theorem RS.tabs{P:Program}{C:Cx P}{G:Gh}{bx:Nat→Option Bx}{w:World}(h:RS C G bx w):Tabs P w:=C.tab w h.below
theorem FnOk.plain{P:Program}{f:Nat}{args:List AV}{id:Nat}{res:AV}(h:FnOk P f args [] id res []){w:World}{vs:Array Value}(ht:Tabs P w)(hv:RVs G00 w args vs):
  Calls P f vs w fun e w'=>∃v G',e = .returned v∧RV G' w' res v∧Below w.heap.size w w' :=
 (h.2 _ G00 (fun _=>none) w vs 0 (rs00 w ht) hv (fun q hq=>by cases hq) (fun _ _ h=>h) (fun _ _ _ h=>h)).mono fun e w' ⟨v,G',h1,h2,h3,h4,h5⟩=>⟨v,G',h1,h4,h2.below⟩
theorem rvs_one_inv{G:Gh}{w:World}{x:AV}{vs:Array Value}(h:RVs G w [x] vs):∃v,vs = #[v]∧RV G w x v:=by
 obtain⟨h1,h2⟩:=h
 obtain⟨l⟩:=vs
 match l,h1,h2 with
 | [v],_,h2=>exact⟨v,rfl,h2 0 x rfl⟩
theorem rvs_two_inv{G:Gh}{w:World}{x y:AV}{vs:Array Value}(h:RVs G w [x,y] vs):∃u v,vs = #[u,v]∧RV G w x u∧RV G w y v:=by
 obtain⟨h1,h2⟩:=h
 obtain⟨l⟩:=vs
 match l,h1,h2 with
 | [u,v],_,h2=>exact⟨u,v,rfl,h2 0 x rfl,h2 1 y rfl⟩
theorem rv_strs{P:Program}{C:Cx P}{G:Gh}{bx:Nat→Option Bx}{w:World}(hs:RS C G bx w){ks:List (List UInt8)}{v:Value}(h:RV G w (.sl (ks.map .str)) v):
 ∃(A:Option Addr) (c:Nat),v = .slice A ks.length c∧ks.length≤c∧c≤maxLen∧(ks=[]∨∃b o,A=some ⟨b,o,none⟩∧b<w.heap.size∧∀(j:Nat) s,ks[j]?=some s→w.cell? ⟨b,o+j,none⟩=some (.string ⟨⟨s⟩⟩)):=by
 cases h with
 | sl xs A c s u hc hm hn hs1 h1 h2 h3 =>
 refine⟨A,c,by simp,by simpa using hc,hm,?_⟩
 have key:∀a,A=some a→∀(j:Nat) t,ks[j]?=some t→w.cell? (a.add j)=some (.string ⟨⟨t⟩⟩):=fun a ha j t ht=>by
  have e1:(ks.map AV.str)[j]?=some (.str t):=by simp[ht]
  have e2:(AV.str t).cells[0]?=some (.str t):=rfl
  have e3:=hs1 j _ e1
  have e4:=h2 a j _ 0 _ ha e1 e2
  have e5:=h3 j _ 0 _ e1 e2
  have e6:s=1:=by simpa [AV.cells] using e3.symm
  subst e6
  rw[show (j:Nat)*1+0=j by omega] at e4
  rw[e4]
  cases hu:u j 0 with
  | string z=>rw[hu] at e5; cases e5; rfl
  | _=>rw[hu] at e5; cases e5
 cases ks with
 | nil=>exact .inl rfl
 | cons k0 kr =>
  refine .inr ?_
  cases A with
  | none=>simpa using (hn rfl).1
  | some a =>
  have k0':=key a rfl 0 k0 rfl
  obtain⟨b,o,e⟩:=a
  cases e with
  | some e =>
   exfalso
   simp only[World.cell?,Addr.add] at k0'
   revert k0'
   split
   all_goals (intro k0'; first|(cases k0'; done)|(simp at k0'; done)|skip)
   all_goals (revert k0'; split<;>intro k0'<;>simp at k0')
  | none =>
   refine⟨b,o,rfl,by have:=lt_of_cell k0'; rwa [add_block] at this,fun j t ht=>?_⟩
   have:=cell_norm (key _ rfl j t ht)
   rwa [add_block,add_off] at this
theorem fn_old{P:Program}{f:Nat}{args:List AV}{id:Nat}{res:AV}(hp:PlainF P f)
  (h:∀(C:Cx P) (G:Gh) (bx:Nat→Option Bx) (w:World) (vs:Array Value),RS C G bx w→RVs G w args vs→Calls P f vs w fun e w'=>∃v,e = .returned v∧(∀G w,RV G w res v)∧Below w.heap.size w w'):FnOk P f args [] id res [] :=
 fn_lib hp fun C G bx w vs hs hv _=>h C G bx w vs hs hv
end Go.Am
