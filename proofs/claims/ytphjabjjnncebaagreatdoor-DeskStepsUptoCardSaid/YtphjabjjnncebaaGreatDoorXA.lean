/- Parts of the proof: an abstract machine for Go functions, and what functions of the program give back (Am1, Am2, Am3, Am4, Am5, Am6, Am7, Am8). No condition. -/
import Derived.WalkKit
import Derived.WalkSpells
import Derived.WalkLawsBesides
import Derived.Deep.LoopGhost
import Derived.Lib.LaidTab
import Derived.Lib.ItoaNum
import Derived.Deep.AppendSrc
set_option maxRecDepth 100000
set_option linter.all false
namespace Go.Am
open Go Go.RowKit
def o_{p:Prop}(h:p:=by omega):p:=h
def s_{p:Prop}(h:p:=by simp):p:=h
def k_{p:Prop}(h:p:=by kernel_rfl):p:=h
def d_{p:Prop}(h:p:=by decide):p:=h
def f_{p:Prop}(h:p:=by simp <;> rfl):p:=h
def m_{p:Prop}(h:p:=by simp; omega):p:=h
def n_{p:Prop}(h:p:=by simp only; omega):p:=h
def v_{p q:Prop}(a:p)(h:p->q:=by intro h; simpa using h):q:=h a
def t_{p q:Prop}(a:p)(h:p->q:=by intro h; simp[h]):q:=h a
def a_:=@And.intro
def za:=@List.mem_cons_self
def zb:=@List.mem_cons_of_mem
def zc:=@List.getElem?_eq_getElem
def zd:=@Option.some.injEq
def ze:=@List.getElem?_eq_some_iff
def zf:=@if_neg
def zg:=@List.mem_of_getElem?
def zh:=@Prod.mk.injEq
def zi:=@List.mem_cons
def zj:=@if_pos
def zk:=@Classical.byContradiction
def zl:=@Array.getD_eq_getD_getElem?
def zm:=@List.take_of_length_le
def zn:=@Option.map_eq_some_iff
def zo:=@of_decide_eq_false
def zp:=@List.drop_of_length_le
def zq:=@of_decide_eq_true
def zr:=@List.mem_append
def zt:=@List.length_cons
def zu:=@List.length_append
def zw:=@List.mem_map
def zx:=@Nat.le_refl
def zy:=@List.length_take
def zz:=@List.getElem?_take
def ya:=@List.length_drop
def yb:=@Array.getElem?_eq_getElem
def yc:=@Ne.symm
def yd:=@Nat.lt_or_ge
def ye:=@List.mem_append_right
def yf:=@List.getElem?_drop
def yg:=@List.map_cons
def yh:=@List.getElem?_append_left
def yi:=@List.mem_iff_getElem?
def yj:=@List.getElem?_map
def yk:=@Bool.and_eq_true
def yl:=@List.getElem?_append_right
def ym:=@List.append_assoc
def yn:=@List.getElem?_cons_zero
def yo:=@List.size_toArray
def yp:=@List.not_mem_nil
def yq:=@List.mem_append_left
def yr:=@Nat.mul_le_mul_right
def yt:=@List.map_take
def yu:=@List.take_append_drop
def yv:=@Nat.add_assoc
def yw:=@List.cons_append
def yx:=@Array.getElem?_toList
def yy:=@Nat.zero_add
def yz:=@Array.length_toList
def xd:=@List.nodup_cons
def xe:=@List.all_eq_true
def xf:=@List.length_map
def xg:=@List.drop_eq_getElem_cons
def xh:=@List.mem_of_mem_drop
def xi:=@List.length_pos_iff
def xj:=@Array.getElem?_eq_some_iff
def xm:=@Bool.false_eq_true
def xn:=@List.mem_of_mem_take
def xo:=@List.flatMap_cons
def xp:=@Nat.add_mul
def xq:=@List.nil_append
def xr:=@List.append_nil
def xt:=@List.getElem?_cons_succ
def xu:=@Array.getElem?_append_left
def xv:=@List.getD_eq_getElem?_getD
def xw:=@List.mem_range'_1
def xx:=@Nat.lt_succ_self
def xy:=@List.length_nil
def xz:=@List.mem_flatMap
def wa:=@List.nodup_append
def wb:=@List.getElem?_toArray
def wc:=@List.foldl_cons
def we:=@List.take_append_of_le_length
def wg:=@Bool.eq_iff_iff
def wh:=@Int.toNat_natCast
def wi:=@List.take_succ
def wj:=@List.mem_singleton
def wk:=@List.dropWhile_cons_of_pos
def wm:=@Bool.or_eq_false_iff
def wn:=@Option.some.inj
def wo:=@List.drop_zero
def wq:=@List.eq_nil_of_length_eq_zero
def ws:=@Nat.exists_eq_succ_of_ne_zero
def wt:=@Nat.succ_eq_add_one
def wu:=@List.getElem?_eq_none
def wv:=@List.range_eq_range'
def ww:=@List.suffix_cons
def wx:=@Array.getElem?_eq_none
def wy:=@Bool.not_eq_true'
def wz:=@Array.getElem?_setIfInBounds_ne
def va:=@List.pairwise_iff_getElem
def vd:=@Option.map_some
def vf:=@List.map_append
def vg:=@List.getElem?_take_of_lt
def vh:=@Option.getD_some
def vi:=@List.range'_succ
def vj:=@Array.getElem?_setIfInBounds
def vk:=@List.getElem?_replicate
def vm:=@List.map_map
def vn:=@List.tail_cons
def vo:=@List.any_eq_true
def vp:=@Nat.add_zero
def vq:=@List.sum_cons
def vr:=@List.drop_one
def vt:=@List.mem_or_eq_of_mem_set
def vu:=@Array.ext'
def vv:=@Option.isSome_iff_exists
def vw:=@Array.size_append
def ua:=@Array.size_setIfInBounds
def ub:=@Nat.succ_mul
def uc:=@List.map_nil
def ud:=@List.map_congr_left
def ue:=@Bool.true_and
def uf:=@Option.bind_eq_some_iff
def ug:=@List.length_eq_zero_iff
def uh:=@List.take_length
def ui:=@Nat.lt_of_lt_of_le
def uj:=@Nat.eq_zero_or_pos
def uk:=@Nat.min_eq_left
def ul:=@Bool.or_eq_true
def um:=@List.dropWhile_suffix
def uo:=@decide_eq_false
def up:=@Nat.lt_irrefl
def uq:=@List.getElem?_set
def ur:=@Bool.or_false
def ut:=@Nat.lt_trichotomy
def uv:=@List.any_eq_false
def uw:=@List.getElem?_of_mem
def ux:=@List.contains_eq_mem
def uy:=@List.pairwise_append
def uz:=@List.drop_take
def tc:=@Bool.false_and
def td:=@Option.bind_some
def tf:=@List.take_succ_cons
def ti:=@Array.toList_append
def tj:=@List.mem_map_of_mem
def tk:=@Nat.le_trans
def tn:=@Array.getElem?_replicate
def to:=@Nat.not_lt
def tp:=@Classical.axiomOfChoice
def tq:=@List.mem_replicate
def tr:=@Array.getElem?_map
def tu:=@List.countP_append
def tv:=@List.mem_filter
def tz:=@List.pairwise_cons
def sb:=@List.take_take
def sd:=@List.drop_drop
def se:=@decide_eq_true
def sf:=@List.countP_le_length
def sg:=@Nat.le_of_ble_eq_true
def sj:=@List.map_set
def sm:=@List.countP_cons
def so:=@List.suffix_refl
def sq:=@List.range'_append_1
def sr:=@List.any_cons
def su:=@Nat.min_def
def sv:=@List.flatMap_append
def sw:=@List.dropWhile_cons_of_neg
def sy:=@List.takeWhile_cons_of_pos
def ra:=@Nat.sub_zero
def rc:=@Array.mapM_eq_mapM_toList
def rf:=@List.drop_left
def rj:=@List.getLast?_eq_getElem?
def rk:=@Bool.eq_false_iff
def rm:=@Nat.zero_le
def rp:=@List.map_drop
def rq:=@Nat.mod_eq_of_lt
def ru:=@Nat.le_max_right
def rz:=@Bool.not_eq_true
def qa:=@Int.add_mul_ediv_right
def qb:=@List.drop_eq_nil_of_le
def qc:=@List.length_pos_of_mem
def qd:=@Int.natCast_mul
def qe:=@Int.pow_succ
def qf:=@Int.mul_comm
def qg:=@Int.emod_add_mul_ediv
def qh:=@List.sum_append
def qi:=@List.getElem?_zipWith
def qj:=@List.mapM_cons
def qk:=@Bool.not_false
def ql:=@List.nodup_nil
def qm:=@Bool.not_true
def qn:=@Int.mul_assoc
def qo:=@Nat.zero_mul
def qp:=@Nat.mul_comm
def qq:=@Nat.add_comm
def qr:=@Nat.sub_self
def qt:=@Bool.true_or
def qu:=@Nat.min_self
def qv:=@List.any_nil
inductive AV where
 | int (k:IntKind) (n:Int)
 | bool (b:Bool)
 | str (s:List UInt8)
 | nilp
 | ptr (id i off:Nat)
 | cptr (cs:List AV)
 | nils
 | sl (xs:List AV)
 | bsl (id off len:Nat)
 | fn (f:Nat) (caps:List AV)
 | fnb (f:Nat) (caps:List AV)
 | nilf
 | iface (t:Nat) (v:AV)
 | nili
 | agg (cs:List AV)
 | tup (vs:List AV)
 deriving Inhabited
def AV.cells:AV->List AV
 | .agg cs=>cs
 | v=>[v]
mutual
def AV.pureB:AV->Bool
 | .ptr _ _ _=>false
 | .bsl _ _ _=>false
 | .cptr cs=>F8 cs
 | .sl xs=>F8 xs
 | .agg cs=>F8 cs
 | .tup vs=>F8 vs
 | .fn _ caps=>F8 caps
 | .fnb _ caps=>F8 caps
 | .iface _ v=>v.pureB
 | _=>true
def F8:List AV->Bool
 | []=>true
 | x::r=>x.pureB&&F8 r
end
def A6A{l:List AV}(h:F8 l=true){i:Nat}{x:AV}(hx:l[i]?=some x):x.pureB=true:=by
 induction l generalizing i with
 | nil=>simp at hx
 | cons y r ih =>
  simp only[F8,yk] at h;cases i with
  | zero=>simp at hx; subst hx; exact h.1
  | succ i=>exact ih h.2 (v_ hx)
def A57{l:List AV}(h:∀(i:Nat) x,l[i]?=some x->x.pureB=true):F8 l=true:=by
 induction l with
 | nil=>rfl
 | cons y r ih =>
  simp only[F8,yk];exact⟨h 0 y rfl,ih λi x hx=>h (i+1) x (v_ hx)⟩
structure Gh where
 fz:Nat->Nat->Prop
 used:Nat->Prop
 bm:Nat->Option (Nat×Nat)
 nl:Nat->Prop
inductive RV(G:Gh)(w:World):AV->Value->Prop
 | int (k:IntKind) (n:Int):RV G w (.int k n) (.int k n)
 | bool (b:Bool):RV G w (.bool b) (.bool b)
 | str (s:List UInt8):RV G w (.str s) (.string ⟨⟨s⟩⟩)
 | nilp:RV G w .nilp (.pointer none)
 | ptr (id i off:Nat) (v:Value) (ho:v.oneCell'=true) (hu:G.used id) (hb:∀b s,G.bm id=some (b,s)->v = .pointer (some ⟨b,i*s+off,none⟩)):RV G w (.ptr id i off) v
 | cptr (cs:List AV) (a:Addr) (u:Nat->Value) (h1:∀j y,cs[j]?=some y->G.fz a.block (a.off+j)) (h2:∀j y,cs[j]?=some y->w.cell? (a.add j)=some (u j))
   (h3:∀j y,cs[j]?=some y->RV G w y (u j)):RV G w (.cptr cs) (.pointer (some a))
 | nils:RV G w .nils (.slice none 0 0)
 | sl (xs:List AV) (A:Option Addr) (c s:Nat) (u:Nat->Nat->Value) (hc:xs.length<=c) (hm:c<=maxLen) (hn:A=none->xs=[]/\c=0)
   (hs:∀(i:Nat) (x:AV),xs[i]?=some x->x.cells.length=s)
   (h1:∀(a:Addr) (i:Nat) (x:AV) (j:Nat) (y:AV),A=some a->xs[i]?=some x->x.cells[j]?=some y->G.fz a.block (a.off+(i*s+j)))
   (h2:∀(a:Addr) (i:Nat) (x:AV) (j:Nat) (y:AV),A=some a->xs[i]?=some x->x.cells[j]?=some y->w.cell? (a.add (i*s+j))=some (u i j))
   (h3:∀(i:Nat) (x:AV) (j:Nat) (y:AV),xs[i]?=some x->x.cells[j]?=some y->RV G w y (u i j)):RV G w (.sl xs) (.slice A xs.length c)
 | bsl (id off len:Nat) (v:Value) (ho:v.oneCell'=true) (hu:G.used id)
   (hb:∀b s,G.bm id=some (b,s)->∃c cur e,v = .slice (some ⟨b,off*s,none⟩) len c/\len<=c/\c<=maxLen/\w.heap[b]?=some (.cells cur e (0,0))/\cur.size=(off+c)*s) (hn:G.nl id->v = .slice none 0 0/\off=0/\len=0):RV G w (.bsl id off len) v
 | fn (f:Nat) (caps:List AV) (vs:Array Value) (hl:caps.length=vs.size) (h:∀i y,caps[i]?=some y->RV G w y (vs.getD i undef)):RV G w (.fn f caps) (.func (.func f) #[] vs)
 | fnb (f:Nat) (caps:List AV) (vs:Array Value) (hl:caps.length=vs.size) (h:∀i y,caps[i]?=some y->RV G w y (vs.getD i undef)):RV G w (.fnb f caps) (.func (.func f) vs #[])
 | nilf:RV G w .nilf .nilFunc
 | iface (t:Nat) (x:AV) (v:Value) (h:RV G w x v):RV G w (.iface t x) (.iface t v)
 | nili:RV G w .nili .nilIface
 | agg (cs:List AV) (vs:Array Value) (hl:cs.length=vs.size) (h:∀i y,cs[i]?=some y->RV G w y (vs.getD i undef)):RV G w (.agg cs) (.agg vs)
 | tup (cs:List AV) (vs:Array Value) (hl:cs.length=vs.size) (h:∀i y,cs[i]?=some y->RV G w y (vs.getD i undef)):RV G w (.tup cs) (.tuple vs)
structure L4(G:Gh)(w:World)(G':Gh)(w':World):Prop where
 fz:∀b o,G.fz b o->G'.fz b o
 cell:∀a:Addr,G.fz a.block a.off->w'.cell? a=w.cell? a
 used:∀id,G.used id->G'.used id
 bm:∀id,G.used id->G'.bm id=G.bm id\/G'.bm id=none
 nl:∀id,G.used id->G'.nl id->G.nl id
 row:∀id b s,G.used id->G'.bm id=some (b,s)->∀cur e,w.heap[b]?=some (.cells cur e (0,0))->∃cur',w'.heap[b]?=some (.cells cur' e (0,0))/\cur'.size=cur.size
def L4.refl(G:Gh)(w:World):L4 G w G w:=⟨λ_ _ h=>h,λ_ _=>rfl,λ_ h=>h,λ_ _=>.inl rfl,λ_ _ h=>h,λ_ _ _ _ _ cur _ h=>⟨cur,h,rfl⟩⟩
def L4.trans{G0 G1 G2:Gh}{w0 w1 w2:World}(h:L4 G0 w0 G1 w1)(k:L4 G1 w1 G2 w2):L4 G0 w0 G2 w2 :=
 ⟨λb o hf=>k.fz b o (h.fz b o hf),λa hf=>(k.cell a (h.fz _ _ hf)).trans (h.cell a hf),λid hu=>k.used id (h.used id hu),
  λid hu=>by
  rcases k.bm id (h.used id hu) with e|e
  ·rcases h.bm id hu with e'|e'
   ·exact .inl (e.trans e')
   ·exact .inr (e.trans e')
  ·exact .inr e,
  λid hu hn=>h.nl id hu (k.nl id (h.used id hu) hn),
  λid b s hu hb cur e hh=>by
  have h1:G1.bm id=some (b,s):=by
   rcases k.bm id (h.used id hu) with e'|e'
   ·rw[←e',hb]
   ·rw[hb] at e'; cases e'
  obtain⟨cur1,hh1,hs1⟩:=h.row id b s hu h1 cur e hh;obtain⟨cur2,hh2,hs2⟩:=k.row id b s (h.used id hu) hb cur1 e hh1;exact⟨cur2,hh2,hs2.trans hs1⟩⟩
def Y8(a:Addr)(n:Nat):(a.add n).block=a.block:=by unfold Addr.add; split<;>rfl
def A1j(a:Addr)(n:Nat):(a.add n).off=a.off+n:=by unfold Addr.add; split<;>simp[*]
def RV.mono{G G':Gh}{w w':World}(e:L4 G w G' w'){x:AV}{v:Value}(h:RV G w x v):RV G' w' x v:=by
 induction h with
 | int k n=>exact .int k n
 | bool b=>exact .bool b
 | str s=>exact .str s
 | nilp=>exact .nilp
 | ptr id i off v ho hu hb =>
  refine .ptr id i off v ho (e.used id hu) λb s hbs=>hb b s ?_;rcases e.bm id hu with h|h
  ·rw[←h,hbs]
  ·rw[hbs] at h; cases h
 | cptr cs a u h1 h2 h3 ih =>
  refine .cptr cs a u (λj y hj=>e.fz _ _ (h1 j y hj)) (λj y hj=>?_) ih;rw[e.cell _ (by rw[Y8,A1j]; exact h1 j y hj)];exact h2 j y hj
 | nils=>exact .nils
 | sl xs A c s u hc hm hn hs h1 h2 h3 ih =>
  refine .sl xs A c s u hc hm hn hs (λa i x j y ha hx hy=>e.fz _ _ (h1 a i x j y ha hx hy)) (λa i x j y ha hx hy=>?_) ih;rw[e.cell _ (by rw[Y8,A1j]; exact h1 a i x j y ha hx hy)];exact h2 a i x j y ha hx hy
 | bsl id off len v ho hu hb hn =>
  refine .bsl id off len v ho (e.used id hu) (λb s hbs=>?_) λh=>hn (e.nl id hu h);have h0:G.bm id=some (b,s):=by
   rcases e.bm id hu with h|h
   ·rw[←h,hbs]
   ·rw[hbs] at h; cases h
  obtain⟨c,cur,el,hv,hl,hm,hh,hz⟩:=hb b s h0;obtain⟨cur',hh',hz'⟩:=e.row id b s hu hbs cur el hh;exact⟨c,cur',el,hv,hl,hm,hh',hz'.trans hz⟩
 | fn f caps vs hl h ih=>exact .fn f caps vs hl ih
 | fnb f caps vs hl h ih=>exact .fnb f caps vs hl ih
 | nilf=>exact .nilf
 | iface t x v h ih=>exact .iface t x v ih
 | nili=>exact .nili
 | agg cs vs hl h ih=>exact .agg cs vs hl ih
 | tup cs vs hl h ih=>exact .tup cs vs hl ih
def A9r{v:Value}(h:v.oneCell'=true):v.cells = #[v]:=by cases v<;>first|rfl|simp[Value.oneCell'] at h
def RV.cells{G:Gh}{w:World}{x:AV}{v:Value}(h:RV G w x v):
  x.cells.length=v.cells.size/\∀(j:Nat) y,x.cells[j]?=some y->RV G w y (v.cells.getD j undef):=by
 have one:x.cells=[x]->v.cells = #[v]->x.cells.length=v.cells.size/\∀(j:Nat) y,x.cells[j]?=some y->RV G w y (v.cells.getD j undef):=λhx hv=>by
  rw[hx,hv];refine⟨rfl,λj y hy=>?_⟩;cases j with
  | zero=>simp at hy; subst hy; exact h
  | succ j=>simp at hy
 cases h with
 | agg cs vs hl h=>exact⟨hl,h⟩
 | ptr id i off v ho hu hb=>exact one rfl (A9r ho)
 | bsl id off len v ho hu hb hn=>exact one rfl (A9r ho)
 | _=>exact one rfl rfl
def AV.one:AV->Bool
 | .agg _=>false
 | .tup _=>false
 | _=>true
def RV.oneCell{G:Gh}{w:World}{x:AV}{v:Value}(h:RV G w x v)(hx:x.one=true):v.oneCell'=true:=by
 cases h<;>first|assumption|rfl|simp[AV.one] at hx
def AV.one_cells{x:AV}(hx:x.one=true):x.cells=[x]:=by cases x<;>first|rfl|simp[AV.one] at hx
/-! ### The boxes of a call -/
structure Bx where
 xs:List AV
 d:AV
 ro:Bool
 frz:Bool
def Bx.sz(b:Bx):Nat:=b.d.cells.length
def C5v : List (String × IntKind × List Int) := [("internal/strconv.uint64pow10", .u64, Lib.pow10Tab)]
def B6N(P:Program)(w:World):Prop:=∀t∈C5v,∀g,P.globalNamed t.1=some g->Lib.TabIs P w t.1 t.2.1 t.2.2
def B6N.below{P:Program}{w w':World}(h:B6N P w)(hb:Below w.heap.size w w'):B6N P w':=λt ht g hg=>by
 have h1:=h t ht g hg;unfold Lib.TabIs World.var? at h1 ⊢;rw[hg] at h1 ⊢;simp only[td] at h1 ⊢;rw[hb.block g (by
  rcases yd g w.heap.size with k|k
  ·exact k
  ·rw[wx k] at h1; cases h1)]
 exact h1
def C3V : List String := ["strconv.ErrSyntax", "strconv.ErrRange"]
def B6O(P:Program)(w:World):Prop:=∀n∈C3V,∀g,P.globalNamed n=some g->∃v,w.cell? ⟨g,0,none⟩=some v/\(v = .nilIface\/∃te pe,v = .iface te pe)
def B6O.below{P:Program}{w w':World}(h:B6O P w)(hb:Below w.heap.size w w'):B6O P w':=λn hn g hg=>by
 obtain⟨v,h1,h2⟩:=h n hn g hg;have hg:g<w.heap.size:=by
  rcases yd g w.heap.size with k|k
  ·exact k
  ·simp[World.cell?,wx k] at h1
 exact⟨v,by rw[hb.cell (p:=⟨g,0,none⟩) hg]; exact h1,h2⟩
structure A3L(P:Program)(w:World):Prop where
 tab:B6N P w
 err:B6O P w
def A3L.below{P:Program}{w w':World}(h:A3L P w)(hb:Below w.heap.size w w'):A3L P w':=⟨h.tab.below hb,h.err.below hb⟩
structure Cx(P:Program)where
 B0:Nat
 W0:World
 fz0:Nat->Nat->Prop
 tab:∀w,Below B0 W0 w->A3L P w
def A03(G:Gh)(w:World)(s:Nat)(xs:List AV)(cur:Array Value):Prop :=
 ∀(i:Nat) (y:AV),xs[i]?=some y->y.cells.length=s/\∀(j:Nat) (z:AV),y.cells[j]?=some z->∃u,cur[i*s+j]?=some u/\RV G w z u
def A03.mono{G G':Gh}{w w':World}(e:L4 G w G' w'){s:Nat}{xs:List AV}{cur:Array Value}(h:A03 G w s xs cur):A03 G' w' s xs cur :=
 λi y hy=>⟨(h i y hy).1,λj z hz=>let ⟨u,hu,hr⟩:=(h i y hy).2 j z hz; ⟨u,hu,hr.mono e⟩⟩
structure RS{P:Program}(C:Cx P)(G:Gh)(bx:Nat->Option Bx)(w:World):Prop where
 below:Below C.B0 C.W0 w
 size:C.B0<=w.heap.size
 fzok:∀b o,G.fz b o->∃u,w.cell? ⟨b,o,none⟩=some u
 fzold:∀b o,G.fz b o->b<C.B0->C.fz0 b o
 box:∀id x,bx id=some x->¬G.nl id->∃b s cur e,G.bm id=some (b,s)/\w.heap[b]?=some (.cells cur e (0,0))/\(x.ro=false->C.B0<=b)/\(x.sz=s/\x.xs.length*s<=cur.size)/\A03 G w s x.xs cur /\
  (x.frz=false->∀o,¬G.fz b o)/\(∀o,G.fz b o->o<x.xs.length*s)
 nil:∀id x,bx id=some x->G.nl id->x.xs=[]/\x.ro=false
 nlu:∀id,G.nl id->G.used id/\G.bm id=none
 used:∀id b s,G.bm id=some (b,s)->G.used id
 inj:∀id id' b s s',G.bm id=some (b,s)->G.bm id'=some (b,s')->id=id'
 rows:∀id b s,G.bm id=some (b,s)->b<w.heap.size
def RS.lies{P:Program}{C:Cx P}{G:Gh}{bx:Nat->Option Bx}{w:World}(h:RS C G bx w){id i:Nat}{x:Bx}{y:AV}(hx:bx id=some x)(hy:x.xs[i]?=some y):¬G.nl id :=
 λhn=>by rw[(h.nil id x hx hn).1] at hy; simp at hy
def C3W{w:World}{a:Addr}{u:Value}(h:w.cell? a=some u):a=⟨a.block,a.off,none⟩:=by
 obtain⟨b,o,s⟩:=a;cases s with
 | none=>rfl
 | some s=>simp only[World.cell?] at h; split at h<;>simp at h
def A9s{w:World}{a:Addr}{u:Value}(h:w.cell? a=some u):w.cell? ⟨a.block,a.off,none⟩=some u:=by rw[←C3W h]; exact h
def Y9{w:World}{b o:Nat}{u:Value}(h:w.cell? ⟨b,o,none⟩=some u):b<w.heap.size:=World.block_lt_of_cell? w ⟨b,o,none⟩ h
def A1k{G:Gh}{w w':World}(hf:∀b o,G.fz b o->w'.heap[b]?=w.heap[b]?)
  (hr:∀id b s,G.bm id=some (b,s)->∀cur e,w.heap[b]?=some (.cells cur e (0,0))->∃cur',w'.heap[b]?=some (.cells cur' e (0,0))/\cur'.size=cur.size):L4 G w G w' :=
 ⟨λ_ _ h=>h,λ_ ha=>World.cell?_of_block (hf _ _ ha),λ_ h=>h,λ_ _=>.inl rfl,λ_ _ h=>h,λid b s _ hb cur e h=>hr id b s hb cur e h⟩
def RS.drew{P:Program}{C:Cx P}{G:Gh}{bx:Nat->Option Bx}{w:World}(h:RS C G bx w):RS C G bx w.drew/\L4 G w G w.drew:=by
 have e:L4 G w G w.drew:=A1k (λ_ _ _=>rfl) λ_ _ _ _ cur _ hh=>⟨cur,hh,rfl⟩;exact⟨⟨h.below.drew,h.size,h.fzok,h.fzold,λid x hx hn=>let ⟨b,s,cur,el,h1,h2,h3,h4,h5,h6⟩:=h.box id x hx hn; ⟨b,s,cur,el,h1,h2,h3,h4,h5.mono e,h6⟩,h.nil,h.nlu,h.used,h.inj,h.rows⟩,e⟩
def RS.weak{P:Program}{C:Cx P}{G:Gh}{bx bx':Nat->Option Bx}{w:World}(h:RS C G bx w)(hb:∀id x,bx' id=some x->bx id=some x):RS C G bx' w :=
 ⟨h.below,h.size,h.fzok,h.fzold,λid x hx=>h.box id x (hb id x hx),λid x hx=>h.nil id x (hb id x hx),h.nlu,h.used,h.inj,h.rows⟩
def T6{α β:Type}[DecidableEq α](f:α->β)(a:α)(v:β):α->β:=λx=>if x=a then v else f x
def C7{α β:Type}[DecidableEq α](f:α->β)(a:α)(v:β):T6 f a v a=v:=by simp[T6]
def B6{α β:Type}[DecidableEq α](f:α->β)(a:α)(v:β){x:α}(h:x≠a):T6 f a v x=f x:=by simp[T6,h]
def Gh.name(G:Gh)(id b s:Nat):Gh:={ G with used:=λx=>x=id\/G.used x,bm:=T6 G.bm id (some (b,s)) }
def L4.alloc_name{G:Gh}{w:World}{id s:Nat}(hfz:∀b o,G.fz b o->b<w.heap.size)(hu:¬G.used id)(hrow:∀id b s,G.bm id=some (b,s)->b<w.heap.size)(cur:Array Value)(e:TypeId):
  L4 G w (G.name id w.heap.size s) (w.alloc (.cells cur e)):=by
 refine⟨λ_ _ h=>h,λ_ ha=>World.cell?_alloc_lt w _ _ (hfz _ _ ha),λ_ h=>.inr h,λi hi=>.inl ?_,λ_ _ h=>h,λi b' s' hi hb c el hh=>?_⟩
 ·exact B6 _ _ _ (λh=>hu (h▸hi))
 ·have:i≠id:=λh=>hu (h▸hi);simp only[Gh.name,B6 _ _ _ this] at hb;exact⟨c,by rw[Below.heap_alloc _ _ _ (hrow i b' s' hb)]; exact hh,rfl⟩
def RS.alloc{P:Program}{C:Cx P}{G:Gh}{bx:Nat->Option Bx}{w:World}(h:RS C G bx w){id s:Nat}(hu:¬G.used id)(xs:List AV)(cur:Array Value)(e:TypeId)(hsz:xs.length*s<=cur.size)(hc:A03 G w s xs cur)(d:AV)(hd:d.cells.length=s):
  RS C (G.name id w.heap.size s) (T6 bx id (some ⟨xs,d,false,false⟩)) (w.alloc (.cells cur e))/\L4 G w (G.name id w.heap.size s) (w.alloc (.cells cur e)):=by
 have hfz:∀b o,G.fz b o->b<w.heap.size:=λb o hf=>let ⟨u,hu⟩:=h.fzok b o hf; Y9 hu;have ev:=L4.alloc_name (s:=s) hfz hu h.rows cur e;refine⟨⟨h.below.alloc h.size _,by simp; have:=h.size; omega,λb o hf=>?_,h.fzold,λi x hx hn=>?_,λi x hx hn=>?_,λi hn=>?_,λi b s' hb=>?_,λi i' b s1 s2 h1 h2=>?_,λi b s' hb=>?_⟩,ev⟩
 ·obtain⟨u,hu⟩:=h.fzok b o hf;exact⟨u,by rw[World.cell?_alloc_lt w _ _ (hfz b o hf)]; exact hu⟩
 ·by_cases hi:i=id
  ·subst hi;rw[C7] at hx;injection hx with hx
   subst hx;exact⟨w.heap.size,s,cur,e,C7 _ _ _,heap_alloc_new w _,λ_=>h.size,⟨hd,hsz⟩,hc.mono ev,λ_ o hf=>up _ (hfz _ _ hf),λo hf=>absurd (hfz _ _ hf) (up _)⟩
  ·rw[B6 _ _ _ hi] at hx;obtain⟨b,s',cur',e',h1,h2,h3,h4,h5,h6⟩:=h.box i x hx hn;refine⟨b,s',cur',e',(B6 _ _ _ hi).trans h1,?_,h3,h4,h5.mono ev,h6⟩;rw[Below.heap_alloc _ _ _ (h.rows i b s' h1)];exact h2
 ·have hi:i≠id:=λhi=>hu (hi▸(h.nlu i hn).1);rw[B6 _ _ _ hi] at hx;exact h.nil i x hx hn
 ·have hi:i≠id:=λhi=>hu (hi▸(h.nlu i hn).1);exact⟨.inr (h.nlu i hn).1,(B6 _ _ _ hi).trans (h.nlu i hn).2⟩
 ·by_cases hi:i=id
  ·exact .inl hi
  ·simp only[Gh.name,B6 _ _ _ hi] at hb;exact .inr (h.used i b s' hb)
 ·have hne:∀(k:Nat) (s':Nat),G.bm k=some (b,s')->b=w.heap.size->False:=λk s' hk hb=>by have:=h.rows k b s' hk; omega
  by_cases hi:i=id
  ·by_cases hi':i'=id
   ·rw[hi,hi']
   ·simp only[Gh.name,hi,C7,zd,zh] at h1;simp only[Gh.name,B6 _ _ _ hi'] at h2;exact (hne i' s2 h2 h1.1.symm).elim
  ·by_cases hi':i'=id
   ·simp only[Gh.name,hi',C7,zd,zh] at h2;simp only[Gh.name,B6 _ _ _ hi] at h1;exact (hne i s1 h1 h2.1.symm).elim
   ·simp only[Gh.name,B6 _ _ _ hi] at h1;simp only[Gh.name,B6 _ _ _ hi'] at h2;exact h.inj i i' b s1 s2 h1 h2
 ·by_cases hi:i=id
  ·simp only[Gh.name,hi,C7,zd,zh] at hb;simp; omega
  ·simp only[Gh.name,B6 _ _ _ hi] at hb;have:=h.rows i b s' hb;simp; omega
def RS.allocAny{P:Program}{C:Cx P}{G:Gh}{bx:Nat->Option Bx}{w:World}(h:RS C G bx w)(o:Obj):RS C G bx (w.alloc o)/\L4 G w G (w.alloc o):=by
 have hfz:∀b o,G.fz b o->b<w.heap.size:=λb o hf=>let ⟨u,hu⟩:=h.fzok b o hf; Y9 hu;have ev:L4 G w G (w.alloc o):=A1k (λb o' hf=>Below.heap_alloc _ _ _ (hfz b o' hf)) λi b s hb cur e hh=>⟨cur,by rw[Below.heap_alloc _ _ _ (h.rows i b s hb)]; exact hh,rfl⟩;refine⟨⟨h.below.alloc h.size _,by simp; have:=h.size; omega,λb o' hf=>?_,h.fzold,λi x hx hn=>?_,h.nil,h.nlu,h.used,h.inj,λi b s hb=>by have:=h.rows i b s hb; simp; omega⟩,ev⟩
 ·obtain⟨u,hu⟩:=h.fzok b o' hf;exact⟨u,by rw[World.cell?_alloc_lt w _ _ (hfz b o' hf)]; exact hu⟩
 ·obtain⟨b,s',cur',e',h1,h2,h3,h4,h5,h6⟩:=h.box i x hx hn;exact⟨b,s',cur',e',h1,by rw[Below.heap_alloc _ _ _ (h.rows i b s' h1)]; exact h2,h3,h4,h5.mono ev,h6⟩
def RS.setRow{P:Program}{C:Cx P}{G:Gh}{bx:Nat->Option Bx}{w:World}(h:RS C G bx w){id b s:Nat}{x:Bx}{cur cur':Array Value}{e:TypeId}(hx:bx id=some x)(hb:G.bm id=some (b,s))(hro:x.ro=false)(hfr:x.frz=false)
  (hh:w.heap[b]?=some (.cells cur e (0,0))) (hz:cur'.size=cur.size) (xs:List AV) (hl:xs.length=x.xs.length) (hc:A03 G w s xs cur') :
  RS C G (T6 bx id (some { x with xs:=xs })) (w.setRow b cur')/\L4 G w G (w.setRow b cur'):=by
 have hnl:¬G.nl id:=λhn=>by rw[(h.nlu id hn).2] at hb; cases hb
 obtain⟨b1,s1,cur1,e1,h1,h2,h3,h4,h5,h6,h7⟩:=h.box id x hx hnl;rw[hb] at h1;injection h1 with h1
 injection h1 with hb1 hs1
 subst hb1 hs1;rw[hh] at h2;injection h2 with h2
 injection h2 with h2 he
 subst h2 he;have hnf:∀b' o,G.fz b' o->b'≠b:=λb' o hf hbb=>h6 hfr o (hbb▸hf);have hother:∀k,k≠b->(w.setRow b cur').heap[k]?=w.heap[k]?:=λk hk=>setRow_other w b k cur' hk;have hnew:=setRow_heap w b cur cur' e (0,0) hh;have ev:L4 G w G (w.setRow b cur'):=A1k (λb' o hf=>hother b' (hnf b' o hf)) λi b' s' hb' c el hc'=>by
  by_cases hbb:b'=b
  ·subst hbb;rw[hh] at hc';injection hc' with hc'
   injection hc' with hc' he'
   subst hc' he';exact⟨cur',hnew,hz⟩
  ·exact⟨c,by rw[hother b' hbb]; exact hc',rfl⟩
 have hB:C.B0<=b:=h3 hro;refine⟨⟨?_,by simp; exact h.size,λb' o hf=>?_,h.fzold,λi y hy hn=>?_,λi y hy hn=>?_,h.nlu,h.used,h.inj,λi b' s' hb'=>by simp; exact h.rows i b' s' hb'⟩,ev⟩
 ·exact h.below.trans ⟨rfl,rfl,rfl,s_,λk hk=>hother k o_⟩
 ·obtain⟨u,hu⟩:=h.fzok b' o hf;exact⟨u,by rw[World.cell?_of_block (w:=w) (hother b' (hnf b' o hf))]; exact hu⟩
 ·by_cases hi:i=id
  ·subst hi;rw[C7] at hy;injection hy with hy
   subst hy;exact⟨b,s,cur',e,hb,hnew,λ_=>hB,⟨h4.1,by simp only[hl]; omega⟩,hc.mono ev,λ_=>h6 hfr,by simpa only[hl] using h7⟩
  ·rw[B6 _ _ _ hi] at hy;obtain⟨b2,s2,cur2,e2,k1,k2,k3,k4,k5,k6⟩:=h.box i y hy hn;have hne:b2≠b:=λhbb=>hi (h.inj i id b2 s2 s k1 (hbb▸hb));exact⟨b2,s2,cur2,e2,k1,by rw[hother b2 hne]; exact k2,k3,k4,k5.mono ev,k6⟩
 ·have hi:i≠id:=λhi=>hnl (hi▸hn);rw[B6 _ _ _ hi] at hy;exact h.nil i y hy hn
def B7v{w w':World}{a:Addr}(h:w'.cell? ⟨a.block,a.off,none⟩=w.cell? ⟨a.block,a.off,none⟩):w'.cell? a=w.cell? a:=by
 obtain⟨b,o,s⟩:=a;cases s with
 | none=>exact h
 | some s =>
  have:∀w:World,w.cell? ⟨b,o,some s⟩=none:=λw=>by simp only[World.cell?]; split<;>simp
  rw[this,this]
def Gh.rename(G:Gh)(old id b s:Nat):Gh:={ G with used:=λx=>x=id\/G.used x,bm:=T6 (T6 G.bm old none) id (some (b,s)) }
def RS.moved{P:Program}{C:Cx P}{G:Gh}{bx:Nat->Option Bx}{w w':World}(h:RS C G bx w){id0 id b' s:Nat}{cur':Array Value}{e':TypeId}{x':Bx}(hu:¬G.used id)(hbelow:Below C.B0 w w')
  (hother:∀i b2 s2,G.bm i=some (b2,s2)->i≠id0->w'.heap[b2]?=w.heap[b2]?) (hfz:∀b2 o,G.fz b2 o->w'.cell? ⟨b2,o,none⟩=w.cell? ⟨b2,o,none⟩) (hnew:w'.heap[b']?=some (.cells cur' e' (0,0))) (hB:C.B0<=b')
  (hne:∀i s2,i≠id0->G.bm i≠some (b',s2)) (hlen:x'.xs.length*s<=cur'.size) (hsz:x'.sz=s) (hc:A03 G w s x'.xs cur') (hf1:x'.frz=false->∀o,¬G.fz b' o) (hf2:∀o,G.fz b' o->o<x'.xs.length*s) :
  RS C (G.rename id0 id b' s) (T6 (T6 bx id0 none) id (some x')) w'/\L4 G w (G.rename id0 id b' s) w':=by
 have hold:∀i,i≠id->i≠id0->(G.rename id0 id b' s).bm i=G.bm i:=λi h1 h2=>by simp only[Gh.rename,B6 _ _ _ h1,B6 _ _ _ h2]
 have hnone:id0≠id->(G.rename id0 id b' s).bm id0=none:=λh1=>by simp only[Gh.rename,B6 _ _ _ h1,C7]
 have hid:(G.rename id0 id b' s).bm id=some (b',s):=by simp only[Gh.rename,C7]
 have ev:L4 G w (G.rename id0 id b' s) w':=by
  refine⟨λ_ _ h=>h,λa ha=>B7v (hfz _ _ ha),λ_ h=>.inr h,λi hi=>?_,λ_ _ h=>h,λi b2 s2 hi hb cur e hh=>?_⟩
  ·have h1:i≠id:=λh=>hu (h▸hi);by_cases h2:i=id0
   ·subst h2; exact .inr (hnone h1)
   ·exact .inl (hold i h1 h2)
  ·have h1:i≠id:=λh=>hu (h▸hi);by_cases h2:i=id0
   ·subst h2; rw[hnone h1] at hb; cases hb
   ·rw[hold i h1 h2] at hb;exact⟨cur,by rw[hother i b2 s2 hb h2]; exact hh,rfl⟩
 refine⟨⟨h.below.trans hbelow,tk h.size hbelow.size,λb o hf=>?_,h.fzold,λi x hx hn=>?_,λi x hx hn=>?_,λi hn=>?_,λi b s' hb=>?_,λi i' b s1 s2 h1 h2=>?_,λi b s' hb=>?_⟩,ev⟩
 ·obtain⟨u,hu⟩:=h.fzok b o hf;exact⟨u,by rw[hfz b o hf]; exact hu⟩
 ·by_cases hi:i=id
  ·subst hi;rw[C7] at hx;injection hx with hx
   subst hx;exact⟨b',s,cur',e',hid,hnew,λ_=>hB,⟨hsz,hlen⟩,hc.mono ev,hf1,hf2⟩
  ·rw[B6 _ _ _ hi] at hx;by_cases h2:i=id0
   ·subst h2; rw[C7] at hx; cases hx
   ·rw[B6 _ _ _ h2] at hx;obtain⟨b2,s2,cur2,e2,k1,k2,k3,k4,k5,k6⟩:=h.box i x hx hn;exact⟨b2,s2,cur2,e2,(hold i hi h2).trans k1,by rw[hother i b2 s2 k1 h2]; exact k2,k3,k4,k5.mono ev,k6⟩
 ·have hi:i≠id:=λhi=>hu (hi▸(h.nlu i hn).1);rw[B6 _ _ _ hi] at hx;by_cases h2:i=id0
  ·subst h2; rw[C7] at hx; cases hx
  ·rw[B6 _ _ _ h2] at hx;exact h.nil i x hx hn
 ·have hi:i≠id:=λhi=>hu (hi▸(h.nlu i hn).1);refine⟨.inr (h.nlu i hn).1,?_⟩;by_cases h2:i=id0
  ·subst h2; exact hnone hi
  ·exact (hold i hi h2).trans (h.nlu i hn).2
 ·by_cases hi:i=id
  ·exact .inl hi
  ·by_cases h2:i=id0
   ·subst h2; rw[hnone hi] at hb; cases hb
   ·rw[hold i hi h2] at hb;exact .inr (h.used i b s' hb)
 ·by_cases hi:i=id
  ·by_cases hi':i'=id
   ·rw[hi,hi']
   ·by_cases h4:i'=id0
    ·subst h4; rw[hnone hi'] at h2; cases h2
    ·rw[hold i' hi' h4] at h2;rw[hi,hid] at h1;injection h1 with h1
     injection h1 with h1 _
     exact (hne i' s2 h4 (h1▸h2)).elim
  ·by_cases h3:i=id0
   ·subst h3; rw[hnone hi] at h1; cases h1
   ·rw[hold i hi h3] at h1;by_cases hi':i'=id
    ·rw[hi',hid] at h2;injection h2 with h2
     injection h2 with h2 _
     exact (hne i s1 h3 (h2▸h1)).elim
    ·by_cases h4:i'=id0
     ·subst h4; rw[hnone hi'] at h2; cases h2
     ·rw[hold i' hi' h4] at h2;exact h.inj i i' b s1 s2 h1 h2
 ·by_cases hi:i=id
  ·rw[hi,hid] at hb;injection hb with hb
   injection hb with hb _
   rw[←hb];exact (xj.1 hnew).1
  ·by_cases h2:i=id0
   ·subst h2; rw[hnone hi] at hb; cases hb
   ·rw[hold i hi h2] at hb;exact ui (h.rows i b s' hb) hbelow.size
def RS.reflag{P:Program}{C:Cx P}{G:Gh}{bx:Nat->Option Bx}{w:World}{id:Nat}{xs:List AV}{d:AV}(h:RS C G (T6 bx id (some ⟨xs,d,false,false⟩)) w)(f:Bool):RS C G (T6 bx id (some ⟨xs,d,false,f⟩)) w:=by
 refine⟨h.below,h.size,h.fzok,h.fzold,λi x hx hn=>?_,λi x hx hn=>?_,h.nlu,h.used,h.inj,h.rows⟩
 ·by_cases hi:i=id
  ·subst hi;rw[C7] at hx;injection hx with hx
   subst hx;obtain⟨b,s',cur,e,h1,h2,h3,h4,h5,h6,h7⟩:=h.box i ⟨xs,d,false,false⟩ (C7 _ _ _) hn;exact⟨b,s',cur,e,h1,h2,h3,h4,h5,λ_=>h6 rfl,h7⟩
  ·rw[B6 _ _ _ hi] at hx;exact h.box i x (by rw[B6 _ _ _ hi]; exact hx) hn
 ·by_cases hi:i=id
  ·subst hi;rw[C7] at hx;injection hx with hx
   subst hx;exact h.nil i ⟨xs,d,false,false⟩ (C7 _ _ _) hn
  ·rw[B6 _ _ _ hi] at hx;exact h.nil i x (by rw[B6 _ _ _ hi]; exact hx) hn
def Gh.void(G:Gh)(id:Nat):Gh:={ G with used:=λx=>x=id\/G.used x,nl:=λx=>x=id\/G.nl x }
def RS.void{P:Program}{C:Cx P}{G:Gh}{bx:Nat->Option Bx}{w:World}(h:RS C G bx w){id:Nat}(hu:¬G.used id)(d:AV)(f:Bool):
  RS C (G.void id) (T6 bx id (some ⟨[],d,false,f⟩)) w/\L4 G w (G.void id) w/\RV (G.void id) w (.bsl id 0 0) (.slice none 0 0):=by
 have hb:G.bm id=none:=by
  cases hb:G.bm id with
  | none=>rfl
  | some p=>exact (hu (h.used id p.1 p.2 hb)).elim
 have ev:L4 G w (G.void id) w:=⟨λ_ _ h=>h,λ_ _=>rfl,λ_ h=>.inr h,λ_ _=>.inl rfl,λi hi hn=>hn.elim (λe=>(hu (e▸hi)).elim) (λh=>h),λ_ _ _ _ _ cur _ h=>⟨cur,h,rfl⟩⟩;refine⟨⟨h.below,h.size,h.fzok,h.fzold,λi x hx hn=>?_,λi x hx hn=>?_,λi hn=>?_,λi b s hb=>.inr (h.used i b s hb),h.inj,h.rows⟩,ev,.bsl id 0 0 _ rfl (.inl rfl) (λb s hbs=>?_) λ_=>⟨rfl,rfl,rfl⟩⟩
 ·have hi:i≠id:=λhi=>hn (.inl hi);rw[B6 _ _ _ hi] at hx;obtain⟨b,s,cur,e,h1,h2,h3,h4,h5,h6⟩:=h.box i x hx λh=>hn (.inr h);exact⟨b,s,cur,e,h1,h2,h3,h4,h5.mono ev,h6⟩
 ·by_cases hi:i=id
  ·subst hi;rw[C7] at hx;injection hx with hx
   subst hx;exact⟨rfl,rfl⟩
  ·rw[B6 _ _ _ hi] at hx;exact h.nil i x hx (hn.resolve_left hi)
 ·rcases hn with hn|hn
  ·subst hn; exact⟨.inl rfl,hb⟩
  ·exact⟨.inr (h.nlu i hn).1,(h.nlu i hn).2⟩
 ·have:G.bm id=some (b,s):=hbs;rw[hb] at this;cases this
inductive L5 where
 | t (n:Nat)
 | c (v:AV)
 | f (n:Nat)
 deriving Inhabited
inductive CK where
 | int (k:IntKind)
 | bytes
 | str
 | same
 | mki (t:Nat)
 | ta (t:Nat)
 | rcv (f:Nat)
 | fld (off:Nat)
 deriving Inhabited
inductive COp where
 | mv (x:L5)
 | pick (c a b:L5)
 | alloc (z:AV)
 | box (x:L5)
 | build (zs:List AV) (parts:List (Nat×Nat×L5))
 | bslice (z:AV) (n:Nat) (parts:List (Nat×L5))
 | ld (agg:Bool) (n:Nat) (x:L5)
 | st (n:Nat) (x v:L5)
 | chk (x:L5)
 | bin (op:BinOp) (eqs:Option (List Nat)) (x y:L5)
 | mm (mx:Bool) (x y:L5)
 | un (op:UnOp) (x:L5)
 | conv (k:CK) (x:L5)
 | mkf (f:Nat) (caps:List L5)
 | mks (z:AV) (bytes:Nat) (len cap:L5)
 | slis (x:L5) (lo hi:Option L5)
 | sli (n:Nat) (x:L5) (lo hi:Option L5)
 | fa (off:Nat) (x:L5)
 | ia (s:Nat) (z:AV) (x i:L5)
 | ix (x i:L5)
 | ext (x:L5) (i:Nat)
 | len (str:Bool) (x:L5)
 | app (str:Bool) (z:AV) (bytes:Nat) (x y:L5)
 | call (f:Nat) (args:List L5)
 | callv (x:L5) (args:List L5)
 | pnk (x:L5)
 | aa (n s:Nat) (x i:L5)
 | cpy (x y:L5)
 | inv (m:String) (x:L5) (args:List L5)
 deriving Inhabited
def C5w:Value->Option AV
 | .int k n=>some (.int k n)
 | .bool b=>some (.bool b)
 | .string s=>some (.str s.data.toList)
 | .pointer none=>some .nilp
 | .slice none 0 0=>some .nils
 | .nilFunc=>some .nilf
 | .nilIface=>some .nili
 | _=>none
def ofL:List Value->Option (List AV)
 | []=>some []
 | v::r=>match C5w v,ofL r with|some x,some xs=>some (x::xs)|_,_=>none
def ofV:Value->Option AV
 | .agg cs=>(ofL cs.toList).map .agg
 | .tuple vs=>if vs.isEmpty then some (.tup []) else none
 | v=>C5w v
section
variable {G:Gh} {w:World}
theorem B6P{v:Value}{x:AV}(h:C5w v=some x):RV G w x v:=by
 have one:∀{x y:AV},some x=some y->x=y:=λh=>by injection h
 cases v with
 | int k n=>rw[←one h]; exact .int k n
 | bool b=>rw[←one h]; exact .bool b
 | string s=>rw[←one h]; obtain⟨⟨l⟩⟩:=s; exact .str l
 | pointer a =>
  cases a with
  | none=>rw[←one h]; exact .nilp
  | some a=>cases h
 | slice a n c =>
  match a,n,c,h with
  | none,0,0,h=>rw[←one h]; exact .nils
  | some _,_,_,h=>cases h
  | none,_+1,_,h=>cases h
  | none,0,_+1,h=>cases h
 | nilFunc=>rw[←one h]; exact .nilf
 | nilIface=>rw[←one h]; exact .nili
 | _=>cases h
theorem B9n:∀{l:List Value} {xs:List AV},ofL l=some xs->xs.length=l.length/\∀(i:Nat) y,xs[i]?=some y->RV G w y (l.getD i undef)
 | [],xs,h=>by simp[ofL] at h; subst h; exact⟨rfl,λi y hy=>by simp at hy⟩
 | v::r,xs,h=>by
  simp only[ofL] at h;split at h
  ·rename_i x xs' hx hr;injection h with h
   subst h;obtain⟨hl,hh⟩:=B9n hr;refine⟨t_ hl,λi y hy=>?_⟩;cases i with
   | zero=>simp at hy; subst hy; exact B6P hx
   | succ i=>simpa using hh i y (v_ hy)
  ·cases h
theorem B4v{v:Value}{x:AV}(h:ofV v=some x):RV G w x v:=by
 unfold ofV at h;split at h
 ·rename_i cs;cases hx:ofL cs.toList with
  | none=>simp[hx] at h
  | some xs =>
   simp only[hx,vd,zd] at h;subst h;obtain⟨hl,hh⟩:=B9n (G:=G) (w:=w) hx;exact .agg _ _ (v_ hl) λi y hy=>by simpa [zl] using hh i y hy
 ·rename_i vs;split at h
  ·injection h with h
   subst h;exact .tup _ _ (by rename_i he; simp at he; subst he; rfl) λi y hy=>by simp at hy
  ·cases h
 ·exact B6P h
end
def opd:Operand->Option L5
 | .tmp t=>some (.t t)
 | .const v=>(ofV v).map .c
 | .func f=>some (.f f)
 | .global _=>none
def A7P:List Operand->Option (List L5)
 | []=>some []
 | x::r=>match opd x,A7P r with|some a,some b=>some (a::b)|_,_=>none
def B9o:Option Operand->Option (Option L5)
 | none=>some none
 | some x=>(opd x).map some
def B7w:List (Nat×Operand)->Option (List (Nat×L5))
 | []=>some []
 | (i,x)::r=>match opd x,B7w r with|some a,some b=>some ((i,a)::b)|_,_=>none
structure Rs where
 v:AV
 rd:List (Nat×Bx)
 wr:List (Nat×Option Bx)
def F6(bx:Nat->Option Bx):List (Nat×Option Bx)->Nat->Option Bx
 | []=>bx
 | (i,b)::r=>F6 (T6 bx i b) r
def O6(P:Program)(C:Cx P)(ρ:Operand->Value)(o:Oper)(G:Gh)(bx:Nat->Option Bx)(w:World)(id:Nat)(r:Rs):Prop :=
 ∃nx w' G' v,(execOp ρ o).run P w = .ok nx w'/\(nx = .value v\/(nx = .skip/\v=undef))/\RS C G' (F6 bx r.wr) w'/\L4 G w G' w'/\RV G' w' r.v v/\(∀x,G'.used x->G.used x\/x=id)
section
variable {P:Program} {C:Cx P} {ρ:Operand->Value} {o:Oper} {G:Gh} {bx:Nat->Option Bx} {w:World} {id:Nat}
theorem O6.still{v:Value}{x:AV}(hs:RS C G bx w)(hr:(execOp ρ o).run P w = .ok (.value v) w)(hv:RV G w x v)(rd:List (Nat×Bx)):O6 P C ρ o G bx w id ⟨x,rd,[]⟩ :=
 ⟨_,w,G,v,hr,.inl rfl,hs,L4.refl G w,hv,λ_ h=>.inl h⟩
end
def RVs(G:Gh)(w:World)(xs:List AV)(vs:Array Value):Prop:=xs.length=vs.size/\∀(i:Nat) y,xs[i]?=some y->RV G w y (vs.getD i undef)
def Q7{G:Gh}{w:World}{x:AV}{v:Value}(h:RV G w x v):RVs G w x.cells v.cells:=h.cells
def RVs.get{G:Gh}{w:World}{xs:List AV}{vs:Array Value}(h:RVs G w xs vs){i:Nat}{y:AV}(hy:xs[i]?=some y):∃u,vs[i]?=some u/\RV G w y u:=by
 have hi:i<vs.size:=by rw[←h.1]; exact (ze.1 hy).1
 refine⟨vs[i],yb hi,?_⟩;have:=h.2 i y hy
 rwa [zl,yb hi] at this
def RVs.of_get{G:Gh}{w:World}{xs:List AV}{vs:Array Value}(hl:xs.length=vs.size)(h:∀(i:Nat) y u,xs[i]?=some y->vs[i]?=some u->RV G w y u):RVs G w xs vs:=by
 refine⟨hl,λi y hy=>?_⟩;have hi:i<vs.size:=by rw[←hl]; exact (ze.1 hy).1
 rw[zl,yb hi];exact h i y vs[i] hy (yb hi)
def A45(l:List UInt8):(ByteArray.mk ⟨l⟩).toList=l:=by
 rw[ByteArray.toList_eq]
def A1l(q:Nat):AV->AV->Option Bool
 | .int k a,.int k' b=>if q=0/\k=k' then some (a==b) else none
 | .bool a,.bool b=>if q=1 then some (a==b) else none
 | .str a,.str b=>if q=2 then some (a==b) else none
 | _,_=>none
def A0Q:List Nat->List AV->List AV->Option Bool
 | [],[],[]=>some true
 | q::qs,x::r,y::s=>match A1l q x y,A0Q qs r s with|some a,some b=>some (a&&b)|_,_=>none
 | _,_,_=>none
def C5x(op:BinOp)(k:IntKind)(a b:Int):Option AV :=
 match op with
 | .add=>some (.int k (k.wrap (a+b)))
 | .sub=>some (.int k (k.wrap (a - b)))
 | .mul=>some (.int k (k.wrap (a*b)))
 | .quo=>if b=0 then none else some (.int k (k.wrap (a.tdiv b)))
 | .rem=>if b=0 then none else some (.int k (a.tmod b))
 | .and=>some (.int k (bits .and k a b))
 | .or=>some (.int k (bits .or k a b))
 | .eql=>some (.bool (a==b))
 | .neq=>some (.bool (a != b))
 | .lss=>some (.bool (decide (a<b)))
 | .leq=>some (.bool (decide (a<=b)))
 | .gtr=>some (.bool (decide (a>b)))
 | .geq=>some (.bool (decide (a>=b)))
 | _=>none
def B6Q(op:BinOp)(x y:AV):Option AV :=
 match x,y with
 | .int k a,.int k' b =>
  match op with
  | .shl=>if 0<=b/\b<=k.bits then some (.int k (k.wrap (a*2 ^ b.toNat))) else none
  | .shr=>if 0<=b/\b<=k.bits then some (.int k (a / 2 ^ b.toNat)) else none
  | _=>if k=k' then C5x op k a b else none
 | .str a,.str b =>
  match op with
  | .add=>if a.length+b.length<=9223372036854775807 then some (.str (a++b)) else none
  | .eql=>some (.bool (a==b))
  | .neq=>some (.bool (!(a==b)))
  | _=>none
 | .bool a,.bool b =>
  match op with
  | .eql=>some (.bool (a==b))
  | .neq=>some (.bool (!(a==b)))
  | _=>none
 | _,_=>none
section
variable {P:Program} {G:Gh} {w:World}
theorem run_equalIn_bool(w:World)(d:Nat){t:TypeId}(hu:P.underlying t=some .bool)(p q:Bool):(Op.equalIn (d+1) t (.bool p) (.bool q)).run P w = .ok (p==q) w:=by
 simp[Op.equalIn,run_underlying hu]
theorem B15(w:World){t:TypeId}(hu:P.underlying t=some .bool)(p q:Bool):(binOp .eql t (.bool p) (.bool q)).run P w = .ok (.bool (p==q)) w:=by
 have h:(Op.equal t (.bool p) (.bool q)).run P w = .ok (p==q) w:=run_equalIn_bool w 9999 hu p q;simp only[binOp,Sem.run_bind,h,Result.andThen_ok,Sem.run_pure]
theorem B16(w:World){t:TypeId}(hu:P.underlying t=some .bool)(p q:Bool):(binOp .neq t (.bool p) (.bool q)).run P w = .ok (.bool (!(p==q))) w:=by
 have h:(Op.equal t (.bool p) (.bool q)).run P w = .ok (p==q) w:=run_equalIn_bool w 9999 hu p q;simp only[binOp,Sem.run_bind,h,Result.andThen_ok,Sem.run_pure]
theorem C5y{op:BinOp}{x y r:AV}{a b:Value}(hx:RV G w x a)(hy:RV G w y b)(h:B6Q op x y=some r)(t:TypeId)(X Y:Operand)
  (ht:(∃p,x = .bool p)->P.underlying t=some .bool) :
  ∃v,(do eqGuard op t X Y a b; binOp op t a b:Sem Value).run P w = .ok v w/\RV G w r v:=by
 unfold B6Q at h;split at h
 ·rename_i k m k' n;cases hx; cases hy
  have hg:eqGuard op t X Y (.int k m) (.int k' n)=pure ():=by cases op<;>rfl
  rw[hg];split at h
  ·split at h
   ·rename_i hb;injection h with h; subst h
    refine⟨_,?_,.int _ _⟩;simp only[Sem.run_bind,Sem.run_pure,Result.andThen_ok,binOp_shl,shift_shl _ _ _ _ hb.1 hb.2]
   ·cases h
  ·split at h
   ·rename_i hb;injection h with h; subst h
    refine⟨_,?_,.int _ _⟩;simp only[Sem.run_bind,Sem.run_pure,Result.andThen_ok,binOp_shr,shift_shr _ _ _ _ hb.1 hb.2]
   ·cases h
  ·split at h
   ·rename_i hkk;subst hkk;unfold C5x at h;split at h<;>first
     | (injection h with h; subst h
        refine⟨_,?_,by first|exact .int _ _|exact .bool _⟩;simp only[Sem.run_bind,Sem.run_pure,Result.andThen_ok,binOp_add,binOp_sub,binOp_mul,binOp_and,binOp_or,binOp_eql,binOp_neq,binOp_lss,binOp_leq,binOp_gtr,binOp_geq,Op.intArith,intBits_and,intBits_or]; done)
     | (split at h
        ·cases h
        ·rename_i h0;injection h with h; subst h
         refine⟨_,?_,.int _ _⟩;simp only[Sem.run_bind,Sem.run_pure,Result.andThen_ok,binOp_quo,binOp_rem,Op.intDiv,zf h0])
     | cases h
   ·cases h
 ·rename_i s u;cases hx; cases hy
  have hg:eqGuard op t X Y (.string ⟨⟨s⟩⟩) (.string ⟨⟨u⟩⟩)=pure ():=by cases op<;>rfl
  rw[hg];split at h
  ·split at h
   ·rename_i hl;injection h with h; subst h
    have:(.string (⟨⟨s⟩⟩++⟨⟨u⟩⟩):Value) = .string ⟨⟨s++u⟩⟩:=by congr 1
    refine⟨.string ⟨⟨s++u⟩⟩,?_,.str _⟩;have h2:¬(((ByteArray.size ⟨⟨s⟩⟩+ByteArray.size ⟨⟨u⟩⟩:Nat):Int)>IntKind.i64.max):=by
     rw[IntKind.max_i64]; simp only[ByteArray.size,yo]; omega
    simp only[Sem.run_bind,Sem.run_pure,Result.andThen_ok,binOp_string_add,Op.stringOp,zf h2,this]
   ·cases h
  ·injection h with h; subst h
   exact⟨_,by simp only[Sem.run_bind,Sem.run_pure,Result.andThen_ok,binOp_string_eql,A45],.bool _⟩
  ·injection h with h; subst h
   exact⟨_,by simp only[Sem.run_bind,Sem.run_pure,Result.andThen_ok,binOp_string_neq,A45],.bool _⟩
  ·cases h
 ·rename_i p q;cases hx; cases hy
  have hg:eqGuard op t X Y (.bool p) (.bool q)=pure ():=by cases op<;>rfl
  have hu:=ht ⟨p,rfl⟩;rw[hg];split at h
  ·injection h with h; subst h
   exact⟨_,by simp only[Sem.run_bind,Sem.run_pure,Result.andThen_ok,B15 w hu],.bool _⟩
  ·injection h with h; subst h
   exact⟨_,by simp only[Sem.run_bind,Sem.run_pure,Result.andThen_ok,B16 w hu],.bool _⟩
  ·cases h
 ·cases h
end
def P4(P:Program):List Field->Nat->Option (List Nat)
 | [],_=>some []
 | f::r,off =>
  if f.offset = off /\ f.name ≠ "_" then
   match P.underlying f.type,P4 P r (off+1) with
   | some (.int _),some ks=>some (0::ks)
   | some .bool,some ks=>some (1::ks)
   | some .string,some ks=>some (2::ks)
   | _,_=>none
  else none
section
variable {P:Program} {G:Gh} {w:World}
theorem A58{t:TypeId}{cs:Array Value}{off:Nat}{v:Value}(h:match P.underlying t with|some (.int _)|some .bool|some .string=>True|_=>False)(hv:cs[off]?=some v):(part t cs off).run P w = .ok v w:=by
 unfold part isAgg;cases hu:P.underlying t with
 | none=>simp[hu] at h
 | some d=>cases d<;>simp[hu] at h<;>simp[run_underlying hu,hv]
theorem A59(d:Nat):∀(fs:List Field) (off:Nat) (ks:List Nat) (xs ys:List AV) (vx vy:Array Value) (b:Bool),P4 P fs off=some ks ->
  (∀(i:Nat) y,xs[i]?=some y->∃u,vx[off+i]?=some u/\RV G w y u)->(∀(i:Nat) y,ys[i]?=some y->∃u,vy[off+i]?=some u/\RV G w y u)->A0Q ks xs ys=some b->(Op.eqFields (d+1) vx vy fs).run P w = .ok b w
 | [],off,ks,xs,ys,vx,vy,b,hp,hx,hy,he=>by
  simp only[P4,zd] at hp;subst hp;match xs,ys,he with
  | [],[],he=>simp[A0Q] at he; subst he; rfl
 | f::fs,off,ks,xs,ys,vx,vy,b,hp,hx,hy,he=>by
  simp only[P4] at hp;split at hp
  ·rename_i hon;obtain⟨ho,hn⟩:=hon;have key:∀(q:Nat) (qs:List Nat),ks=q::qs->P4 P fs (off+1)=some qs->(match P.underlying f.type with|some (.int _)|some .bool|some .string=>True|_=>False) ->
     (∀x y a u v,A1l q x y=some a->RV G w x u->RV G w y v->(Op.equalIn (d+1) f.type u v).run P w = .ok a w)->(Op.eqFields (d+1) vx vy (f::fs)).run P w = .ok b w:=by
    intro q qs hks hq hty heq;subst hks;match xs,ys,he with
    | x::xs,y::ys,he =>
     simp only[A0Q] at he;split at he
     ·rename_i a c h1 h2;injection he with he
      subst he;obtain⟨u,hu,rx⟩:=hx 0 x rfl;obtain⟨v,hv,ry⟩:=hy 0 y rfl;have ih:=A59 d fs (off+1) qs xs ys vx vy c hq (λi z hz=>by have:=hx (i+1) z hz; rwa [show off+(i+1)=off+1+i by omega] at this)
       (λi z hz=>by have:=hy (i+1) z hz; rwa [show off+(i+1)=off+1+i by omega] at this) h2
      have pu:(part f.type vx f.offset).run P w = .ok u w:=A58 hty (by rw[ho]; simpa using hu);have pv:(part f.type vy f.offset).run P w = .ok v w:=A58 hty (by rw[ho]; simpa using hv);simp only[Op.eqFields,zj hn,Sem.run_bind,pu,pv,heq x y a u v h1 rx ry,Result.andThen_ok];cases a
      ·simp
      ·simpa using ih
     ·cases he
   split at hp
   ·rename_i k ks' hu hq;injection hp with hp
    refine key 0 ks' hp.symm hq (t_ hu) λx y a u v h1 rx ry=>?_;unfold A1l at h1;split at h1
    ·split at h1
     ·rename_i hkk;obtain⟨_,rfl⟩:=hkk;injection h1 with h1; subst h1
      cases rx; cases ry
      exact run_equalIn_int w d f.type _ _ _ _ hu
     ·cases h1
    ·simp at h1
    ·simp at h1
    ·cases h1
   ·rename_i ks' hu hq;injection hp with hp
    refine key 1 ks' hp.symm hq (t_ hu) λx y a u v h1 rx ry=>?_;unfold A1l at h1;split at h1
    ·simp at h1
    ·simp at h1; subst h1;cases rx; cases ry
     exact Go.run_equalIn_bool w d f.type _ _ hu
    ·simp at h1
    ·cases h1
   ·rename_i ks' hu hq;injection hp with hp
    refine key 2 ks' hp.symm hq (t_ hu) λx y a u v h1 rx ry=>?_;unfold A1l at h1;split at h1
    ·simp at h1
    ·simp at h1
    ·simp at h1; subst h1;cases rx; cases ry
     rw[run_equalIn_string w d f.type _ _ hu,A45,A45]
    ·cases h1
   ·cases hp
  ·cases hp
theorem C5z{t:TypeId}{fs:Array Field}{ks:List Nat}(ht:P.underlying t=some (.struct fs))(hk:P4 P fs.toList 0=some ks)(hst:P.stoodInHeld t=false)(hg:P.eqGuardType P.depth t=false)
  {xs ys:List AV} {a b:Value} {r:Bool} (hx:RV G w (.agg xs) a) (hy:RV G w (.agg ys) b) (he:A0Q ks xs ys=some r) (op:BinOp) (X Y:Operand) (ho:op = .eql\/op = .neq) :
  (do eqGuard op t X Y a b; binOp op t a b:Sem Value).run P w = .ok (.bool (if op = .eql then r else !r)) w:=by
 have hfo:P.fieldsOf t=fs:=by simp[Program.fieldsOf,ht]
 cases hx with|agg _ vx hlx hx =>
 cases hy with|agg _ vy hly hy =>
 have hrx:RVs G w xs vx:=⟨hlx,hx⟩;have hry:RVs G w ys vy:=⟨hly,hy⟩;have hr:(Op.equalIn 10000 t (.agg vx) (.agg vy)).run P w = .ok r w:=by
  rw[run_equalIn_struct w 9999 t vx vy (by rw[hfo]; exact ht) hst,hfo];exact A59 9998 fs.toList 0 ks xs ys vx vy r hk (λi y hy=>by simpa using hrx.get hy) (λi y hy=>by simpa using hry.get hy) he
 rcases ho with rfl|rfl
 ·simp only[Sem.run_bind,run_eqGuard_agg w .eql t X Y vx vy hg,Result.andThen_ok,run_eql_struct,hr,if_true]
 ·simp only[Sem.run_bind,run_eqGuard_agg w .neq t X Y vx vy hg,Result.andThen_ok,run_neq_struct,hr,reduceCtorEq,if_false]
end
def A0A(P:Program)(t:TypeId):Bool:=match P.underlying t with|some (.struct _)|some (.array _ _)=>true|_=>false
section
variable {P:Program} {C:Cx P} {G:Gh} {bx:Nat->Option Bx} {w:World}
theorem A6B{t:TypeId}{d:TypeDesc}(h:P.underlying t=some d):(isAgg t).run P w = .ok (A0A P t) w:=by
 unfold isAgg A0A;cases d<;>simp[run_underlying h,h]
theorem R9{t:TypeId}{n:Nat}(hi:(P.info? t).map (·.size)=some n):(sizeOf t).run P w = .ok n w:=by
 obtain⟨i,hi1,hi2⟩:=zn.1 hi;simp[sizeOf,typeInfo,hi1,hi2]
theorem B9p{t:TypeId}(h:A0A P t=true):∃d,P.underlying t=some d:=by
 unfold A0A at h;split at h<;>first|exact⟨_,‹_›⟩|cases h
theorem B17{t:TypeId}{n:Nat}(ht:A0A P t=true)(hi:(P.info? t).map (·.size)=some n)(a:Addr)(us:List Value)(hl:us.length=n)(h:∀(j:Nat) u,us[j]?=some u->w.cell? (a.add j)=some u):
  (loadVar t a).run P w = .ok (.agg us.toArray) w:=by
 obtain⟨d,hd⟩:=B9p ht;subst hl;have:=run_loadCells_list (P:=P) w a us h;simp[loadVar,A6B hd,ht,R9 hi,this]
theorem B18{t:TypeId}{d:TypeDesc}(hd:P.underlying t=some d)(ht:A0A P t=false)(a:Addr)(u:Value)(h:w.cell? a=some u):(loadVar t a).run P w = .ok u w:=by
 simp[loadVar,A6B hd,ht,h]
def At(G:Gh)(w:World)(a:Addr)(cs:List AV):Prop:=∀(j:Nat) y,cs[j]?=some y->∃u,w.cell? (a.add j)=some u/\RV G w y u
theorem At.load_agg{t:TypeId}{n:Nat}(ht:A0A P t=true)(hi:(P.info? t).map (·.size)=some n){a:Addr}{cs:List AV}(h:At G w a cs)(hn:cs.length=n):∃v,(loadVar t a).run P w = .ok v w/\RV G w (.agg cs) v:=by
 have hx:∀j,∃u,∀y,cs[j]?=some y->w.cell? (a.add j)=some u/\RV G w y u:=λj=>by
  cases hj:cs[j]? with
  | none=>exact⟨undef,λy hy=>by cases hy⟩
  | some y=>obtain⟨u,h1,h2⟩:=h j y hj; exact⟨u,λz hz=>by injection hz with hz; subst hz; exact⟨h1,h2⟩⟩
 obtain⟨u,hu⟩:=tp hx;have hget:∀j,j<n->((List.range n).map u)[j]?=some (u j):=λj hj=>by simp[hj]
 refine⟨.agg ((List.range n).map u).toArray,B17 ht hi a _ s_ λj v hv=>?_,.agg _ _ (t_ hn) λi y hy=>?_⟩
 ·have hj:j<n:=by have:=(ze.1 hv).1; simpa using this
  rw[hget j hj] at hv;injection hv with hv
  subst hv;exact (hu j cs[j] (zc o_)).1
 ·have hj:i<n:=by rw[←hn]; exact (ze.1 hy).1
  have:=(hu i y hy).2;simpa [zl,hj] using this
theorem At.load_one{t:TypeId}{d:TypeDesc}(hd:P.underlying t=some d)(ht:A0A P t=false){a:Addr}{cs:List AV}(h:At G w a cs){y:AV}(hy:cs[0]?=some y):∃v,(loadVar t a).run P w = .ok v w/\RV G w y v:=by
 obtain⟨u,h1,h2⟩:=h 0 y hy;exact⟨u,B18 hd ht a u (by simpa [Addr.add] using h1),h2⟩
def A2F(bx:Nat->Option Bx):AV->Option (List AV×List (Nat×Bx))
 | .cptr cs=>some (cs,[])
 | .ptr id i off=>match bx id with
  | some b=>match b.xs[i]? with
   | some y=>if off<=y.cells.length then some (y.cells.drop off,[(id,b)]) else none
   | none=>none
  | none=>none
 | _=>none
theorem E4{b o:Nat}{cur:Array Value}{e:TypeId}{fr:Nat×Nat}(h:w.heap[b]?=some (.cells cur e fr)):w.cell? ⟨b,o,none⟩=cur[o]?:=cell_of_row w b o cur e fr h
theorem B9q(hs:RS C G bx w){id i off:Nat}{v:Value}(h:RV G w (.ptr id i off) v){b:Bx}(hb:bx id=some b){y:AV}(hy:b.xs[i]?=some y):
  ∃blk s,G.bm id=some (blk,s)/\v = .pointer (some ⟨blk,i*s+off,none⟩)/\At G w ⟨blk,i*s+off,none⟩ (y.cells.drop off):=by
 obtain⟨blk,s,cur,e,h1,h2,_,_,h5,_⟩:=hs.box id b hb (hs.lies hb hy);cases h with|ptr _ _ _ _ ho hu hbm =>
 refine⟨blk,s,h1,hbm blk s h1,λj z hz=>?_⟩;obtain⟨hl,hc⟩:=h5 i y hy;rw[yf] at hz;obtain⟨u,hu1,hu2⟩:=hc (off+j) z hz;exact⟨u,by rw[Addr.add_lit,E4 h2]; rw[←hu1]; congr 1; omega,hu2⟩
theorem A7b(hs:RS C G bx w){x:AV}{v:Value}(h:RV G w x v){cs:List AV}{rd:List (Nat×Bx)}(hl:A2F bx x=some (cs,rd)):∃a,v = .pointer (some a)/\At G w a cs:=by
 cases x with
 | cptr cs' =>
  simp only[A2F,zd,zh] at hl;obtain⟨rfl,_⟩:=hl;cases h with|cptr _ a u h1 h2 h3=>exact⟨a,rfl,λj y hj=>⟨u j,h2 j y hj,h3 j y hj⟩⟩
 | ptr id i off =>
  simp only[A2F] at hl;split at hl
  ·rename_i b hb;split at hl
   ·rename_i y hy;split at hl
    ·injection hl with hl
     injection hl with hl _
     subst hl;obtain⟨blk,s,_,hv,hat⟩:=B9q hs h hb hy;exact⟨_,hv,hat⟩
    ·cases hl
   ·cases hl
  ·cases hl
 | _=>cases hl
end
def A0s(a:Addr)(i j:Nat):(a.add i).add j=a.add (i+j):=by
 unfold Addr.add;by_cases hi:i=0<;>by_cases hj:j=0<;>simp[hi,hj,yv]
def A1m(bx:Nat->Option Bx)(off:Nat):AV->Option AV
 | .cptr cs=>some (.cptr (cs.drop off))
 | .ptr id i o=>match bx id with|some b=>(match b.xs[i]? with|some _=>some (.ptr id i (o+off))|none=>none)|none=>none
 | _=>none
def A7c(s:Nat)(bx:Nat->Option Bx):AV->AV->Option AV
 | .sl xs,.int _ n=>if 0<=n then match xs[n.toNat]? with|some y=>if y.cells.length=s then some (.cptr y.cells) else none|none=>none else none
 | .bsl id off len,.int _ n=>match bx id with
  | some b=>match b.xs[0]? with
   | some y=>if y.cells.length=s/\0<=n/\n<len then some (.ptr id (off+n.toNat) 0) else none
   | none=>none
  | none=>none
 | _,_=>none
def A1N(bx:Nat->Option Bx):AV->Option AV
 | .str s=>some (.int .i64 s.length)
 | .nils=>some (.int .i64 0)
 | .sl xs=>some (.int .i64 xs.length)
 | .bsl id _ len=>match bx id with|some _=>some (.int .i64 len)|none=>none
 | _=>none
def A80(hi:Nat):Option AV->Option Nat
 | none=>some hi
 | some (.int _ n)=>if 0<=n/\n<=hi then some n.toNat else none
 | _=>none
def A4e(h:Nat):Option AV->Option Nat
 | none=>some 0
 | some (.int _ n)=>if 0<=n/\n<=h then some n.toNat else none
 | _=>none
section
variable {P:Program} {C:Cx P} {G:Gh} {bx:Nat->Option Bx} {w:World}
theorem B9r(hs:RS C G bx w){x r:AV}{v:Value}(h:RV G w x v){off:Nat}(hr:A1m bx off x=some r){st:TypeId}{fs:Array Field}{k:Nat}{f:Field}(ht:P.underlying st=some (.struct fs))(hf:fs[k]?=some f)
  (ho:f.offset=off) {n:Nat} (hz:(P.info? f.type).map (·.size)=some n) (hn:n≠0):∃u,(Instr.fieldAt st v k).run P w = .ok u w/\RV G w r u:=by
 subst ho;have key:∀a,v = .pointer (some a)->(Instr.fieldAt st v k).run P w = .ok (.pointer (some (a.add f.offset))) w:=λa ha=>by
  subst ha;simp[Instr.fieldAt,run_underlying ht,hf,Instr.sureAddr,fieldPlace,R9 hz,hn]
 cases x with
 | cptr cs =>
  simp only[A1m,zd] at hr;subst hr;cases h with|cptr _ a u h1 h2 h3 =>
  refine⟨_,key a rfl,.cptr _ _ (λj=>u (f.offset+j)) (λj y hy=>?_) (λj y hy=>?_) λj y hy=>?_⟩
  ·rw[yf] at hy;rw[Y8,A1j,yv];exact h1 _ y hy
  ·rw[yf] at hy;rw[A0s];exact h2 _ y hy
  ·rw[yf] at hy;exact h3 _ y hy
 | ptr id i o =>
  simp only[A1m] at hr;split at hr
  ·rename_i b hb;split at hr
   ·rename_i y hy;injection hr with hr
    subst hr;obtain⟨blk,s,cur,e,h1,_⟩:=hs.box id b hb (hs.lies hb hy);cases h with|ptr _ _ _ _ hone hu hbm =>
    have hv:=hbm blk s h1;refine⟨_,key _ hv,.ptr id i (o+f.offset) _ rfl hu λb' s' hb'=>?_⟩;rw[h1] at hb';injection hb' with hb'
    injection hb' with e1 e2
    subst e1 e2;rw[Addr.add_lit,yv]
   ·cases hr
  ·cases hr
 | _=>cases hr
theorem B7x(hs:RS C G bx w){x r:AV}{v:Value}(h:RV G w x v){off:Nat}(hr:A1m bx off x=some r){F:Value->Sem Value}(key:∀a,v = .pointer (some a)->(F v).run P w = .ok (.pointer (some (a.add off))) w):∃u,(F v).run P w = .ok u w/\RV G w r u:=by
 cases x with
 | cptr cs =>
  simp only[A1m,zd] at hr;subst hr;cases h with|cptr _ a u h1 h2 h3 =>
  refine⟨_,key a rfl,.cptr _ _ (λj=>u (off+j)) (λj y hy=>?_) (λj y hy=>?_) λj y hy=>?_⟩
  ·rw[yf] at hy;rw[Y8,A1j,yv];exact h1 _ y hy
  ·rw[yf] at hy;rw[A0s];exact h2 _ y hy
  ·rw[yf] at hy;exact h3 _ y hy
 | ptr id i o =>
  simp only[A1m] at hr;split at hr
  ·rename_i b hb;split at hr
   ·rename_i y hy;injection hr with hr
    subst hr;obtain⟨blk,s,cur,e,h1,_⟩:=hs.box id b hb (hs.lies hb hy);cases h with|ptr _ _ _ _ hone hu hbm =>
    have hv:=hbm blk s h1;refine⟨_,key _ hv,.ptr id i (o+off) _ rfl hu λb' s' hb'=>?_⟩;rw[h1] at hb';injection hb' with hb'
    injection hb' with e1 e2
    subst e1 e2;rw[Addr.add_lit,yv]
   ·cases hr
  ·cases hr
 | _=>cases hr
theorem B9s(hs:RS C G bx w){x i r:AV}{v u:Value}(h:RV G w x v)(hi:RV G w i u){s:Nat}(hr:A7c s bx x i=some r){t e:TypeId}(ht:P.underlying t=some (.slice e))(hz:(P.info? e).map (·.size)=some s):
  ∃z,(Instr.indexAt t v u).run P w = .ok z w/\RV G w r z:=by
 have he:P.elem t=e:=by simp[Program.elem,ht]
 have key:∀(a:Addr) (len cap:Nat) (k:IntKind) (n:Int),0<=n->n<len->(Instr.indexAt t (.slice (some a) len cap) (.int k n)).run P w = .ok (.pointer (some (a.add (n.toNat*s)))) w:=λa len cap k n h0 h1=>by
  rw[run_indexAt_slice w t a len cap k n (by rw[he]; exact ht),zj ⟨h0,h1⟩,he,R9 hz];rfl
 cases x with
 | sl xs =>
  cases i with
  | int k n =>
   simp only[A7c] at hr;split at hr
   ·rename_i h0;split at hr
    ·rename_i y hy;split at hr
     ·rename_i hsz;injection hr with hr
      subst hr;cases hi
      cases h with|sl _ A c s' uu hc hm hn hs' h1 h2 h3 =>
      cases A with
      | none=>have:=(hn rfl).1; subst this; simp at hy
      | some a =>
       have hss:s'=s:=(hs' _ y hy).symm.trans hsz;subst hss;have hlt:n.toNat<xs.length:=(ze.1 hy).1;refine⟨_,key a _ c k n h0 o_,.cptr _ _ (λj=>uu n.toNat j) (λj z hz=>?_) (λj z hz=>?_) λj z hz=>h3 _ y j z hy hz⟩
       ·rw[Y8,A1j,yv]; exact h1 a _ y j z rfl hy hz
       ·rw[A0s]; exact h2 a _ y j z rfl hy hz
     ·cases hr
    ·cases hr
   ·cases hr
  | _=>cases hr
 | bsl id off len =>
  cases i with
  | int k n =>
   simp only[A7c] at hr;split at hr
   ·rename_i b hb;split at hr
    ·rename_i y hy;split at hr
     ·rename_i hc;obtain⟨hsz,h0,hlt⟩:=hc;injection hr with hr
      subst hr;cases hi
      obtain⟨blk,s',cur,e',h1,_,_,_,h5,_⟩:=hs.box id b hb (hs.lies hb hy);cases h with|bsl _ _ _ _ hone hu hbm _ =>
      obtain⟨c,cur',e'',hv,_⟩:=hbm blk s' h1;have hss:s'=s:=(h5 0 y hy).1.symm.trans hsz;subst hss;subst hv;refine⟨_,key _ _ c k n h0 hlt,.ptr id _ 0 _ rfl hu λb' s2 hb'=>?_⟩;rw[h1] at hb';injection hb' with hb'
      injection hb' with e1 e2
      subst e1 e2;rw[Addr.add_lit,xp,vp]
     ·cases hr
    ·cases hr
   ·cases hr
  | _=>cases hr
 | _=>cases hr
theorem C60(hs:RS C G bx w){x r:AV}{v:Value}(h:RV G w x v)(hr:A1N bx x=some r){t:TypeId}(ht:P.underlying t=some .string\/∃e,P.underlying t=some (.slice e))(htx:(∃s,x = .str s)↔P.underlying t=some .string)(ty:TypeId):
  ∃z,(Builtin.len_ #[t] ty #[v]).run P w = .ok z w/\RV G w r z:=by
 have ksl:∀e a n c,P.underlying t=some (.slice e)->(Builtin.len_ #[t] ty #[.slice a n c]).run P w = .ok (.int .i64 n) w:=λe a n c he=>by simp[Builtin.len_,run_underlying he,goInt]
 cases x with
 | str s =>
  simp only[A1N,zd] at hr;subst hr;cases h
  refine⟨_,run_len_string w t ty _ (htx.1 ⟨s,rfl⟩),?_⟩;have:ByteArray.size ⟨⟨s⟩⟩=s.length:=rfl;rw[this]; exact .int _ _
 | nils =>
  simp only[A1N,zd] at hr;subst hr;cases h
  rcases ht with ht|⟨e,he⟩
  ·obtain⟨s,hs⟩:=htx.2 ht; cases hs
  ·exact⟨_,ksl e _ _ _ he,.int _ _⟩
 | sl xs =>
  simp only[A1N,zd] at hr;subst hr;cases h
  rcases ht with ht|⟨e,he⟩
  ·obtain⟨s,hs⟩:=htx.2 ht; cases hs
  ·exact⟨_,ksl e _ _ _ he,.int _ _⟩
 | bsl id off len =>
  simp only[A1N] at hr;split at hr
  ·rename_i b hb;injection hr with hr
   subst hr;cases h with|bsl _ _ _ _ hone hu hbm hnl =>
   obtain⟨a,c,hv⟩:∃a c,v = .slice a len c:=by
    by_cases hn:G.nl id
    ·obtain⟨h1,_,h3⟩:=hnl hn;subst h3;exact⟨_,_,h1⟩
    ·obtain⟨blk,s',cur,e',h1,_⟩:=hs.box id b hb hn;obtain⟨c,cur',e'',hv,_⟩:=hbm blk s' h1;exact⟨_,_,hv⟩
   subst hv;rcases ht with ht|⟨e,he⟩
   ·obtain⟨s,hs⟩:=htx.2 ht; cases hs
   ·exact⟨_,ksl e _ _ _ he,.int _ _⟩
  ·cases hr
 | _=>cases hr
theorem C7i{s:List UInt8}{k:IntKind}{n:Int}{b:UInt8}(h0:0<=n)(hb:s[n.toNat]?=some b){t:TypeId}(ht:P.underlying t=some .string):
  (Instr.index t (.string ⟨⟨s⟩⟩) (.int k n)).run P w = .ok (.int .u8 b.toNat) w:=by
 have hlt:n.toNat<s.length:=(ze.1 hb).1;have hsz:ByteArray.size ⟨⟨s⟩⟩=s.length:=rfl;rw[run_index_string w t _ k n ht,dif_pos ⟨h0,by rw[hsz]; omega⟩];have:(⟨⟨s⟩⟩:ByteArray)[n.toNat]'(by rw[hsz]; exact hlt)=b:=by
  have:=(ze.1 hb).2;exact this
 rw[this]
def RVo(G:Gh)(w:World):Option AV->Option Value->Prop
 | none,none=>True
 | some x,some v=>RV G w x v
 | _,_=>False
theorem A81{hi m:Nat}{o:Option AV}{ov:Option Value}(h:A80 hi o=some m)(ho:RVo G w o ov):m<=hi/\(ov=none/\m=hi\/∃k n,ov=some (.int k n)/\0<=n/\n<=hi/\m=n.toNat):=by
 match o,ov,ho with
 | none,none,_=>injection h with h; exact⟨o_,.inl ⟨rfl,h.symm⟩⟩
 | some (.int k n),some v,hv =>
  simp only[A80] at h;split at h
  ·rename_i hb;injection h with h
   cases hv
   exact⟨o_,.inr ⟨k,n,rfl,hb.1,hb.2,h.symm⟩⟩
  ·cases h
theorem B2r{hi m:Nat}{o:Option AV}{ov:Option Value}(h:A4e hi o=some m)(ho:RVo G w o ov):m<=hi/\(ov=none/\m=0\/∃k n,ov=some (.int k n)/\0<=n/\n<=hi/\m=n.toNat):=by
 match o,ov,ho with
 | none,none,_=>injection h with h; exact⟨o_,.inl ⟨rfl,h.symm⟩⟩
 | some (.int k n),some v,hv =>
  simp only[A4e] at h;split at h
  ·rename_i hb;injection h with h
   cases hv
   exact⟨o_,.inr ⟨k,n,rfl,hb.1,hb.2,h.symm⟩⟩
  ·cases h
theorem A82{isS:Bool}{len cap l h:Nat}{lo hi:Option AV}{lov hiv:Option Value}(hc:len<=cap)(hh:A80 len hi=some h)(hl:A4e h lo=some l)(rl:RVo G w lo lov)(rh:RVo G w hi hiv):
  (Instr.sliceBounds isS len cap lov hiv none).run P w = .ok (l,h,cap) w:=by
 obtain⟨h1,h2⟩:=A81 hh rh;obtain⟨l1,l2⟩:=B2r hl rl;have e:∀(k:IntKind) (n:Int) (y:Nat) code,0<=n->n<=y->(Instr.sliceBound (.int k n) y code).run P w = .ok n.toNat w:=λk n y code a b=>by simp[Instr.sliceBound,asIntOf,a,b]
 rcases h2 with⟨rfl,rfl⟩|⟨k,n,rfl,a,b,rfl⟩<;>rcases l2 with⟨rfl,rfl⟩|⟨k',n',rfl,a',b',rfl⟩
 ·simp[Instr.sliceBounds]
 ·simp[Instr.sliceBounds,e _ _ _ _ a' b']
 ·simp[Instr.sliceBounds,e k n cap _ a o_]
 ·simp[Instr.sliceBounds,e k n cap _ a o_,e _ _ _ _ a' b']
theorem C3X{s:List UInt8}{lo hi:Option AV}{lov hiv:Option Value}{l h:Nat}(hh:A80 s.length hi=some h)(hl:A4e h lo=some l)(rl:RVo G w lo lov)(rh:RVo G w hi hiv){t:TypeId}(ht:P.underlying t=some .string):
  ∃u,(Instr.sliceAt t (.string ⟨⟨s⟩⟩) lov hiv none).run P w = .ok u w/\RV G w (.str ((s.take h).drop l)) u:=by
 have hsz:ByteArray.size ⟨⟨s⟩⟩=s.length:=rfl;have hb:=A82 (P:=P) (isS:=false) (cap:=s.length) (zx _) hh hl rl rh;have hx:(ByteArray.extract ⟨⟨s⟩⟩ l h)=⟨⟨(s.take h).drop l⟩⟩:=by
  have h1:h<=s.length:=(A81 hh rh).1;apply ByteArray.ext;apply vu;simp only[ByteArray.data_extract,Array.toList_extract,List.extract_eq_take_drop,uz]
 refine⟨_,?_,.str _⟩;simp only[Instr.sliceAt,Sem.run_bind,run_underlying ht,Result.andThen_ok,Instr.slice,Option.isSome_none,xm,if_false,hsz,hb,Sem.run_pure,hx]
theorem C61{xs:List AV}{v:Value}(hx:RV G w (.sl xs) v){lo hi:Option AV}{lov hiv:Option Value}{l h:Nat}(hh:A80 xs.length hi=some h)(hl:A4e h lo=some l)(rl:RVo G w lo lov)(rh:RVo G w hi hiv){t e:TypeId}(ht:P.underlying t=some (.slice e))
  {n:Nat} (hz:(P.info? e).map (·.size)=some n) (hn:∀y∈xs,y.cells.length=n):∃u,(Instr.sliceAt t v lov hiv none).run P w = .ok u w/\RV G w (.sl ((xs.take h).drop l)) u:=by
 cases hx with|sl _ A c s u hc hm hA hs h1 h2 h3 =>
 have hb:=A82 (P:=P) (isS:=true) (cap:=c) hc hh hl rl rh;have hle:h<=xs.length:=(A81 hh rh).1;have hll:l<=h:=(B2r hl rl).1;have hlen:((xs.take h).drop l).length=h - l:=by simp; omega
 have hrun:(Instr.sliceAt t (.slice A xs.length c) lov hiv none).run P w = .ok (.slice (if c=l then A else A.map (·.add (l*n))) (h - l) (c - l)) w:=by
  simp only[Instr.sliceAt,Sem.run_bind,run_underlying ht,Result.andThen_ok,Instr.slice,hb,R9 hz,Sem.run_pure]
 have hg:∀i x,((xs.take h).drop l)[i]?=some x->xs[l+i]?=some x:=λi x hi=>by
  rw[yf,zz] at hi;split at hi
  ·exact hi
  ·cases hi
 refine⟨_,hrun,?_⟩;rw[←hlen];by_cases hcl:c=l
 ·have:(xs.take h).drop l=[]:=wq o_;rw[zj hcl,this];exact .sl [] A (c - l) s (λ_ _=>undef) s_ o_ (λha=>⟨rfl,by have:=(hA ha).2; omega⟩) (λi x hi=>by simp at hi) (λa i x j y _ hi=>by simp at hi) (λa i x j y _ hi=>by simp at hi) (λi x j y hi=>by simp at hi)
 ·rw[zf hcl];refine .sl _ _ (c - l) s (λi j=>u (l+i) j) o_ o_ (λha=>?_) (λi x hi=>hs _ x (hg i x hi)) (λa i x j y ha hi hj=>?_) (λa i x j y ha hi hj=>?_) λi x j y hi hj=>h3 _ x j y (hg i x hi) hj
  ·cases A with
   | none=>have:=(hA rfl).1; subst this; exact⟨s_,by have:=(hA rfl).2; omega⟩
   | some a=>cases ha
  ·cases A with
   | none=>cases ha
   | some a0 =>
    injection ha with ha
    subst ha;have hss:n=s:=(hn x (zg (hg i x hi))).symm.trans (hs _ x (hg i x hi));have:=h1 a0 (l+i) x j y rfl (hg i x hi) hj;rw[Y8,A1j,hss]
    rwa [show a0.off+l*s+(i*s+j)=a0.off+((l+i)*s+j) by rw[xp]; omega]
  ·cases A with
   | none=>cases ha
   | some a0 =>
    injection ha with ha
    subst ha;have hss:n=s:=(hn x (zg (hg i x hi))).symm.trans (hs _ x (hg i x hi));have:=h2 a0 (l+i) x j y rfl (hg i x hi) hj;rw[A0s,hss]
    rwa [show l*s+(i*s+j)=(l+i)*s+j by rw[xp]; omega]
end
section
variable {P:Program} {C:Cx P} {G:Gh} {bx:Nat->Option Bx} {w:World}
def Made(P:Program)(C:Cx P)(x:Sem Value)(G:Gh)(w:World)(id:Nat)(r:AV)(bx':Nat->Option Bx):Prop :=
 ∃v w' G',x.run P w = .ok v w'/\RS C G' bx' w'/\L4 G w G' w'/\RV G' w' r v/\(∀i,G'.used i->G.used i\/i=id)
theorem B9t{x:AV}{v:Value}(h:RV G w x v):A03 G w x.cells.length [x] v.cells:=by
 intro i y hy;cases i with
 | zero =>
  simp at hy;subst hy;refine⟨rfl,λj z hz=>?_⟩;obtain⟨u,hu,hr⟩:=(Q7 h).get hz;exact⟨u,v_ hu,hr⟩
 | succ i=>simp at hy
theorem A9t(hs:RS C G bx w){id:Nat}(hu:¬G.used id){x:AV}{v:Value}(h:RV G w x v)(t:TypeId):
  Made P C (do pure (.pointer (some (←newVar t v)))) G w id (.ptr id 0 0) (T6 bx id (some ⟨[x],x,false,false⟩)):=by
 obtain⟨h1,h2⟩:=hs.alloc hu (s:=x.cells.length) [x] v.cells t (by rw[(Q7 h).1]; simp) (B9t h) x rfl;refine⟨.pointer (some ⟨w.heap.size,0,none⟩),_,_,by simp[newVar,newRow],h1,h2,.ptr id 0 0 _ rfl (.inl rfl) λb s hb=>?_,λi hi=>hi.elim .inr .inl⟩;simp only[Gh.name,C7,zd,zh] at hb;rw[←hb.1];simp
def A0h(cs:List AV)(off:Nat)(zs:List AV):List AV:=cs.take off++zs++cs.drop (off+zs.length)
theorem A4W{cs:List AV}{off:Nat}{zs:List AV}(h:off+zs.length<=cs.length):(A0h cs off zs).length=cs.length:=by
 simp[A0h]; omega
theorem A4f{cs:List AV}{off:Nat}{zs:List AV}(h:off+zs.length<=cs.length)(j:Nat):(A0h cs off zs)[j]?=if off<=j/\j<off+zs.length then zs[j - off]? else cs[j]?:=by
 unfold A0h;by_cases h1:j<off
 ·rw[zf o_,ym,yh m_,zz,zj h1]
 ·rw[ym,yl m_,zy,uk o_];by_cases h2:j<off+zs.length
  ·rw[zj ⟨o_,h2⟩,yh o_]
  ·rw[zf o_,yl o_,yf];congr 1; omega
theorem A9a(vs:List Value):∀(k off:Nat) (cs:Array Value) (j:Nat),off+k+vs.length<=cs.size ->
  ((vs.zipIdx k).foldl (λcs (p:Value×Nat)=>cs.setIfInBounds (off+p.2) p.1) cs)[j]?=if off+k<=j/\j<off+k+vs.length then vs[j - (off+k)]? else cs[j]?:=by
 induction vs with
 | nil=>intro k off cs j h; simp; omega
 | cons v r ih =>
  intro k off cs j h;simp only[zt] at h;simp only[List.zipIdx_cons,wc];rw[ih (k+1) off _ j m_];by_cases h1:off+(k+1)<=j/\j<off+(k+1)+r.length
  ·rw[zj h1,zj m_];rw[show j - (off+k)=(j - (off+(k+1)))+1 by omega,xt]
  ·rw[zf h1,vj];by_cases h2:off+k=j
   ·subst h2;rw[zj rfl,zj o_,zj s_];simp
   ·rw[zf h2,zf m_]
theorem A83(vs:List Value):∀(k off:Nat) (cs:Array Value),((vs.zipIdx k).foldl (λcs (p:Value×Nat)=>cs.setIfInBounds (off+p.2) p.1) cs).size=cs.size:=by
 induction vs with
 | nil=>intro k off cs; rfl
 | cons v r ih=>intro k off cs; simp only[List.zipIdx_cons,wc]; rw[ih]; simp
theorem B19(cs:Array Value)(off:Nat)(v:Array Value):v.zipIdx.foldl (λcs (p:Value×Nat)=>cs.setIfInBounds (off+p.2) p.1) cs=(v.toList.zipIdx 0).foldl (λcs (p:Value×Nat)=>cs.setIfInBounds (off+p.2) p.1) cs:=by
 rw[←Array.foldl_toList];simp
theorem B4w{cs:List AV}{vs:Array Value}(h:RVs G w cs vs){x:AV}{v:Value}(hx:RV G w x v){off:Nat}(ho:off+x.cells.length<=cs.length):
  RVs G w (A0h cs off x.cells) (v.cells.zipIdx.foldl (λcs (p:Value×Nat)=>cs.setIfInBounds (off+p.2) p.1) vs):=by
 have hl:=(Q7 hx).1;have hlv:=h.1;rw[B19];have hz:v.cells.toList.length=v.cells.size:=by simp
 refine RVs.of_get (by rw[A83,A4W ho,hlv]) λj y u hy hu=>?_;rw[A9a _ 0 off _ j (by rw[hz,←hl,←hlv]; omega)] at hu;rw[A4f ho] at hy;by_cases hj:off<=j/\j<off+x.cells.length
 ·rw[zj hj] at hy;rw[zj (by rw[hz,←hl]; omega)] at hu;obtain⟨u',h1,h2⟩:=(Q7 hx).get hy;simp only[vp,yx] at hu;rw[h1] at hu;injection hu with hu
  subst hu;exact h2
 ·rw[zf hj] at hy;rw[zf (by rw[hz,←hl]; omega)] at hu;obtain⟨u',h1,h2⟩:=h.get hy;rw[h1] at hu;injection hu with hu
  subst hu;exact h2
def A3M(cs:List AV):List (Nat×Nat×AV)->Option (List AV)
 | []=>some cs
 | (off,n,x)::r=>if x.cells.length=n/\off+n<=cs.length then A3M (A0h cs off x.cells) r else none
theorem B1A(place:Nat->Option (Nat×Nat)):∀(ps:List (Nat×Nat×AV)) (vs:List (Nat×Value)) (cs:List AV) (us:Array Value) (r:List AV),RVs G w cs us->A3M cs ps=some r->ps.length=vs.length ->
  (∀(i:Nat) p q,ps[i]?=some p->vs[i]?=some q->place q.1=some (p.1,p.2.1)/\RV G w p.2.2 q.2)->∃us',Instr.fill place us vs=some us'/\RVs G w r us'
 | [],vs,cs,us,r,hr,hf,hl,hp=>by
  have:vs=[]:=wq (v_ hl.symm);subst this;injection hf with hf
  subst hf;exact⟨us,rfl,hr⟩
 | (off,n,x)::ps,(i,v)::vs,cs,us,r,hr,hf,hl,hp=>by
  obtain⟨h1,h2⟩:=hp 0 _ _ rfl rfl;simp only[A3M] at hf;split at hf
  ·rename_i hc;obtain⟨hn,ho⟩:=hc;subst hn;have hlen:=(Q7 h2).1;simp only at h1 h2 hlen;have hus:=hr.1;simp only[Instr.fill,h1];rw[zf m_];exact B1A place ps vs _ _ r (B4w hr h2 ho) hf (v_ hl) λi p q a b=>hp (i+1) p q (v_ a) (v_ b)
  ·cases hf
theorem B9u{t:TypeId}{fs:Array Field}{z:Value}{zs r:List AV}{vs:Array (Nat×Value)}{ps:List (Nat×Nat×AV)}(ht:P.underlying t=some (.struct fs))(hz:(P.info? t).map (·.zero)=some (some z))(hzs:RV G w (.agg zs) z)
  (hsz:∀f∈fs,((P.info? f.type).map (·.size)).isSome=true) (hf:A3M zs ps=some r) (hl:ps.length=vs.size)
  (hp:∀(i:Nat) p q,ps[i]?=some p->vs[i]?=some q->(∃f,fs[q.1]?=some f/\f.offset=p.1/\(P.info? f.type).map (·.size)=some p.2.1)/\RV G w p.2.2 q.2) :
  ∃u,(Instr.build t vs).run P w = .ok u w/\RV G w (.agg r) u:=by
 obtain⟨i,hi1,hi2⟩:=zn.1 hz;let pl:Array (Nat×Nat):=fs.map λf=>(f.offset,((P.info? f.type).map (·.size)).getD 0)
 have hpl:(fs.mapM λf=>(do pure (f.offset,←sizeOf f.type):Sem (Nat×Nat))).run P w = .ok pl w:=by
  have hlist:∀(l:List Field),(∀f∈l,((P.info? f.type).map (·.size)).isSome=true)->(l.mapM λf=>(do pure (f.offset,←sizeOf f.type):Sem (Nat×Nat))).run P w = .ok (l.map λf=>(f.offset,((P.info? f.type).map (·.size)).getD 0)) w:=by
   intro l;induction l with
   | nil=>intro _; simp
   | cons f l ih =>
    intro hf;obtain⟨n,hn⟩:=vv.1 (hf f s_);have:=ih λf hf'=>hf f (t_ hf');simp only[qj,Sem.run_bind,R9 hn,Result.andThen_ok,Sem.run_pure,this,yg,hn,vh]
  rw[rc];simp only[Sem.run_map,hlist fs.toList (λf hf=>hsz f (v_ hf)),Result.andThen_ok];congr 1
  apply vu;simp[pl]
 obtain⟨us',hus,hr⟩:=B1A (G:=G) (w:=w) (pl[·]?) ps vs.toList zs z.cells r (by cases hzs with|agg _ vz hl h=>exact⟨hl,h⟩) hf (v_ hl) λi p q a b=>by
  obtain⟨⟨f,h1,h2,h3⟩,h4⟩:=hp i p q a (v_ b);refine⟨?_,h4⟩;simp[pl,h1,h2,h3]
 refine⟨.agg us',?_,by exact .agg _ _ hr.1 hr.2⟩;simp only[Instr.build,zeroValue,typeInfo,Sem.run_bind,run_program,Result.andThen_ok,hi1,hi2,Sem.run_pure,run_underlying ht,hpl,hus]
end
def elems(bx:Nat->Option Bx):AV->Option (List AV)
 | .nils=>some []
 | .sl xs=>some xs
 | .str s=>some (s.map λb=>.int .u8 b.toNat)
 | .bsl id off len=>match bx id with
  | some b=>if off+len<=b.xs.length then some ((b.xs.drop off).take len) else none
  | none=>none
 | _=>none
section
variable {P:Program} {C:Cx P} {G:Gh} {bx:Nat->Option Bx} {w:World}
def flat(ys:List AV):List AV:=ys.flatMap AV.cells
theorem R3{s:Nat}:∀{ys:List AV},(∀y∈ys,y.cells.length=s)->(flat ys).length=ys.length*s
 | [],_=>by simp[flat]
 | y::r,h=>by
  have:=R3 (ys:=r) λz hz=>h z (t_ hz);simp only[flat,xo,zu,zt] at this ⊢;rw[this,h y s_,xp]; omega
theorem A5A{s:Nat}:∀{ys:List AV},(∀y∈ys,y.cells.length=s)->∀(k:Nat) z,(flat ys)[k]?=some z->∃i j y,k=i*s+j/\j<s/\ys[i]?=some y/\y.cells[j]?=some z
 | [],_,k,z,h=>by simp[flat] at h
 | y::r,hs,k,z,h=>by
  simp only[flat,xo] at h;have hy:=hs y s_;by_cases hk:k<s
  ·rw[yh o_] at h;exact⟨0,k,y,o_,hk,rfl,h⟩
  ·rw[yl o_,hy] at h;obtain⟨i,j,y',h1,h2,h3,h4⟩:=A5A (ys:=r) (λz hz=>hs z (t_ hz)) (k - s) z h;exact⟨i+1,j,y',by rw[xp]; omega,h2,v_ h3,h4⟩
theorem A5B{s:Nat}:∀{ys:List AV},(∀y∈ys,y.cells.length=s)->∀(i j:Nat) y,ys[i]?=some y->j<s->(flat ys)[i*s+j]?=y.cells[j]?
 | [],_,i,j,y,h,_=>by simp at h
 | x::r,hs,0,j,y,h,hj=>by
  simp at h;subst h;simp only[flat,xo,qo,yy];rw[yh (by rw[hs x s_]; exact hj)]
 | x::r,hs,i+1,j,y,h,hj=>by
  have hx:=hs x s_;simp only[flat,xo];rw[yl (by rw[hx,xp]; omega),hx];have:=A5B (ys:=r) (λz hz=>hs z (t_ hz)) i j y (v_ h) hj;rw[show (i+1)*s+j - s=i*s+j by rw[xp]; omega];exact this
theorem B4x(t:List UInt8):flat (t.map λb=>AV.int .u8 (b.toNat:Int))=t.map λb=>AV.int .u8 (b.toNat:Int):=by
 induction t with
 | nil=>rfl
 | cons b r ih =>
  simp only[flat,yg,xo,AV.cells] at ih ⊢;rw[ih];rfl
theorem C62(hs:RS C G bx w){y:AV}{v:Value}(h:RV G w y v){ys:List AV}(he:elems bx y=some ys){s:Nat}(hsz:∀z∈ys,z.cells.length=s)(h1:∀z∈ys,∀c∈z.cells,c.one=true){tx:TypeId}
  (hk:((∃t,y = .str t)/\P.underlying tx=some .string/\s=1)\/((∀t,y≠.str t)/\∃e,P.underlying tx=some (.slice e))) :
  ∃news,Src P s tx v ys.length news w/\news.length=ys.length*s/\∀(k:Nat) z,(flat ys)[k]?=some z->∃u,news[k]?=some u/\RV G w z u:=by
 have hfl:=R3 hsz;have addr:∀(a:Addr) (n c:Nat),n=ys.length->v = .slice (some a) n c->(∃e,P.underlying tx=some (.slice e))->(∀(i j:Nat) z y',ys[i]?=some y'->y'.cells[j]?=some z->∃u,w.cell? (a.add (i*s+j))=some u/\RV G w z u) ->
   ∃news,Src P s tx v ys.length news w/\news.length=ys.length*s/\∀(k:Nat) z,(flat ys)[k]?=some z->∃u,news[k]?=some u/\RV G w z u:=by
  intro a n c hn hv ⟨e,hke⟩ hcell;subst hn hv;have hx:∀k,∃u,∀z,(flat ys)[k]?=some z->w.cell? (a.add k)=some u/\RV G w z u:=λk=>by
   cases hz:(flat ys)[k]? with
   | none=>exact⟨undef,λz h=>by cases h⟩
   | some z =>
    obtain⟨i,j,y',hk,_,h3,h4⟩:=A5A hsz k z hz;obtain⟨u,h5,h6⟩:=hcell i j z y' h3 h4;exact⟨u,λz' hz'=>by injection hz' with hz'; subst hz'; rw[hk]; exact⟨h5,h6⟩⟩
  obtain⟨u,hu⟩:=tp hx;have hget:∀k,k<ys.length*s->((List.range (ys.length*s)).map u)[k]?=some (u k):=λk hk=>by simp[hk]
  have hz:∀k,k<ys.length*s->∃z,(flat ys)[k]?=some z/\z.one=true:=λk hk=>by
   obtain⟨z,hz⟩:∃z,(flat ys)[k]?=some z:=⟨_,zc o_⟩;obtain⟨i,j,y',_,_,h3,h4⟩:=A5A hsz k z hz;exact⟨z,hz,h1 y' (zg h3) z (zg h4)⟩
  refine⟨(List.range (ys.length*s)).map u,Src.ofSlice w hke a ys.length c _ s_ (λk x hx=>?_) (λx hx=>?_),s_,λk z hz'=>?_⟩
  ·have hk:k<ys.length*s:=(by have:=(ze.1 hx).1; simpa using this);rw[hget k hk] at hx;injection hx with hx
   subst hx;obtain⟨z,hz,_⟩:=hz k hk;exact (hu k z hz).1
  ·simp only[zw,List.mem_range] at hx;obtain⟨k,hk,rfl⟩:=hx;obtain⟨z,hz,ho⟩:=hz k hk;exact (hu k z hz).2.oneCell ho
  ·have hk:k<ys.length*s:=(by have:=(ze.1 hz').1; omega);exact⟨u k,hget k hk,(hu k z hz').2⟩
 cases y with
 | nils =>
  simp only[elems,zd] at he;subst he;cases h
  rcases hk with⟨⟨t,ht⟩,_⟩|⟨_,e,hke⟩
  ·cases ht
  ·exact⟨[],Src.ofNil w hke 0,s_,λk z hz=>by simp[flat] at hz⟩
 | sl xs =>
  simp only[elems,zd] at he;subst he;rcases hk with⟨⟨t,ht⟩,_⟩|⟨_,e,hke⟩
  ·cases ht
  ·cases h with|sl _ A c s' u hc hm hn hs' g1 g2 g3 =>
   cases A with
   | none =>
    have hx:=(hn rfl).1;subst hx;exact⟨[],Src.ofNil w hke c,s_,λk z hz=>by simp[flat] at hz⟩
   | some a =>
    refine addr a _ c rfl rfl ⟨e,hke⟩ λi j z y' hi hj=>?_;have hss:s'=s:=(hs' i y' hi).symm.trans (hsz y' (zg hi));subst hss;exact⟨u i j,g2 a i y' j z rfl hi hj,g3 i y' j z hi hj⟩
 | str t =>
  simp only[elems,zd] at he;subst he;rcases hk with⟨_,hks,hs1⟩|⟨hno,_⟩
  ·subst hs1;cases h
   have hbl:byteCells ⟨⟨t⟩⟩=t.map λb=>Value.int .u8 b.toNat:=rfl;refine⟨byteCells ⟨⟨t⟩⟩,?_,by rw[hbl]; simp,λk z hz=>?_⟩
   ·have:=Src.ofString (P:=P) w hks ⟨⟨t⟩⟩;have hsz:ByteArray.size ⟨⟨t⟩⟩=(t.map λb=>AV.int .u8 (b.toNat:Int)).length:=(by simp[ByteArray.size]);rw[hsz] at this;exact this
   ·rw[B4x,yj] at hz;rw[hbl,yj];cases hb:t[k]? with
    | none=>simp[hb] at hz
    | some b=>simp[hb] at hz; subst hz; exact⟨_,rfl,.int _ _⟩
  ·exact absurd rfl (hno t)
 | bsl id off len =>
  simp only[elems] at he;split at he
  ·rename_i b hb;split at he
   ·rename_i hle;injection he with he
    rcases hk with⟨⟨t,ht⟩,_⟩|⟨_,e,hke⟩
    ·cases ht
    ·cases h with|bsl _ _ _ _ hone hu hbm hnl =>
     by_cases hn:G.nl id
     ·obtain⟨hv,_,hl⟩:=hnl hn;have h0:=(hs.nil id b hb hn).1;rw[h0] at he;simp at he;subst he hv;exact⟨[],Src.ofNil w hke 0,s_,λk z hz=>by simp[flat] at hz⟩
     obtain⟨blk,s',cur,e',h1',h2',_,_,h5,_⟩:=hs.box id b hb hn;obtain⟨c,cur',e'',hv,_⟩:=hbm blk s' h1';have hlen:ys.length=len:=(by rw[←he]; simp; omega);refine addr ⟨blk,off*s',none⟩ len c hlen.symm hv ⟨e,hke⟩ λi j z y' hi hj=>?_;have hi':b.xs[off+i]?=some y':=by
      rw[←he,zz] at hi;split at hi
      ·rwa [yf] at hi
      ·cases hi
     obtain⟨g1,g2⟩:=h5 _ y' hi';have hss:s'=s:=g1.symm.trans (hsz y' (zg hi));subst hss;obtain⟨u,hu1,hu2⟩:=g2 j z hj;refine⟨u,?_,hu2⟩;rw[Addr.add_lit,E4 h2',←hu1];congr 1
     rw[xp]; omega
   ·cases he
  ·cases he
 | _=>cases he
theorem c6(t tx ty e:TypeId)(i:TypeInfo)(ht:P.underlying t=some (.slice e))(hi:P.info? e=some i)(g sLen sCap:Nat)(cur:Array Value)(el:TypeId)(hg:w.heap[g]?=some (.cells cur el (0,0)))
  (x:Value) (n:Nat) (news:List Value) (hs:Src P i.size tx x n news w) (hroom:sLen+n<=sCap) (hfit:sLen*i.size+news.length<=cur.size) :
  (Builtin.append_ #[t,tx] ty #[.slice (some ⟨g,0,none⟩) sLen sCap,x]).run P w =
   .ok (.slice (some ⟨g,0,none⟩) (sLen+n) sCap) (w.setRow g (cur.toList.take (sLen*i.size)++news++cur.toList.drop (sLen*i.size+news.length)).toArray):=by
 have hst:=run_storeCells_at P g (sLen*i.size) el news 0 cur w hg (v_ hfit) hs.one;simp only[vp] at hst;rcases hs.kind with⟨e',hk⟩|hk<;>simp[Builtin.append_,run_underlying ht,run_underlying hk,sizeOf,typeInfo,hi,hs.len,hroom,hs.cells,Addr.add_lit,hst]
theorem A4V(t tx ty e:TypeId)(i:TypeInfo)(ht:P.underlying t=some (.slice e))(hi:P.info? e=some i)(x:Value)(hs:Src P i.size tx x 0 [] w):
  (Builtin.append_ #[t,tx] ty #[.slice none 0 0,x]).run P w = .ok (.slice none 0 0) w:=by
 rcases hs.kind with⟨e',hk⟩|hk<;>simp[Builtin.append_,run_underlying ht,run_underlying hk,sizeOf,typeInfo,hi,hs.len,hs.cells]
theorem A6C{s:Nat}{xs ys:List AV}{cur:Array Value}{news:List Value}{rest:List Value}(hx:A03 G w s xs cur)(hlen:xs.length*s<=cur.size)(hsz:∀y∈ys,y.cells.length=s)
  (hf:∀(k:Nat) z,(flat ys)[k]?=some z->∃u,news[k]?=some u/\RV G w z u) :
  A03 G w s (xs++ys) (cur.toList.take (xs.length*s)++news++rest).toArray:=by
 intro i y hy;have hl1:(cur.toList.take (xs.length*s)).length=xs.length*s:=by simp; omega
 by_cases hi:i<xs.length
 ·rw[yh hi] at hy;obtain⟨h1,h2⟩:=hx i y hy;refine⟨h1,λj z hz=>?_⟩;obtain⟨u,hu,hr⟩:=h2 j z hz;refine⟨u,?_,hr⟩;have hj:j<s:=by rw[←h1]; exact (ze.1 hz).1
  have hlt:i*s+j<xs.length*s:=by
   have:(i+1)*s<=xs.length*s:=yr _ hi;rw[xp] at this; omega
  rw[wb,ym,yh o_,zz,zj hlt];simpa using hu
 ·rw[yl o_] at hy;have hys:=hsz y (zg hy);refine⟨hys,λj z hz=>?_⟩;have hj:j<s:=by rw[←hys]; exact (ze.1 hz).1
  have hfz:(flat ys)[(i - xs.length)*s+j]?=some z:=by rw[A5B hsz _ j y hy hj]; exact hz
  obtain⟨u,hu,hr⟩:=hf _ z hfz;refine⟨u,?_,hr⟩;have hlt:(i - xs.length)*s+j<news.length:=(ze.1 hu).1;have hge:i*s+j=xs.length*s+((i - xs.length)*s+j):=by rw[←yv,←xp]; congr 2; omega
  rw[wb,ym,yl o_,hl1,hge,Nat.add_sub_cancel_left,yh hlt];exact hu
end
end Go.Am
