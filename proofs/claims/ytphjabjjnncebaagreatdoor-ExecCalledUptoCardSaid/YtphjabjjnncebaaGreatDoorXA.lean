/- Parts of the proof: an abstract machine for Go functions, and what functions of the program give back (Am1, Am2, Am3, Am4, Am5, Am6, Am7, Am8). No condition. -/
import Derived.WalkKit
import Derived.WalkSpells
import Derived.WalkLawsBesides
import Derived.Deep.LoopGhost
import Derived.Lib.LaidTab
import Derived.Lib.ItoaNum
import Derived.Deep.AppendSrc
set_option maxRecDepth 100000
set_option linter.all false
namespace Go.Am
open Go Go.RowKit
def za:=@List.mem_cons_of_mem
def zb:=@List.mem_cons_self
def zc:=@Option.some.injEq
def zd:=@List.getElem?_eq_getElem
def ze:=@List.getElem?_eq_some_iff
def zf:=@List.mem_of_getElem?
def zg:=@Prod.mk.injEq
def zh:=@if_neg
def zi:=@List.mem_cons
def zj:=@Option.map_eq_some_iff
def zk:=@if_pos
def zl:=@Array.getD_eq_getD_getElem?
def zm:=@Classical.byContradiction
def zn:=@List.take_of_length_le
def zo:=@List.mem_append
def zp:=@of_decide_eq_true
def zq:=@of_decide_eq_false
def zr:=@List.getElem?_take
def zt:=@List.drop_of_length_le
def zu:=@List.length_take
def zw:=@List.getElem?_drop
def zx:=@List.mem_append_right
def zy:=@Array.getElem?_eq_getElem
def zz:=@List.getElem?_append_left
def ya:=@List.getElem?_append_right
def yb:=@List.getElem?_cons_zero
def yc:=@List.size_toArray
def yd:=@List.map_cons
def ye:=@List.getElem?_map
def yf:=@Nat.mul_le_mul_right
def yg:=@Nat.le_refl
def yh:=@Bool.and_eq_true
def yi:=@List.mem_map
def yj:=@Array.getElem?_toList
def yk:=@List.mem_iff_getElem?
def yl:=@Ne.symm
def ym:=@List.not_mem_nil
def yn:=@List.mem_append_left
def yo:=@List.cons_append
def yp:=@Array.length_toList
def yq:=@List.all_eq_true
def yr:=@List.map_take
def yt:=@Nat.lt_or_ge
def yu:=@Nat.zero_add
def yv:=@List.drop_eq_getElem_cons
def yw:=@List.nodup_cons
def yx:=@Nat.add_assoc
def yy:=@List.length_append
def yz:=@List.length_cons
def xa:=@List.take_append_drop
def xb:=@Nat.add_mul
def xc:=@List.length_drop
def xd:=@List.length_map
def xe:=@List.getElem?_cons_succ
def xf:=@List.getD_eq_getElem?_getD
def xg:=@List.append_assoc
def xh:=@List.mem_of_mem_drop
def xi:=@List.nil_append
def xj:=@List.nodup_append
def xk:=@List.getElem?_toArray
def xl:=@Array.getElem?_eq_some_iff
def xm:=@List.mem_singleton
def xn:=@Array.getElem?_append_left
def xp:=@Bool.eq_iff_iff
def xq:=@List.mem_flatMap
def xr:=@List.flatMap_cons
def xt:=@Bool.false_eq_true
def xu:=@List.map_append
def xv:=@List.map_map
def xw:=@List.take_succ
def xx:=@List.getElem?_eq_none
def xy:=@List.getElem?_take_of_lt
def xz:=@List.eq_nil_of_length_eq_zero
def wa:=@List.range'_succ
def wb:=@List.range_eq_range'
def wc:=@List.mem_of_mem_take
def wd:=@List.map_congr_left
def we:=@Array.getElem?_eq_none
def wg:=@Option.getD_some
def wh:=@Nat.add_zero
def wi:=@Array.ext'
def wj:=@Option.isSome_iff_exists
def wk:=@Array.size_append
def wl:=@List.mem_range'_1
def wm:=@Nat.succ_mul
def wn:=@List.take_succ_cons
def wo:=@Option.bind_eq_some_iff
def wq:=@Nat.lt_succ_self
def ws:=@Nat.lt_of_lt_of_le
def wt:=@Array.getElem?_setIfInBounds
def wu:=@Nat.min_eq_left
def wv:=@List.foldl_cons
def ww:=@List.map_nil
def wx:=@Nat.lt_irrefl
def wy:=@Bool.or_eq_false_iff
def wz:=@List.mem_or_eq_of_mem_set
def va:=@Array.toList_append
def vd:=@List.mem_map_of_mem
def vf:=@Option.map_some
def vg:=@Classical.axiomOfChoice
def vh:=@List.mem_replicate
def vi:=@Array.getElem?_map
def vj:=@Option.some.inj
def vk:=@List.length_eq_zero_iff
def vm:=@decide_eq_false
def vn:=@List.getElem?_replicate
def vo:=@List.filter_append
def vp:=@Nat.lt_trichotomy
def vq:=@Bool.not_eq_true'
def vr:=@Array.getElem?_setIfInBounds_ne
def vt:=@List.take_take
def vu:=@decide_eq_true
def vv:=@Nat.le_of_ble_eq_true
def vw:=@List.length_filter_le
def ua:=@Option.bind_some
def ub:=@List.take_append_of_le_length
def uc:=@Bool.true_and
def ud:=@List.sum_cons
def ue:=@List.mem_filter
def uf:=@Nat.min_def
def ug:=@List.length_pos_iff
def uh:=@Nat.le_trans
def ui:=@Nat.eq_zero_or_pos
def uj:=@Array.mapM_eq_mapM_toList
def uk:=@Bool.false_and
def ul:=@Array.getElem?_replicate
def um:=@Array.size_setIfInBounds
def uo:=@Nat.zero_le
def up:=@List.map_drop
def uq:=@Nat.le_max_right
def ur:=@List.any_eq_true
def ut:=@Bool.not_eq_true
def uv:=@Int.natCast_mul
def uw:=@List.length_singleton
def ux:=@List.countP_le_length
def uy:=@List.append_nil
def uz:=@List.sum_append
def tc:=@List.getElem?_zipWith
def td:=@List.mapM_cons
def tf:=@List.nodup_nil
def ti:=@Bool.or_false
def tj:=@Nat.zero_mul
def tk:=@Nat.mul_comm
def to:=@Nat.add_comm
def tp:=@Nat.sub_zero
def tq:=@Nat.min_self
inductive AV where
 | int (k:IntKind) (n:Int)
 | bool (b:Bool)
 | str (s:List UInt8)
 | nilp
 | ptr (id i off:Nat)
 | cptr (cs:List AV)
 | nils
 | sl (xs:List AV)
 | bsl (id off len:Nat)
 | fn (f:Nat) (caps:List AV)
 | fnb (f:Nat) (caps:List AV)
 | nilf
 | iface (t:Nat) (v:AV)
 | nili
 | agg (cs:List AV)
 | tup (vs:List AV)
 deriving Inhabited
def AV.cells:AV->List AV
 | .agg cs=>cs
 | v=>[v]
mutual
def AV.pureB:AV->Bool
 | .ptr _ _ _=>false
 | .bsl _ _ _=>false
 | .cptr cs=>E7 cs
 | .sl xs=>E7 xs
 | .agg cs=>E7 cs
 | .tup vs=>E7 vs
 | .fn _ caps=>E7 caps
 | .fnb _ caps=>E7 caps
 | .iface _ v=>v.pureB
 | _=>true
def E7:List AV->Bool
 | []=>true
 | x::r=>x.pureB&&E7 r
end
theorem A9i{l:List AV}(h:E7 l=true){i:Nat}{x:AV}(hx:l[i]?=some x):x.pureB=true:=by
 induction l generalizing i with
 | nil=>simp at hx
 | cons y r ih =>
  simp only[E7,yh] at h;cases i with
  | zero=>simp at hx; subst hx; exact h.1
  | succ i=>exact ih h.2 (by simpa using hx)
theorem A3I{l:List AV}(h:∀(i:Nat) x,l[i]?=some x->x.pureB=true):E7 l=true:=by
 induction l with
 | nil=>rfl
 | cons y r ih =>
  simp only[E7,yh];exact⟨h 0 y rfl,ih fun i x hx=>h (i+1) x (by simpa using hx)⟩
structure Gh where
 fz:Nat->Nat->Prop
 used:Nat->Prop
 bm:Nat->Option (Nat×Nat)
 nl:Nat->Prop
inductive RV(G:Gh)(w:World):AV->Value->Prop
 | int (k:IntKind) (n:Int):RV G w (.int k n) (.int k n)
 | bool (b:Bool):RV G w (.bool b) (.bool b)
 | str (s:List UInt8):RV G w (.str s) (.string ⟨⟨s⟩⟩)
 | nilp:RV G w .nilp (.pointer none)
 | ptr (id i off:Nat) (v:Value) (ho:v.oneCell'=true) (hu:G.used id) (hb:∀b s,G.bm id=some (b,s)->v = .pointer (some ⟨b,i*s+off,none⟩)):RV G w (.ptr id i off) v
 | cptr (cs:List AV) (a:Addr) (u:Nat->Value) (h1:∀j y,cs[j]?=some y->G.fz a.block (a.off+j)) (h2:∀j y,cs[j]?=some y->w.cell? (a.add j)=some (u j))
   (h3:∀j y,cs[j]?=some y->RV G w y (u j)):RV G w (.cptr cs) (.pointer (some a))
 | nils:RV G w .nils (.slice none 0 0)
 | sl (xs:List AV) (A:Option Addr) (c s:Nat) (u:Nat->Nat->Value) (hc:xs.length<=c) (hm:c<=maxLen) (hn:A=none->xs=[]/\c=0)
   (hs:∀(i:Nat) (x:AV),xs[i]?=some x->x.cells.length=s)
   (h1:∀(a:Addr) (i:Nat) (x:AV) (j:Nat) (y:AV),A=some a->xs[i]?=some x->x.cells[j]?=some y->G.fz a.block (a.off+(i*s+j)))
   (h2:∀(a:Addr) (i:Nat) (x:AV) (j:Nat) (y:AV),A=some a->xs[i]?=some x->x.cells[j]?=some y->w.cell? (a.add (i*s+j))=some (u i j))
   (h3:∀(i:Nat) (x:AV) (j:Nat) (y:AV),xs[i]?=some x->x.cells[j]?=some y->RV G w y (u i j)):RV G w (.sl xs) (.slice A xs.length c)
 | bsl (id off len:Nat) (v:Value) (ho:v.oneCell'=true) (hu:G.used id)
   (hb:∀b s,G.bm id=some (b,s)->∃c cur e,v = .slice (some ⟨b,off*s,none⟩) len c/\len<=c/\c<=maxLen/\w.heap[b]?=some (.cells cur e (0,0))/\cur.size=(off+c)*s) (hn:G.nl id->v = .slice none 0 0/\off=0/\len=0):RV G w (.bsl id off len) v
 | fn (f:Nat) (caps:List AV) (vs:Array Value) (hl:caps.length=vs.size) (h:∀i y,caps[i]?=some y->RV G w y (vs.getD i undef)):RV G w (.fn f caps) (.func (.func f) #[] vs)
 | fnb (f:Nat) (caps:List AV) (vs:Array Value) (hl:caps.length=vs.size) (h:∀i y,caps[i]?=some y->RV G w y (vs.getD i undef)):RV G w (.fnb f caps) (.func (.func f) vs #[])
 | nilf:RV G w .nilf .nilFunc
 | iface (t:Nat) (x:AV) (v:Value) (h:RV G w x v):RV G w (.iface t x) (.iface t v)
 | nili:RV G w .nili .nilIface
 | agg (cs:List AV) (vs:Array Value) (hl:cs.length=vs.size) (h:∀i y,cs[i]?=some y->RV G w y (vs.getD i undef)):RV G w (.agg cs) (.agg vs)
 | tup (cs:List AV) (vs:Array Value) (hl:cs.length=vs.size) (h:∀i y,cs[i]?=some y->RV G w y (vs.getD i undef)):RV G w (.tup cs) (.tuple vs)
structure I9(G:Gh)(w:World)(G':Gh)(w':World):Prop where
 fz:∀b o,G.fz b o->G'.fz b o
 cell:∀a:Addr,G.fz a.block a.off->w'.cell? a=w.cell? a
 used:∀id,G.used id->G'.used id
 bm:∀id,G.used id->G'.bm id=G.bm id\/G'.bm id=none
 nl:∀id,G.used id->G'.nl id->G.nl id
 row:∀id b s,G.used id->G'.bm id=some (b,s)->∀cur e,w.heap[b]?=some (.cells cur e (0,0))->∃cur',w'.heap[b]?=some (.cells cur' e (0,0))/\cur'.size=cur.size
theorem I9.refl(G:Gh)(w:World):I9 G w G w:=⟨fun _ _ h=>h,fun _ _=>rfl,fun _ h=>h,fun _ _=>.inl rfl,fun _ _ h=>h,fun _ _ _ _ _ cur _ h=>⟨cur,h,rfl⟩⟩
theorem I9.trans{G0 G1 G2:Gh}{w0 w1 w2:World}(h:I9 G0 w0 G1 w1)(k:I9 G1 w1 G2 w2):I9 G0 w0 G2 w2 :=
 ⟨fun b o hf=>k.fz b o (h.fz b o hf),fun a hf=>(k.cell a (h.fz _ _ hf)).trans (h.cell a hf),fun id hu=>k.used id (h.used id hu),
  fun id hu=>by
  rcases k.bm id (h.used id hu) with e|e
  ·rcases h.bm id hu with e'|e'
   ·exact .inl (e.trans e')
   ·exact .inr (e.trans e')
  ·exact .inr e,
  fun id hu hn=>h.nl id hu (k.nl id (h.used id hu) hn),
  fun id b s hu hb cur e hh=>by
  have h1:G1.bm id=some (b,s):=by
   rcases k.bm id (h.used id hu) with e'|e'
   ·rw[←e',hb]
   ·rw[hb] at e'; cases e'
  obtain⟨cur1,hh1,hs1⟩:=h.row id b s hu h1 cur e hh;obtain⟨cur2,hh2,hs2⟩:=k.row id b s (h.used id hu) hb cur1 e hh1;exact⟨cur2,hh2,hs2.trans hs1⟩⟩
theorem O9(a:Addr)(n:Nat):(a.add n).block=a.block:=by unfold Addr.add; split<;>rfl
theorem l6(a:Addr)(n:Nat):(a.add n).off=a.off+n:=by unfold Addr.add; split<;>simp[*]
theorem RV.mono{G G':Gh}{w w':World}(e:I9 G w G' w'){x:AV}{v:Value}(h:RV G w x v):RV G' w' x v:=by
 induction h with
 | int k n=>exact .int k n
 | bool b=>exact .bool b
 | str s=>exact .str s
 | nilp=>exact .nilp
 | ptr id i off v ho hu hb =>
  refine .ptr id i off v ho (e.used id hu) fun b s hbs=>hb b s ?_;rcases e.bm id hu with h|h
  ·rw[←h,hbs]
  ·rw[hbs] at h; cases h
 | cptr cs a u h1 h2 h3 ih =>
  refine .cptr cs a u (fun j y hj=>e.fz _ _ (h1 j y hj)) (fun j y hj=>?_) ih;rw[e.cell _ (by rw[O9,l6]; exact h1 j y hj)];exact h2 j y hj
 | nils=>exact .nils
 | sl xs A c s u hc hm hn hs h1 h2 h3 ih =>
  refine .sl xs A c s u hc hm hn hs (fun a i x j y ha hx hy=>e.fz _ _ (h1 a i x j y ha hx hy)) (fun a i x j y ha hx hy=>?_) ih;rw[e.cell _ (by rw[O9,l6]; exact h1 a i x j y ha hx hy)];exact h2 a i x j y ha hx hy
 | bsl id off len v ho hu hb hn =>
  refine .bsl id off len v ho (e.used id hu) (fun b s hbs=>?_) fun h=>hn (e.nl id hu h);have h0:G.bm id=some (b,s):=by
   rcases e.bm id hu with h|h
   ·rw[←h,hbs]
   ·rw[hbs] at h; cases h
  obtain⟨c,cur,el,hv,hl,hm,hh,hz⟩:=hb b s h0;obtain⟨cur',hh',hz'⟩:=e.row id b s hu hbs cur el hh;exact⟨c,cur',el,hv,hl,hm,hh',hz'.trans hz⟩
 | fn f caps vs hl h ih=>exact .fn f caps vs hl ih
 | fnb f caps vs hl h ih=>exact .fnb f caps vs hl ih
 | nilf=>exact .nilf
 | iface t x v h ih=>exact .iface t x v ih
 | nili=>exact .nili
 | agg cs vs hl h ih=>exact .agg cs vs hl ih
 | tup cs vs hl h ih=>exact .tup cs vs hl ih
theorem A4m{v:Value}(h:v.oneCell'=true):v.cells = #[v]:=by cases v<;>first|rfl|simp[Value.oneCell'] at h
theorem RV.cells{G:Gh}{w:World}{x:AV}{v:Value}(h:RV G w x v):
  x.cells.length=v.cells.size/\∀(j:Nat) y,x.cells[j]?=some y->RV G w y (v.cells.getD j undef):=by
 have one:x.cells=[x]->v.cells = #[v]->x.cells.length=v.cells.size/\∀(j:Nat) y,x.cells[j]?=some y->RV G w y (v.cells.getD j undef):=fun hx hv=>by
  rw[hx,hv];refine⟨rfl,fun j y hy=>?_⟩;cases j with
  | zero=>simp at hy; subst hy; exact h
  | succ j=>simp at hy
 cases h with
 | agg cs vs hl h=>exact⟨hl,h⟩
 | ptr id i off v ho hu hb=>exact one rfl (A4m ho)
 | bsl id off len v ho hu hb hn=>exact one rfl (A4m ho)
 | _=>exact one rfl rfl
def AV.one:AV->Bool
 | .agg _=>false
 | .tup _=>false
 | _=>true
theorem RV.oneCell{G:Gh}{w:World}{x:AV}{v:Value}(h:RV G w x v)(hx:x.one=true):v.oneCell'=true:=by
 cases h<;>first|assumption|rfl|simp[AV.one] at hx
theorem AV.one_cells{x:AV}(hx:x.one=true):x.cells=[x]:=by cases x<;>first|rfl|simp[AV.one] at hx
/-! ### The boxes of a call -/
structure Bx where
 xs:List AV
 d:AV
 ro:Bool
 frz:Bool
def Bx.sz(b:Bx):Nat:=b.d.cells.length
def B4f : List (String × IntKind × List Int) := [("internal/strconv.uint64pow10", .u64, Lib.pow10Tab)]
def A90(P:Program)(w:World):Prop:=∀t∈B4f,∀g,P.globalNamed t.1=some g->Lib.TabIs P w t.1 t.2.1 t.2.2
theorem A90.below{P:Program}{w w':World}(h:A90 P w)(hb:Below w.heap.size w w'):A90 P w':=fun t ht g hg=>by
 have h1:=h t ht g hg;unfold Lib.TabIs World.var? at h1 ⊢;rw[hg] at h1 ⊢;simp only[ua] at h1 ⊢;rw[hb.block g (by
  rcases yt g w.heap.size with k|k
  ·exact k
  ·rw[we k] at h1; cases h1)]
 exact h1
def B6R:List String:=[]
def A91(P:Program)(w:World):Prop:=∀n∈B6R,∀g,P.globalNamed n=some g->∃v,w.cell? ⟨g,0,none⟩=some v/\(v = .nilIface\/∃te pe,v = .iface te pe)
theorem A91.below{P:Program}{w w':World}(h:A91 P w)(hb:Below w.heap.size w w'):A91 P w':=fun n hn g hg=>by
 obtain⟨v,h1,h2⟩:=h n hn g hg;have hg:g<w.heap.size:=by
  rcases yt g w.heap.size with k|k
  ·exact k
  ·simp[World.cell?,we k] at h1
 exact⟨v,by rw[hb.cell (p:=⟨g,0,none⟩) hg]; exact h1,h2⟩
structure A16(P:Program)(w:World):Prop where
 tab:A90 P w
 err:A91 P w
theorem A16.below{P:Program}{w w':World}(h:A16 P w)(hb:Below w.heap.size w w'):A16 P w':=⟨h.tab.below hb,h.err.below hb⟩
structure Cx(P:Program)where
 B0:Nat
 W0:World
 fz0:Nat->Nat->Prop
 tab:∀w,Below B0 W0 w->A16 P w
def U0(G:Gh)(w:World)(s:Nat)(xs:List AV)(cur:Array Value):Prop :=
 ∀(i:Nat) (y:AV),xs[i]?=some y->y.cells.length=s/\∀(j:Nat) (z:AV),y.cells[j]?=some z->∃u,cur[i*s+j]?=some u/\RV G w z u
theorem U0.mono{G G':Gh}{w w':World}(e:I9 G w G' w'){s:Nat}{xs:List AV}{cur:Array Value}(h:U0 G w s xs cur):U0 G' w' s xs cur :=
 fun i y hy=>⟨(h i y hy).1,fun j z hz=>let ⟨u,hu,hr⟩:=(h i y hy).2 j z hz; ⟨u,hu,hr.mono e⟩⟩
structure RS{P:Program}(C:Cx P)(G:Gh)(bx:Nat->Option Bx)(w:World):Prop where
 below:Below C.B0 C.W0 w
 size:C.B0<=w.heap.size
 fzok:∀b o,G.fz b o->∃u,w.cell? ⟨b,o,none⟩=some u
 fzold:∀b o,G.fz b o->b<C.B0->C.fz0 b o
 box:∀id x,bx id=some x->¬G.nl id->∃b s cur e,G.bm id=some (b,s)/\w.heap[b]?=some (.cells cur e (0,0))/\(x.ro=false->C.B0<=b)/\(x.sz=s/\x.xs.length*s<=cur.size)/\U0 G w s x.xs cur /\
  (x.frz=false->∀o,¬G.fz b o)/\(∀o,G.fz b o->o<x.xs.length*s)
 nil:∀id x,bx id=some x->G.nl id->x.xs=[]/\x.ro=false
 nlu:∀id,G.nl id->G.used id/\G.bm id=none
 used:∀id b s,G.bm id=some (b,s)->G.used id
 inj:∀id id' b s s',G.bm id=some (b,s)->G.bm id'=some (b,s')->id=id'
 rows:∀id b s,G.bm id=some (b,s)->b<w.heap.size
theorem RS.lies{P:Program}{C:Cx P}{G:Gh}{bx:Nat->Option Bx}{w:World}(h:RS C G bx w){id i:Nat}{x:Bx}{y:AV}(hx:bx id=some x)(hy:x.xs[i]?=some y):¬G.nl id :=
 fun hn=>by rw[(h.nil id x hx hn).1] at hy; simp at hy
theorem B3G{w:World}{a:Addr}{u:Value}(h:w.cell? a=some u):a=⟨a.block,a.off,none⟩:=by
 obtain⟨b,o,s⟩:=a;cases s with
 | none=>rfl
 | some s=>simp only[World.cell?] at h; split at h<;>simp at h
theorem A4n{w:World}{a:Addr}{u:Value}(h:w.cell? a=some u):w.cell? ⟨a.block,a.off,none⟩=some u:=by rw[←B3G h]; exact h
theorem P0{w:World}{b o:Nat}{u:Value}(h:w.cell? ⟨b,o,none⟩=some u):b<w.heap.size:=World.block_lt_of_cell? w ⟨b,o,none⟩ h
theorem l7{G:Gh}{w w':World}(hf:∀b o,G.fz b o->w'.heap[b]?=w.heap[b]?)
  (hr:∀id b s,G.bm id=some (b,s)->∀cur e,w.heap[b]?=some (.cells cur e (0,0))->∃cur',w'.heap[b]?=some (.cells cur' e (0,0))/\cur'.size=cur.size):I9 G w G w' :=
 ⟨fun _ _ h=>h,fun _ ha=>World.cell?_of_block (hf _ _ ha),fun _ h=>h,fun _ _=>.inl rfl,fun _ _ h=>h,fun id b s _ hb cur e h=>hr id b s hb cur e h⟩
theorem RS.drew{P:Program}{C:Cx P}{G:Gh}{bx:Nat->Option Bx}{w:World}(h:RS C G bx w):RS C G bx w.drew/\I9 G w G w.drew:=by
 have e:I9 G w G w.drew:=l7 (fun _ _ _=>rfl) fun _ _ _ _ cur _ hh=>⟨cur,hh,rfl⟩;exact⟨⟨h.below.drew,h.size,h.fzok,h.fzold,fun id x hx hn=>let ⟨b,s,cur,el,h1,h2,h3,h4,h5,h6⟩:=h.box id x hx hn; ⟨b,s,cur,el,h1,h2,h3,h4,h5.mono e,h6⟩,h.nil,h.nlu,h.used,h.inj,h.rows⟩,e⟩
theorem RS.weak{P:Program}{C:Cx P}{G:Gh}{bx bx':Nat->Option Bx}{w:World}(h:RS C G bx w)(hb:∀id x,bx' id=some x->bx id=some x):RS C G bx' w :=
 ⟨h.below,h.size,h.fzok,h.fzold,fun id x hx=>h.box id x (hb id x hx),fun id x hx=>h.nil id x (hb id x hx),h.nlu,h.used,h.inj,h.rows⟩
def P9{α β:Type}[DecidableEq α](f:α->β)(a:α)(v:β):α->β:=fun x=>if x=a then v else f x
theorem B5{α β:Type}[DecidableEq α](f:α->β)(a:α)(v:β):P9 f a v a=v:=by simp[P9]
theorem A7{α β:Type}[DecidableEq α](f:α->β)(a:α)(v:β){x:α}(h:x≠a):P9 f a v x=f x:=by simp[P9,h]
def Gh.name(G:Gh)(id b s:Nat):Gh:={ G with used:=fun x=>x=id\/G.used x,bm:=P9 G.bm id (some (b,s)) }
theorem I9.alloc_name{G:Gh}{w:World}{id s:Nat}(hfz:∀b o,G.fz b o->b<w.heap.size)(hu:¬G.used id)(hrow:∀id b s,G.bm id=some (b,s)->b<w.heap.size)(cur:Array Value)(e:TypeId):
  I9 G w (G.name id w.heap.size s) (w.alloc (.cells cur e)):=by
 refine⟨fun _ _ h=>h,fun _ ha=>World.cell?_alloc_lt w _ _ (hfz _ _ ha),fun _ h=>.inr h,fun i hi=>.inl ?_,fun _ _ h=>h,fun i b' s' hi hb c el hh=>?_⟩
 ·exact A7 _ _ _ (fun h=>hu (h▸hi))
 ·have:i≠id:=fun h=>hu (h▸hi);simp only[Gh.name,A7 _ _ _ this] at hb;exact⟨c,by rw[Below.heap_alloc _ _ _ (hrow i b' s' hb)]; exact hh,rfl⟩
theorem RS.alloc{P:Program}{C:Cx P}{G:Gh}{bx:Nat->Option Bx}{w:World}(h:RS C G bx w){id s:Nat}(hu:¬G.used id)(xs:List AV)(cur:Array Value)(e:TypeId)(hsz:xs.length*s<=cur.size)(hc:U0 G w s xs cur)(d:AV)(hd:d.cells.length=s):
  RS C (G.name id w.heap.size s) (P9 bx id (some ⟨xs,d,false,false⟩)) (w.alloc (.cells cur e))/\I9 G w (G.name id w.heap.size s) (w.alloc (.cells cur e)):=by
 have hfz:∀b o,G.fz b o->b<w.heap.size:=fun b o hf=>let ⟨u,hu⟩:=h.fzok b o hf; P0 hu;have ev:=I9.alloc_name (s:=s) hfz hu h.rows cur e;refine⟨⟨h.below.alloc h.size _,by simp; have:=h.size; omega,fun b o hf=>?_,h.fzold,fun i x hx hn=>?_,fun i x hx hn=>?_,fun i hn=>?_,fun i b s' hb=>?_,fun i i' b s1 s2 h1 h2=>?_,fun i b s' hb=>?_⟩,ev⟩
 ·obtain⟨u,hu⟩:=h.fzok b o hf;exact⟨u,by rw[World.cell?_alloc_lt w _ _ (hfz b o hf)]; exact hu⟩
 ·by_cases hi:i=id
  ·subst hi;rw[B5] at hx;injection hx with hx
   subst hx;exact⟨w.heap.size,s,cur,e,B5 _ _ _,heap_alloc_new w _,fun _=>h.size,⟨hd,hsz⟩,hc.mono ev,fun _ o hf=>wx _ (hfz _ _ hf),fun o hf=>absurd (hfz _ _ hf) (wx _)⟩
  ·rw[A7 _ _ _ hi] at hx;obtain⟨b,s',cur',e',h1,h2,h3,h4,h5,h6⟩:=h.box i x hx hn;refine⟨b,s',cur',e',(A7 _ _ _ hi).trans h1,?_,h3,h4,h5.mono ev,h6⟩;rw[Below.heap_alloc _ _ _ (h.rows i b s' h1)];exact h2
 ·have hi:i≠id:=fun hi=>hu (hi▸(h.nlu i hn).1);rw[A7 _ _ _ hi] at hx;exact h.nil i x hx hn
 ·have hi:i≠id:=fun hi=>hu (hi▸(h.nlu i hn).1);exact⟨.inr (h.nlu i hn).1,(A7 _ _ _ hi).trans (h.nlu i hn).2⟩
 ·by_cases hi:i=id
  ·exact .inl hi
  ·simp only[Gh.name,A7 _ _ _ hi] at hb;exact .inr (h.used i b s' hb)
 ·have hne:∀(k:Nat) (s':Nat),G.bm k=some (b,s')->b=w.heap.size->False:=fun k s' hk hb=>by have:=h.rows k b s' hk; omega
  by_cases hi:i=id
  ·by_cases hi':i'=id
   ·rw[hi,hi']
   ·simp only[Gh.name,hi,B5,zc,zg] at h1;simp only[Gh.name,A7 _ _ _ hi'] at h2;exact (hne i' s2 h2 h1.1.symm).elim
  ·by_cases hi':i'=id
   ·simp only[Gh.name,hi',B5,zc,zg] at h2;simp only[Gh.name,A7 _ _ _ hi] at h1;exact (hne i s1 h1 h2.1.symm).elim
   ·simp only[Gh.name,A7 _ _ _ hi] at h1;simp only[Gh.name,A7 _ _ _ hi'] at h2;exact h.inj i i' b s1 s2 h1 h2
 ·by_cases hi:i=id
  ·simp only[Gh.name,hi,B5,zc,zg] at hb;simp; omega
  ·simp only[Gh.name,A7 _ _ _ hi] at hb;have:=h.rows i b s' hb;simp; omega
theorem RS.allocAny{P:Program}{C:Cx P}{G:Gh}{bx:Nat->Option Bx}{w:World}(h:RS C G bx w)(o:Obj):RS C G bx (w.alloc o)/\I9 G w G (w.alloc o):=by
 have hfz:∀b o,G.fz b o->b<w.heap.size:=fun b o hf=>let ⟨u,hu⟩:=h.fzok b o hf; P0 hu;have ev:I9 G w G (w.alloc o):=l7 (fun b o' hf=>Below.heap_alloc _ _ _ (hfz b o' hf)) fun i b s hb cur e hh=>⟨cur,by rw[Below.heap_alloc _ _ _ (h.rows i b s hb)]; exact hh,rfl⟩;refine⟨⟨h.below.alloc h.size _,by simp; have:=h.size; omega,fun b o' hf=>?_,h.fzold,fun i x hx hn=>?_,h.nil,h.nlu,h.used,h.inj,fun i b s hb=>by have:=h.rows i b s hb; simp; omega⟩,ev⟩
 ·obtain⟨u,hu⟩:=h.fzok b o' hf;exact⟨u,by rw[World.cell?_alloc_lt w _ _ (hfz b o' hf)]; exact hu⟩
 ·obtain⟨b,s',cur',e',h1,h2,h3,h4,h5,h6⟩:=h.box i x hx hn;exact⟨b,s',cur',e',h1,by rw[Below.heap_alloc _ _ _ (h.rows i b s' h1)]; exact h2,h3,h4,h5.mono ev,h6⟩
theorem RS.setRow{P:Program}{C:Cx P}{G:Gh}{bx:Nat->Option Bx}{w:World}(h:RS C G bx w){id b s:Nat}{x:Bx}{cur cur':Array Value}{e:TypeId}(hx:bx id=some x)(hb:G.bm id=some (b,s))(hro:x.ro=false)(hfr:x.frz=false)
  (hh:w.heap[b]?=some (.cells cur e (0,0))) (hz:cur'.size=cur.size) (xs:List AV) (hl:xs.length=x.xs.length) (hc:U0 G w s xs cur') :
  RS C G (P9 bx id (some { x with xs:=xs })) (w.setRow b cur')/\I9 G w G (w.setRow b cur'):=by
 have hnl:¬G.nl id:=fun hn=>by rw[(h.nlu id hn).2] at hb; cases hb
 obtain⟨b1,s1,cur1,e1,h1,h2,h3,h4,h5,h6,h7⟩:=h.box id x hx hnl;rw[hb] at h1;injection h1 with h1
 injection h1 with hb1 hs1
 subst hb1 hs1;rw[hh] at h2;injection h2 with h2
 injection h2 with h2 he
 subst h2 he;have hnf:∀b' o,G.fz b' o->b'≠b:=fun b' o hf hbb=>h6 hfr o (hbb▸hf);have hother:∀k,k≠b->(w.setRow b cur').heap[k]?=w.heap[k]?:=fun k hk=>setRow_other w b k cur' hk;have hnew:=setRow_heap w b cur cur' e (0,0) hh;have ev:I9 G w G (w.setRow b cur'):=l7 (fun b' o hf=>hother b' (hnf b' o hf)) fun i b' s' hb' c el hc'=>by
  by_cases hbb:b'=b
  ·subst hbb;rw[hh] at hc';injection hc' with hc'
   injection hc' with hc' he'
   subst hc' he';exact⟨cur',hnew,hz⟩
  ·exact⟨c,by rw[hother b' hbb]; exact hc',rfl⟩
 have hB:C.B0<=b:=h3 hro;refine⟨⟨?_,by simp; exact h.size,fun b' o hf=>?_,h.fzold,fun i y hy hn=>?_,fun i y hy hn=>?_,h.nlu,h.used,h.inj,fun i b' s' hb'=>by simp; exact h.rows i b' s' hb'⟩,ev⟩
 ·exact h.below.trans ⟨rfl,rfl,rfl,by simp,fun k hk=>hother k (by omega)⟩
 ·obtain⟨u,hu⟩:=h.fzok b' o hf;exact⟨u,by rw[World.cell?_of_block (w:=w) (hother b' (hnf b' o hf))]; exact hu⟩
 ·by_cases hi:i=id
  ·subst hi;rw[B5] at hy;injection hy with hy
   subst hy;exact⟨b,s,cur',e,hb,hnew,fun _=>hB,⟨h4.1,by simp only[hl]; omega⟩,hc.mono ev,fun _=>h6 hfr,by simpa only[hl] using h7⟩
  ·rw[A7 _ _ _ hi] at hy;obtain⟨b2,s2,cur2,e2,k1,k2,k3,k4,k5,k6⟩:=h.box i y hy hn;have hne:b2≠b:=fun hbb=>hi (h.inj i id b2 s2 s k1 (hbb▸hb));exact⟨b2,s2,cur2,e2,k1,by rw[hother b2 hne]; exact k2,k3,k4,k5.mono ev,k6⟩
 ·have hi:i≠id:=fun hi=>hnl (hi▸hn);rw[A7 _ _ _ hi] at hy;exact h.nil i y hy hn
theorem A9j{w w':World}{a:Addr}(h:w'.cell? ⟨a.block,a.off,none⟩=w.cell? ⟨a.block,a.off,none⟩):w'.cell? a=w.cell? a:=by
 obtain⟨b,o,s⟩:=a;cases s with
 | none=>exact h
 | some s =>
  have:∀w:World,w.cell? ⟨b,o,some s⟩=none:=fun w=>by simp only[World.cell?]; split<;>simp
  rw[this,this]
def Gh.rename(G:Gh)(old id b s:Nat):Gh:={ G with used:=fun x=>x=id\/G.used x,bm:=P9 (P9 G.bm old none) id (some (b,s)) }
theorem RS.moved{P:Program}{C:Cx P}{G:Gh}{bx:Nat->Option Bx}{w w':World}(h:RS C G bx w){id0 id b' s:Nat}{cur':Array Value}{e':TypeId}{x':Bx}(hu:¬G.used id)(hbelow:Below C.B0 w w')
  (hother:∀i b2 s2,G.bm i=some (b2,s2)->i≠id0->w'.heap[b2]?=w.heap[b2]?) (hfz:∀b2 o,G.fz b2 o->w'.cell? ⟨b2,o,none⟩=w.cell? ⟨b2,o,none⟩) (hnew:w'.heap[b']?=some (.cells cur' e' (0,0))) (hB:C.B0<=b')
  (hne:∀i s2,i≠id0->G.bm i≠some (b',s2)) (hlen:x'.xs.length*s<=cur'.size) (hsz:x'.sz=s) (hc:U0 G w s x'.xs cur') (hf1:x'.frz=false->∀o,¬G.fz b' o) (hf2:∀o,G.fz b' o->o<x'.xs.length*s) :
  RS C (G.rename id0 id b' s) (P9 (P9 bx id0 none) id (some x')) w'/\I9 G w (G.rename id0 id b' s) w':=by
 have hold:∀i,i≠id->i≠id0->(G.rename id0 id b' s).bm i=G.bm i:=fun i h1 h2=>by simp only[Gh.rename,A7 _ _ _ h1,A7 _ _ _ h2]
 have hnone:id0≠id->(G.rename id0 id b' s).bm id0=none:=fun h1=>by simp only[Gh.rename,A7 _ _ _ h1,B5]
 have hid:(G.rename id0 id b' s).bm id=some (b',s):=by simp only[Gh.rename,B5]
 have ev:I9 G w (G.rename id0 id b' s) w':=by
  refine⟨fun _ _ h=>h,fun a ha=>A9j (hfz _ _ ha),fun _ h=>.inr h,fun i hi=>?_,fun _ _ h=>h,fun i b2 s2 hi hb cur e hh=>?_⟩
  ·have h1:i≠id:=fun h=>hu (h▸hi);by_cases h2:i=id0
   ·subst h2; exact .inr (hnone h1)
   ·exact .inl (hold i h1 h2)
  ·have h1:i≠id:=fun h=>hu (h▸hi);by_cases h2:i=id0
   ·subst h2; rw[hnone h1] at hb; cases hb
   ·rw[hold i h1 h2] at hb;exact⟨cur,by rw[hother i b2 s2 hb h2]; exact hh,rfl⟩
 refine⟨⟨h.below.trans hbelow,uh h.size hbelow.size,fun b o hf=>?_,h.fzold,fun i x hx hn=>?_,fun i x hx hn=>?_,fun i hn=>?_,fun i b s' hb=>?_,fun i i' b s1 s2 h1 h2=>?_,fun i b s' hb=>?_⟩,ev⟩
 ·obtain⟨u,hu⟩:=h.fzok b o hf;exact⟨u,by rw[hfz b o hf]; exact hu⟩
 ·by_cases hi:i=id
  ·subst hi;rw[B5] at hx;injection hx with hx
   subst hx;exact⟨b',s,cur',e',hid,hnew,fun _=>hB,⟨hsz,hlen⟩,hc.mono ev,hf1,hf2⟩
  ·rw[A7 _ _ _ hi] at hx;by_cases h2:i=id0
   ·subst h2; rw[B5] at hx; cases hx
   ·rw[A7 _ _ _ h2] at hx;obtain⟨b2,s2,cur2,e2,k1,k2,k3,k4,k5,k6⟩:=h.box i x hx hn;exact⟨b2,s2,cur2,e2,(hold i hi h2).trans k1,by rw[hother i b2 s2 k1 h2]; exact k2,k3,k4,k5.mono ev,k6⟩
 ·have hi:i≠id:=fun hi=>hu (hi▸(h.nlu i hn).1);rw[A7 _ _ _ hi] at hx;by_cases h2:i=id0
  ·subst h2; rw[B5] at hx; cases hx
  ·rw[A7 _ _ _ h2] at hx;exact h.nil i x hx hn
 ·have hi:i≠id:=fun hi=>hu (hi▸(h.nlu i hn).1);refine⟨.inr (h.nlu i hn).1,?_⟩;by_cases h2:i=id0
  ·subst h2; exact hnone hi
  ·exact (hold i hi h2).trans (h.nlu i hn).2
 ·by_cases hi:i=id
  ·exact .inl hi
  ·by_cases h2:i=id0
   ·subst h2; rw[hnone hi] at hb; cases hb
   ·rw[hold i hi h2] at hb;exact .inr (h.used i b s' hb)
 ·by_cases hi:i=id
  ·by_cases hi':i'=id
   ·rw[hi,hi']
   ·by_cases h4:i'=id0
    ·subst h4; rw[hnone hi'] at h2; cases h2
    ·rw[hold i' hi' h4] at h2;rw[hi,hid] at h1;injection h1 with h1
     injection h1 with h1 _
     exact (hne i' s2 h4 (h1▸h2)).elim
  ·by_cases h3:i=id0
   ·subst h3; rw[hnone hi] at h1; cases h1
   ·rw[hold i hi h3] at h1;by_cases hi':i'=id
    ·rw[hi',hid] at h2;injection h2 with h2
     injection h2 with h2 _
     exact (hne i s1 h3 (h2▸h1)).elim
    ·by_cases h4:i'=id0
     ·subst h4; rw[hnone hi'] at h2; cases h2
     ·rw[hold i' hi' h4] at h2;exact h.inj i i' b s1 s2 h1 h2
 ·by_cases hi:i=id
  ·rw[hi,hid] at hb;injection hb with hb
   injection hb with hb _
   rw[←hb];exact (xl.1 hnew).1
  ·by_cases h2:i=id0
   ·subst h2; rw[hnone hi] at hb; cases hb
   ·rw[hold i hi h2] at hb;exact ws (h.rows i b s' hb) hbelow.size
theorem RS.reflag{P:Program}{C:Cx P}{G:Gh}{bx:Nat->Option Bx}{w:World}{id:Nat}{xs:List AV}{d:AV}(h:RS C G (P9 bx id (some ⟨xs,d,false,false⟩)) w)(f:Bool):RS C G (P9 bx id (some ⟨xs,d,false,f⟩)) w:=by
 refine⟨h.below,h.size,h.fzok,h.fzold,fun i x hx hn=>?_,fun i x hx hn=>?_,h.nlu,h.used,h.inj,h.rows⟩
 ·by_cases hi:i=id
  ·subst hi;rw[B5] at hx;injection hx with hx
   subst hx;obtain⟨b,s',cur,e,h1,h2,h3,h4,h5,h6,h7⟩:=h.box i ⟨xs,d,false,false⟩ (B5 _ _ _) hn;exact⟨b,s',cur,e,h1,h2,h3,h4,h5,fun _=>h6 rfl,h7⟩
  ·rw[A7 _ _ _ hi] at hx;exact h.box i x (by rw[A7 _ _ _ hi]; exact hx) hn
 ·by_cases hi:i=id
  ·subst hi;rw[B5] at hx;injection hx with hx
   subst hx;exact h.nil i ⟨xs,d,false,false⟩ (B5 _ _ _) hn
  ·rw[A7 _ _ _ hi] at hx;exact h.nil i x (by rw[A7 _ _ _ hi]; exact hx) hn
def Gh.void(G:Gh)(id:Nat):Gh:={ G with used:=fun x=>x=id\/G.used x,nl:=fun x=>x=id\/G.nl x }
theorem RS.void{P:Program}{C:Cx P}{G:Gh}{bx:Nat->Option Bx}{w:World}(h:RS C G bx w){id:Nat}(hu:¬G.used id)(d:AV)(f:Bool):
  RS C (G.void id) (P9 bx id (some ⟨[],d,false,f⟩)) w/\I9 G w (G.void id) w/\RV (G.void id) w (.bsl id 0 0) (.slice none 0 0):=by
 have hb:G.bm id=none:=by
  cases hb:G.bm id with
  | none=>rfl
  | some p=>exact (hu (h.used id p.1 p.2 hb)).elim
 have ev:I9 G w (G.void id) w:=⟨fun _ _ h=>h,fun _ _=>rfl,fun _ h=>.inr h,fun _ _=>.inl rfl,fun i hi hn=>hn.elim (fun e=>(hu (e▸hi)).elim) (fun h=>h),fun _ _ _ _ _ cur _ h=>⟨cur,h,rfl⟩⟩;refine⟨⟨h.below,h.size,h.fzok,h.fzold,fun i x hx hn=>?_,fun i x hx hn=>?_,fun i hn=>?_,fun i b s hb=>.inr (h.used i b s hb),h.inj,h.rows⟩,ev,.bsl id 0 0 _ rfl (.inl rfl) (fun b s hbs=>?_) fun _=>⟨rfl,rfl,rfl⟩⟩
 ·have hi:i≠id:=fun hi=>hn (.inl hi);rw[A7 _ _ _ hi] at hx;obtain⟨b,s,cur,e,h1,h2,h3,h4,h5,h6⟩:=h.box i x hx fun h=>hn (.inr h);exact⟨b,s,cur,e,h1,h2,h3,h4,h5.mono ev,h6⟩
 ·by_cases hi:i=id
  ·subst hi;rw[B5] at hx;injection hx with hx
   subst hx;exact⟨rfl,rfl⟩
  ·rw[A7 _ _ _ hi] at hx;exact h.nil i x hx (hn.resolve_left hi)
 ·rcases hn with hn|hn
  ·subst hn; exact⟨.inl rfl,hb⟩
  ·exact⟨.inr (h.nlu i hn).1,(h.nlu i hn).2⟩
 ·have:G.bm id=some (b,s):=hbs;rw[hb] at this;cases this
inductive G7 where
 | t (n:Nat)
 | c (v:AV)
 | f (n:Nat)
 deriving Inhabited
inductive CK where
 | int (k:IntKind)
 | bytes
 | str
 | same
 | mki (t:Nat)
 | ta (t:Nat)
 | rcv (f:Nat)
 | fld (off:Nat)
 deriving Inhabited
inductive W6 where
 | mv (x:G7)
 | pick (c a b:G7)
 | alloc (z:AV)
 | box (x:G7)
 | build (zs:List AV) (parts:List (Nat×Nat×G7))
 | bslice (z:AV) (n:Nat) (parts:List (Nat×G7))
 | ld (agg:Bool) (n:Nat) (x:G7)
 | st (n:Nat) (x v:G7)
 | chk (x:G7)
 | bin (op:BinOp) (eqs:Option (List Nat)) (x y:G7)
 | mm (mx:Bool) (x y:G7)
 | un (op:UnOp) (x:G7)
 | conv (k:CK) (x:G7)
 | mkf (f:Nat) (caps:List G7)
 | mks (z:AV) (bytes:Nat) (len cap:G7)
 | slis (x:G7) (lo hi:Option G7)
 | sli (n:Nat) (x:G7) (lo hi:Option G7)
 | fa (off:Nat) (x:G7)
 | ia (s:Nat) (z:AV) (x i:G7)
 | ix (x i:G7)
 | ext (x:G7) (i:Nat)
 | len (str:Bool) (x:G7)
 | app (str:Bool) (z:AV) (bytes:Nat) (x y:G7)
 | call (f:Nat) (args:List G7)
 | callv (x:G7) (args:List G7)
 | pnk (x:G7)
 | aa (n s:Nat) (x i:G7)
 | cpy (x y:G7)
 | inv (m:String) (x:G7) (args:List G7)
 deriving Inhabited
def B4g:Value->Option AV
 | .int k n=>some (.int k n)
 | .bool b=>some (.bool b)
 | .string s=>some (.str s.data.toList)
 | .pointer none=>some .nilp
 | .slice none 0 0=>some .nils
 | .nilFunc=>some .nilf
 | .nilIface=>some .nili
 | _=>none
def ofL:List Value->Option (List AV)
 | []=>some []
 | v::r=>match B4g v,ofL r with|some x,some xs=>some (x::xs)|_,_=>none
def ofV:Value->Option AV
 | .agg cs=>(ofL cs.toList).map .agg
 | .tuple vs=>if vs.isEmpty then some (.tup []) else none
 | v=>B4g v
section
variable {G:Gh} {w:World}
theorem A92{v:Value}{x:AV}(h:B4g v=some x):RV G w x v:=by
 have one:∀{x y:AV},some x=some y->x=y:=fun h=>by injection h
 cases v with
 | int k n=>rw[←one h]; exact .int k n
 | bool b=>rw[←one h]; exact .bool b
 | string s=>rw[←one h]; obtain⟨⟨l⟩⟩:=s; exact .str l
 | pointer a =>
  cases a with
  | none=>rw[←one h]; exact .nilp
  | some a=>cases h
 | slice a n c =>
  match a,n,c,h with
  | none,0,0,h=>rw[←one h]; exact .nils
  | some _,_,_,h=>cases h
  | none,_+1,_,h=>cases h
  | none,0,_+1,h=>cases h
 | nilFunc=>rw[←one h]; exact .nilf
 | nilIface=>rw[←one h]; exact .nili
 | _=>cases h
theorem B0s:∀{l:List Value} {xs:List AV},ofL l=some xs->xs.length=l.length/\∀(i:Nat) y,xs[i]?=some y->RV G w y (l.getD i undef)
 | [],xs,h=>by simp[ofL] at h; subst h; exact⟨rfl,fun i y hy=>by simp at hy⟩
 | v::r,xs,h=>by
  simp only[ofL] at h;split at h
  ·rename_i x xs' hx hr;injection h with h
   subst h;obtain⟨hl,hh⟩:=B0s hr;refine⟨by simp[hl],fun i y hy=>?_⟩;cases i with
   | zero=>simp at hy; subst hy; exact A92 hx
   | succ i=>simpa using hh i y (by simpa using hy)
  ·cases h
theorem A83{v:Value}{x:AV}(h:ofV v=some x):RV G w x v:=by
 unfold ofV at h;split at h
 ·rename_i cs;cases hx:ofL cs.toList with
  | none=>simp[hx] at h
  | some xs =>
   simp only[hx,vf,zc] at h;subst h;obtain⟨hl,hh⟩:=B0s (G:=G) (w:=w) hx;exact .agg _ _ (by simpa using hl) fun i y hy=>by simpa [zl] using hh i y hy
 ·rename_i vs;split at h
  ·injection h with h
   subst h;exact .tup _ _ (by rename_i he; simp at he; subst he; rfl) fun i y hy=>by simp at hy
  ·cases h
 ·exact A92 h
end
def opd:Operand->Option G7
 | .tmp t=>some (.t t)
 | .const v=>(ofV v).map .c
 | .func f=>some (.f f)
 | .global _=>none
def A2s:List Operand->Option (List G7)
 | []=>some []
 | x::r=>match opd x,A2s r with|some a,some b=>some (a::b)|_,_=>none
def A6e:Option Operand->Option (Option G7)
 | none=>some none
 | some x=>(opd x).map some
def A9k:List (Nat×Operand)->Option (List (Nat×G7))
 | []=>some []
 | (i,x)::r=>match opd x,A9k r with|some a,some b=>some ((i,a)::b)|_,_=>none
structure Rs where
 v:AV
 rd:List (Nat×Bx)
 wr:List (Nat×Option Bx)
def D8(bx:Nat->Option Bx):List (Nat×Option Bx)->Nat->Option Bx
 | []=>bx
 | (i,b)::r=>D8 (P9 bx i b) r
def J0(P:Program)(C:Cx P)(ρ:Operand->Value)(o:Oper)(G:Gh)(bx:Nat->Option Bx)(w:World)(id:Nat)(r:Rs):Prop :=
 ∃nx w' G' v,(execOp ρ o).run P w = .ok nx w'/\(nx = .value v\/(nx = .skip/\v=undef))/\RS C G' (D8 bx r.wr) w'/\I9 G w G' w'/\RV G' w' r.v v/\(∀x,G'.used x->G.used x\/x=id)
section
variable {P:Program} {C:Cx P} {ρ:Operand->Value} {o:Oper} {G:Gh} {bx:Nat->Option Bx} {w:World} {id:Nat}
theorem J0.still{v:Value}{x:AV}(hs:RS C G bx w)(hr:(execOp ρ o).run P w = .ok (.value v) w)(hv:RV G w x v)(rd:List (Nat×Bx)):J0 P C ρ o G bx w id ⟨x,rd,[]⟩ :=
 ⟨_,w,G,v,hr,.inl rfl,hs,I9.refl G w,hv,fun _ h=>.inl h⟩
end
def j8(G:Gh)(w:World)(xs:List AV)(vs:Array Value):Prop:=xs.length=vs.size/\∀(i:Nat) y,xs[i]?=some y->RV G w y (vs.getD i undef)
theorem K6{G:Gh}{w:World}{x:AV}{v:Value}(h:RV G w x v):j8 G w x.cells v.cells:=h.cells
theorem j8.get{G:Gh}{w:World}{xs:List AV}{vs:Array Value}(h:j8 G w xs vs){i:Nat}{y:AV}(hy:xs[i]?=some y):∃u,vs[i]?=some u/\RV G w y u:=by
 have hi:i<vs.size:=by rw[←h.1]; exact (ze.1 hy).1
 refine⟨vs[i],zy hi,?_⟩;have:=h.2 i y hy
 rwa [zl,zy hi] at this
theorem j8.of_get{G:Gh}{w:World}{xs:List AV}{vs:Array Value}(hl:xs.length=vs.size)(h:∀(i:Nat) y u,xs[i]?=some y->vs[i]?=some u->RV G w y u):j8 G w xs vs:=by
 refine⟨hl,fun i y hy=>?_⟩;have hi:i<vs.size:=by rw[←hl]; exact (ze.1 hy).1
 rw[zl,zy hi];exact h i y vs[i] hy (zy hi)
theorem A0l(l:List UInt8):(ByteArray.mk ⟨l⟩).toList=l:=by
 rw[ByteArray.toList_eq]
def A0F(q:Nat):AV->AV->Option Bool
 | .int k a,.int k' b=>if q=0/\k=k' then some (a==b) else none
 | .bool a,.bool b=>if q=1 then some (a==b) else none
 | .str a,.str b=>if q=2 then some (a==b) else none
 | _,_=>none
def e0:List Nat->List AV->List AV->Option Bool
 | [],[],[]=>some true
 | q::qs,x::r,y::s=>match A0F q x y,e0 qs r s with|some a,some b=>some (a&&b)|_,_=>none
 | _,_,_=>none
def B4h(op:BinOp)(k:IntKind)(a b:Int):Option AV :=
 match op with
 | .add=>some (.int k (k.wrap (a+b)))
 | .sub=>some (.int k (k.wrap (a - b)))
 | .mul=>some (.int k (k.wrap (a*b)))
 | .quo=>if b=0 then none else some (.int k (k.wrap (a.tdiv b)))
 | .rem=>if b=0 then none else some (.int k (a.tmod b))
 | .and=>some (.int k (bits .and k a b))
 | .or=>some (.int k (bits .or k a b))
 | .eql=>some (.bool (a==b))
 | .neq=>some (.bool (a != b))
 | .lss=>some (.bool (decide (a<b)))
 | .leq=>some (.bool (decide (a<=b)))
 | .gtr=>some (.bool (decide (a>b)))
 | .geq=>some (.bool (decide (a>=b)))
 | _=>none
def A93(op:BinOp)(x y:AV):Option AV :=
 match x,y with
 | .int k a,.int k' b =>
  match op with
  | .shl=>if 0<=b/\b<=k.bits then some (.int k (k.wrap (a*2 ^ b.toNat))) else none
  | .shr=>if 0<=b/\b<=k.bits then some (.int k (a / 2 ^ b.toNat)) else none
  | _=>if k=k' then B4h op k a b else none
 | .str a,.str b =>
  match op with
  | .add=>if a.length+b.length<=9223372036854775807 then some (.str (a++b)) else none
  | .eql=>some (.bool (a==b))
  | .neq=>some (.bool (!(a==b)))
  | _=>none
 | .bool a,.bool b =>
  match op with
  | .eql=>some (.bool (a==b))
  | .neq=>some (.bool (!(a==b)))
  | _=>none
 | _,_=>none
section
variable {P:Program} {G:Gh} {w:World}
theorem run_equalIn_bool(w:World)(d:Nat){t:TypeId}(hu:P.underlying t=some .bool)(p q:Bool):(Op.equalIn (d+1) t (.bool p) (.bool q)).run P w = .ok (p==q) w:=by
 simp[Op.equalIn,run_underlying hu]
theorem A5h(w:World){t:TypeId}(hu:P.underlying t=some .bool)(p q:Bool):(binOp .eql t (.bool p) (.bool q)).run P w = .ok (.bool (p==q)) w:=by
 have h:(Op.equal t (.bool p) (.bool q)).run P w = .ok (p==q) w:=run_equalIn_bool w 9999 hu p q;simp only[binOp,Sem.run_bind,h,Result.andThen_ok,Sem.run_pure]
theorem A5i(w:World){t:TypeId}(hu:P.underlying t=some .bool)(p q:Bool):(binOp .neq t (.bool p) (.bool q)).run P w = .ok (.bool (!(p==q))) w:=by
 have h:(Op.equal t (.bool p) (.bool q)).run P w = .ok (p==q) w:=run_equalIn_bool w 9999 hu p q;simp only[binOp,Sem.run_bind,h,Result.andThen_ok,Sem.run_pure]
theorem B4i{op:BinOp}{x y r:AV}{a b:Value}(hx:RV G w x a)(hy:RV G w y b)(h:A93 op x y=some r)(t:TypeId)(X Y:Operand)
  (ht:(∃p,x = .bool p)->P.underlying t=some .bool) :
  ∃v,(do eqGuard op t X Y a b; binOp op t a b:Sem Value).run P w = .ok v w/\RV G w r v:=by
 unfold A93 at h;split at h
 ·rename_i k m k' n;cases hx; cases hy
  have hg:eqGuard op t X Y (.int k m) (.int k' n)=pure ():=by cases op<;>rfl
  rw[hg];split at h
  ·split at h
   ·rename_i hb;injection h with h; subst h
    refine⟨_,?_,.int _ _⟩;simp only[Sem.run_bind,Sem.run_pure,Result.andThen_ok,binOp_shl,shift_shl _ _ _ _ hb.1 hb.2]
   ·cases h
  ·split at h
   ·rename_i hb;injection h with h; subst h
    refine⟨_,?_,.int _ _⟩;simp only[Sem.run_bind,Sem.run_pure,Result.andThen_ok,binOp_shr,shift_shr _ _ _ _ hb.1 hb.2]
   ·cases h
  ·split at h
   ·rename_i hkk;subst hkk;unfold B4h at h;split at h<;>first
     | (injection h with h; subst h
        refine⟨_,?_,by first|exact .int _ _|exact .bool _⟩;simp only[Sem.run_bind,Sem.run_pure,Result.andThen_ok,binOp_add,binOp_sub,binOp_mul,binOp_and,binOp_or,binOp_eql,binOp_neq,binOp_lss,binOp_leq,binOp_gtr,binOp_geq,Op.intArith,intBits_and,intBits_or]; done)
     | (split at h
        ·cases h
        ·rename_i h0;injection h with h; subst h
         refine⟨_,?_,.int _ _⟩;simp only[Sem.run_bind,Sem.run_pure,Result.andThen_ok,binOp_quo,binOp_rem,Op.intDiv,zh h0])
     | cases h
   ·cases h
 ·rename_i s u;cases hx; cases hy
  have hg:eqGuard op t X Y (.string ⟨⟨s⟩⟩) (.string ⟨⟨u⟩⟩)=pure ():=by cases op<;>rfl
  rw[hg];split at h
  ·split at h
   ·rename_i hl;injection h with h; subst h
    have:(.string (⟨⟨s⟩⟩++⟨⟨u⟩⟩):Value) = .string ⟨⟨s++u⟩⟩:=by congr 1
    refine⟨.string ⟨⟨s++u⟩⟩,?_,.str _⟩;have h2:¬(((ByteArray.size ⟨⟨s⟩⟩+ByteArray.size ⟨⟨u⟩⟩:Nat):Int)>IntKind.i64.max):=by
     rw[IntKind.max_i64]; simp only[ByteArray.size,yc]; omega
    simp only[Sem.run_bind,Sem.run_pure,Result.andThen_ok,binOp_string_add,Op.stringOp,zh h2,this]
   ·cases h
  ·injection h with h; subst h
   exact⟨_,by simp only[Sem.run_bind,Sem.run_pure,Result.andThen_ok,binOp_string_eql,A0l],.bool _⟩
  ·injection h with h; subst h
   exact⟨_,by simp only[Sem.run_bind,Sem.run_pure,Result.andThen_ok,binOp_string_neq,A0l],.bool _⟩
  ·cases h
 ·rename_i p q;cases hx; cases hy
  have hg:eqGuard op t X Y (.bool p) (.bool q)=pure ():=by cases op<;>rfl
  have hu:=ht ⟨p,rfl⟩;rw[hg];split at h
  ·injection h with h; subst h
   exact⟨_,by simp only[Sem.run_bind,Sem.run_pure,Result.andThen_ok,A5h w hu],.bool _⟩
  ·injection h with h; subst h
   exact⟨_,by simp only[Sem.run_bind,Sem.run_pure,Result.andThen_ok,A5i w hu],.bool _⟩
  ·cases h
 ·cases h
end
def J6(P:Program):List Field->Nat->Option (List Nat)
 | [],_=>some []
 | f::r,off =>
  if f.offset = off /\ f.name ≠ "_" then
   match P.underlying f.type,J6 P r (off+1) with
   | some (.int _),some ks=>some (0::ks)
   | some .bool,some ks=>some (1::ks)
   | some .string,some ks=>some (2::ks)
   | _,_=>none
  else none
section
variable {P:Program} {G:Gh} {w:World}
theorem A1N{t:TypeId}{cs:Array Value}{off:Nat}{v:Value}(h:match P.underlying t with|some (.int _)|some .bool|some .string=>True|_=>False)(hv:cs[off]?=some v):(part t cs off).run P w = .ok v w:=by
 unfold part isAgg;cases hu:P.underlying t with
 | none=>simp[hu] at h
 | some d=>cases d<;>simp[hu] at h<;>simp[run_underlying hu,hv]
theorem A1O(d:Nat):∀(fs:List Field) (off:Nat) (ks:List Nat) (xs ys:List AV) (vx vy:Array Value) (b:Bool),J6 P fs off=some ks ->
  (∀(i:Nat) y,xs[i]?=some y->∃u,vx[off+i]?=some u/\RV G w y u)->(∀(i:Nat) y,ys[i]?=some y->∃u,vy[off+i]?=some u/\RV G w y u)->e0 ks xs ys=some b->(Op.eqFields (d+1) vx vy fs).run P w = .ok b w
 | [],off,ks,xs,ys,vx,vy,b,hp,hx,hy,he=>by
  simp only[J6,zc] at hp;subst hp;match xs,ys,he with
  | [],[],he=>simp[e0] at he; subst he; rfl
 | f::fs,off,ks,xs,ys,vx,vy,b,hp,hx,hy,he=>by
  simp only[J6] at hp;split at hp
  ·rename_i hon;obtain⟨ho,hn⟩:=hon;have key:∀(q:Nat) (qs:List Nat),ks=q::qs->J6 P fs (off+1)=some qs->(match P.underlying f.type with|some (.int _)|some .bool|some .string=>True|_=>False) ->
     (∀x y a u v,A0F q x y=some a->RV G w x u->RV G w y v->(Op.equalIn (d+1) f.type u v).run P w = .ok a w)->(Op.eqFields (d+1) vx vy (f::fs)).run P w = .ok b w:=by
    intro q qs hks hq hty heq;subst hks;match xs,ys,he with
    | x::xs,y::ys,he =>
     simp only[e0] at he;split at he
     ·rename_i a c h1 h2;injection he with he
      subst he;obtain⟨u,hu,rx⟩:=hx 0 x rfl;obtain⟨v,hv,ry⟩:=hy 0 y rfl;have ih:=A1O d fs (off+1) qs xs ys vx vy c hq (fun i z hz=>by have:=hx (i+1) z hz; rwa [show off+(i+1)=off+1+i by omega] at this)
       (fun i z hz=>by have:=hy (i+1) z hz; rwa [show off+(i+1)=off+1+i by omega] at this) h2
      have pu:(part f.type vx f.offset).run P w = .ok u w:=A1N hty (by rw[ho]; simpa using hu);have pv:(part f.type vy f.offset).run P w = .ok v w:=A1N hty (by rw[ho]; simpa using hv);simp only[Op.eqFields,zk hn,Sem.run_bind,pu,pv,heq x y a u v h1 rx ry,Result.andThen_ok];cases a
      ·simp
      ·simpa using ih
     ·cases he
   split at hp
   ·rename_i k ks' hu hq;injection hp with hp
    refine key 0 ks' hp.symm hq (by simp[hu]) fun x y a u v h1 rx ry=>?_;unfold A0F at h1;split at h1
    ·split at h1
     ·rename_i hkk;obtain⟨_,rfl⟩:=hkk;injection h1 with h1; subst h1
      cases rx; cases ry
      exact run_equalIn_int w d f.type _ _ _ _ hu
     ·cases h1
    ·simp at h1
    ·simp at h1
    ·cases h1
   ·rename_i ks' hu hq;injection hp with hp
    refine key 1 ks' hp.symm hq (by simp[hu]) fun x y a u v h1 rx ry=>?_;unfold A0F at h1;split at h1
    ·simp at h1
    ·simp at h1; subst h1;cases rx; cases ry
     exact Go.run_equalIn_bool w d f.type _ _ hu
    ·simp at h1
    ·cases h1
   ·rename_i ks' hu hq;injection hp with hp
    refine key 2 ks' hp.symm hq (by simp[hu]) fun x y a u v h1 rx ry=>?_;unfold A0F at h1;split at h1
    ·simp at h1
    ·simp at h1
    ·simp at h1; subst h1;cases rx; cases ry
     rw[run_equalIn_string w d f.type _ _ hu,A0l,A0l]
    ·cases h1
   ·cases hp
  ·cases hp
theorem B4j{t:TypeId}{fs:Array Field}{ks:List Nat}(ht:P.underlying t=some (.struct fs))(hk:J6 P fs.toList 0=some ks)(hst:P.stoodInHeld t=false)(hg:P.eqGuardType P.depth t=false)
  {xs ys:List AV} {a b:Value} {r:Bool} (hx:RV G w (.agg xs) a) (hy:RV G w (.agg ys) b) (he:e0 ks xs ys=some r) (op:BinOp) (X Y:Operand) (ho:op = .eql\/op = .neq) :
  (do eqGuard op t X Y a b; binOp op t a b:Sem Value).run P w = .ok (.bool (if op = .eql then r else !r)) w:=by
 have hfo:P.fieldsOf t=fs:=by simp[Program.fieldsOf,ht]
 cases hx with|agg _ vx hlx hx =>
 cases hy with|agg _ vy hly hy =>
 have hrx:j8 G w xs vx:=⟨hlx,hx⟩;have hry:j8 G w ys vy:=⟨hly,hy⟩;have hr:(Op.equalIn 10000 t (.agg vx) (.agg vy)).run P w = .ok r w:=by
  rw[run_equalIn_struct w 9999 t vx vy (by rw[hfo]; exact ht) hst,hfo];exact A1O 9998 fs.toList 0 ks xs ys vx vy r hk (fun i y hy=>by simpa using hrx.get hy) (fun i y hy=>by simpa using hry.get hy) he
 rcases ho with rfl|rfl
 ·simp only[Sem.run_bind,run_eqGuard_agg w .eql t X Y vx vy hg,Result.andThen_ok,run_eql_struct,hr,if_true]
 ·simp only[Sem.run_bind,run_eqGuard_agg w .neq t X Y vx vy hg,Result.andThen_ok,run_neq_struct,hr,reduceCtorEq,if_false]
end
def U5(P:Program)(t:TypeId):Bool:=match P.underlying t with|some (.struct _)|some (.array _ _)=>true|_=>false
section
variable {P:Program} {C:Cx P} {G:Gh} {bx:Nat->Option Bx} {w:World}
theorem A1x{t:TypeId}{d:TypeDesc}(h:P.underlying t=some d):(isAgg t).run P w = .ok (U5 P t) w:=by
 unfold isAgg U5;cases d<;>simp[run_underlying h,h]
theorem K0{t:TypeId}{n:Nat}(hi:(P.info? t).map (·.size)=some n):(sizeOf t).run P w = .ok n w:=by
 obtain⟨i,hi1,hi2⟩:=zj.1 hi;simp[sizeOf,typeInfo,hi1,hi2]
theorem B0t{t:TypeId}(h:U5 P t=true):∃d,P.underlying t=some d:=by
 unfold U5 at h;split at h<;>first|exact⟨_,‹_›⟩|cases h
theorem A5j{t:TypeId}{n:Nat}(ht:U5 P t=true)(hi:(P.info? t).map (·.size)=some n)(a:Addr)(us:List Value)(hl:us.length=n)(h:∀(j:Nat) u,us[j]?=some u->w.cell? (a.add j)=some u):
  (loadVar t a).run P w = .ok (.agg us.toArray) w:=by
 obtain⟨d,hd⟩:=B0t ht;subst hl;have:=run_loadCells_list (P:=P) w a us h;simp[loadVar,A1x hd,ht,K0 hi,this]
theorem A5k{t:TypeId}{d:TypeDesc}(hd:P.underlying t=some d)(ht:U5 P t=false)(a:Addr)(u:Value)(h:w.cell? a=some u):(loadVar t a).run P w = .ok u w:=by
 simp[loadVar,A1x hd,ht,h]
def At(G:Gh)(w:World)(a:Addr)(cs:List AV):Prop:=∀(j:Nat) y,cs[j]?=some y->∃u,w.cell? (a.add j)=some u/\RV G w y u
theorem At.load_agg{t:TypeId}{n:Nat}(ht:U5 P t=true)(hi:(P.info? t).map (·.size)=some n){a:Addr}{cs:List AV}(h:At G w a cs)(hn:cs.length=n):∃v,(loadVar t a).run P w = .ok v w/\RV G w (.agg cs) v:=by
 have hx:∀j,∃u,∀y,cs[j]?=some y->w.cell? (a.add j)=some u/\RV G w y u:=fun j=>by
  cases hj:cs[j]? with
  | none=>exact⟨undef,fun y hy=>by cases hy⟩
  | some y=>obtain⟨u,h1,h2⟩:=h j y hj; exact⟨u,fun z hz=>by injection hz with hz; subst hz; exact⟨h1,h2⟩⟩
 obtain⟨u,hu⟩:=vg hx;have hget:∀j,j<n->((List.range n).map u)[j]?=some (u j):=fun j hj=>by simp[hj]
 refine⟨.agg ((List.range n).map u).toArray,A5j ht hi a _ (by simp) fun j v hv=>?_,.agg _ _ (by simp[hn]) fun i y hy=>?_⟩
 ·have hj:j<n:=by have:=(ze.1 hv).1; simpa using this
  rw[hget j hj] at hv;injection hv with hv
  subst hv;exact (hu j cs[j] (zd (by omega))).1
 ·have hj:i<n:=by rw[←hn]; exact (ze.1 hy).1
  have:=(hu i y hy).2;simpa [zl,hj] using this
theorem At.load_one{t:TypeId}{d:TypeDesc}(hd:P.underlying t=some d)(ht:U5 P t=false){a:Addr}{cs:List AV}(h:At G w a cs){y:AV}(hy:cs[0]?=some y):∃v,(loadVar t a).run P w = .ok v w/\RV G w y v:=by
 obtain⟨u,h1,h2⟩:=h 0 y hy;exact⟨u,A5k hd ht a u (by simpa [Addr.add] using h1),h2⟩
def B0u(bx:Nat->Option Bx):AV->Option (List AV×List (Nat×Bx))
 | .cptr cs=>some (cs,[])
 | .ptr id i off=>match bx id with
  | some b=>match b.xs[i]? with
   | some y=>if off<=y.cells.length then some (y.cells.drop off,[(id,b)]) else none
   | none=>none
  | none=>none
 | _=>none
theorem C1{b o:Nat}{cur:Array Value}{e:TypeId}{fr:Nat×Nat}(h:w.heap[b]?=some (.cells cur e fr)):w.cell? ⟨b,o,none⟩=cur[o]?:=cell_of_row w b o cur e fr h
theorem B0v(hs:RS C G bx w){id i off:Nat}{v:Value}(h:RV G w (.ptr id i off) v){b:Bx}(hb:bx id=some b){y:AV}(hy:b.xs[i]?=some y):
  ∃blk s,G.bm id=some (blk,s)/\v = .pointer (some ⟨blk,i*s+off,none⟩)/\At G w ⟨blk,i*s+off,none⟩ (y.cells.drop off):=by
 obtain⟨blk,s,cur,e,h1,h2,_,_,h5,_⟩:=hs.box id b hb (hs.lies hb hy);cases h with|ptr _ _ _ _ ho hu hbm =>
 refine⟨blk,s,h1,hbm blk s h1,fun j z hz=>?_⟩;obtain⟨hl,hc⟩:=h5 i y hy;rw[zw] at hz;obtain⟨u,hu1,hu2⟩:=hc (off+j) z hz;exact⟨u,by rw[Addr.add_lit,C1 h2]; rw[←hu1]; congr 1; omega,hu2⟩
theorem A33(hs:RS C G bx w){x:AV}{v:Value}(h:RV G w x v){cs:List AV}{rd:List (Nat×Bx)}(hl:B0u bx x=some (cs,rd)):∃a,v = .pointer (some a)/\At G w a cs:=by
 cases x with
 | cptr cs' =>
  simp only[B0u,zc,zg] at hl;obtain⟨rfl,_⟩:=hl;cases h with|cptr _ a u h1 h2 h3=>exact⟨a,rfl,fun j y hj=>⟨u j,h2 j y hj,h3 j y hj⟩⟩
 | ptr id i off =>
  simp only[B0u] at hl;split at hl
  ·rename_i b hb;split at hl
   ·rename_i y hy;split at hl
    ·injection hl with hl
     injection hl with hl _
     subst hl;obtain⟨blk,s,_,hv,hat⟩:=B0v hs h hb hy;exact⟨_,hv,hat⟩
    ·cases hl
   ·cases hl
  ·cases hl
 | _=>cases hl
end
theorem Z2(a:Addr)(i j:Nat):(a.add i).add j=a.add (i+j):=by
 unfold Addr.add;by_cases hi:i=0<;>by_cases hj:j=0<;>simp[hi,hj,yx]
def l8(bx:Nat->Option Bx)(off:Nat):AV->Option AV
 | .cptr cs=>some (.cptr (cs.drop off))
 | .ptr id i o=>match bx id with|some b=>(match b.xs[i]? with|some _=>some (.ptr id i (o+off))|none=>none)|none=>none
 | _=>none
def A34(s:Nat)(bx:Nat->Option Bx):AV->AV->Option AV
 | .sl xs,.int _ n=>if 0<=n then match xs[n.toNat]? with|some y=>if y.cells.length=s then some (.cptr y.cells) else none|none=>none else none
 | .bsl id off len,.int _ n=>match bx id with
  | some b=>match b.xs[0]? with
   | some y=>if y.cells.length=s/\0<=n/\n<len then some (.ptr id (off+n.toNat) 0) else none
   | none=>none
  | none=>none
 | _,_=>none
def e7(bx:Nat->Option Bx):AV->Option AV
 | .str s=>some (.int .i64 s.length)
 | .nils=>some (.int .i64 0)
 | .sl xs=>some (.int .i64 xs.length)
 | .bsl id _ len=>match bx id with|some _=>some (.int .i64 len)|none=>none
 | _=>none
def A2W(hi:Nat):Option AV->Option Nat
 | none=>some hi
 | some (.int _ n)=>if 0<=n/\n<=hi then some n.toNat else none
 | _=>none
def A0N(h:Nat):Option AV->Option Nat
 | none=>some 0
 | some (.int _ n)=>if 0<=n/\n<=h then some n.toNat else none
 | _=>none
section
variable {P:Program} {C:Cx P} {G:Gh} {bx:Nat->Option Bx} {w:World}
theorem B0w(hs:RS C G bx w){x r:AV}{v:Value}(h:RV G w x v){off:Nat}(hr:l8 bx off x=some r){st:TypeId}{fs:Array Field}{k:Nat}{f:Field}(ht:P.underlying st=some (.struct fs))(hf:fs[k]?=some f)
  (ho:f.offset=off) {n:Nat} (hz:(P.info? f.type).map (·.size)=some n) (hn:n≠0):∃u,(Instr.fieldAt st v k).run P w = .ok u w/\RV G w r u:=by
 subst ho;have key:∀a,v = .pointer (some a)->(Instr.fieldAt st v k).run P w = .ok (.pointer (some (a.add f.offset))) w:=fun a ha=>by
  subst ha;simp[Instr.fieldAt,run_underlying ht,hf,Instr.sureAddr,fieldPlace,K0 hz,hn]
 cases x with
 | cptr cs =>
  simp only[l8,zc] at hr;subst hr;cases h with|cptr _ a u h1 h2 h3 =>
  refine⟨_,key a rfl,.cptr _ _ (fun j=>u (f.offset+j)) (fun j y hy=>?_) (fun j y hy=>?_) fun j y hy=>?_⟩
  ·rw[zw] at hy;rw[O9,l6,yx];exact h1 _ y hy
  ·rw[zw] at hy;rw[Z2];exact h2 _ y hy
  ·rw[zw] at hy;exact h3 _ y hy
 | ptr id i o =>
  simp only[l8] at hr;split at hr
  ·rename_i b hb;split at hr
   ·rename_i y hy;injection hr with hr
    subst hr;obtain⟨blk,s,cur,e,h1,_⟩:=hs.box id b hb (hs.lies hb hy);cases h with|ptr _ _ _ _ hone hu hbm =>
    have hv:=hbm blk s h1;refine⟨_,key _ hv,.ptr id i (o+f.offset) _ rfl hu fun b' s' hb'=>?_⟩;rw[h1] at hb';injection hb' with hb'
    injection hb' with e1 e2
    subst e1 e2;rw[Addr.add_lit,yx]
   ·cases hr
  ·cases hr
 | _=>cases hr
theorem A9l(hs:RS C G bx w){x r:AV}{v:Value}(h:RV G w x v){off:Nat}(hr:l8 bx off x=some r){F:Value->Sem Value}(key:∀a,v = .pointer (some a)->(F v).run P w = .ok (.pointer (some (a.add off))) w):∃u,(F v).run P w = .ok u w/\RV G w r u:=by
 cases x with
 | cptr cs =>
  simp only[l8,zc] at hr;subst hr;cases h with|cptr _ a u h1 h2 h3 =>
  refine⟨_,key a rfl,.cptr _ _ (fun j=>u (off+j)) (fun j y hy=>?_) (fun j y hy=>?_) fun j y hy=>?_⟩
  ·rw[zw] at hy;rw[O9,l6,yx];exact h1 _ y hy
  ·rw[zw] at hy;rw[Z2];exact h2 _ y hy
  ·rw[zw] at hy;exact h3 _ y hy
 | ptr id i o =>
  simp only[l8] at hr;split at hr
  ·rename_i b hb;split at hr
   ·rename_i y hy;injection hr with hr
    subst hr;obtain⟨blk,s,cur,e,h1,_⟩:=hs.box id b hb (hs.lies hb hy);cases h with|ptr _ _ _ _ hone hu hbm =>
    have hv:=hbm blk s h1;refine⟨_,key _ hv,.ptr id i (o+off) _ rfl hu fun b' s' hb'=>?_⟩;rw[h1] at hb';injection hb' with hb'
    injection hb' with e1 e2
    subst e1 e2;rw[Addr.add_lit,yx]
   ·cases hr
  ·cases hr
 | _=>cases hr
theorem B0x(hs:RS C G bx w){x i r:AV}{v u:Value}(h:RV G w x v)(hi:RV G w i u){s:Nat}(hr:A34 s bx x i=some r){t e:TypeId}(ht:P.underlying t=some (.slice e))(hz:(P.info? e).map (·.size)=some s):
  ∃z,(Instr.indexAt t v u).run P w = .ok z w/\RV G w r z:=by
 have he:P.elem t=e:=by simp[Program.elem,ht]
 have key:∀(a:Addr) (len cap:Nat) (k:IntKind) (n:Int),0<=n->n<len->(Instr.indexAt t (.slice (some a) len cap) (.int k n)).run P w = .ok (.pointer (some (a.add (n.toNat*s)))) w:=fun a len cap k n h0 h1=>by
  rw[run_indexAt_slice w t a len cap k n (by rw[he]; exact ht),zk ⟨h0,h1⟩,he,K0 hz];rfl
 cases x with
 | sl xs =>
  cases i with
  | int k n =>
   simp only[A34] at hr;split at hr
   ·rename_i h0;split at hr
    ·rename_i y hy;split at hr
     ·rename_i hsz;injection hr with hr
      subst hr;cases hi
      cases h with|sl _ A c s' uu hc hm hn hs' h1 h2 h3 =>
      cases A with
      | none=>have:=(hn rfl).1; subst this; simp at hy
      | some a =>
       have hss:s'=s:=(hs' _ y hy).symm.trans hsz;subst hss;have hlt:n.toNat<xs.length:=(ze.1 hy).1;refine⟨_,key a _ c k n h0 (by omega),.cptr _ _ (fun j=>uu n.toNat j) (fun j z hz=>?_) (fun j z hz=>?_) fun j z hz=>h3 _ y j z hy hz⟩
       ·rw[O9,l6,yx]; exact h1 a _ y j z rfl hy hz
       ·rw[Z2]; exact h2 a _ y j z rfl hy hz
     ·cases hr
    ·cases hr
   ·cases hr
  | _=>cases hr
 | bsl id off len =>
  cases i with
  | int k n =>
   simp only[A34] at hr;split at hr
   ·rename_i b hb;split at hr
    ·rename_i y hy;split at hr
     ·rename_i hc;obtain⟨hsz,h0,hlt⟩:=hc;injection hr with hr
      subst hr;cases hi
      obtain⟨blk,s',cur,e',h1,_,_,_,h5,_⟩:=hs.box id b hb (hs.lies hb hy);cases h with|bsl _ _ _ _ hone hu hbm _ =>
      obtain⟨c,cur',e'',hv,_⟩:=hbm blk s' h1;have hss:s'=s:=(h5 0 y hy).1.symm.trans hsz;subst hss;subst hv;refine⟨_,key _ _ c k n h0 hlt,.ptr id _ 0 _ rfl hu fun b' s2 hb'=>?_⟩;rw[h1] at hb';injection hb' with hb'
      injection hb' with e1 e2
      subst e1 e2;rw[Addr.add_lit,xb,wh]
     ·cases hr
    ·cases hr
   ·cases hr
  | _=>cases hr
 | _=>cases hr
theorem B4k(hs:RS C G bx w){x r:AV}{v:Value}(h:RV G w x v)(hr:e7 bx x=some r){t:TypeId}(ht:P.underlying t=some .string\/∃e,P.underlying t=some (.slice e))(htx:(∃s,x = .str s)↔P.underlying t=some .string)(ty:TypeId):
  ∃z,(Builtin.len_ #[t] ty #[v]).run P w = .ok z w/\RV G w r z:=by
 have ksl:∀e a n c,P.underlying t=some (.slice e)->(Builtin.len_ #[t] ty #[.slice a n c]).run P w = .ok (.int .i64 n) w:=fun e a n c he=>by simp[Builtin.len_,run_underlying he,goInt]
 cases x with
 | str s =>
  simp only[e7,zc] at hr;subst hr;cases h
  refine⟨_,run_len_string w t ty _ (htx.1 ⟨s,rfl⟩),?_⟩;have:ByteArray.size ⟨⟨s⟩⟩=s.length:=rfl;rw[this]; exact .int _ _
 | nils =>
  simp only[e7,zc] at hr;subst hr;cases h
  rcases ht with ht|⟨e,he⟩
  ·obtain⟨s,hs⟩:=htx.2 ht; cases hs
  ·exact⟨_,ksl e _ _ _ he,.int _ _⟩
 | sl xs =>
  simp only[e7,zc] at hr;subst hr;cases h
  rcases ht with ht|⟨e,he⟩
  ·obtain⟨s,hs⟩:=htx.2 ht; cases hs
  ·exact⟨_,ksl e _ _ _ he,.int _ _⟩
 | bsl id off len =>
  simp only[e7] at hr;split at hr
  ·rename_i b hb;injection hr with hr
   subst hr;cases h with|bsl _ _ _ _ hone hu hbm hnl =>
   obtain⟨a,c,hv⟩:∃a c,v = .slice a len c:=by
    by_cases hn:G.nl id
    ·obtain⟨h1,_,h3⟩:=hnl hn;subst h3;exact⟨_,_,h1⟩
    ·obtain⟨blk,s',cur,e',h1,_⟩:=hs.box id b hb hn;obtain⟨c,cur',e'',hv,_⟩:=hbm blk s' h1;exact⟨_,_,hv⟩
   subst hv;rcases ht with ht|⟨e,he⟩
   ·obtain⟨s,hs⟩:=htx.2 ht; cases hs
   ·exact⟨_,ksl e _ _ _ he,.int _ _⟩
  ·cases hr
 | _=>cases hr
theorem B5g{s:List UInt8}{k:IntKind}{n:Int}{b:UInt8}(h0:0<=n)(hb:s[n.toNat]?=some b){t:TypeId}(ht:P.underlying t=some .string):
  (Instr.index t (.string ⟨⟨s⟩⟩) (.int k n)).run P w = .ok (.int .u8 b.toNat) w:=by
 have hlt:n.toNat<s.length:=(ze.1 hb).1;have hsz:ByteArray.size ⟨⟨s⟩⟩=s.length:=rfl;rw[run_index_string w t _ k n ht,dif_pos ⟨h0,by rw[hsz]; omega⟩];have:(⟨⟨s⟩⟩:ByteArray)[n.toNat]'(by rw[hsz]; exact hlt)=b:=by
  have:=(ze.1 hb).2;exact this
 rw[this]
def RVo(G:Gh)(w:World):Option AV->Option Value->Prop
 | none,none=>True
 | some x,some v=>RV G w x v
 | _,_=>False
theorem A3J{hi m:Nat}{o:Option AV}{ov:Option Value}(h:A2W hi o=some m)(ho:RVo G w o ov):m<=hi/\(ov=none/\m=hi\/∃k n,ov=some (.int k n)/\0<=n/\n<=hi/\m=n.toNat):=by
 match o,ov,ho with
 | none,none,_=>injection h with h; exact⟨by omega,.inl ⟨rfl,h.symm⟩⟩
 | some (.int k n),some v,hv =>
  simp only[A2W] at h;split at h
  ·rename_i hb;injection h with h
   cases hv
   exact⟨by omega,.inr ⟨k,n,rfl,hb.1,hb.2,h.symm⟩⟩
  ·cases h
theorem A6f{hi m:Nat}{o:Option AV}{ov:Option Value}(h:A0N hi o=some m)(ho:RVo G w o ov):m<=hi/\(ov=none/\m=0\/∃k n,ov=some (.int k n)/\0<=n/\n<=hi/\m=n.toNat):=by
 match o,ov,ho with
 | none,none,_=>injection h with h; exact⟨by omega,.inl ⟨rfl,h.symm⟩⟩
 | some (.int k n),some v,hv =>
  simp only[A0N] at h;split at h
  ·rename_i hb;injection h with h
   cases hv
   exact⟨by omega,.inr ⟨k,n,rfl,hb.1,hb.2,h.symm⟩⟩
  ·cases h
theorem A17{isS:Bool}{len cap l h:Nat}{lo hi:Option AV}{lov hiv:Option Value}(hc:len<=cap)(hh:A2W len hi=some h)(hl:A0N h lo=some l)(rl:RVo G w lo lov)(rh:RVo G w hi hiv):
  (Instr.sliceBounds isS len cap lov hiv none).run P w = .ok (l,h,cap) w:=by
 obtain⟨h1,h2⟩:=A3J hh rh;obtain⟨l1,l2⟩:=A6f hl rl;have e:∀(k:IntKind) (n:Int) (y:Nat) code,0<=n->n<=y->(Instr.sliceBound (.int k n) y code).run P w = .ok n.toNat w:=fun k n y code a b=>by simp[Instr.sliceBound,asIntOf,a,b]
 rcases h2 with⟨rfl,rfl⟩|⟨k,n,rfl,a,b,rfl⟩<;>rcases l2 with⟨rfl,rfl⟩|⟨k',n',rfl,a',b',rfl⟩
 ·simp[Instr.sliceBounds]
 ·simp[Instr.sliceBounds,e _ _ _ _ a' b']
 ·simp[Instr.sliceBounds,e k n cap _ a (by omega)]
 ·simp[Instr.sliceBounds,e k n cap _ a (by omega),e _ _ _ _ a' b']
theorem B3H{s:List UInt8}{lo hi:Option AV}{lov hiv:Option Value}{l h:Nat}(hh:A2W s.length hi=some h)(hl:A0N h lo=some l)(rl:RVo G w lo lov)(rh:RVo G w hi hiv){t:TypeId}(ht:P.underlying t=some .string):
  ∃u,(Instr.sliceAt t (.string ⟨⟨s⟩⟩) lov hiv none).run P w = .ok u w/\RV G w (.str ((s.take h).drop l)) u:=by
 have hsz:ByteArray.size ⟨⟨s⟩⟩=s.length:=rfl;have hb:=A17 (P:=P) (isS:=false) (cap:=s.length) (yg _) hh hl rl rh;have hx:(ByteArray.extract ⟨⟨s⟩⟩ l h)=⟨⟨(s.take h).drop l⟩⟩:=by
  have h1:h<=s.length:=(A3J hh rh).1;apply ByteArray.ext;apply wi;simp only[ByteArray.data_extract,Array.toList_extract,List.extract_eq_take_drop,List.drop_take]
 refine⟨_,?_,.str _⟩;simp only[Instr.sliceAt,Sem.run_bind,run_underlying ht,Result.andThen_ok,Instr.slice,Option.isSome_none,xt,if_false,hsz,hb,Sem.run_pure,hx]
theorem B4l{xs:List AV}{v:Value}(hx:RV G w (.sl xs) v){lo hi:Option AV}{lov hiv:Option Value}{l h:Nat}(hh:A2W xs.length hi=some h)(hl:A0N h lo=some l)(rl:RVo G w lo lov)(rh:RVo G w hi hiv){t e:TypeId}(ht:P.underlying t=some (.slice e))
  {n:Nat} (hz:(P.info? e).map (·.size)=some n) (hn:∀y∈xs,y.cells.length=n):∃u,(Instr.sliceAt t v lov hiv none).run P w = .ok u w/\RV G w (.sl ((xs.take h).drop l)) u:=by
 cases hx with|sl _ A c s u hc hm hA hs h1 h2 h3 =>
 have hb:=A17 (P:=P) (isS:=true) (cap:=c) hc hh hl rl rh;have hle:h<=xs.length:=(A3J hh rh).1;have hll:l<=h:=(A6f hl rl).1;have hlen:((xs.take h).drop l).length=h - l:=by simp; omega
 have hrun:(Instr.sliceAt t (.slice A xs.length c) lov hiv none).run P w = .ok (.slice (if c=l then A else A.map (·.add (l*n))) (h - l) (c - l)) w:=by
  simp only[Instr.sliceAt,Sem.run_bind,run_underlying ht,Result.andThen_ok,Instr.slice,hb,K0 hz,Sem.run_pure]
 have hg:∀i x,((xs.take h).drop l)[i]?=some x->xs[l+i]?=some x:=fun i x hi=>by
  rw[zw,zr] at hi;split at hi
  ·exact hi
  ·cases hi
 refine⟨_,hrun,?_⟩;rw[←hlen];by_cases hcl:c=l
 ·have:(xs.take h).drop l=[]:=xz (by omega);rw[zk hcl,this];exact .sl [] A (c - l) s (fun _ _=>undef) (by simp) (by omega) (fun ha=>⟨rfl,by have:=(hA ha).2; omega⟩) (fun i x hi=>by simp at hi) (fun a i x j y _ hi=>by simp at hi) (fun a i x j y _ hi=>by simp at hi) (fun i x j y hi=>by simp at hi)
 ·rw[zh hcl];refine .sl _ _ (c - l) s (fun i j=>u (l+i) j) (by omega) (by omega) (fun ha=>?_) (fun i x hi=>hs _ x (hg i x hi)) (fun a i x j y ha hi hj=>?_) (fun a i x j y ha hi hj=>?_) fun i x j y hi hj=>h3 _ x j y (hg i x hi) hj
  ·cases A with
   | none=>have:=(hA rfl).1; subst this; exact⟨by simp,by have:=(hA rfl).2; omega⟩
   | some a=>cases ha
  ·cases A with
   | none=>cases ha
   | some a0 =>
    injection ha with ha
    subst ha;have hss:n=s:=(hn x (zf (hg i x hi))).symm.trans (hs _ x (hg i x hi));have:=h1 a0 (l+i) x j y rfl (hg i x hi) hj;rw[O9,l6,hss]
    rwa [show a0.off+l*s+(i*s+j)=a0.off+((l+i)*s+j) by rw[xb]; omega]
  ·cases A with
   | none=>cases ha
   | some a0 =>
    injection ha with ha
    subst ha;have hss:n=s:=(hn x (zf (hg i x hi))).symm.trans (hs _ x (hg i x hi));have:=h2 a0 (l+i) x j y rfl (hg i x hi) hj;rw[Z2,hss]
    rwa [show l*s+(i*s+j)=(l+i)*s+j by rw[xb]; omega]
end
section
variable {P:Program} {C:Cx P} {G:Gh} {bx:Nat->Option Bx} {w:World}
def Made(P:Program)(C:Cx P)(x:Sem Value)(G:Gh)(w:World)(id:Nat)(r:AV)(bx':Nat->Option Bx):Prop :=
 ∃v w' G',x.run P w = .ok v w'/\RS C G' bx' w'/\I9 G w G' w'/\RV G' w' r v/\(∀i,G'.used i->G.used i\/i=id)
theorem B0y{x:AV}{v:Value}(h:RV G w x v):U0 G w x.cells.length [x] v.cells:=by
 intro i y hy;cases i with
 | zero =>
  simp at hy;subst hy;refine⟨rfl,fun j z hz=>?_⟩;obtain⟨u,hu,hr⟩:=(K6 h).get hz;exact⟨u,by simpa using hu,hr⟩
 | succ i=>simp at hy
theorem A4o(hs:RS C G bx w){id:Nat}(hu:¬G.used id){x:AV}{v:Value}(h:RV G w x v)(t:TypeId):
  Made P C (do pure (.pointer (some (←newVar t v)))) G w id (.ptr id 0 0) (P9 bx id (some ⟨[x],x,false,false⟩)):=by
 obtain⟨h1,h2⟩:=hs.alloc hu (s:=x.cells.length) [x] v.cells t (by rw[(K6 h).1]; simp) (B0y h) x rfl;refine⟨.pointer (some ⟨w.heap.size,0,none⟩),_,_,by simp[newVar,newRow],h1,h2,.ptr id 0 0 _ rfl (.inl rfl) fun b s hb=>?_,fun i hi=>hi.elim .inr .inl⟩;simp only[Gh.name,B5,zc,zg] at hb;rw[←hb.1];simp
def Y0(cs:List AV)(off:Nat)(zs:List AV):List AV:=cs.take off++zs++cs.drop (off+zs.length)
theorem A11{cs:List AV}{off:Nat}{zs:List AV}(h:off+zs.length<=cs.length):(Y0 cs off zs).length=cs.length:=by
 simp[Y0]; omega
theorem A18{cs:List AV}{off:Nat}{zs:List AV}(h:off+zs.length<=cs.length)(j:Nat):(Y0 cs off zs)[j]?=if off<=j/\j<off+zs.length then zs[j - off]? else cs[j]?:=by
 unfold Y0;by_cases h1:j<off
 ·rw[zh (by omega),xg,zz (by simp; omega),zr,zk h1]
 ·rw[xg,ya (by simp; omega),zu,wu (by omega)];by_cases h2:j<off+zs.length
  ·rw[zk ⟨by omega,h2⟩,zz (by omega)]
  ·rw[zh (by omega),ya (by omega),zw];congr 1; omega
theorem A4O(vs:List Value):∀(k off:Nat) (cs:Array Value) (j:Nat),off+k+vs.length<=cs.size ->
  ((vs.zipIdx k).foldl (fun cs (p:Value×Nat)=>cs.setIfInBounds (off+p.2) p.1) cs)[j]?=if off+k<=j/\j<off+k+vs.length then vs[j - (off+k)]? else cs[j]?:=by
 induction vs with
 | nil=>intro k off cs j h; simp; omega
 | cons v r ih =>
  intro k off cs j h;simp only[yz] at h;simp only[List.zipIdx_cons,wv];rw[ih (k+1) off _ j (by simp; omega)];by_cases h1:off+(k+1)<=j/\j<off+(k+1)+r.length
  ·rw[zk h1,zk (by simp; omega)];rw[show j - (off+k)=(j - (off+(k+1)))+1 by omega,xe]
  ·rw[zh h1,wt];by_cases h2:off+k=j
   ·subst h2;rw[zk rfl,zk (by omega),zk (by simp)];simp
   ·rw[zh h2,zh (by simp; omega)]
theorem A3K(vs:List Value):∀(k off:Nat) (cs:Array Value),((vs.zipIdx k).foldl (fun cs (p:Value×Nat)=>cs.setIfInBounds (off+p.2) p.1) cs).size=cs.size:=by
 induction vs with
 | nil=>intro k off cs; rfl
 | cons v r ih=>intro k off cs; simp only[List.zipIdx_cons,wv]; rw[ih]; simp
theorem A5l(cs:Array Value)(off:Nat)(v:Array Value):v.zipIdx.foldl (fun cs (p:Value×Nat)=>cs.setIfInBounds (off+p.2) p.1) cs=(v.toList.zipIdx 0).foldl (fun cs (p:Value×Nat)=>cs.setIfInBounds (off+p.2) p.1) cs:=by
 rw[←Array.foldl_toList];simp
theorem A84{cs:List AV}{vs:Array Value}(h:j8 G w cs vs){x:AV}{v:Value}(hx:RV G w x v){off:Nat}(ho:off+x.cells.length<=cs.length):
  j8 G w (Y0 cs off x.cells) (v.cells.zipIdx.foldl (fun cs (p:Value×Nat)=>cs.setIfInBounds (off+p.2) p.1) vs):=by
 have hl:=(K6 hx).1;have hlv:=h.1;rw[A5l];have hz:v.cells.toList.length=v.cells.size:=by simp
 refine j8.of_get (by rw[A3K,A11 ho,hlv]) fun j y u hy hu=>?_;rw[A4O _ 0 off _ j (by rw[hz,←hl,←hlv]; omega)] at hu;rw[A18 ho] at hy;by_cases hj:off<=j/\j<off+x.cells.length
 ·rw[zk hj] at hy;rw[zk (by rw[hz,←hl]; omega)] at hu;obtain⟨u',h1,h2⟩:=(K6 hx).get hy;simp only[wh,yj] at hu;rw[h1] at hu;injection hu with hu
  subst hu;exact h2
 ·rw[zh hj] at hy;rw[zh (by rw[hz,←hl]; omega)] at hu;obtain⟨u',h1,h2⟩:=h.get hy;rw[h1] at hu;injection hu with hu
  subst hu;exact h2
def A0O(cs:List AV):List (Nat×Nat×AV)->Option (List AV)
 | []=>some cs
 | (off,n,x)::r=>if x.cells.length=n/\off+n<=cs.length then A0O (Y0 cs off x.cells) r else none
theorem A5m(place:Nat->Option (Nat×Nat)):∀(ps:List (Nat×Nat×AV)) (vs:List (Nat×Value)) (cs:List AV) (us:Array Value) (r:List AV),j8 G w cs us->A0O cs ps=some r->ps.length=vs.length ->
  (∀(i:Nat) p q,ps[i]?=some p->vs[i]?=some q->place q.1=some (p.1,p.2.1)/\RV G w p.2.2 q.2)->∃us',Instr.fill place us vs=some us'/\j8 G w r us'
 | [],vs,cs,us,r,hr,hf,hl,hp=>by
  have:vs=[]:=xz (by simpa using hl.symm);subst this;injection hf with hf
  subst hf;exact⟨us,rfl,hr⟩
 | (off,n,x)::ps,(i,v)::vs,cs,us,r,hr,hf,hl,hp=>by
  obtain⟨h1,h2⟩:=hp 0 _ _ rfl rfl;simp only[A0O] at hf;split at hf
  ·rename_i hc;obtain⟨hn,ho⟩:=hc;subst hn;have hlen:=(K6 h2).1;simp only at h1 h2 hlen;have hus:=hr.1;simp only[Instr.fill,h1];rw[zh (by simp; omega)];exact A5m place ps vs _ _ r (A84 hr h2 ho) hf (by simpa using hl) fun i p q a b=>hp (i+1) p q (by simpa using a) (by simpa using b)
  ·cases hf
theorem B0z{t:TypeId}{fs:Array Field}{z:Value}{zs r:List AV}{vs:Array (Nat×Value)}{ps:List (Nat×Nat×AV)}(ht:P.underlying t=some (.struct fs))(hz:(P.info? t).map (·.zero)=some (some z))(hzs:RV G w (.agg zs) z)
  (hsz:∀f∈fs,((P.info? f.type).map (·.size)).isSome=true) (hf:A0O zs ps=some r) (hl:ps.length=vs.size)
  (hp:∀(i:Nat) p q,ps[i]?=some p->vs[i]?=some q->(∃f,fs[q.1]?=some f/\f.offset=p.1/\(P.info? f.type).map (·.size)=some p.2.1)/\RV G w p.2.2 q.2) :
  ∃u,(Instr.build t vs).run P w = .ok u w/\RV G w (.agg r) u:=by
 obtain⟨i,hi1,hi2⟩:=zj.1 hz;let pl:Array (Nat×Nat):=fs.map fun f=>(f.offset,((P.info? f.type).map (·.size)).getD 0)
 have hpl:(fs.mapM fun f=>(do pure (f.offset,←sizeOf f.type):Sem (Nat×Nat))).run P w = .ok pl w:=by
  have hlist:∀(l:List Field),(∀f∈l,((P.info? f.type).map (·.size)).isSome=true)->(l.mapM fun f=>(do pure (f.offset,←sizeOf f.type):Sem (Nat×Nat))).run P w = .ok (l.map fun f=>(f.offset,((P.info? f.type).map (·.size)).getD 0)) w:=by
   intro l;induction l with
   | nil=>intro _; simp
   | cons f l ih =>
    intro hf;obtain⟨n,hn⟩:=wj.1 (hf f (by simp));have:=ih fun f hf'=>hf f (by simp[hf']);simp only[td,Sem.run_bind,K0 hn,Result.andThen_ok,Sem.run_pure,this,yd,hn,wg]
  rw[uj];simp only[Sem.run_map,hlist fs.toList (fun f hf=>hsz f (by simpa using hf)),Result.andThen_ok];congr 1
  apply wi;simp[pl]
 obtain⟨us',hus,hr⟩:=A5m (G:=G) (w:=w) (pl[·]?) ps vs.toList zs z.cells r (by cases hzs with|agg _ vz hl h=>exact⟨hl,h⟩) hf (by simpa using hl) fun i p q a b=>by
  obtain⟨⟨f,h1,h2,h3⟩,h4⟩:=hp i p q a (by simpa using b);refine⟨?_,h4⟩;simp[pl,h1,h2,h3]
 refine⟨.agg us',?_,by exact .agg _ _ hr.1 hr.2⟩;simp only[Instr.build,zeroValue,typeInfo,Sem.run_bind,run_program,Result.andThen_ok,hi1,hi2,Sem.run_pure,run_underlying ht,hpl,hus]
end
def elems(bx:Nat->Option Bx):AV->Option (List AV)
 | .nils=>some []
 | .sl xs=>some xs
 | .str s=>some (s.map fun b=>.int .u8 b.toNat)
 | .bsl id off len=>match bx id with
  | some b=>if off+len<=b.xs.length then some ((b.xs.drop off).take len) else none
  | none=>none
 | _=>none
section
variable {P:Program} {C:Cx P} {G:Gh} {bx:Nat->Option Bx} {w:World}
def flat(ys:List AV):List AV:=ys.flatMap AV.cells
theorem K7{s:Nat}:∀{ys:List AV},(∀y∈ys,y.cells.length=s)->(flat ys).length=ys.length*s
 | [],_=>by simp[flat]
 | y::r,h=>by
  have:=K7 (ys:=r) fun z hz=>h z (by simp[hz]);simp only[flat,xr,yy,yz] at this ⊢;rw[this,h y (by simp),xb]; omega
theorem A1P{s:Nat}:∀{ys:List AV},(∀y∈ys,y.cells.length=s)->∀(k:Nat) z,(flat ys)[k]?=some z->∃i j y,k=i*s+j/\j<s/\ys[i]?=some y/\y.cells[j]?=some z
 | [],_,k,z,h=>by simp[flat] at h
 | y::r,hs,k,z,h=>by
  simp only[flat,xr] at h;have hy:=hs y (by simp);by_cases hk:k<s
  ·rw[zz (by omega)] at h;exact⟨0,k,y,by omega,hk,rfl,h⟩
  ·rw[ya (by omega),hy] at h;obtain⟨i,j,y',h1,h2,h3,h4⟩:=A1P (ys:=r) (fun z hz=>hs z (by simp[hz])) (k - s) z h;exact⟨i+1,j,y',by rw[xb]; omega,h2,by simpa using h3,h4⟩
theorem A1Q{s:Nat}:∀{ys:List AV},(∀y∈ys,y.cells.length=s)->∀(i j:Nat) y,ys[i]?=some y->j<s->(flat ys)[i*s+j]?=y.cells[j]?
 | [],_,i,j,y,h,_=>by simp at h
 | x::r,hs,0,j,y,h,hj=>by
  simp at h;subst h;simp only[flat,xr,tj,yu];rw[zz (by rw[hs x (by simp)]; exact hj)]
 | x::r,hs,i+1,j,y,h,hj=>by
  have hx:=hs x (by simp);simp only[flat,xr];rw[ya (by rw[hx,xb]; omega),hx];have:=A1Q (ys:=r) (fun z hz=>hs z (by simp[hz])) i j y (by simpa using h) hj;rw[show (i+1)*s+j - s=i*s+j by rw[xb]; omega];exact this
theorem A85(t:List UInt8):flat (t.map fun b=>AV.int .u8 (b.toNat:Int))=t.map fun b=>AV.int .u8 (b.toNat:Int):=by
 induction t with
 | nil=>rfl
 | cons b r ih =>
  simp only[flat,yd,xr,AV.cells] at ih ⊢;rw[ih];rfl
theorem B4m(hs:RS C G bx w){y:AV}{v:Value}(h:RV G w y v){ys:List AV}(he:elems bx y=some ys){s:Nat}(hsz:∀z∈ys,z.cells.length=s)(h1:∀z∈ys,∀c∈z.cells,c.one=true){tx:TypeId}
  (hk:((∃t,y = .str t)/\P.underlying tx=some .string/\s=1)\/((∀t,y≠.str t)/\∃e,P.underlying tx=some (.slice e))) :
  ∃news,Src P s tx v ys.length news w/\news.length=ys.length*s/\∀(k:Nat) z,(flat ys)[k]?=some z->∃u,news[k]?=some u/\RV G w z u:=by
 have hfl:=K7 hsz;have addr:∀(a:Addr) (n c:Nat),n=ys.length->v = .slice (some a) n c->(∃e,P.underlying tx=some (.slice e))->(∀(i j:Nat) z y',ys[i]?=some y'->y'.cells[j]?=some z->∃u,w.cell? (a.add (i*s+j))=some u/\RV G w z u) ->
   ∃news,Src P s tx v ys.length news w/\news.length=ys.length*s/\∀(k:Nat) z,(flat ys)[k]?=some z->∃u,news[k]?=some u/\RV G w z u:=by
  intro a n c hn hv ⟨e,hke⟩ hcell;subst hn hv;have hx:∀k,∃u,∀z,(flat ys)[k]?=some z->w.cell? (a.add k)=some u/\RV G w z u:=fun k=>by
   cases hz:(flat ys)[k]? with
   | none=>exact⟨undef,fun z h=>by cases h⟩
   | some z =>
    obtain⟨i,j,y',hk,_,h3,h4⟩:=A1P hsz k z hz;obtain⟨u,h5,h6⟩:=hcell i j z y' h3 h4;exact⟨u,fun z' hz'=>by injection hz' with hz'; subst hz'; rw[hk]; exact⟨h5,h6⟩⟩
  obtain⟨u,hu⟩:=vg hx;have hget:∀k,k<ys.length*s->((List.range (ys.length*s)).map u)[k]?=some (u k):=fun k hk=>by simp[hk]
  have hz:∀k,k<ys.length*s->∃z,(flat ys)[k]?=some z/\z.one=true:=fun k hk=>by
   obtain⟨z,hz⟩:∃z,(flat ys)[k]?=some z:=⟨_,zd (by omega)⟩;obtain⟨i,j,y',_,_,h3,h4⟩:=A1P hsz k z hz;exact⟨z,hz,h1 y' (zf h3) z (zf h4)⟩
  refine⟨(List.range (ys.length*s)).map u,Src.ofSlice w hke a ys.length c _ (by simp) (fun k x hx=>?_) (fun x hx=>?_),by simp,fun k z hz'=>?_⟩
  ·have hk:k<ys.length*s:=(by have:=(ze.1 hx).1; simpa using this);rw[hget k hk] at hx;injection hx with hx
   subst hx;obtain⟨z,hz,_⟩:=hz k hk;exact (hu k z hz).1
  ·simp only[yi,List.mem_range] at hx;obtain⟨k,hk,rfl⟩:=hx;obtain⟨z,hz,ho⟩:=hz k hk;exact (hu k z hz).2.oneCell ho
  ·have hk:k<ys.length*s:=(by have:=(ze.1 hz').1; omega);exact⟨u k,hget k hk,(hu k z hz').2⟩
 cases y with
 | nils =>
  simp only[elems,zc] at he;subst he;cases h
  rcases hk with⟨⟨t,ht⟩,_⟩|⟨_,e,hke⟩
  ·cases ht
  ·exact⟨[],Src.ofNil w hke 0,by simp,fun k z hz=>by simp[flat] at hz⟩
 | sl xs =>
  simp only[elems,zc] at he;subst he;rcases hk with⟨⟨t,ht⟩,_⟩|⟨_,e,hke⟩
  ·cases ht
  ·cases h with|sl _ A c s' u hc hm hn hs' g1 g2 g3 =>
   cases A with
   | none =>
    have hx:=(hn rfl).1;subst hx;exact⟨[],Src.ofNil w hke c,by simp,fun k z hz=>by simp[flat] at hz⟩
   | some a =>
    refine addr a _ c rfl rfl ⟨e,hke⟩ fun i j z y' hi hj=>?_;have hss:s'=s:=(hs' i y' hi).symm.trans (hsz y' (zf hi));subst hss;exact⟨u i j,g2 a i y' j z rfl hi hj,g3 i y' j z hi hj⟩
 | str t =>
  simp only[elems,zc] at he;subst he;rcases hk with⟨_,hks,hs1⟩|⟨hno,_⟩
  ·subst hs1;cases h
   have hbl:byteCells ⟨⟨t⟩⟩=t.map fun b=>Value.int .u8 b.toNat:=rfl;refine⟨byteCells ⟨⟨t⟩⟩,?_,by rw[hbl]; simp,fun k z hz=>?_⟩
   ·have:=Src.ofString (P:=P) w hks ⟨⟨t⟩⟩;have hsz:ByteArray.size ⟨⟨t⟩⟩=(t.map fun b=>AV.int .u8 (b.toNat:Int)).length:=(by simp[ByteArray.size]);rw[hsz] at this;exact this
   ·rw[A85,ye] at hz;rw[hbl,ye];cases hb:t[k]? with
    | none=>simp[hb] at hz
    | some b=>simp[hb] at hz; subst hz; exact⟨_,rfl,.int _ _⟩
  ·exact absurd rfl (hno t)
 | bsl id off len =>
  simp only[elems] at he;split at he
  ·rename_i b hb;split at he
   ·rename_i hle;injection he with he
    rcases hk with⟨⟨t,ht⟩,_⟩|⟨_,e,hke⟩
    ·cases ht
    ·cases h with|bsl _ _ _ _ hone hu hbm hnl =>
     by_cases hn:G.nl id
     ·obtain⟨hv,_,hl⟩:=hnl hn;have h0:=(hs.nil id b hb hn).1;rw[h0] at he;simp at he;subst he hv;exact⟨[],Src.ofNil w hke 0,by simp,fun k z hz=>by simp[flat] at hz⟩
     obtain⟨blk,s',cur,e',h1',h2',_,_,h5,_⟩:=hs.box id b hb hn;obtain⟨c,cur',e'',hv,_⟩:=hbm blk s' h1';have hlen:ys.length=len:=(by rw[←he]; simp; omega);refine addr ⟨blk,off*s',none⟩ len c hlen.symm hv ⟨e,hke⟩ fun i j z y' hi hj=>?_;have hi':b.xs[off+i]?=some y':=by
      rw[←he,zr] at hi;split at hi
      ·rwa [zw] at hi
      ·cases hi
     obtain⟨g1,g2⟩:=h5 _ y' hi';have hss:s'=s:=g1.symm.trans (hsz y' (zf hi));subst hss;obtain⟨u,hu1,hu2⟩:=g2 j z hj;refine⟨u,?_,hu2⟩;rw[Addr.add_lit,C1 h2',←hu1];congr 1
     rw[xb]; omega
   ·cases he
  ·cases he
 | _=>cases he
theorem P5(t tx ty e:TypeId)(i:TypeInfo)(ht:P.underlying t=some (.slice e))(hi:P.info? e=some i)(g sLen sCap:Nat)(cur:Array Value)(el:TypeId)(hg:w.heap[g]?=some (.cells cur el (0,0)))
  (x:Value) (n:Nat) (news:List Value) (hs:Src P i.size tx x n news w) (hroom:sLen+n<=sCap) (hfit:sLen*i.size+news.length<=cur.size) :
  (Builtin.append_ #[t,tx] ty #[.slice (some ⟨g,0,none⟩) sLen sCap,x]).run P w =
   .ok (.slice (some ⟨g,0,none⟩) (sLen+n) sCap) (w.setRow g (cur.toList.take (sLen*i.size)++news++cur.toList.drop (sLen*i.size+news.length)).toArray):=by
 have hst:=run_storeCells_at P g (sLen*i.size) el news 0 cur w hg (by simpa using hfit) hs.one;simp only[wh] at hst;rcases hs.kind with⟨e',hk⟩|hk<;>simp[Builtin.append_,run_underlying ht,run_underlying hk,sizeOf,typeInfo,hi,hs.len,hroom,hs.cells,Addr.add_lit,hst]
theorem A0z(t tx ty e:TypeId)(i:TypeInfo)(ht:P.underlying t=some (.slice e))(hi:P.info? e=some i)(x:Value)(hs:Src P i.size tx x 0 [] w):
  (Builtin.append_ #[t,tx] ty #[.slice none 0 0,x]).run P w = .ok (.slice none 0 0) w:=by
 rcases hs.kind with⟨e',hk⟩|hk<;>simp[Builtin.append_,run_underlying ht,run_underlying hk,sizeOf,typeInfo,hi,hs.len,hs.cells]
theorem A1y{s:Nat}{xs ys:List AV}{cur:Array Value}{news:List Value}{rest:List Value}(hx:U0 G w s xs cur)(hlen:xs.length*s<=cur.size)(hsz:∀y∈ys,y.cells.length=s)
  (hf:∀(k:Nat) z,(flat ys)[k]?=some z->∃u,news[k]?=some u/\RV G w z u) :
  U0 G w s (xs++ys) (cur.toList.take (xs.length*s)++news++rest).toArray:=by
 intro i y hy;have hl1:(cur.toList.take (xs.length*s)).length=xs.length*s:=by simp; omega
 by_cases hi:i<xs.length
 ·rw[zz hi] at hy;obtain⟨h1,h2⟩:=hx i y hy;refine⟨h1,fun j z hz=>?_⟩;obtain⟨u,hu,hr⟩:=h2 j z hz;refine⟨u,?_,hr⟩;have hj:j<s:=by rw[←h1]; exact (ze.1 hz).1
  have hlt:i*s+j<xs.length*s:=by
   have:(i+1)*s<=xs.length*s:=yf _ hi;rw[xb] at this; omega
  rw[xk,xg,zz (by omega),zr,zk hlt];simpa using hu
 ·rw[ya (by omega)] at hy;have hys:=hsz y (zf hy);refine⟨hys,fun j z hz=>?_⟩;have hj:j<s:=by rw[←hys]; exact (ze.1 hz).1
  have hfz:(flat ys)[(i - xs.length)*s+j]?=some z:=by rw[A1Q hsz _ j y hy hj]; exact hz
  obtain⟨u,hu,hr⟩:=hf _ z hfz;refine⟨u,?_,hr⟩;have hlt:(i - xs.length)*s+j<news.length:=(ze.1 hu).1;have hge:i*s+j=xs.length*s+((i - xs.length)*s+j):=by rw[←yx,←xb]; congr 2; omega
  rw[xk,xg,ya (by omega),hl1,hge,Nat.add_sub_cancel_left,zz hlt];exact hu
end
end Go.Am
