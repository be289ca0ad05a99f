/- Parts of the proof: an abstract machine for Go functions, and what functions of the program give back (Am12, Am13, Am14, Am15, Am16, Am17, Am18, Am19, Am20, Am21, Am22, Am23, Am24, Am25, Am26). No condition. -/
import Derived.Test.YtgfmjhmjnnpcgaaGreatDoorXA
import Derived.Lib.MinMax
namespace Go.Am
set_option linter.all false
open Go Go.RowKit
def Bx.el(b:Bx)(i:Nat):AV:=b.xs.getD i b.d
def lookT(bx:Nat→Option Bx):AV→Option (Prop×List AV×List (Nat×Bx))
 | .cptr cs=>some (True,cs,[])
 | .ptr id i off=>match bx id with
  | some b=>some (i<b.xs.length∧off≤(b.el i).cells.length,(b.el i).cells.drop off,[(id,b)])
  | none=>none
 | _=>none
def fieldT(bx:Nat→Option Bx)(off:Nat):AV→Option (Prop×AV×List (Nat×Bx))
 | .cptr cs=>some (True,.cptr (cs.drop off),[])
 | .ptr id i o=>match bx id with
  | some b=>some (i<b.xs.length,.ptr id i (o+off),[(id,b)])
  | none=>none
 | _=>none
def indexT(s:Nat)(z:AV)(bx:Nat→Option Bx):AV→AV→Option (Prop×AV×List (Nat×Bx))
 | .sl xs,.int _ n=>some (0≤n∧n.toNat<xs.length∧(xs.getD n.toNat z).cells.length=s,.cptr (xs.getD n.toNat z).cells,[])
 | .bsl id off len,.int _ n=>match bx id with
  | some b=>some (0≤n∧n<len∧b.sz=s,.ptr id (off+n.toNat) 0,[(id,b)])
  | none=>none
 | _,_=>none
def lenT(bx:Nat→Option Bx):AV→Option (AV×List (Nat×Bx))
 | .str s=>some (.int .i64 s.length,[])
 | .nils=>some (.int .i64 0,[])
 | .sl xs=>some (.int .i64 xs.length,[])
 | .bsl id _ len=>match bx id with|some b=>some (.int .i64 len,[(id,b)])|none=>none
 | _=>none
def hiT(hi:Nat):Option AV→Option (Prop×Nat)
 | none=>some (True,hi)
 | some (.int _ n)=>some (0≤n∧n≤hi,n.toNat)
 | _=>none
def loT(h:Nat):Option AV→Option (Prop×Nat)
 | none=>some (True,0)
 | some (.int _ n)=>some (0≤n∧n≤h,n.toNat)
 | _=>none
def elemsT(bx:Nat→Option Bx):AV→Option (Prop×List AV×List (Nat×Bx))
 | .nils=>some (True,[],[])
 | .sl xs=>some (True,xs,[])
 | .str s=>some (True,s.map fun b=>.int .u8 b.toNat,[])
 | .bsl id off len=>match bx id with
  | some b=>some (off+len≤b.xs.length,(b.xs.drop off).take len,[(id,b)])
  | none=>none
 | _=>none
def cmpT(op:BinOp)(k:IntKind)(a b:Int):Option (Prop×AV) :=
 match op with
 | .add=>some (True,.int k (k.wrap (a+b)))
 | .sub=>some (True,.int k (k.wrap (a - b)))
 | .mul=>some (True,.int k (k.wrap (a*b)))
 | .quo=>some (b≠0,.int k (k.wrap (a.tdiv b)))
 | .rem=>some (b≠0,.int k (a.tmod b))
 | .and=>some (True,.int k (bits .and k a b))
 | .or=>some (True,.int k (bits .or k a b))
 | .eql=>some (True,.bool (a==b))
 | .neq=>some (True,.bool (a != b))
 | .lss=>some (True,.bool (decide (a<b)))
 | .leq=>some (True,.bool (decide (a≤b)))
 | .gtr=>some (True,.bool (decide (a>b)))
 | .geq=>some (True,.bool (decide (a≥b)))
 | _=>none
def binT(op:BinOp)(eqs:Option (List Nat))(x y:AV):Option (Prop×AV) :=
 match x,y with
 | .int k a,.int k' b =>
  match op with
  | .shl=>some (0≤b∧b≤k.bits,.int k (k.wrap (a*2 ^ b.toNat)))
  | .shr=>some (0≤b∧b≤k.bits,.int k (a / 2 ^ b.toNat))
  | _=>if k=k' then cmpT op k a b else none
 | .str a,.str b =>
  match op with
  | .add=>some (a.length+b.length≤9223372036854775807,.str (a++b))
  | .eql=>some (True,.bool (a==b))
  | .neq=>some (True,.bool (!(a==b)))
  | _=>none
 | .bool a,.bool b =>
  match op,eqs with
  | .eql,some [9]=>some (True,.bool (a==b))
  | .neq,some [9]=>some (True,.bool (!(a==b)))
  | _,_=>none
 | .agg xs,.agg ys =>
  match op,eqs with
  | .eql,some ks=>match eqAll ks xs ys with|some b=>some (True,.bool b)|none=>none
  | .neq,some ks=>match eqAll ks xs ys with|some b=>some (True,.bool (!b))|none=>none
  | _,_=>none
 | .nils,.nils =>
  match op,eqs with
  | .eql,some [8]=>some (True,.bool true)
  | .neq,some [8]=>some (True,.bool false)
  | _,_=>none
 | .sl (_::_),.nils =>
  match op,eqs with
  | .eql,some [8]=>some (True,.bool false)
  | .neq,some [8]=>some (True,.bool true)
  | _,_=>none
 | .nili,.nili =>
  match op,eqs with
  | .eql,some [7]=>some (True,.bool true)
  | .neq,some [7]=>some (True,.bool false)
  | _,_=>none
 | .iface _ _,.nili =>
  match op,eqs with
  | .eql,some [7]=>some (True,.bool false)
  | .neq,some [7]=>some (True,.bool true)
  | _,_=>none
 | _,_=>none
def rsv1(bx:Nat→Option Bx):AV→AV
 | .bsl id off len=>match bx id with
  | some b=>.sl ((b.xs.drop off).take len)
  | none=>.bsl id off len
 | v=>v
def rsv(bx:Nat→Option Bx):AV→AV
 | .agg cs=>.agg (cs.map (rsv1 bx))
 | .bsl id off len=>rsv1 bx (.bsl id off len)
 | v=>v
def appT(d:AV)(bytes:Nat)(bx:Nat→Option Bx)(id:Nat)(x:AV)(ys:List AV):Option (Prop×Rs) :=
 match x with
 | .nils=>some (ys.length*bytes≤140737488355328∧ys.length≤9223372036854775807,⟨.bsl id 0 ys.length,[],[(id,some ⟨ys,d,false,false⟩)]⟩)
 | .bsl i0 off n=>match bx i0 with
  | some b=>some ((off=0∧n=b.xs.length∧b.sz=d.cells.length∧b.ro=false)∧(n+ys.length)*bytes≤140737488355328∧n+ys.length≤9223372036854775807,
    ⟨.bsl id 0 (n+ys.length),[(i0,b)],[(i0,none),(id,some ⟨b.xs++ys,d,false,b.frz⟩)]⟩)
  | none=>none
 | _=>none
section
variable {P:Program} {C:Cx P} {G:Gh} {bx:Nat→Option Bx} {w:World}
theorem el_some{b:Bx}{i:Nat}(h:i<b.xs.length):b.xs[i]?=some (b.el i):=by
 simp[Bx.el,List.getD,List.getElem?_eq_getElem h]
theorem lookT_ok{x:AV}{p:Prop}{cs:List AV}{rd:List (Nat×Bx)}(h:lookT bx x=some (p,cs,rd))(hp:p):look bx x=some (cs,rd):=by
 unfold lookT at h
 split at h
 ·simp only[Option.some.injEq,Prod.mk.injEq] at h
  obtain⟨_,rfl,rfl⟩:=h
  rfl
 ·split at h
  ·rename_i b hb
   simp only[Option.some.injEq,Prod.mk.injEq] at h
   obtain⟨rfl,rfl,rfl⟩:=h
   simp only[look,hb,el_some hp.1,if_pos hp.2]
  ·cases h
 ·cases h
theorem fieldT_ok{off:Nat}{x r:AV}{p:Prop}{rd:List (Nat×Bx)}(h:fieldT bx off x=some (p,r,rd))(hp:p):fieldAV bx off x=some r:=by
 unfold fieldT at h
 split at h
 ·simp only[Option.some.injEq,Prod.mk.injEq] at h
  obtain⟨_,rfl,rfl⟩:=h
  rfl
 ·split at h
  ·rename_i b hb
   simp only[Option.some.injEq,Prod.mk.injEq] at h
   obtain⟨rfl,rfl,rfl⟩:=h
   simp only[fieldAV,hb,el_some hp]
  ·cases h
 ·cases h
theorem lenT_ok{x r:AV}{rd:List (Nat×Bx)}(h:lenT bx x=some (r,rd)):lenAV bx x=some r:=by
 unfold lenT at h
 unfold lenAV
 split at h<;>first
  | (simp only[Option.some.injEq,Prod.mk.injEq] at h; obtain⟨rfl,rfl⟩:=h; rfl)
  | (split at h
     ·rename_i b hb
      simp only[Option.some.injEq,Prod.mk.injEq] at h; obtain⟨rfl,rfl⟩:=h; simp only[hb]
     ·cases h)
  | cases h
theorem hiT_ok{hi m:Nat}{o:Option AV}{p:Prop}(h:hiT hi o=some (p,m))(hp:p):bound hi o=some m:=by
 unfold hiT at h
 split at h<;>simp only[Option.some.injEq,Prod.mk.injEq,reduceCtorEq] at h
 ·obtain⟨_,rfl⟩:=h; rfl
 ·obtain⟨rfl,rfl⟩:=h; simp only[bound,if_pos hp]
theorem loT_ok{hi m:Nat}{o:Option AV}{p:Prop}(h:loT hi o=some (p,m))(hp:p):bound0 hi o=some m:=by
 unfold loT at h
 split at h<;>simp only[Option.some.injEq,Prod.mk.injEq,reduceCtorEq] at h
 ·obtain⟨_,rfl⟩:=h; rfl
 ·obtain⟨rfl,rfl⟩:=h; simp only[bound0,if_pos hp]
theorem elemsT_ok{x:AV}{p:Prop}{ys:List AV}{rd:List (Nat×Bx)}(h:elemsT bx x=some (p,ys,rd))(hp:p):elems bx x=some ys:=by
 unfold elemsT at h
 unfold elems
 split at h<;>first
  | (simp only[Option.some.injEq,Prod.mk.injEq] at h; obtain⟨_,rfl,_⟩:=h; rfl)
  | (split at h
     ·rename_i b hb
      simp only[Option.some.injEq,Prod.mk.injEq] at h; obtain⟨rfl,rfl,rfl⟩:=h; simp only[hb,if_pos hp]
     ·cases h)
  | cases h
theorem binT_ok{op:BinOp}{eqs:Option (List Nat)}{x y r:AV}{p:Prop}(h:binT op eqs x y=some (p,r))(hp:p)(hx:∀xs,x≠.agg xs)(hn:y≠.nils)(hn7:y≠.nili):binAV op x y=some r:=by
 unfold binT at h
 unfold binAV
 split at h
 ·split at h
  ·simp only[Option.some.injEq,Prod.mk.injEq] at h; obtain⟨rfl,rfl⟩:=h; simp only[if_pos hp]
  ·simp only[Option.some.injEq,Prod.mk.injEq] at h; obtain⟨rfl,rfl⟩:=h; simp only[if_pos hp]
  ·split at h
   ·rename_i hk
    simp only[if_pos hk]
    unfold cmpT at h
    unfold cmpI
    split at h<;>first
     | (simp only[Option.some.injEq,Prod.mk.injEq] at h; obtain⟨_,rfl⟩:=h; rfl)
     | (simp only[Option.some.injEq,Prod.mk.injEq] at h; obtain⟨rfl,rfl⟩:=h; simp only[if_neg hp])
     | cases h
   ·cases h
 ·split at h<;>first
   | (simp only[Option.some.injEq,Prod.mk.injEq] at h; obtain⟨rfl,rfl⟩:=h; simp only[if_pos hp])
   | (simp only[Option.some.injEq,Prod.mk.injEq] at h; obtain⟨_,rfl⟩:=h; rfl)
   | cases h
 ·split at h<;>first
   | (simp only[Option.some.injEq,Prod.mk.injEq] at h; obtain⟨_,rfl⟩:=h; rfl)
   | cases h
 ·exact (hx _ rfl).elim
 ·exact (hn rfl).elim
 ·exact (hn rfl).elim
 ·exact (hn7 rfl).elim
 ·exact (hn7 rfl).elim
 ·cases h
end
end Go.Am
namespace Go.Am
set_option linter.all false
open Go Go.RowKit
def Gh.keep(G:Gh)(b n:Nat):Gh:={ G with fz:=fun b' o=>G.fz b' o∨(b'=b∧o<n) }
section
variable {P:Program} {C:Cx P} {G:Gh} {bx:Nat→Option Bx} {w:World}
theorem Evo.keep(b n:Nat):Evo G w (G.keep b n) w:=⟨fun _ _ h=>.inl h,fun _ _=>rfl,fun _ h=>h,fun _ _=>.inl rfl,fun _ _ h=>h,fun _ _ _ _ _ cur _ h=>⟨cur,h,rfl⟩⟩
theorem RS.freeze(hs:RS C G bx w){id:Nat}{x:Bx}(hx:bx id=some x)(hro:x.ro=false):
  ∃G',RS C G' (upd bx id (some { x with frz:=true })) w∧Evo G w G' w∧(∀i,G'.used i→G.used i) ∧
   ∀off len v,off+len≤x.xs.length→RV G w (.bsl id off len) v→RV G' w (.sl ((x.xs.drop off).take len)) v:=by
 by_cases hn:G.nl id
 ·have h0:=(hs.nil id x hx hn).1
  refine⟨G,⟨hs.below,hs.size,hs.fzok,hs.fzold,fun i y hy hn'=>?_,fun i y hy hn'=>?_,hs.nlu,hs.used,hs.inj,hs.rows⟩,Evo.refl G w,fun _ h=>h,fun off len v hle h=>?_⟩
  ·have hi:i≠id:=fun hi=>hn' (hi▸hn)
   rw[upd_ne _ _ _ hi] at hy
   exact hs.box i y hy hn'
  ·by_cases hi:i=id
   ·subst hi
    rw[upd_eq] at hy
    injection hy with hy
    subst hy
    exact⟨h0,hro⟩
   ·rw[upd_ne _ _ _ hi] at hy
    exact hs.nil i y hy hn'
  ·cases h with|bsl _ _ _ _ _ _ _ hnl =>
   obtain⟨rfl,_,rfl⟩:=hnl hn
   simp only[List.take_zero]
   exact .sl [] none 0 0 (fun _ _=>undef) (Nat.le_refl _) (by simp[maxLen]) (fun _=>⟨rfl,rfl⟩) (fun i x hi=>by simp at hi) (fun a i x j y _ hi=>by simp at hi) (fun a i x j y _ hi=>by simp at hi) (fun i x j y hi=>by simp at hi)
 ·obtain⟨b,s,cur,e,h1,h2,h3,⟨h4,h5⟩,h6,h7,h8⟩:=hs.box id x hx hn
  have hB:=h3 hro
  have ev:Evo G w (G.keep b (x.xs.length*s)) w:=Evo.keep b _
  refine⟨G.keep b (x.xs.length*s),⟨hs.below,hs.size,fun b' o hf=>?_,fun b' o hf hb=>?_,fun i y hy hn'=>?_,fun i y hy hn'=>?_,hs.nlu,hs.used,hs.inj,hs.rows⟩,ev,fun _ h=>h,fun off len v hle h=>?_⟩
  ·rcases hf with hf|⟨rfl,ho⟩
   ·exact hs.fzok b' o hf
   ·exact⟨_,by rw[cell_of_heap h2]; exact Array.getElem?_eq_getElem (by omega)⟩
  ·rcases hf with hf|⟨rfl,ho⟩
   ·exact hs.fzold b' o hf hb
   ·omega
  ·by_cases hi:i=id
   ·subst hi
    rw[upd_eq] at hy
    injection hy with hy
    subst hy
    exact⟨b,s,cur,e,h1,h2,h3,⟨h4,h5⟩,h6.mono ev,fun h=>(by cases h),fun o ho=>ho.elim (h8 o) fun h=>h.2⟩
   ·rw[upd_ne _ _ _ hi] at hy
    obtain⟨b2,s2,cur2,e2,k1,k2,k3,k4,k5,k6,k7⟩:=hs.box i y hy hn'
    have hne:b2≠b:=fun hbb=>hi (hs.inj i id b2 s2 s k1 (hbb▸h1))
    exact⟨b2,s2,cur2,e2,k1,k2,k3,k4,k5.mono ev,fun hf o ho=>ho.elim (k6 hf o) fun h=>hne h.1,fun o ho=>ho.elim (k7 o) fun h=>(hne h.1).elim⟩
  ·by_cases hi:i=id
   ·subst hi; exact (hn hn').elim
   ·rw[upd_ne _ _ _ hi] at hy
    exact hs.nil i y hy hn'
  ·cases h with|bsl _ _ _ _ hone hu hbm hnl =>
   obtain⟨c,cur',e',hv,hlc,hcm,hh,hz⟩:=hbm b s h1
   subst hv
   have hlen:((x.xs.drop off).take len).length=len:=by simp; omega
   have hg:∀i y,((x.xs.drop off).take len)[i]?=some y→x.xs[off+i]?=some y∧i<len:=fun i y hi=>by
    rw[List.getElem?_take] at hi
    split at hi
    ·rename_i hil
     rw[List.getElem?_drop] at hi
     exact⟨hi,hil⟩
    ·cases hi
   have hcell:∀i y j z,x.xs[off+i]?=some y→y.cells[j]?=some z→∃u,w.cell? ⟨b,(off+i)*s+j,none⟩=some u∧RV (G.keep b (x.xs.length*s)) w z u:=fun i y j z hi hj=>by
    obtain⟨u,g1,g2⟩:=(h6 _ y hi).2 j z hj
    exact⟨u,by rw[cell_of_heap h2]; exact g1,g2.mono ev⟩
   have hx':∀ij:Nat×Nat,∃u,∀y z,x.xs[off+ij.1]?=some y→y.cells[ij.2]?=some z→w.cell? ⟨b,(off+ij.1)*s+ij.2,none⟩=some u∧RV (G.keep b (x.xs.length*s)) w z u:=fun⟨i,j⟩=>by
    cases hy:x.xs[off+i]? with
    | none=>exact⟨undef,fun y z h=>by cases h⟩
    | some y =>
     cases hz':y.cells[j]? with
     | none=>exact⟨undef,fun y' z h h'=>by injection h with h; subst h; rw[hz'] at h'; cases h'⟩
     | some z =>
      obtain⟨u,g⟩:=hcell i y j z hy hz'
      exact⟨u,fun y' z' h h'=>by injection h with h; subst h; rw[hz'] at h'; injection h' with h'; subst h'; exact g⟩
   obtain⟨u,hu'⟩:=Classical.axiomOfChoice hx'
   have hsl:=RV.sl (G:=G.keep b (x.xs.length*s)) (w:=w) ((x.xs.drop off).take len) (some ⟨b,off*s,none⟩) c s (fun i j=>u (i,j)) (by omega) hcm (fun h=>by cases h) (fun i y hi=>(h6 _ y (hg i y hi).1).1)
    (fun a i y j z ha hi hj=>by
     injection ha with ha; subst ha
     obtain⟨g1,g2⟩:=hg i y hi
     have hjs:j<s:=by rw[←(h6 _ y g1).1]; exact (List.getElem?_eq_some_iff.1 hj).1
     have:(off+i+1)*s≤x.xs.length*s:=Nat.mul_le_mul_right _ (by omega)
     rw[Nat.succ_mul,Nat.add_mul] at this
     exact .inr ⟨rfl,by show off*s+(i*s+j)<_; omega⟩)
    (fun a i y j z ha hi hj=>by
     injection ha with ha; subst ha
     obtain⟨g1,g2⟩:=hg i y hi
     rw[Addr.add_lit,show off*s+(i*s+j)=(off+i)*s+j by rw[Nat.add_mul]; omega]
     exact (hu' (i,j) y z g1 hj).1)
    (fun i y j z hi hj=>(hu' (i,j) y z (hg i y hi).1 hj).2)
   rwa [hlen] at hsl
end
end Go.Am
namespace Go.Am
set_option linter.all false
open Go Go.RowKit
def rsv1T(bx:Nat→Option Bx):AV→Prop×AV×List (Nat×Bx)
 | .bsl id off len=>match bx id with
  | some b=>(off+len≤b.xs.length∧b.ro=false,.sl ((b.xs.drop off).take len),[(id,b)])
  | none=>(False,.nili,[])
 | v=>(True,v,[])
def rsvL(bx:Nat→Option Bx):List AV→Prop×List AV×List (Nat×Bx)
 | []=>(True,[],[])
 | x::r=>((rsv1T bx x).1∧(rsvL bx r).1,(rsv1T bx x).2.1::(rsvL bx r).2.1,(rsv1T bx x).2.2++(rsvL bx r).2.2)
def rsvT(bx:Nat→Option Bx):AV→Prop×AV×List (Nat×Bx)
 | .agg cs=>((rsvL bx cs).1,.agg (rsvL bx cs).2.1,(rsvL bx cs).2.2)
 | .tup cs=>((rsvL bx cs).1,.tup (rsvL bx cs).2.1,(rsvL bx cs).2.2)
 | .bsl id off len=>rsv1T bx (.bsl id off len)
 | v=>(True,v,[])
def rsvs(bx:Nat→Option Bx):List AV→Prop×List AV×List (Nat×Bx)
 | []=>(True,[],[])
 | x::r=>((rsvT bx x).1∧(rsvs bx r).1,(rsvT bx x).2.1::(rsvs bx r).2.1,(rsvT bx x).2.2++(rsvs bx r).2.2)
def wrF:List (Nat×Bx)→List (Nat×Option Bx)
 | []=>[]
 | (i,b)::r=>(i,some { b with frz:=true })::wrF r
section
variable {P:Program} {C:Cx P} {G:Gh} {bx:Nat→Option Bx} {w:World}
theorem appl_append(bx:Nat→Option Bx):∀(a b:List (Nat×Option Bx)),appl bx (a++b)=appl (appl bx a) b
 | [],_=>rfl
 | (i,x)::r,b=>appl_append (upd bx i x) r b
def Stays(G G':Gh)(w:World)(l:List (Nat×Bx)):Prop:=∀p∈l,∀off len v,off+len≤p.2.xs.length→RV G w (.bsl p.1 off len) v→RV G' w (.sl ((p.2.xs.drop off).take len)) v
theorem freezeAll:∀(l:List (Nat×Bx)) {G:Gh} {bx:Nat→Option Bx},RS C G bx w→(∀p∈l,(bx p.1=some p.2∨bx p.1=some { p.2 with frz:=true })∧p.2.ro=false) →
  ∃G',RS C G' (appl bx (wrF l)) w∧Evo G w G' w∧(∀i,G'.used i→G.used i)∧Stays G G' w l
 | [],G,bx,hs,_=>⟨G,hs,Evo.refl G w,fun _ h=>h,fun p hp=>by cases hp⟩
 | (i,b)::r,G,bx,hs,hl=>by
  obtain⟨hb,hro⟩:=hl (i,b) (by simp)
  simp only at hb hro
  have key:∃G1,RS C G1 (upd bx i (some { b with frz:=true })) w∧Evo G w G1 w∧(∀i,G1.used i→G.used i)∧∀off len v,off+len≤b.xs.length→RV G w (.bsl i off len) v→RV G1 w (.sl ((b.xs.drop off).take len)) v:=by
   rcases hb with hb|hb
   ·exact hs.freeze hb hro
   ·exact hs.freeze (x:={ b with frz:=true }) hb hro
  obtain⟨G1,s1,e1,u1,k1⟩:=key
  obtain⟨G2,s2,e2,u2,k2⟩:=freezeAll r s1 fun p hp=>by
   obtain⟨h1,h2⟩:=hl p (by simp[hp])
   refine⟨?_,h2⟩
   by_cases hi:p.1=i
   ·obtain⟨j,c⟩:=p
    simp only at hi h1 h2 ⊢
    subst hi
    rw[upd_eq]
    right
    rcases hb with hb|hb<;>rcases h1 with h1|h1<;>rw[hb] at h1<;>injection h1 with h1
    ·rw[h1]
    ·rw[h1]
    ·rw[←h1]
    ·have:b.xs=c.xs∧b.d=c.d∧b.ro=c.ro:=by injection h1 with q1 q2 q3; exact⟨q1,q2,q3⟩
     obtain⟨q1,q2,q3⟩:=this
     rw[q1,q2,q3]
   ·rw[upd_ne _ _ _ hi]; exact h1
  refine⟨G2,s2,e1.trans e2,fun i h=>u1 i (u2 i h),fun p hp off len v hle hv=>?_⟩
  rcases List.mem_cons.1 hp with rfl|hp
  ·exact (k1 off len v hle hv).mono e2
  ·exact k2 p hp off len v hle (hv.mono e1)
theorem rsv1T_mem{x:AV}(hp:(rsv1T bx x).1):∀q∈(rsv1T bx x).2.2,bx q.1=some q.2∧q.2.ro=false:=by
 cases x with
 | bsl id off len =>
  simp only[rsv1T] at hp ⊢
  cases hb:bx id with
  | none=>simp only[hb] at hp
  | some b =>
   simp only[hb] at hp
   intro q hq
   simp only[List.mem_singleton] at hq
   subst hq
   exact⟨hb,hp.2⟩
 | _=>intro q hq; simp[rsv1T] at hq
theorem rsvL_mem:∀{l:List AV},(rsvL bx l).1→∀q∈(rsvL bx l).2.2,bx q.1=some q.2∧q.2.ro=false
 | [],_,q,hq=>by simp[rsvL] at hq
 | x::r,hp,q,hq=>by
  simp only[rsvL,List.mem_append] at hp hq
  exact hq.elim (rsv1T_mem hp.1 q) (rsvL_mem hp.2 q)
theorem rsvT_mem{x:AV}(hp:(rsvT bx x).1):∀q∈(rsvT bx x).2.2,bx q.1=some q.2∧q.2.ro=false:=by
 cases x with
 | agg cs=>exact rsvL_mem (l:=cs) hp
 | tup cs=>exact rsvL_mem (l:=cs) hp
 | bsl id off len=>exact rsv1T_mem (x:=.bsl id off len) hp
 | _=>intro q hq; simp[rsvT] at hq
theorem rsvs_mem:∀{l:List AV},(rsvs bx l).1→∀q∈(rsvs bx l).2.2,bx q.1=some q.2∧q.2.ro=false
 | [],_,q,hq=>by simp[rsvs] at hq
 | x::r,hp,q,hq=>by
  simp only[rsvs,List.mem_append] at hp hq
  exact hq.elim (rsvT_mem hp.1 q) (rsvs_mem hp.2 q)
theorem rsv1T_rv{G':Gh}(e:Evo G w G' w){x:AV}{v:Value}(hp:(rsv1T bx x).1)(hk:Stays G G' w (rsv1T bx x).2.2)(h:RV G w x v):RV G' w (rsv1T bx x).2.1 v:=by
 cases x with
 | bsl id off len =>
  simp only[rsv1T] at hp hk ⊢
  cases hb:bx id with
  | none=>simp only[hb] at hp
  | some b =>
   simp only[hb] at hp hk ⊢
   exact hk (id,b) (by simp) off len v hp.1 h
 | _=>exact h.mono e
theorem Stays.sub{G':Gh}{l l':List (Nat×Bx)}(h:Stays G G' w l)(hs:∀p∈l',p∈l):Stays G G' w l':=fun p hp=>h p (hs p hp)
theorem rsvL_rv{G':Gh}(e:Evo G w G' w):∀{l:List AV},(rsvL bx l).1→Stays G G' w (rsvL bx l).2.2→(rsvL bx l).2.1.length=l.length∧∀(u:Nat→Value),(∀(i:Nat) y,l[i]?=some y→RV G w y (u i))→∀(i:Nat) y,(rsvL bx l).2.1[i]?=some y→RV G' w y (u i)
 | [],_,_=>⟨rfl,fun u _ i y hy=>by simp[rsvL] at hy⟩
 | x::r,hp,hk=>by
  simp only[rsvL] at hp hk ⊢
  obtain⟨h1,h2⟩:=rsvL_rv e hp.2 (hk.sub fun p hp=>by simp[hp])
  refine⟨by simp[h1],fun u hu i y hy=>?_⟩
  cases i with
  | zero =>
   simp only[List.getElem?_cons_zero,Option.some.injEq] at hy
   subst hy
   exact rsv1T_rv e hp.1 (hk.sub fun p hp=>by simp[hp]) (hu 0 x rfl)
  | succ i=>exact h2 (fun i=>u (i+1)) (fun i y hy=>hu (i+1) y (by simpa using hy)) i y (by simpa using hy)
theorem rsvT_rv{G':Gh}(e:Evo G w G' w){x:AV}{v:Value}(hp:(rsvT bx x).1)(hk:Stays G G' w (rsvT bx x).2.2)(h:RV G w x v):RV G' w (rsvT bx x).2.1 v:=by
 cases x with
 | agg cs =>
  cases h with|agg _ vs hl hh =>
  obtain⟨h1,h2⟩:=rsvL_rv e (l:=cs) hp hk
  exact .agg _ vs (h1.trans hl) (h2 (fun i=>vs.getD i undef) hh)
 | tup cs =>
  cases h with|tup _ vs hl hh =>
  obtain⟨h1,h2⟩:=rsvL_rv e (l:=cs) hp hk
  exact .tup _ vs (h1.trans hl) (h2 (fun i=>vs.getD i undef) hh)
 | bsl id off len=>exact rsv1T_rv (x:=.bsl id off len) e hp hk h
 | _=>exact h.mono e
theorem rsvs_rv{G':Gh}(e:Evo G w G' w):∀{l:List AV},(rsvs bx l).1→Stays G G' w (rsvs bx l).2.2→(rsvs bx l).2.1.length=l.length∧∀(u:Nat→Value),(∀(i:Nat) y,l[i]?=some y→RV G w y (u i))→∀(i:Nat) y,(rsvs bx l).2.1[i]?=some y→RV G' w y (u i)
 | [],_,_=>⟨rfl,fun u _ i y hy=>by simp[rsvs] at hy⟩
 | x::r,hp,hk=>by
  simp only[rsvs] at hp hk ⊢
  obtain⟨h1,h2⟩:=rsvs_rv e hp.2 (hk.sub fun p hp=>by simp[hp])
  refine⟨by simp[h1],fun u hu i y hy=>?_⟩
  cases i with
  | zero =>
   simp only[List.getElem?_cons_zero,Option.some.injEq] at hy
   subst hy
   exact rsvT_rv e hp.1 (hk.sub fun p hp=>by simp[hp]) (hu 0 x rfl)
  | succ i=>exact h2 (fun i=>u (i+1)) (fun i y hy=>hu (i+1) y (by simpa using hy)) i y (by simpa using hy)
end
end Go.Am
namespace Go.Am
set_option linter.all false
open Go Go.RowKit
def AV.isAgg:AV→Bool
 | .agg _=>true
 | _=>false
def AV.isStr:AV→Bool
 | .str _=>true
 | _=>false
def ldT(agg:Bool)(n:Nat):Option (Prop×List AV×List (Nat×Bx))→Option (Prop×Rs)
 | some (p,cs,rd)=>match agg with
  | true=>some (p∧n≤cs.length,⟨.agg (cs.take n),rd,[]⟩)
  | false=>match cs with
   | y::_=>some (p,⟨y,rd,[]⟩)
   | []=>none
 | none=>none
def stT(bx:Nat→Option Bx)(n:Nat)(x v:AV):Option (Prop×Rs) :=
 match x with
 | .ptr j i off=>match bx j with
  | some b=>some ((i<b.xs.length∧off+n≤(b.el i).cells.length∧b.ro=false∧b.frz=false)∧v.cells.length=n∧v.cells.all AV.one=true∧((b.el i).isAgg=true∨n=1),
    ⟨.tup [],[(j,b)],[(j,some { b with xs:=b.xs.set i (mend (b.el i) off v) })]⟩)
  | none=>none
 | _=>none
def unT(op:UnOp)(x:AV):Option (Prop×AV) :=
 match op,x with
 | .not,.bool b=>some (True,.bool (!b))
 | .neg,.int k n=>some (True,.int k (k.wrap (0 - n)))
 | _,_=>none
def convT(bx:Nat→Option Bx)(k:CK)(x:AV):Option (Prop×Rs) :=
 match k with
 | .same=>some (True,⟨x,[],[]⟩)
 | .mki t=>some (True,⟨.iface t x,[],[]⟩)
 | .rcv f=>some (True,⟨.fnb f [x],[],[]⟩)
 | .fld i=>match x with
  | .agg cs=>match cs[i]? with
   | some v=>some (True,⟨v,[],[]⟩)
   | none=>none
  | _=>none
 | .ta t=>match x with
  | .iface t' v=>if t'=t then some (True,⟨.tup [v,.bool true],[],[]⟩) else none
  | _=>none
 | .int k=>match x with
  | .int _ n=>some (True,⟨.int k (k.wrap n),[],[]⟩)
  | _=>none
 | .bytes=>match x with
  | .str s=>some (s.length≤9223372036854775807,⟨.sl (s.map fun b=>.int .u8 b.toNat),[],[]⟩)
  | _=>none
 | .str=>match x with
  | .str _=>none
  | x=>match elemsT bx x with
   | some (p,ys,rd)=>some (p∧ys.all isU8=true,⟨.str (ys.map toU8),rd,[]⟩)
   | none=>none
def slisT(x:AV)(lo hi:Option AV):Option (Prop×Rs) :=
 match x with
 | .str s=>match hiT s.length hi with
  | some (p1,h)=>match loT h lo with
   | some (p2,l)=>some (p1∧p2,⟨.str ((s.take h).drop l),[],[]⟩)
   | none=>none
  | none=>none
 | _=>none
def sliT(bx:Nat→Option Bx)(n:Nat)(x:AV)(lo hi:Option AV):Option (Prop×Rs) :=
 match (rsvT bx x).2.1 with
 | .sl xs=>match hiT xs.length hi with
  | some (p1,h)=>match loT h lo with
   | some (p2,l)=>some (((rsvT bx x).1∧∀y∈xs,y.cells.length=n)∧p1∧p2,⟨.sl ((xs.take h).drop l),(rsvT bx x).2.2,wrF (rsvT bx x).2.2⟩)
   | none=>none
  | none=>none
 | _=>none
def mmI(mx:Bool)(a b:Int):Int:=match mx with
 | true=>max a b
 | false=>min a b
def mmT(mx:Bool):AV→AV→Option (Prop×AV)
 | .int k a,.int k' b=>if k=k' then some (True,.int k (mmI mx a b)) else none
 | _,_=>none
def sem(ve:Opd→AV)(bx:Nat→Option Bx)(id:Nat):COp→Option (Prop×Rs)
 | .mv x=>some (True,⟨ve x,[],[]⟩)
 | .alloc z=>some (True,⟨.ptr id 0 0,[],[(id,some ⟨[z],z,false,false⟩)]⟩)
 | .box x=>some (True,⟨.ptr id 0 0,[],[(id,some ⟨[ve x],ve x,false,false⟩)]⟩)
 | .build zs ps=>match fillAV zs (ps.map fun q=>(q.1,q.2.1,ve q.2.2)) with
  | some r=>some (True,⟨.agg r,[],[]⟩)
  | none=>none
 | .bslice z n ps=>some ((rsvs bx (ps.map fun q=>ve q.2)).1∧setOk n z.cells.length ((ps.map (·.1)).zip (rsvs bx (ps.map fun q=>ve q.2)).2.1),
   ⟨.bsl id 0 n,(rsvs bx (ps.map fun q=>ve q.2)).2.2,wrF (rsvs bx (ps.map fun q=>ve q.2)).2.2++[(id,some ⟨setAll (List.replicate n z) ((ps.map (·.1)).zip (rsvs bx (ps.map fun q=>ve q.2)).2.1),z,false,false⟩)]⟩)
 | .ld agg n x=>ldT agg n (lookT bx (ve x))
 | .st n x v=>stT bx n (ve x) (ve v)
 | .chk x=>match ve x with
  | .cptr cs=>some (True,⟨.cptr cs,[],[]⟩)
  | .ptr j i off=>match bx j with
   | some b=>some (i<b.xs.length,⟨.ptr j i off,[(j,b)],[]⟩)
   | none=>none
  | .fn f caps=>some (True,⟨.fn f caps,[],[]⟩)
  | _=>none
 | .mm mx x y=>match mmT mx (ve x) (ve y) with
  | some (p,r)=>some (p,⟨r,[],[]⟩)
  | none=>none
 | .bin op eqs x y=>match binT op eqs (ve x) (ve y) with
  | some (p,r)=>some (p,⟨r,[],[]⟩)
  | none=>none
 | .un op x=>match unT op (ve x) with
  | some (p,r)=>some (p,⟨r,[],[]⟩)
  | none=>none
 | .conv k x=>convT bx k (ve x)
 | .mkf f caps=>some (True,⟨.fn f (caps.map ve),[],[]⟩)
 | .mks z bytes l c=>match ve l,ve c with
  | .int _ l,.int _ c=>some (0≤l∧l≤c∧(bytes:Int)*c≤281474976710656∧c≤9223372036854775807,⟨.bsl id 0 l.toNat,[],[(id,some ⟨List.replicate l.toNat z,z,false,false⟩)]⟩)
  | _,_=>none
 | .slis x lo hi=>slisT (ve x) (lo.map ve) (hi.map ve)
 | .sli n x lo hi=>sliT bx n (ve x) (lo.map ve) (hi.map ve)
 | .fa off x=>match fieldT bx off (ve x) with
  | some (p,r,rd)=>some (p,⟨r,rd,[]⟩)
  | none=>none
 | .ia s z x i=>match indexT s z bx (ve x) (ve i) with
  | some (p,r,rd)=>some (p,⟨r,rd,[]⟩)
  | none=>none
 | .ix x i=>match ve x,ve i with
  | .str s,.int _ n=>some (0≤n∧n.toNat<s.length,⟨.int .u8 (s.getD n.toNat 0).toNat,[],[]⟩)
  | _,_=>none
 | .ext x i=>match ve x with
  | .tup vs=>match vs[i]? with
   | some v=>some (True,⟨v,[],[]⟩)
   | none=>none
  | _=>none
 | .len st x=>match lenT bx (ve x) with
  | some (r,rd)=>some ((ve x).isStr=st,⟨r,rd,[]⟩)
  | none=>none
 | .app st z bytes x y=>match elemsT bx (ve y) with
  | some (p,ys,rd)=>match appT z bytes bx id (ve x) ys with
   | some (q,r)=>some ((p∧(ve y).isStr=st∧(∀e∈ys,e.cells.length=z.cells.length∧e.cells.all AV.one=true))∧q,⟨r.v,rd++r.rd,r.wr⟩)
   | none=>none
  | none=>none
 | _=>none
end Go.Am
namespace Go.Am
set_option linter.all false
open Go Go.RowKit
def zeroAV(P:Program)(t:TypeId):Option AV:=match (P.info? t).map (·.zero) with
 | some (some z)=>ofV z
 | _=>none
def sizeB(P:Program)(t:TypeId):Option Nat:=(P.info? t).map (·.size)
def isU8T(P:Program)(e:TypeId):Bool:=match P.underlying e with
 | some (.int .u8)=>true
 | _=>false
def compBuild(P:Program)(fs:Array Field):List (Nat×Operand)→Option (List (Nat×Nat×Opd))
 | []=>some []
 | (i,x)::r=>match fs[i]?,opd x,compBuild P fs r with
  | some f,some a,some b=>match sizeB P f.type with
   | some n=>some ((f.offset,n,a)::b)
   | none=>none
  | _,_,_=>none
def compLen(P:Program)(x:Operand)(t:TypeId):Option COp:=match opd x,P.underlying t with
 | some x,some .string=>some (.len true x)
 | some x,some (.slice _)=>some (.len false x)
 | _,_=>none
def compApp(P:Program)(x y:Operand)(t u:TypeId):Option COp:=match opd x,opd y,P.underlying t,P.underlying u with
 | some x,some y,some (.slice e),some .string=>match zeroAV P e,P.info? e with
  | some z,some i=>if z.cells.length=i.size∧i.size=1 then some (.app true z i.bytes x y) else none
  | _,_=>none
 | some x,some y,some (.slice e),some (.slice _)=>match zeroAV P e,P.info? e with
  | some z,some i=>if z.cells.length=i.size then some (.app false z i.bytes x y) else none
  | _,_=>none
 | _,_,_,_=>none
def compMM(mx:Bool)(x y:Operand):Option COp:=match opd x,opd y with
 | some x,some y=>some (.mm mx x y)
 | _,_=>none
def compCall(P:Program):Callee→List Operand→List TypeId→Option COp
 | .builtin .len,[x],[t]=>compLen P x t
 | .builtin .append,[x,y],[t,u]=>compApp P x y t u
 | .builtin .min,[x,y],[_,_]=>compMM false x y
 | .builtin .max,[x,y],[_,_]=>compMM true x y
 | .value (.func f),xs,_=>(opds xs).map (.call f)
 | .value (.tmp t),xs,_=>(opds xs).map (.callv (.t t))
 | _,_,_=>none
def comp(P:Program):Op→Option COp
 | .move x | .assign x=>(opd x).map .mv
 | .pick c a b=>match opd c,opd a,opd b with
  | some c,some a,some b=>some (.pick c a b)
  | _,_,_=>none
 | .alloc t=>(zeroAV P t).map .alloc
 | .box _ x=>(opd x).map .box
 | .build t ps=>match P.underlying t,zeroAV P t with
  | some (.struct fs),some (.agg zs)=>if fs.toList.all fun f=>(sizeB P f.type).isSome then (compBuild P fs ps.toList).map (.build zs) else none
  | _,_=>none
 | .buildSlice t n ps=>match P.underlying t with
  | some (.slice e)=>match zeroAV P e,sizeB P e,opdp ps.toList with
   | some z,some s,some ps=>if z.cells.length=s∧n*s≤16777216∧n≤16777216 then some (.bslice z n ps) else none
   | _,_,_=>none
  | _=>none
 | .load t x=>match P.underlying t,sizeB P t,opd x with
  | some _,some n,some x=>some (.ld (isAggB P t) n x)
  | _,_,_=>none
 | .store t x v=>match sizeB P t,opd x,opd v with
  | some n,some x,some v=>some (.st n x v)
  | _,_,_=>none
 | .nilCheck x=>(opd x).map .chk
 | .binOp op t x y0 _=>match opd x,opd y0 with
  | some x,some y=>match P.underlying t with
   | some .bool=>some (.bin op (some [9]) x y)
   | some (.struct fs)=>match plainFields P fs.toList 0 with
    | some ks=>if P.stoodInHeld t=false∧P.eqGuardType P.depth t=false then some (.bin op (some ks) x y) else none
    | none=>none
   | some (.slice _)=>some (.bin op (some [8]) x y)
   | some (.interface _)=>match y0 with
    | .const _=>some (.bin op (some [7]) x y)
    | _=>some (.bin op none x y)
   | _=>some (.bin op none x y)
  | _,_=>none
 | .unOp op _ x=>(opd x).map (.un op)
 | .convert s d x=>match opd x,P.underlying s,P.underlying d with
  | some x,some (.int _),some (.int k)=>some (.conv (.int k) x)
  | some x,some .string,some (.slice e)=>if isU8T P e then some (.conv .bytes x) else none
  | some x,some (.slice e),some .string=>if isU8T P e then some (.conv .str x) else none
  | _,_,_=>none
 | .makeFunc (.func f) first caps=>if first.isEmpty then (opds caps.toList).map (.mkf f) else match first.toList,caps.toList with
  | [x],[]=>(opd x).map (.conv (.rcv f))
  | _,_=>none
 | .typeAssert x _ t true=>match P.underlying t with
  | some (.interface _)=>none
  | some _=>(opd x).map (.conv (.ta t))
  | none=>none
 | .makeSlice t l c=>match P.underlying t with
  | some (.slice e)=>match zeroAV P e,P.info? e,opd l,opd c with
   | some z,some i,some l,some c=>if z.cells.length=i.size then some (.mks z i.bytes l c) else none
   | _,_,_,_=>none
  | _=>none
 | .slice t x lo hi none=>match opd x,opdo lo,opdo hi,P.underlying t with
  | some x,some lo,some hi,some .string=>some (.slis x lo hi)
  | some x,some lo,some hi,some (.slice e)=>(sizeB P e).map fun n=>.sli n x lo hi
  | _,_,_,_=>none
 | .field t x k=>match opd x,P.underlying t with
  | some x,some (.struct fs)=>match fs[k]? with
   | some f=>if (P.underlying f.type).isSome∧isAggB P f.type=false then some (.conv (.fld f.offset) x) else none
   | none=>none
  | _,_=>none
 | .fieldAddr t x k=>match opd x,P.underlying t with
  | some x,some (.struct fs)=>match fs[k]? with
   | some f=>match sizeB P f.type with
    | some (_+1)=>some (.fa f.offset x)
    | _=>none
   | none=>none
  | _,_=>none
 | .indexAddr t x i=>match opd x,opd i,P.underlying t with
  | some x,some i,some (.slice e)=>match zeroAV P e,sizeB P e with
   | some z,some s=>some (.ia s z x i)
   | _,_=>none
  | _,_,_=>none
 | .index t x i=>match opd x,opd i,P.underlying t with
  | some x,some i,some .string=>some (.ix x i)
  | _,_,_=>none
 | .extract x i=>(opd x).map (.ext · i)
 | .makeInterface t x=>if P.concrete t then (opd x).map (.conv (.mki t)) else none
 | .panic x=>(opd x).map .pnk
 | .call c=>compCall P c.callee c.args.toList c.argTypes.toList
 | _=>none
end Go.Am
namespace Go.Am
set_option linter.all false
open Go Go.RowKit
section
variable {P:Program} {C:Cx P} {ρ:Operand→Value} {G:Gh} {bx:Nat→Option Bx} {w:World} {id:Nat}
theorem zeroAV_ok{t:TypeId}{z:AV}(h:zeroAV P t=some z):∃v,(P.info? t).map (·.zero)=some (some v)∧∀(G:Gh) (w:World),RV G w z v:=by
 unfold zeroAV at h
 split at h
 ·rename_i v hv; exact⟨v,hv,fun G w=>rv_ofV h⟩
 ·cases h
theorem OpOk.made{o:Oper}{x:Sem Value}{r:AV}{rd:List (Nat×Bx)}{wr:List (Nat×Option Bx)}(hx:execOp ρ o=(do pure (.value (←x))))(h:Made P C x G w id r (appl bx wr)):OpOk P C ρ o G bx w id ⟨r,rd,wr⟩:=by
 obtain⟨v,w',G',h1,h2,h3,h4,h5⟩:=h
 exact⟨.value v,w',G',v,by rw[hx]; simp only[Sem.run_bind,h1,Result.andThen_ok,Sem.run_pure],.inl rfl,h2,h3,h4,h5⟩
theorem OpOk.pure{o:Oper}{x:Sem Value}{r:AV}{v:Value}{rd:List (Nat×Bx)}(hs:RS C G bx w)(hx:execOp ρ o=(do pure (.value (←x))))(h:x.run P w = .ok v w)(hv:RV G w r v):OpOk P C ρ o G bx w id ⟨r,rd,[]⟩ :=
 ⟨.value v,w,G,v,by rw[hx]; simp only[Sem.run_bind,h,Result.andThen_ok,Sem.run_pure],.inl rfl,hs,Evo.refl G w,hv,fun _ h=>.inl h⟩
def Reads(G:Gh)(w:World)(ρ:Operand→Value)(ve:Opd→AV)(xs:List Operand):Prop:=∀X∈xs,∀x,opd X=some x→RV G w (ve x) (ρ X)
def Sound(P:Program)(op:Op):Prop:=∀(C:Cx P) (ρ:Operand→Value) (G:Gh) (bx:Nat→Option Bx) (w:World) (id:Nat) (ve:Opd→AV) (o:Oper) (c:COp) (p:Prop) (r:Rs),
 o.op=op→comp P op=some c→sem ve bx id c=some (p,r)→p→RS C G bx w→¬G.used id→Reads G w ρ ve op.operands.toList→OpOk P C ρ o G bx w id r
theorem sound_move(x:Operand):Sound P (.move x):=by
 intro C ρ G bx w id ve o c p r ho hc hr hp hs hu hv
 simp only[comp,Option.map_eq_some_iff] at hc
 obtain⟨a,ha,rfl⟩:=hc
 simp only[sem,Option.some.injEq,Prod.mk.injEq] at hr
 obtain⟨_,rfl⟩:=hr
 exact OpOk.pure (x:=Pure.pure (ρ x)) hs (by unfold execOp; simp only[ho]; rfl) rfl (hv x (by simp[Op.operands]) a ha)
theorem sound_assign(x:Operand):Sound P (.assign x):=by
 intro C ρ G bx w id ve o c p r ho hc hr hp hs hu hv
 simp only[comp,Option.map_eq_some_iff] at hc
 obtain⟨a,ha,rfl⟩:=hc
 simp only[sem,Option.some.injEq,Prod.mk.injEq] at hr
 obtain⟨_,rfl⟩:=hr
 exact OpOk.pure (x:=Pure.pure (ρ x)) hs (by unfold execOp; simp only[ho]; rfl) rfl (hv x (by simp[Op.operands]) a ha)
theorem sound_alloc(t:TypeId):Sound P (.alloc t):=by
 intro C ρ G bx w id ve o c p r ho hc hr hp hs hu hv
 simp only[comp,Option.map_eq_some_iff] at hc
 obtain⟨a,ha,rfl⟩:=hc
 simp only[sem,Option.some.injEq,Prod.mk.injEq] at hr
 obtain⟨_,rfl⟩:=hr
 obtain⟨v,h1,h2⟩:=zeroAV_ok ha
 exact OpOk.made (x:=Instr.alloc t true (.tuple #[])) (by unfold execOp; simp only[ho]) (alloc_ok hs hu h1 (h2 G w))
theorem sound_box(t:TypeId)(x:Operand):Sound P (.box t x):=by
 intro C ρ G bx w id ve o c p r ho hc hr hp hs hu hv
 simp only[comp,Option.map_eq_some_iff] at hc
 obtain⟨a,ha,rfl⟩:=hc
 simp only[sem,Option.some.injEq,Prod.mk.injEq] at hr
 obtain⟨_,rfl⟩:=hr
 exact OpOk.made (x:=Instr.box t (ρ x)) (by unfold execOp; simp only[ho]) (newVar_ok hs hu (hv x (by simp[Op.operands]) a ha) t)
end
end Go.Am
namespace Go.Am
set_option linter.all false
open Go Go.RowKit
section
variable {P:Program}
theorem At.take{G:Gh}{w:World}{a:Addr}{cs:List AV}(h:At G w a cs)(n:Nat):At G w a (cs.take n):=fun j y hy=>by
 rw[List.getElem?_take] at hy
 split at hy
 ·exact h j y hy
 ·cases hy
theorem sound_load(t:TypeId)(x:Operand):Sound P (.load t x):=by
 intro C ρ G bx w id ve o c p r ho hc hr hp hs hu hv
 simp only[comp] at hc
 split at hc
 ·rename_i d n a hd hn ha
  injection hc with hc
  subst hc
  simp only[sem] at hr
  have hx:=hv x (by simp[Op.operands]) a ha
  cases hl:lookT bx (ve a) with
  | none=>simp only[hl,ldT,reduceCtorEq] at hr
  | some q =>
   obtain⟨p0,cs,rd⟩:=q
   simp only[hl] at hr
   have hex:execOp ρ o=(do pure (.value (←Instr.loadAt t (ρ x)))):=by unfold execOp; simp only[ho]
   cases hag:isAggB P t with
   | true =>
    simp only[hag,ldT,Option.some.injEq,Prod.mk.injEq] at hr
    obtain⟨rfl,rfl⟩:=hr
    obtain⟨addr,hv1,hat⟩:=look_at hs hx (lookT_ok hl hp.1)
    obtain⟨v,h1,h2⟩:=(hat.take n).load_agg (P:=P) hag hn (by rw[List.length_take]; omega)
    exact OpOk.pure (x:=Instr.loadAt t (ρ x)) hs hex (by simp only[hv1,Instr.loadAt,Instr.sureAddr,Sem.run_bind,Sem.run_pure,Result.andThen_ok,h1]) h2
   | false =>
    simp only[hag,ldT] at hr
    cases cs with
    | nil=>simp at hr
    | cons y l =>
     simp only[Option.some.injEq,Prod.mk.injEq] at hr
     obtain⟨rfl,rfl⟩:=hr
     obtain⟨addr,hv1,hat⟩:=look_at hs hx (lookT_ok hl hp)
     obtain⟨v,h1,h2⟩:=hat.load_one (P:=P) hd hag rfl
     exact OpOk.pure (x:=Instr.loadAt t (ρ x)) hs hex (by simp only[hv1,Instr.loadAt,Instr.sureAddr,Sem.run_bind,Sem.run_pure,Result.andThen_ok,h1]) h2
 ·cases hc
theorem isAgg_ne{y:AV}{n:Nat}(h:(y.isAgg=true∨n=1)):(∀cs,y≠.agg cs)→n=1:=fun hn=>h.elim (fun h=>by
 cases y with
 | agg cs=>exact (hn cs rfl).elim
 | _=>cases h) (fun h=>h)
theorem sound_store(t:TypeId)(x v:Operand):Sound P (.store t x v):=by
 intro C ρ G bx w id ve o c p r ho hc hr hp hs hu hv
 simp only[comp] at hc
 split at hc
 ·rename_i n a b hn ha hb
  injection hc with hc
  subst hc
  simp only[sem] at hr
  have hx:=hv x (by simp[Op.operands]) a ha
  have hy:=hv v (by simp[Op.operands]) b hb
  unfold stT at hr
  split at hr
  ·rename_i j i off hxe
   split at hr
   ·rename_i bb hbb
    simp only[Option.some.injEq,Prod.mk.injEq] at hr
    obtain⟨rfl,rfl⟩:=hr
    obtain⟨⟨q1,q2,q3,q4⟩,q5,q6,q7⟩:=hp
    rw[hxe] at hx
    obtain⟨w',G',h1,h2,h3,h4⟩:=store_ok (P:=P) hs hx hy hbb (el_some q1) q3 q4 q5 q2 (fun c hc=>(List.all_eq_true.1 q6) c hc) (isAgg_ne q7) hn
    refine⟨.skip,w',G',undef,?_,.inr ⟨rfl,rfl⟩,h2,h3,?_,fun i hi=>.inl (h4 i hi)⟩
    ·unfold execOp
     simp only[ho,Sem.run_bind,h1,Result.andThen_ok,Sem.run_pure]
    ·exact .tup [] #[] rfl fun i y hy=>by simp at hy
   ·cases hr
  ·cases hr
 ·cases hc
theorem sound_fieldAddr(t:TypeId)(x:Operand)(k:Nat):Sound P (.fieldAddr t x k):=by
 intro C ρ G bx w id ve o c p r ho hc hr hp hs hu hv
 simp only[comp] at hc
 split at hc
 ·rename_i a fs ha ht
  split at hc
  ·rename_i f hf
   split at hc
   ·rename_i m hm
    injection hc with hc
    subst hc
    simp only[sem] at hr
    have hx:=hv x (by simp[Op.operands]) a ha
    split at hr
    ·rename_i p0 r0 rd hft
     simp only[Option.some.injEq,Prod.mk.injEq] at hr
     obtain⟨rfl,rfl⟩:=hr
     obtain⟨u,h1,h2⟩:=field_ok (P:=P) hs hx (fieldT_ok hft hp) ht hf rfl hm (by omega)
     exact OpOk.pure (x:=Instr.fieldAt t (ρ x) k) hs (by unfold execOp; simp only[ho]) h1 h2
    ·cases hr
   ·cases hc
  ·cases hc
 ·cases hc
theorem indexT_ok{P:Program}{C:Cx P}{G:Gh}{bx:Nat→Option Bx}{w:World}(hs:RS C G bx w){x i r:AV}{v u:Value}(h:RV G w x v)(hi:RV G w i u){s:Nat}{z:AV}{p:Prop}{rd:List (Nat×Bx)}(hr:indexT s z bx x i=some (p,r,rd))(hp:p)
  {t e:TypeId} (ht:P.underlying t=some (.slice e)) (hz:(P.info? e).map (·.size)=some s):∃q,(Instr.indexAt t v u).run P w = .ok q w∧RV G w r q:=by
 unfold indexT at hr
 split at hr
 ·rename_i xs k n
  simp only[Option.some.injEq,Prod.mk.injEq] at hr
  obtain⟨rfl,rfl,rfl⟩:=hr
  obtain⟨q1,q2,q3⟩:=hp
  have hg:xs[n.toNat]?=some (xs.getD n.toNat z):=by simp[List.getD,List.getElem?_eq_getElem q2]
  exact index_ok hs h hi (by simp only[indexAV,if_pos q1,hg,if_pos q3]) ht hz
 ·rename_i j off len k n
  split at hr
  ·rename_i b hb
   simp only[Option.some.injEq,Prod.mk.injEq] at hr
   obtain⟨rfl,rfl,rfl⟩:=hr
   obtain⟨q1,q2,q3⟩:=hp
   cases hi
   cases h with|bsl _ _ _ _ hone hu hbm hnl =>
   have hn:¬G.nl j:=fun hn=>by have:=(hnl hn).2.2; omega
   obtain⟨blk,s',cur,e',h1,_,_,h4,_⟩:=hs.box j b hb hn
   obtain⟨c,cur',e'',hv,_⟩:=hbm blk s' h1
   have hss:s'=s:=h4.1.symm.trans q3
   subst hss
   subst hv
   have he:P.elem t=e:=by simp[Program.elem,ht]
   refine⟨.pointer (some ((⟨blk,off*s',none⟩:Addr).add (n.toNat*s'))),?_,.ptr j _ 0 _ rfl hu fun b' s2 hb'=>?_⟩
   ·rw[run_indexAt_slice w t _ len c k n (by rw[he]; exact ht),if_pos ⟨q1,q2⟩,he,run_sizeOf hz]
    rfl
   ·rw[h1] at hb'
    injection hb' with hb'
    injection hb' with e1 e2
    subst e1 e2
    rw[Addr.add_lit,Nat.add_mul,Nat.add_zero]
  ·cases hr
 ·cases hr
theorem sound_indexAddr(t:TypeId)(x i:Operand):Sound P (.indexAddr t x i):=by
 intro C ρ G bx w id ve o c p r ho hc hr hp hs hu hv
 simp only[comp] at hc
 split at hc
 ·rename_i a b e ha hb ht
  split at hc
  ·rename_i z s hz hsz
   injection hc with hc
   subst hc
   simp only[sem] at hr
   split at hr
   ·rename_i p0 r0 rd hit
    simp only[Option.some.injEq,Prod.mk.injEq] at hr
    obtain⟨rfl,rfl⟩:=hr
    obtain⟨u,h1,h2⟩:=indexT_ok (P:=P) hs (hv x (by simp[Op.operands]) a ha) (hv i (by simp[Op.operands]) b hb) hit hp ht hsz
    exact OpOk.pure (x:=Instr.indexAt t (ρ x) (ρ i)) hs (by unfold execOp; simp only[ho]) h1 h2
   ·cases hr
  ·cases hc
 ·cases hc
end
end Go.Am
namespace Go.Am
set_option linter.all false
open Go Go.RowKit
section
variable {P:Program}
theorem compBuild_ok{fs:Array Field}:∀{l:List (Nat×Operand)} {r:List (Nat×Nat×Opd)},compBuild P fs l=some r→r.length=l.length ∧
  ∀(i:Nat) q u,r[i]?=some q→l[i]?=some u→(∃f,fs[u.1]?=some f∧f.offset=q.1∧sizeB P f.type=some q.2.1)∧opd u.2=some q.2.2
 | [],r,h=>by simp[compBuild] at h; subst h; exact⟨rfl,fun i q u hq=>by simp at hq⟩
 | (i,x)::l,r,h=>by
  simp only[compBuild] at h
  split at h
  ·rename_i f a b hf ha hb
   split at h
   ·rename_i n hn
    injection h with h
    subst h
    obtain⟨h1,h2⟩:=compBuild_ok hb
    refine⟨by simp[h1],fun j q u hq hu=>?_⟩
    cases j with
    | zero =>
     simp only[List.getElem?_cons_zero,Option.some.injEq] at hq hu
     subst hq hu
     exact⟨⟨f,hf,rfl,hn⟩,ha⟩
    | succ j=>exact h2 j q u (by simpa using hq) (by simpa using hu)
   ·cases h
  ·cases h
theorem opdp_ok:∀{l:List (Nat×Operand)} {r:List (Nat×Opd)},opdp l=some r→r.length=l.length∧∀(i:Nat) q u,r[i]?=some q→l[i]?=some u→q.1=u.1∧opd u.2=some q.2
 | [],r,h=>by simp[opdp] at h; subst h; exact⟨rfl,fun i q u hq=>by simp at hq⟩
 | (i,x)::l,r,h=>by
  simp only[opdp] at h
  split at h
  ·rename_i a b ha hb
   injection h with h
   subst h
   obtain⟨h1,h2⟩:=opdp_ok hb
   refine⟨by simp[h1],fun j q u hq hu=>?_⟩
   cases j with
   | zero =>
    simp only[List.getElem?_cons_zero,Option.some.injEq] at hq hu
    subst hq hu
    exact⟨rfl,ha⟩
   | succ j=>exact h2 j q u (by simpa using hq) (by simpa using hu)
  ·cases h
theorem opds_ok:∀{l:List Operand} {r:List Opd},opds l=some r→r.length=l.length∧∀(i:Nat) q u,r[i]?=some q→l[i]?=some u→opd u=some q
 | [],r,h=>by simp[opds] at h; subst h; exact⟨rfl,fun i q u hq=>by simp at hq⟩
 | x::l,r,h=>by
  simp only[opds] at h
  split at h
  ·rename_i a b ha hb
   injection h with h
   subst h
   obtain⟨h1,h2⟩:=opds_ok hb
   refine⟨by simp[h1],fun j q u hq hu=>?_⟩
   cases j with
   | zero =>
    simp only[List.getElem?_cons_zero,Option.some.injEq] at hq hu
    subst hq hu
    exact ha
   | succ j=>exact h2 j q u (by simpa using hq) (by simpa using hu)
  ·cases h
theorem sound_build(t:TypeId)(ps:Array (Nat×Operand)):Sound P (.build t ps):=by
 intro C ρ G bx w id ve o c p r ho hc hr hp hs hu hv
 simp only[comp] at hc
 split at hc
 ·rename_i fs zs ht hz
  split at hc
  ·rename_i hall
   simp only[Option.map_eq_some_iff] at hc
   obtain⟨qs,hqs,rfl⟩:=hc
   simp only[sem] at hr
   split at hr
   ·rename_i rr hfl
    simp only[Option.some.injEq,Prod.mk.injEq] at hr
    obtain⟨rfl,rfl⟩:=hr
    obtain⟨v,h1,h2⟩:=zeroAV_ok hz
    obtain⟨l1,l2⟩:=compBuild_ok hqs
    obtain⟨u,g1,g2⟩:=build_ok (P:=P) (w:=w) (vs:=ps.map fun q=>(q.1,ρ q.2)) ht h1 (h2 G w) (fun f hf=>(List.all_eq_true.1 hall) f (by simpa using hf)) hfl (by simp[l1]) fun i q q' hq hq'=>by
     simp only[List.getElem?_map,Option.map_eq_some_iff] at hq
     obtain⟨a,ha,rfl⟩:=hq
     simp only[Array.getElem?_map,Option.map_eq_some_iff] at hq'
     obtain⟨b,hb,rfl⟩:=hq'
     have hb':ps.toList[i]?=some b:=by simpa using hb
     obtain⟨⟨f,k1,k2,k3⟩,k4⟩:=l2 i a b ha hb'
     refine⟨⟨f,k1,k2,k3⟩,hv b.2 ?_ _ k4⟩
     simp only[Op.operands,List.mem_map]
     exact⟨b,List.mem_of_getElem? hb',rfl⟩
    exact OpOk.pure (x:=Instr.build t (ps.map fun q=>(q.1,ρ q.2))) hs (by unfold execOp; simp only[ho]) g1 g2
   ·cases hr
  ·cases hc
 ·cases hc
theorem sound_nilCheck(x:Operand):Sound P (.nilCheck x):=by
 intro C ρ G bx w id ve o c p r ho hc hr hp hs hu hv
 simp only[comp,Option.map_eq_some_iff] at hc
 obtain⟨a,ha,rfl⟩:=hc
 have hx:=hv x (by simp[Op.operands]) a ha
 simp only[sem] at hr
 split at hr
 ·rename_i cs he
  simp only[Option.some.injEq,Prod.mk.injEq] at hr
  obtain⟨_,rfl⟩:=hr
  rw[he] at hx
  obtain⟨addr,hv1⟩:∃a,ρ x = .pointer (some a):=by
   generalize ρ x=vx at hx
   cases hx with|cptr _ a u h1 h2 h3=>exact⟨a,rfl⟩
  exact OpOk.still hs (by unfold execOp; simp only[ho,hv1]; rfl) (hv1▸hx) _
 ·rename_i j i off he
  split at hr
  ·rename_i b hb
   simp only[Option.some.injEq,Prod.mk.injEq] at hr
   obtain⟨rfl,rfl⟩:=hr
   rw[he] at hx
   obtain⟨blk,s,_,hv1,_⟩:=ptr_at hs hx hb (el_some hp)
   exact OpOk.still hs (by unfold execOp; simp only[ho,hv1]; rfl) (hv1▸hx) _
  ·cases hr
 ·rename_i f caps he
  simp only[Option.some.injEq,Prod.mk.injEq] at hr
  obtain⟨_,rfl⟩:=hr
  rw[he] at hx
  obtain⟨vs,hv1⟩:∃vs,ρ x = .func (.func f) #[] vs:=by
   generalize ρ x=vx at hx
   cases hx with|fn _ _ vs h1 h2=>exact⟨vs,rfl⟩
  exact OpOk.still hs (by unfold execOp; simp only[ho,hv1]; rfl) (hv1▸hx) _
 ·cases hr
theorem eqAll_nine(xs ys:List AV):eqAll [9] xs ys=none:=by
 match xs,ys with
 | [],[]=>rfl
 | [],_::_=>rfl
 | _::_,[]=>rfl
 | x::r,y::s =>
  have:eqOne 9 x y=none:=by cases x<;>cases y<;>simp[eqOne]
  simp[eqAll,this]
theorem plainFields_le:∀{fs:List Field} {off:Nat} {ks:List Nat},plainFields P fs off=some ks→∀k∈ks,k≤2
 | [],off,ks,h,k,hk=>by simp only[plainFields,Option.some.injEq] at h; subst h; cases hk
 | f::r,off,ks,h,k,hk=>by
  simp only[plainFields] at h
  split at h
  ·split at h<;>first
    | (rename_i hr
       injection h with h
       subst h
       rcases List.mem_cons.1 hk with rfl|hk
       ·omega
       ·exact plainFields_le hr k hk)
    | cases h
  ·cases h
theorem binT_bool{op:BinOp}{ks:List Nat}{a b:Bool}{x:Prop×AV}(h:binT op (some ks) (.bool a) (.bool b)=some x):ks=[9]:=by
 simp only[binT] at h
 split at h
 ·rename_i heq; injection heq
 ·rename_i heq; injection heq
 ·cases h
theorem eqAll_eight(xs ys:List AV):eqAll [8] xs ys=none:=by
 match xs,ys with
 | [],[]=>rfl
 | [],_::_=>rfl
 | _::_,[]=>rfl
 | x::r,y::s =>
  have:eqOne 8 x y=none:=by cases x<;>cases y<;>simp[eqOne]
  simp[eqAll,this]
theorem eqAll_seven(xs ys:List AV):eqAll [7] xs ys=none:=by
 match xs,ys with
 | [],[]=>rfl
 | [],_::_=>rfl
 | _::_,[]=>rfl
 | x::r,y::s =>
  have:eqOne 7 x y=none:=by cases x<;>cases y<;>simp[eqOne]
  simp[eqAll,this]
theorem binT_nili{op:BinOp}{eqs:Option (List Nat)}{x y:AV}{z:Prop×AV}(h:binT op eqs x y=some z)(he:eqs≠some [7]):y≠.nili:=by
 intro hy
 subst hy
 cases x with
 | nili=>simp only[binT] at h; split at h<;>first|exact he rfl|cases h
 | iface t v=>simp only[binT] at h; split at h<;>first|exact he rfl|cases h
 | _=>simp only[binT] at h; cases h
theorem run_eql_ifN(w:World)(t:TypeId){ms:Array (String×TypeId)}(te:TypeId)(v:Value)(h:P.underlying t=some (.interface ms)):(binOp .eql t (.iface te v) .nilIface).run P w = .ok (.bool false) w:=by
 have h1:∀d:Nat,(Op.equalIn (d+1) t (.iface te v) .nilIface).run P w = .ok false w:=fun d=>by simp[Op.equalIn,run_underlying h]
 simp only[binOp]
 simp[Op.equal,Op.maxDepth,h1 9999]
theorem run_neq_ifN(w:World)(t:TypeId){ms:Array (String×TypeId)}(te:TypeId)(v:Value)(h:P.underlying t=some (.interface ms)):(binOp .neq t (.iface te v) .nilIface).run P w = .ok (.bool true) w:=by
 have h1:∀d:Nat,(Op.equalIn (d+1) t (.iface te v) .nilIface).run P w = .ok false w:=fun d=>by simp[Op.equalIn,run_underlying h]
 simp only[binOp]
 simp[Op.equal,Op.maxDepth,h1 9999]
theorem run_eql_ifNN(w:World)(t:TypeId){ms:Array (String×TypeId)}(h:P.underlying t=some (.interface ms)):(binOp .eql t .nilIface .nilIface).run P w = .ok (.bool true) w:=by
 have h1:∀d:Nat,(Op.equalIn (d+1) t .nilIface .nilIface).run P w = .ok true w:=fun d=>by simp[Op.equalIn,run_underlying h]
 simp only[binOp]
 simp[Op.equal,Op.maxDepth,h1 9999]
theorem run_neq_ifNN(w:World)(t:TypeId){ms:Array (String×TypeId)}(h:P.underlying t=some (.interface ms)):(binOp .neq t .nilIface .nilIface).run P w = .ok (.bool false) w:=by
 have h1:∀d:Nat,(Op.equalIn (d+1) t .nilIface .nilIface).run P w = .ok true w:=fun d=>by simp[Op.equalIn,run_underlying h]
 simp only[binOp]
 simp[Op.equal,Op.maxDepth,h1 9999]
theorem binT_nils{op:BinOp}{eqs:Option (List Nat)}{x y:AV}{z:Prop×AV}(h:binT op eqs x y=some z)(he:eqs≠some [8]):y≠.nils:=by
 intro hy
 subst hy
 cases x with
 | nils=>simp only[binT] at h; split at h<;>first|exact he rfl|cases h
 | sl xs =>
  cases xs with
  | nil=>simp only[binT] at h; cases h
  | cons z zs=>simp only[binT] at h; split at h<;>first|exact he rfl|cases h
 | _=>simp only[binT] at h; cases h
theorem run_eql_slN(w:World)(t e:TypeId)(a:Option Addr)(n c:Nat)(h:P.underlying t=some (.slice e)):(binOp .eql t (.slice a n c) (.slice none 0 0)).run P w = .ok (.bool a.isNone) w:=by
 simp only[binOp]
 simp[Op.equal,Op.maxDepth,Lib.run_equalIn_slice_nil w 9999 t e a n c 0 0 h]
theorem nil_ok{G:Gh}{w:World}{op:BinOp}{x r:AV}{p:Prop}{a b:Value}(hx:RV G w x a)(hy:RV G w .nils b)(h:binT op (some [8]) x .nils=some (p,r)){t e:TypeId}(ht:P.underlying t=some (.slice e))(X Y:Operand):
  ∃v,(do eqGuard op t X Y a b; binOp op t a b:Sem Value).run P w = .ok v w∧RV G w r v:=by
 have hb:b = .slice none 0 0:=by cases hy; rfl
 subst hb
 have key:∀(A:Option Addr) (n c:Nat),a = .slice A n c→((op = .eql∧r = .bool A.isNone)∨(op = .neq∧r = .bool (!A.isNone)))→∃v,(do eqGuard op t X Y a (.slice none 0 0); binOp op t a (.slice none 0 0):Sem Value).run P w = .ok v w∧RV G w r v:=by
  intro A n c ha hr
  subst ha
  have hg:eqGuard op t X Y (.slice A n c) (.slice none 0 0)=pure ():=by cases op<;>rfl
  rw[hg]
  rcases hr with⟨rfl,rfl⟩|⟨rfl,rfl⟩
  ·exact⟨_,by simp only[Sem.run_bind,Sem.run_pure,Result.andThen_ok,run_eql_slN w t e A n c ht],.bool _⟩
  ·exact⟨_,by simp only[Sem.run_bind,Sem.run_pure,Result.andThen_ok,run_neq_slice_nil_any w t e A n c 0 0 ht],.bool _⟩
 cases hx with
 | nils =>
  refine key none 0 0 rfl ?_
  simp only[binT] at h
  split at h<;>first
   | (simp only[Option.some.injEq,Prod.mk.injEq] at h; obtain⟨_,rfl⟩:=h; first|exact .inl ⟨rfl,rfl⟩|exact .inr ⟨rfl,rfl⟩)
   | cases h
 | sl xs A c s u hc hm hn hs h1 h2 h3 =>
  cases xs with
  | nil=>simp only[binT] at h; cases h
  | cons z zs =>
   cases A with
   | none=>have:=(hn rfl).1; cases this
   | some a0 =>
    refine key (some a0) _ c rfl ?_
    simp only[binT] at h
    split at h<;>first
     | (simp only[Option.some.injEq,Prod.mk.injEq] at h; obtain⟨_,rfl⟩:=h; first|exact .inl ⟨rfl,rfl⟩|exact .inr ⟨rfl,rfl⟩)
     | cases h
 | _=>simp only[binT] at h; cases h
theorem ifc_ok{G:Gh}{w:World}{op:BinOp}{x r:AV}{p:Prop}{a b:Value}(hx:RV G w x a)(hy:RV G w .nili b)(h:binT op (some [7]) x .nili=some (p,r)){t:TypeId}{ms:Array (String×TypeId)}(ht:P.underlying t=some (.interface ms))(X:Operand)(cY:Value):
  ∃v,(do eqGuard op t X (.const cY) a b; binOp op t a b:Sem Value).run P w = .ok v w∧RV G w r v:=by
 have hb:b = .nilIface:=by cases hy; rfl
 subst hb
 have hg:∀a,eqGuard op t X (.const cY) a .nilIface=pure ():=fun a=>by cases op<;>cases a<;>first|rfl|(simp[eqGuard])
 rw[hg]
 cases hx with
 | nili =>
  simp only[binT] at h
  split at h<;>first
   | (simp only[Option.some.injEq,Prod.mk.injEq] at h; obtain⟨_,rfl⟩:=h; exact⟨_,by simp only[Sem.run_bind,Sem.run_pure,Result.andThen_ok,run_eql_ifNN w t ht,run_neq_ifNN w t ht],.bool _⟩)
   | cases h
 | iface =>
  simp only[binT] at h
  split at h<;>first
   | (simp only[Option.some.injEq,Prod.mk.injEq] at h; obtain⟨_,rfl⟩:=h; exact⟨_,by simp only[Sem.run_bind,Sem.run_pure,Result.andThen_ok,run_eql_ifN w t _ _ ht,run_neq_ifN w t _ _ ht],.bool _⟩)
   | cases h
 | _=>simp only[binT] at h; cases h
theorem sound_binOp(op:BinOp)(t:TypeId)(x y:Operand)(t':TypeId):Sound P (.binOp op t x y t'):=by
 intro C ρ G bx w id ve o c p r ho hc hr hp hs hu hv
 simp only[comp] at hc
 split at hc
 ·rename_i a b ha hb
  have hx:=hv x (by simp[Op.operands]) a ha
  have hy:=hv y (by simp[Op.operands]) b hb
  have hex:execOp ρ o=(do pure (.value (←(do eqGuard op t x y (ρ x) (ρ y); binOp op t (ρ x) (ρ y):Sem Value)))):=by unfold execOp; simp only[ho]
  have plain:∀(eqs:Option (List Nat)) (r0:AV),binT op eqs (ve a) (ve b)=some (p,r0)→r=⟨r0,[],[]⟩→(∀xs,ve a≠.agg xs)→((∃q,ve a = .bool q)→P.underlying t=some .bool)→ve b≠.nils→ve b≠.nili→OpOk P C ρ o G bx w id r:=fun eqs r0 h1 h2 h3 h4 h5 h6=>by
   subst h2
   obtain⟨v,g1,g2⟩:=bin_ok (P:=P) hx hy (binT_ok h1 hp h3 h5 h6) t x y h4
   exact OpOk.pure hs hex g1 g2
  have two:∀eqs,(match binT op eqs (ve a) (ve b) with|some (p,r)=>some (p,⟨r,[],[]⟩)|none=>none)=some (p,r)→∃r0,binT op eqs (ve a) (ve b)=some (p,r0)∧r=⟨r0,[],[]⟩:=fun eqs h=>by
   split at h
   ·rename_i p0 r0 hb0
    simp only[Option.some.injEq,Prod.mk.injEq] at h
    obtain⟨rfl,rfl⟩:=h
    exact⟨r0,hb0,rfl⟩
   ·cases h
  split at hc
  ·rename_i ht
   injection hc with hc
   subst hc
   simp only[sem] at hr
   obtain⟨r0,h1,h2⟩:=two _ hr
   refine plain _ _ h1 h2 (fun xs hxs=>?_) (fun _=>ht) (binT_nils h1 (by simp)) (binT_nili h1 (by simp))
   unfold binT at h1
   rw[hxs] at h1
   cases hb0:ve b<;>rw[hb0] at h1<;>try cases h1
   cases op<;>simp[eqAll_nine] at h1
  ·rename_i fs ht
   split at hc
   ·rename_i ks hk
    split at hc
    ·rename_i hst
     injection hc with hc
     subst hc
     simp only[sem] at hr
     obtain⟨r0,h1,h2⟩:=two _ hr
     by_cases hag:∃xs,ve a = .agg xs
     ·obtain⟨xs,hxs⟩:=hag
      have h3:=h1
      unfold binT at h3
      rw[hxs] at h3
      cases hb0:ve b<;>rw[hb0] at h3<;>try cases h3
      rename_i ys
      rw[hxs] at hx
      rw[hb0] at hy
      cases he:eqAll ks xs ys with
      | none=>cases op<;>simp[he] at h3
      | some q =>
       have hop:(op = .eql∧r0 = .bool q)∨(op = .neq∧r0 = .bool (!q)):=by cases op<;>simp[he] at h3<;>simp[h3.2]
       have hrun:=eqs_ok (P:=P) ht hk hst.1 hst.2 hx hy he op x y (hop.imp And.left And.left)
       subst h2
       refine OpOk.pure hs hex hrun ?_
       rcases hop with⟨rfl,rfl⟩|⟨rfl,rfl⟩<;>exact .bool _
     ·refine plain _ _ h1 h2 (fun xs h=>hag ⟨xs,h⟩) (fun⟨q,hq⟩=>?_) (binT_nils h1 fun h8=>by
       have:=plainFields_le hk 8 (by injection h8 with h8; rw[h8]; simp)
       omega) (binT_nili h1 fun h8=>by
       have:=plainFields_le hk 7 (by injection h8 with h8; rw[h8]; simp)
       omega)
      have h9:ks=[9]:=by
       rw[hq] at h1
       cases hb0:ve b<;>rw[hb0] at h1<;>first
        | exact binT_bool h1
        | (simp only[binT] at h1; cases h1)
      have:=plainFields_le hk 9 (by rw[h9]; simp)
      omega
    ·cases hc
   ·cases hc
  ·rename_i e8 ht8
   injection hc with hc
   subst hc
   simp only[sem] at hr
   obtain⟨r0,h1,h2⟩:=two _ hr
   by_cases hb8:ve b = .nils
   ·rw[hb8] at h1 hy
    subst h2
    obtain⟨v,g1,g2⟩:=nil_ok (P:=P) hx hy h1 ht8 x y
    exact OpOk.pure hs hex g1 g2
   refine plain _ _ h1 h2 (fun xs h=>?_) (fun⟨q,hq⟩=>?_) hb8 (binT_nili h1 (by simp))
   ·unfold binT at h1
    rw[h] at h1
    cases hb0:ve b<;>rw[hb0] at h1<;>try cases h1
    cases op<;>simp[eqAll_eight] at h1
   ·unfold binT at h1
    rw[hq] at h1
    cases hb0:ve b<;>rw[hb0] at h1<;>try cases h1
    cases op<;>simp at h1
  ·rename_i ms7 ht7
   split at hc
   ·injection hc with hc
    subst hc
    simp only[sem] at hr
    obtain⟨r0,h1,h2⟩:=two _ hr
    by_cases hb7:ve b = .nili
    ·rw[hb7] at h1 hy
     subst h2
     obtain⟨v,g1,g2⟩:=ifc_ok (P:=P) hx hy h1 ht7 x _
     exact OpOk.pure hs hex g1 g2
    refine plain _ _ h1 h2 (fun xs h=>?_) (fun⟨q,hq⟩=>?_) (binT_nils h1 (by simp)) hb7
    ·unfold binT at h1
     rw[h] at h1
     cases hb0:ve b<;>rw[hb0] at h1<;>try cases h1
     cases op<;>simp[eqAll_seven] at h1
    ·unfold binT at h1
     rw[hq] at h1
     cases hb0:ve b<;>rw[hb0] at h1<;>try cases h1
     cases op<;>simp at h1
   ·injection hc with hc
    subst hc
    simp only[sem] at hr
    obtain⟨r0,h1,h2⟩:=two _ hr
    refine plain _ _ h1 h2 (fun xs h=>?_) (fun⟨q,hq⟩=>?_) (binT_nils h1 (by simp)) (binT_nili h1 (by simp))
    ·unfold binT at h1
     rw[h] at h1
     cases hb0:ve b<;>rw[hb0] at h1<;>try cases h1
     cases op<;>cases h1
    ·unfold binT at h1
     rw[hq] at h1
     cases hb0:ve b<;>rw[hb0] at h1<;>try cases h1
     cases op<;>cases h1
  ·injection hc with hc
   subst hc
   simp only[sem] at hr
   obtain⟨r0,h1,h2⟩:=two _ hr
   refine plain _ _ h1 h2 (fun xs h=>?_) (fun⟨q,hq⟩=>?_) (binT_nils h1 (by simp)) (binT_nili h1 (by simp))
   ·unfold binT at h1
    rw[h] at h1
    cases hb0:ve b<;>rw[hb0] at h1<;>try cases h1
    cases op<;>cases h1
   ·unfold binT at h1
    rw[hq] at h1
    cases hb0:ve b<;>rw[hb0] at h1<;>try cases h1
    cases op<;>cases h1
 ·cases hc
end
end Go.Am
namespace Go.Am
set_option linter.all false
open Go Go.RowKit
section
variable {P:Program}
theorem sound_unOp(op:UnOp)(t:TypeId)(x:Operand):Sound P (.unOp op t x):=by
 intro C ρ G bx w id ve o c p r ho hc hr hp hs hu hv
 simp only[comp,Option.map_eq_some_iff] at hc
 obtain⟨a,ha,rfl⟩:=hc
 have hx:=hv x (by simp[Op.operands]) a ha
 have hex:execOp ρ o=(do pure (.value (←Op.unary op (ρ x)))):=by unfold execOp; simp only[ho]
 simp only[sem] at hr
 split at hr
 ·rename_i p0 r0 h0
  simp only[Option.some.injEq,Prod.mk.injEq] at hr
  obtain⟨rfl,rfl⟩:=hr
  unfold unT at h0
  split at h0
  ·rename_i b he
   simp only[Option.some.injEq,Prod.mk.injEq] at h0
   obtain⟨_,rfl⟩:=h0
   rw[he] at hx
   have hv1:ρ x = .bool b:=by generalize ρ x=vx at hx; cases hx; rfl
   exact OpOk.pure hs hex (by rw[hv1]; simp only[unary_not,Sem.run_pure]) (.bool _)
  ·rename_i k n he
   simp only[Option.some.injEq,Prod.mk.injEq] at h0
   obtain⟨_,rfl⟩:=h0
   rw[he] at hx
   have hv1:ρ x = .int k n:=by generalize ρ x=vx at hx; cases hx; rfl
   exact OpOk.pure hs hex (by rw[hv1]; simp only[unary_neg,Op.intArith,Sem.run_pure]) (.int _ _)
  ·cases h0
 ·cases hr
theorem sound_extract(x:Operand)(i:Nat):Sound P (.extract x i):=by
 intro C ρ G bx w id ve o c p r ho hc hr hp hs hu hv
 simp only[comp,Option.map_eq_some_iff] at hc
 obtain⟨a,ha,rfl⟩:=hc
 have hx:=hv x (by simp[Op.operands]) a ha
 have hex:execOp ρ o=(do pure (.value (←Instr.extract (ρ x) i))):=by unfold execOp; simp only[ho]
 simp only[sem] at hr
 split at hr
 ·rename_i vs he
  split at hr
  ·rename_i y hy
   simp only[Option.some.injEq,Prod.mk.injEq] at hr
   obtain⟨_,rfl⟩:=hr
   rw[he] at hx
   obtain⟨us,hv1,hus⟩:∃us,ρ x = .tuple us∧RVs G w vs us:=by
    generalize ρ x=vx at hx
    cases hx with|tup _ us h1 h2=>exact⟨us,rfl,h1,h2⟩
   obtain⟨u,h1,h2⟩:=hus.get hy
   exact OpOk.pure hs hex (by rw[hv1]; simp only[Instr.extract,h1,Sem.run_pure]) h2
  ·cases hr
 ·cases hr
theorem sound_index(t:TypeId)(x i:Operand):Sound P (.index t x i):=by
 intro C ρ G bx w id ve o c p r ho hc hr hp hs hu hv
 simp only[comp] at hc
 split at hc
 ·rename_i a b ha hb ht
  injection hc with hc
  subst hc
  have hx:=hv x (by simp[Op.operands]) a ha
  have hi:=hv i (by simp[Op.operands]) b hb
  simp only[sem] at hr
  split at hr
  ·rename_i s k n he hf
   simp only[Option.some.injEq,Prod.mk.injEq] at hr
   obtain⟨rfl,rfl⟩:=hr
   rw[he] at hx
   rw[hf] at hi
   have hv1:ρ x = .string ⟨⟨s⟩⟩:=by generalize ρ x=vx at hx; cases hx; rfl
   have hv2:ρ i = .int k n:=by generalize ρ i=vx at hi; cases hi; rfl
   have hg:s[n.toNat]?=some (s.getD n.toNat 0):=by simp[List.getD,List.getElem?_eq_getElem hp.2]
   exact OpOk.pure (x:=Instr.index t (ρ x) (ρ i)) hs (by unfold execOp; simp only[ho]) (by rw[hv1,hv2]; exact ix_ok hp.1 hg ht) (.int _ _)
  ·cases hr
 ·cases hc
theorem sound_makeSlice(t:TypeId)(l c:Operand):Sound P (.makeSlice t l c):=by
 intro C ρ G bx w id ve o cc p r ho hc hr hp hs hu hv
 simp only[comp] at hc
 split at hc
 ·rename_i e ht
  split at hc
  ·rename_i z i a b hz hi ha hb
   split at hc
   ·rename_i hzs
    injection hc with hc
    subst hc
    have hx:=hv l (by simp[Op.operands]) a ha
    have hy:=hv c (by simp[Op.operands]) b hb
    simp only[sem] at hr
    split at hr
    ·rename_i kl n kc m he hf
     simp only[Option.some.injEq,Prod.mk.injEq] at hr
     obtain⟨rfl,rfl⟩:=hr
     rw[he] at hx
     rw[hf] at hy
     have hv1:ρ l = .int kl n:=by generalize ρ l=vx at hx; cases hx; rfl
     have hv2:ρ c = .int kc m:=by generalize ρ c=vx at hy; cases hy; rfl
     obtain⟨zv,h1,h2⟩:=zeroAV_ok hz
     have hzi:i.zero=some zv:=by rw[hi] at h1; simpa using h1
     exact OpOk.made (x:=Instr.makeSlice t (ρ l) (ρ c)) (by unfold execOp; simp only[ho]) (by rw[hv1,hv2]; exact mks_ok hs hu ht hi hzi (h2 G w) rfl rfl hzs hp.1 hp.2.1 hp.2.2.1 hp.2.2.2)
    ·cases hr
   ·cases hc
  ·cases hc
 ·cases hc
theorem rvs_of_opds{G:Gh}{w:World}{ρ:Operand→Value}{ve:Opd→AV}{xs:Array Operand}{ys:List Opd}(h:opds xs.toList=some ys)(hv:∀X∈xs.toList,∀x,opd X=some x→RV G w (ve x) (ρ X)):RVs G w (ys.map ve) (xs.map ρ):=by
 obtain⟨h1,h2⟩:=opds_ok h
 refine RVs.of_get (by simp[h1]) fun i y u hy hu=>?_
 simp only[List.getElem?_map,Option.map_eq_some_iff] at hy
 obtain⟨a,ha,rfl⟩:=hy
 simp only[Array.getElem?_map,Option.map_eq_some_iff] at hu
 obtain⟨b,hb,rfl⟩:=hu
 have hb':xs.toList[i]?=some b:=by simpa using hb
 exact hv b (List.mem_of_getElem? hb') a (h2 i a b ha hb')
theorem sound_makeFunc(f:FuncId)(first caps:Array Operand):Sound P (.makeFunc (.func f) first caps):=by
 intro C ρ G bx w id ve o c p r ho hc hr hp hs hu hv
 simp only[comp] at hc
 split at hc
 ·rename_i hf
  simp only[Option.map_eq_some_iff] at hc
  obtain⟨ys,hys,rfl⟩:=hc
  simp only[sem,Option.some.injEq,Prod.mk.injEq] at hr
  obtain⟨_,rfl⟩:=hr
  have hf0:first = #[]:=by simpa using hf
  subst hf0
  have hvs:=rvs_of_opds (G:=G) (w:=w) (ρ:=ρ) hys fun X hX x hx=>hv X (by simp[Op.operands] at hX ⊢; exact hX) x hx
  exact OpOk.pure (x:=Instr.makeFunc (.func f) ((#[]:Array Operand).map ρ) (caps.map ρ)) hs (by unfold execOp; simp only[ho]) (v:=.func (.func f) #[] (caps.map ρ)) (by simp[Instr.makeFunc]) (.fn f _ _ hvs.1 hvs.2)
 ·split at hc
  ·rename_i X h1 h2
   simp only[Option.map_eq_some_iff] at hc
   obtain⟨a,ha,rfl⟩:=hc
   simp only[sem,convT,Option.some.injEq,Prod.mk.injEq] at hr
   obtain⟨_,rfl⟩:=hr
   have h1':first = #[X]:=by apply Array.ext'; simpa using h1
   have h2':caps = #[]:=by apply Array.ext'; simpa using h2
   subst h1' h2'
   exact OpOk.pure (x:=Instr.makeFunc (.func f) (#[X].map ρ) ((#[]:Array Operand).map ρ)) hs (by unfold execOp; simp only[ho]) (v:=.func (.func f) #[ρ X] #[]) (by simp[Instr.makeFunc]) (.fnb f _ _ rfl fun i y hy=>by
    match i,hy with
    | 0,hy=>simp at hy; subst hy; simpa using hv X (by simp[Op.operands]) a ha
    | i+1,hy=>simp at hy)
  ·cases hc
theorem sound_ta(x:Operand)(u t:TypeId)(b:Bool):Sound P (.typeAssert x u t b):=by
 intro C ρ G bx w id ve o c p r ho hc hr hp hs hu hv
 cases b with
 | false=>simp[comp] at hc
 | true =>
  have hex:execOp ρ o=(do pure (.value (←Instr.typeAssert (ρ x) u t true))):=by unfold execOp; simp only[ho]
  simp only[comp] at hc
  split at hc
  ·cases hc
  ·rename_i z hz0 hz
   simp only[Option.map_eq_some_iff] at hc
   obtain⟨a,ha,rfl⟩:=hc
   simp only[sem,convT] at hr
   split at hr
   ·rename_i t' v he
    split at hr
    ·rename_i ht
     subst ht
     simp only[Option.some.injEq,Prod.mk.injEq] at hr
     obtain⟨_,rfl⟩:=hr
     have hx:=hv x (by simp[Op.operands]) a ha
     rw[he] at hx
     obtain⟨y,e1,e2⟩:∃y,ρ x = .iface t' y∧RV G w v y:=by
      generalize ρ x=q at hx
      cases hx with|iface _ _ y h=>exact⟨y,rfl,h⟩
     refine OpOk.pure hs hex (v:=.tuple #[y,.bool true]) ?_ (.tup _ _ rfl fun i q hq=>by
      match i,hq with
      | 0,hq=>simp at hq; subst hq; simpa using e2
      | 1,hq=>simp at hq; subst hq; simpa using RV.bool true
      | i+2,hq=>simp at hq)
     rw[e1]
     unfold Instr.typeAssert
     simp only[Sem.run_bind,run_underlying hz,Result.andThen_ok]
     cases z<;>first|(exact (hz0 _ rfl).elim)|simp
    ·cases hr
   ·cases hr
  ·cases hc
theorem sound_field(t:TypeId)(x:Operand)(k:Nat):Sound P (.field t x k):=by
 intro C ρ G bx w id ve o c p r ho hc hr hp hs hu hv
 have hex:execOp ρ o=(do pure (.value (←Instr.field t (ρ x) k))):=by unfold execOp; simp only[ho]
 simp only[comp] at hc
 split at hc
 ·rename_i a fs ha hu2
  split at hc
  ·rename_i f hf
   split at hc
   ·rename_i hg
    injection hc with hc
    subst hc
    obtain⟨d,hd⟩:=Option.isSome_iff_exists.1 hg.1
    simp only[sem,convT] at hr
    split at hr
    ·rename_i cs he
     split at hr
     ·rename_i v hcv
      simp only[Option.some.injEq,Prod.mk.injEq] at hr
      obtain⟨_,rfl⟩:=hr
      have hx:=hv x (by simp[Op.operands]) a ha
      rw[he] at hx
      obtain⟨vs,e1,e2,e3⟩:∃vs,ρ x = .agg vs∧cs.length=vs.size∧RV G w v (vs.getD f.offset undef):=by
       generalize ρ x=q at hx
       cases hx with|agg _ vs hl h=>exact⟨vs,rfl,hl,h _ _ hcv⟩
      have hlt:f.offset<vs.size:=by
       rw[←e2]
       exact (List.getElem?_eq_some_iff.1 hcv).1
      have e4:vs[f.offset]?=some (vs.getD f.offset undef):=by
       rw[Array.getD_eq_getD_getElem?,Array.getElem?_eq_getElem hlt]; rfl
      refine OpOk.pure hs hex (v:=vs.getD f.offset undef) ?_ e3
      rw[e1]
      unfold Instr.field part
      simp only[Sem.run_bind,run_underlying hu2,Result.andThen_ok,hf,asAgg,run_isAgg hd,hg.2]
      rw[show Sem.run P (pure vs) w = .ok vs w from rfl]
      simp only[Result.andThen_ok,Bool.false_eq_true,if_false,e4]
      rfl
     ·cases hr
    ·cases hr
   ·cases hc
  ·cases hc
 ·cases hc
end
end Go.Am
namespace Go.Am
set_option linter.all false
open Go Go.RowKit
section
variable {P:Program}
theorem opdo_rv{G:Gh}{w:World}{ρ:Operand→Value}{ve:Opd→AV}{x:Option Operand}{y:Option Opd}(h:opdo x=some y)(hv:∀X,x=some X→∀z,opd X=some z→RV G w (ve z) (ρ X)):RVo G w (y.map ve) (x.map ρ):=by
 cases x with
 | none=>simp only[opdo,Option.some.injEq] at h; subst h; trivial
 | some X =>
  simp only[opdo,Option.map_eq_some_iff] at h
  obtain⟨z,hz,rfl⟩:=h
  exact hv X rfl z hz
theorem sound_slice(t:TypeId)(x:Operand)(lo hi:Option Operand):Sound P (.slice t x lo hi none):=by
 intro C ρ G bx w id ve o c p r ho hc hr hp hs hu hv
 simp only[comp] at hc
 have hex:execOp ρ o=(do pure (.value (←Instr.sliceAt t (ρ x) (lo.map ρ) (hi.map ρ) none))):=by unfold execOp; simp only[ho]; rfl
 have hlo:∀X,lo=some X→X∈(Op.slice t x lo hi none).operands.toList:=fun X h=>by subst h; simp[Op.operands]
 have hhi:∀X,hi=some X→X∈(Op.slice t x lo hi none).operands.toList:=fun X h=>by subst h; simp[Op.operands]
 split at hc
 ·rename_i a l h ha hl hh ht
  injection hc with hc
  subst hc
  have hx:=hv x (by simp[Op.operands]) a ha
  simp only[sem,slisT] at hr
  split at hr
  ·rename_i s he
   split at hr
   ·rename_i p1 m1 e1
    split at hr
    ·rename_i p2 m2 e2
     simp only[Option.some.injEq,Prod.mk.injEq] at hr
     obtain⟨rfl,rfl⟩:=hr
     rw[he] at hx
     have hv1:ρ x = .string ⟨⟨s⟩⟩:=by generalize ρ x=vx at hx; cases hx; rfl
     obtain⟨u,g1,g2⟩:=slis_ok (P:=P) (hiT_ok e1 hp.1) (loT_ok e2 hp.2) (opdo_rv hl fun X hX=>hv X (hlo X hX)) (opdo_rv hh fun X hX=>hv X (hhi X hX)) ht
     exact OpOk.pure hs hex (by rw[hv1]; exact g1) g2
    ·cases hr
   ·cases hr
  ·cases hr
 ·rename_i a l h e ha hl hh ht
  simp only[Option.map_eq_some_iff] at hc
  obtain⟨n,hn,rfl⟩:=hc
  have hx:=hv x (by simp[Op.operands]) a ha
  simp only[sem,sliT] at hr
  split at hr
  ·rename_i xs he
   split at hr
   ·rename_i p1 m1 e1
    split at hr
    ·rename_i p2 m2 e2
     simp only[Option.some.injEq,Prod.mk.injEq] at hr
     obtain⟨rfl,rfl⟩:=hr
     obtain⟨⟨q1,q2⟩,q3,q4⟩:=hp
     obtain⟨G',s1,ev,us,st⟩:=freezeAll _ hs fun q hq=>let h:=rsvT_mem q1 q hq; ⟨.inl h.1,h.2⟩
     have hx':=rsvT_rv ev q1 st hx
     rw[he] at hx'
     obtain⟨u,g1,g2⟩:=sli_ok (P:=P) hx' (hiT_ok e1 q3) (loT_ok e2 q4) (opdo_rv hl fun X hX z hz=>(hv X (hlo X hX) z hz).mono ev) (opdo_rv hh fun X hX z hz=>(hv X (hhi X hX) z hz).mono ev) ht hn q2
     exact⟨.value u,w,G',u,by rw[hex]; simp only[Sem.run_bind,g1,Result.andThen_ok,Sem.run_pure],.inl rfl,s1,ev,g2,fun i hi=>.inl (us i hi)⟩
    ·cases hr
   ·cases hr
  ·cases hr
 ·cases hc
theorem isStr_true{x:AV}(h:x.isStr=true):∃s,x = .str s:=by cases x<;>first|exact⟨_,rfl⟩|cases h
theorem isStr_false{x:AV}(h:x.isStr=false):∀s,x≠.str s:=fun s hs=>by subst hs; cases h
theorem sound_bslice(t:TypeId)(n:Nat)(ps:Array (Nat×Operand)):Sound P (.buildSlice t n ps):=by
 intro C ρ G bx w id ve o c p r ho hc hr hp hs hu hv
 simp only[comp] at hc
 split at hc
 ·rename_i e ht
  split at hc
  ·rename_i z s qs hz hsz hqs
   split at hc
   ·rename_i hcond
    injection hc with hc
    subst hc
    simp only[sem,Option.some.injEq,Prod.mk.injEq] at hr
    obtain⟨rfl,rfl⟩:=hr
    obtain⟨q1,q2⟩:=hp
    obtain⟨c1,c2,c3⟩:=hcond
    obtain⟨zv,z1,z2⟩:=zeroAV_ok hz
    obtain⟨l1,l2⟩:=opdp_ok hqs
    obtain⟨G',s1,ev,us,st⟩:=freezeAll _ hs fun q hq=>let h:=rsvs_mem q1 q hq; ⟨.inl h.1,h.2⟩
    obtain⟨m1,m2⟩:=rsvs_rv ev q1 st
    have hlen:(rsvs bx (qs.map fun q=>ve q.2)).2.1.length=qs.length:=by rw[m1]; simp
    have hmade:=bslice_ok (P:=P) s1 (fun h=>hu (us id h)) ht hsz z1 (z2 G' w) c1 (len:=n) c2 (by simp only[maxLen]; omega) (by rw[←c1]; exact q2) (vs:=ps.map fun q=>(q.1,ρ q.2)) (by simp[hlen,l1]) fun i q q' hq hq'=>by
     simp only[Array.getElem?_map,Option.map_eq_some_iff] at hq'
     obtain⟨b,hb,rfl⟩:=hq'
     have hb':ps.toList[i]?=some b:=by simpa using hb
     obtain⟨k,y⟩:=q
     rw[List.getElem?_zip_eq_some] at hq
     obtain⟨g1,g2⟩:=hq
     simp only[List.getElem?_map,Option.map_eq_some_iff] at g1
     obtain⟨a,ha,rfl⟩:=g1
     obtain⟨k1,k2⟩:=l2 i a b ha hb'
     refine⟨k1,?_⟩
     refine m2 (fun i=>ρ ((ps.toList.getD i (0,.const undef)).2)) (fun j y' hy'=>?_) i y g2 |> fun h=>by simpa [List.getD,hb] using h
     simp only[List.getElem?_map,Option.map_eq_some_iff] at hy'
     obtain⟨a',ha',rfl⟩:=hy'
     have hj:j<ps.toList.length:=by rw[←l1]; exact (List.getElem?_eq_some_iff.1 ha').1
     have hg:=List.getElem?_eq_getElem hj
     have:=hv (ps.toList[j]).2 (by simp only[Op.operands,List.mem_map]; exact⟨_,List.getElem_mem hj,rfl⟩) _ (l2 j a' _ ha' hg).2
     simpa [List.getD,hg] using this
    obtain⟨v,w',G2,h1,h2,h3,h4,h5⟩:=hmade
    refine⟨.value v,w',G2,v,?_,.inl rfl,?_,ev.trans h3,h4,fun i hi=>(h5 i hi).imp (us i) (fun h=>h)⟩
    ·unfold execOp
     simp only[ho,Sem.run_bind,h1,Result.andThen_ok,Sem.run_pure]
    ·rw[appl_append]; exact h2
   ·cases hc
  ·cases hc
 ·cases hc
end
end Go.Am
namespace Go.Am
set_option linter.all false
open Go Go.RowKit
section
variable {P:Program}
theorem exec_len{ρ:Operand→Value}{o:Oper}{xs:Array Operand}{ts:Array TypeId}(ho:o.op = .call ⟨.builtin .len,xs,ts⟩):execOp ρ o=(do pure (.value (←Builtin.len_ ts o.type (xs.map ρ)))):=by
 unfold execOp
 simp only[ho,resolve,invoke,builtin,pure_bind]
theorem exec_append{ρ:Operand→Value}{o:Oper}{xs:Array Operand}{ts:Array TypeId}(ho:o.op = .call ⟨.builtin .append,xs,ts⟩):execOp ρ o=(do pure (.value (←Builtin.append_ ts o.type (xs.map ρ)))):=by
 unfold execOp
 simp only[ho,resolve,invoke,builtin,pure_bind]
theorem exec_min{ρ:Operand→Value}{o:Oper}{xs:Array Operand}{ts:Array TypeId}(ho:o.op = .call ⟨.builtin .min,xs,ts⟩):execOp ρ o=(do pure (.value (←Builtin.min_ ts o.type (xs.map ρ)))):=by
 unfold execOp
 simp only[ho,resolve,invoke,builtin,pure_bind]
theorem exec_max{ρ:Operand→Value}{o:Oper}{xs:Array Operand}{ts:Array TypeId}(ho:o.op = .call ⟨.builtin .max,xs,ts⟩):execOp ρ o=(do pure (.value (←Builtin.max_ ts o.type (xs.map ρ)))):=by
 unfold execOp
 simp only[ho,resolve,invoke,builtin,pure_bind]
theorem sound_mm(mx:Bool)(x y:Operand)(t u:TypeId):Sound P (.call ⟨.builtin (match mx with|true=>.max|false=>.min),#[x,y],#[t,u]⟩):=by
 intro C ρ G bx w id ve o c p r ho hc hr hp hs hu hv
 have hc':compMM mx x y=some c:=by cases mx<;>exact hc
 unfold compMM at hc'
 split at hc'
 ·rename_i a b ha hb
  injection hc' with hc'
  subst hc'
  have hx:=hv x (by simp[Op.operands,Call.operands]) a ha
  have hy:=hv y (by simp[Op.operands,Call.operands]) b hb
  simp only[sem] at hr
  cases hxa:ve a<;>cases hyb:ve b<;>rw[hxa,hyb] at hr<;>simp only[mmT] at hr<;>try cases hr
  rename_i k m k' n
  split at hr
  ·rename_i q r0 he
   split at he
   ·rename_i hk
    simp only[Option.some.injEq,Prod.mk.injEq] at hr he
    obtain⟨rfl,rfl⟩:=hr
    obtain⟨rfl,rfl⟩:=he
    subst hk
    rw[hxa] at hx
    rw[hyb] at hy
    have ex:ρ x = .int k m:=by generalize ρ x=v at hx; cases hx; rfl
    have ey:ρ y = .int k n:=by generalize ρ y=v at hy; cases hy; rfl
    cases mx with
    | true=>exact OpOk.pure hs (exec_max ho) (by simp only[List.map_toArray,List.map_cons,List.map_nil,ex,ey]; exact Go.Lib.run_max_ints w _ _ k k m n) (.int k _)
    | false=>exact OpOk.pure hs (exec_min ho) (by simp only[List.map_toArray,List.map_cons,List.map_nil,ex,ey]; exact Go.Lib.run_min_ints w _ _ k k m n) (.int k _)
   ·cases he
  ·cases hr
 ·cases hc'
theorem sound_len(x:Operand)(t:TypeId):Sound P (.call ⟨.builtin .len,#[x],#[t]⟩):=by
 intro C ρ G bx w id ve o c p r ho hc hr hp hs hu hv
 simp only[comp,compCall] at hc
 have hop:∀a,opd x=some a→RV G w (ve a) (ρ x):=fun a ha=>hv x (by simp[Op.operands,Call.operands]) a ha
 have fin:∀(a:Opd) (st:Bool),opd x=some a→(st=true↔P.underlying t=some .string)→(P.underlying t=some .string∨∃e,P.underlying t=some (.slice e))→sem ve bx id (.len st a)=some (p,r)→OpOk P C ρ o G bx w id r:=by
  intro a st ha hst ht hr
  simp only[sem] at hr
  split at hr
  ·rename_i r0 rd hl
   simp only[Option.some.injEq,Prod.mk.injEq] at hr
   obtain⟨rfl,rfl⟩:=hr
   obtain⟨z,h1,h2⟩:=len_ok (P:=P) hs (hop a ha) (lenT_ok hl) ht ⟨fun⟨s,h⟩=>hst.1 (by rw[←hp,h]; rfl),fun h=>isStr_true (by rw[hp]; exact hst.2 h)⟩ o.type
   exact OpOk.pure hs (exec_len ho) (by simpa using h1) h2
  ·cases hr
 simp only[compLen] at hc
 split at hc
 ·rename_i a ha ht
  injection hc with hc
  subst hc
  exact fin a true ha (by simp[ht]) (.inl ht) hr
 ·rename_i a e ha ht
  injection hc with hc
  subst hc
  exact fin a false ha (by simp[ht]) (.inr ⟨e,ht⟩) hr
 ·cases hc
theorem sound_append(x y:Operand)(t u:TypeId):Sound P (.call ⟨.builtin .append,#[x,y],#[t,u]⟩):=by
 intro C ρ G bx w id ve o c p r ho hc hr hp hs hu hv
 simp only[comp,compCall] at hc
 have hx:∀a,opd x=some a→RV G w (ve a) (ρ x):=fun a ha=>hv x (by simp[Op.operands,Call.operands]) a ha
 have hy:∀a,opd y=some a→RV G w (ve a) (ρ y):=fun a ha=>hv y (by simp[Op.operands,Call.operands]) a ha
 have fin:∀(a b:Opd) (st:Bool) (e:TypeId) (z:AV) (i:TypeInfo),opd x=some a→opd y=some b→P.underlying t=some (.slice e)→zeroAV P e=some z→P.info? e=some i→z.cells.length=i.size →
   ((st=true∧P.underlying u=some .string∧i.size=1)∨(st=false∧∃e,P.underlying u=some (.slice e)))→sem ve bx id (.app st z i.bytes a b)=some (p,r)→OpOk P C ρ o G bx w id r:=by
  intro a b st e z i ha hb ht hz hi hzi hst hr
  simp only[sem] at hr
  split at hr
  ·rename_i p0 ys rd he
   split at hr
   ·rename_i q0 r0 hap
    simp only[Option.some.injEq,Prod.mk.injEq] at hr
    obtain⟨rfl,rfl⟩:=hr
    obtain⟨⟨q1,q2,q3⟩,q4⟩:=hp
    obtain⟨zv,z1,z2⟩:=zeroAV_ok hz
    have hzz:i.zero=some zv:=by rw[hi] at z1; simpa using z1
    have hzs:zv.cells.size=i.size:=by rw[←(rvs_cells (z2 G w)).1]; exact hzi
    have hk:((∃t,ve b = .str t)∧P.underlying u=some .string∧i.size=1)∨((∀t,ve b≠.str t)∧∃e,P.underlying u=some (.slice e)) :=
     hst.imp (fun h=>⟨isStr_true (by rw[q2]; exact h.1),h.2⟩) (fun h=>⟨isStr_false (by rw[q2]; exact h.1),h.2⟩)
    have key:∀rd',appAV z bx id (ve a) ys=some (r0.v,rd',r0.wr)→(∀n,lenAV bx (ve a)=some (.int .i64 n)→(n+ys.length)*i.bytes≤140737488355328∧n+ys.length≤9223372036854775807)→OpOk P C ρ o G bx w id ⟨r0.v,rd++r0.rd,r0.wr⟩:=fun rd' h1 h2 =>
     OpOk.made (exec_append ho) (by
      have:=append_ok (P:=P) (ty:=o.type) hs hu (hx a ha) (hy b hb) (elemsT_ok he q1) (fun e he=>(q3 e he).1.trans hzi) (fun e he c hc=>(List.all_eq_true.1 (q3 e he).2) c hc) h1 hzi hk ht hi hzz hzs rfl rfl h2
      simpa using this)
    unfold appT at hap
    split at hap
    ·rename_i hn
     simp only[Option.some.injEq,Prod.mk.injEq] at hap
     obtain⟨rfl,rfl⟩:=hap
     refine key [] (by simp only[hn,appAV]) fun n hn'=>?_
     simp only[hn,lenAV,Option.some.injEq,AV.int.injEq,true_and] at hn'
     subst hn'
     refine⟨?_,by have:=q4.2; omega⟩
     have:=q4.1
     rw[Int.zero_add,←Int.natCast_mul]
     omega
    ·rename_i i0 off n hn
     split at hap
     ·rename_i bb hbb
      simp only[Option.some.injEq,Prod.mk.injEq] at hap
      obtain⟨rfl,rfl⟩:=hap
      obtain⟨q5,q6,q7⟩:=q4
      refine key [(i0,bb)] (by simp only[hn,appAV,hbb,if_pos q5]) fun m hm=>?_
      simp only[hn,lenAV,hbb,Option.some.injEq,AV.int.injEq,true_and] at hm
      subst hm
      refine⟨?_,by omega⟩
      rw[←Int.natCast_add,←Int.natCast_mul]
      omega
     ·cases hap
    ·cases hap
   ·cases hr
  ·cases hr
 simp only[compApp] at hc
 split at hc
 ·rename_i a b e ha hb ht hu'
  split at hc
  ·rename_i z i hz hi
   split at hc
   ·rename_i hc2
    injection hc with hc
    subst hc
    exact fin a b true e z i ha hb ht hz hi hc2.1 (.inl ⟨rfl,hu',hc2.2⟩) hr
   ·cases hc
  ·cases hc
 ·rename_i a b e e' ha hb ht hu'
  split at hc
  ·rename_i z i hz hi
   split at hc
   ·rename_i hc2
    injection hc with hc
    subst hc
    exact fin a b false e z i ha hb ht hz hi hc2 (.inr ⟨rfl,e',hu'⟩) hr
   ·cases hc
  ·cases hc
 ·cases hc
end
end Go.Am
namespace Go.Am
set_option linter.all false
open Go Go.RowKit
section
variable {P:Program}
theorem bytes_at{P:Program}{C:Cx P}{G:Gh}{bx:Nat→Option Bx}{w:World}(hs:RS C G bx w){x:AV}{v:Value}(h:RV G w x v)(hx:∀s,x≠.str s){ys:List AV}(he:elems bx x=some ys)(hu:ys.all isU8=true):
  (∃n c,v = .slice none n c∧ys=[])∨∃a c,v = .slice (some a) ys.length c∧∀(i:Nat) y,ys[i]?=some y→w.cell? (a.add i)=some (.int .u8 (match y with | .int _ n=>n|_=>0)):=by
 have hone:∀(y:AV) (u:Value),isU8 y=true→RV G w y u→u = .int .u8 (match y with | .int _ n=>n|_=>0):=fun y u hy hr=>by
  cases hr<;>first|(simp[isU8] at hy; done)|skip
  rename_i k n
  cases k<;>first|rfl|(simp[isU8] at hy)
 have hcells:∀y∈ys,y.cells=[y]:=fun y hy=>by
  have:=(List.all_eq_true.1 hu) y hy
  cases y<;>first|rfl|(simp[isU8] at this)
 cases x with
 | nils =>
  simp only[elems,Option.some.injEq] at he
  cases h
  exact .inl ⟨0,0,rfl,he.symm⟩
 | sl xs =>
  simp only[elems,Option.some.injEq] at he
  subst he
  cases h with|sl _ A c s u hc hm hn hs' h1 h2 h3 =>
  cases A with
  | none=>exact .inl ⟨_,_,rfl,(hn rfl).1⟩
  | some a =>
   refine .inr ⟨a,c,rfl,fun i y hy=>?_⟩
   have hyc:=hcells y (List.mem_of_getElem? hy)
   have hs1:s=1:=by rw[←hs' i y hy,hyc]; rfl
   have g2:=h2 a i y 0 y rfl hy (by rw[hyc]; rfl)
   rw[hs1,Nat.mul_one,Nat.add_zero] at g2
   rw[g2,hone y (u i 0) ((List.all_eq_true.1 hu) y (List.mem_of_getElem? hy)) (h3 i y 0 y hy (by rw[hyc]; rfl))]
 | bsl id off len =>
  simp only[elems] at he
  split at he
  ·rename_i b hb
   split at he
   ·rename_i hle
    injection he with he
    cases h with|bsl _ _ _ _ hone' hub hbm hnl =>
    by_cases hn:G.nl id
    ·obtain⟨hv,_,hl⟩:=hnl hn
     refine .inl ⟨_,_,hv,?_⟩
     rw[←he,hl]; simp
    ·obtain⟨blk,s',cur,e',h1',h2',_,_,h5,_⟩:=hs.box id b hb hn
     obtain⟨c,cur',e'',hv,_⟩:=hbm blk s' h1'
     have hlen:ys.length=len:=by rw[←he]; simp; omega
     refine .inr ⟨_,c,by rw[hlen]; exact hv,fun i y hy=>?_⟩
     have hyc:=hcells y (List.mem_of_getElem? hy)
     have hi':b.xs[off+i]?=some y:=by
      rw[←he,List.getElem?_take] at hy
      split at hy
      ·rwa [List.getElem?_drop] at hy
      ·cases hy
     obtain⟨g1,g2⟩:=h5 _ y hi'
     have hs1:s'=1:=by rw[←g1,hyc]; rfl
     obtain⟨u,hu1,hu2⟩:=g2 0 y (by rw[hyc]; rfl)
     subst hs1
     rw[Addr.add_lit,cell_of_heap h2',show off*1+i=(off+i)*1+0 by omega,hu1,hone y u ((List.all_eq_true.1 hu) y (List.mem_of_getElem? hy)) hu2]
   ·cases he
  ·cases he
 | str s=>exact (hx s rfl).elim
 | _=>cases he
theorem sound_mki(t:TypeId)(x:Operand):Sound P (.makeInterface t x):=by
 intro C ρ G bx w id ve o c p r ho hc hr hp hs hu hv
 have hex:execOp ρ o=(do pure (.value (←Instr.makeInterface t (ρ x)))):=by unfold execOp; simp only[ho]
 simp only[comp] at hc
 split at hc
 ·rename_i ht
  obtain⟨a,ha,rfl⟩:=Option.map_eq_some_iff.1 hc
  simp only[sem,convT,Option.some.injEq,Prod.mk.injEq] at hr
  obtain⟨_,rfl⟩:=hr
  exact OpOk.pure hs hex (run_makeInterface (P:=P) w t (ρ x) ht) (.iface t _ _ (hv x (by simp[Op.operands]) a ha))
 ·cases hc
theorem sound_convert(s d:TypeId)(x:Operand):Sound P (.convert s d x):=by
 intro C ρ G bx w id ve o c p r ho hc hr hp hs hu hv
 have hex:execOp ρ o=(do pure (.value (←convert s d (ρ x)))):=by unfold execOp; simp only[ho]
 simp only[comp] at hc
 split at hc
 ·rename_i a ks kd ha h1 h2
  injection hc with hc
  subst hc
  have hx:=hv x (by simp[Op.operands]) a ha
  simp only[sem,convT] at hr
  split at hr
  ·rename_i k n he
   simp only[Option.some.injEq,Prod.mk.injEq] at hr
   obtain⟨_,rfl⟩:=hr
   rw[he] at hx
   have hv1:ρ x = .int k n:=by generalize ρ x=vx at hx; cases hx; rfl
   have hk:P.intKind d=kd:=by simp[Program.intKind,h2]
   have:=run_convert_int (P:=P) w s d k n (by simp[h1]) (by rw[hk]; exact h2)
   rw[hk] at this
   exact OpOk.pure hs hex (by rw[hv1]; exact this) (.int _ _)
  ·cases hr
 ·rename_i a e ha h1 h2
  split at hc
  ·rename_i he8
   injection hc with hc
   subst hc
   have hx:=hv x (by simp[Op.operands]) a ha
   simp only[sem,convT] at hr
   split at hr
   ·rename_i l he
    simp only[Option.some.injEq,Prod.mk.injEq] at hr
    obtain⟨rfl,rfl⟩:=hr
    rw[he] at hx
    have hv1:ρ x = .string ⟨⟨l⟩⟩:=by generalize ρ x=vx at hx; cases hx; rfl
    have h3:P.underlying e=some (.int .u8):=by
     unfold isU8T at he8
     split at he8
     ·assumption
     ·cases he8
    exact OpOk.made hex (by rw[hv1]; exact tobytes_ok hs h1 h2 h3 hp id)
   ·cases hr
  ·cases hc
 ·rename_i a e ha h1 h2
  split at hc
  ·rename_i he8
   injection hc with hc
   subst hc
   have hx:=hv x (by simp[Op.operands]) a ha
   have h3:P.underlying e=some (.int .u8):=by
    unfold isU8T at he8
    split at he8
    ·assumption
    ·cases he8
   simp only[sem,convT] at hr
   split at hr
   ·cases hr
   ·rename_i hns
    split at hr
    ·rename_i p0 ys rd hel
     simp only[Option.some.injEq,Prod.mk.injEq] at hr
     obtain⟨rfl,rfl⟩:=hr
     rcases bytes_at hs hx (fun s h=>hns s h) (elemsT_ok hel hp.1) hp.2 with⟨n,c,hv1,hy⟩|⟨ad,c,hv1,hcell⟩
     ·subst hy
      exact OpOk.pure hs hex (by rw[hv1]; exact run_convert_bytes_nil (P:=P) w s e h1 h3 n c d h2) (.str [])
     ·have hl:=run_loadCells_list (P:=P) w ad ((ys.map fun y=>(match y with | .int _ n=>n|_=>0:Int)).map (Value.int .u8)) (fun j v hj=>by
       simp only[List.getElem?_map,Option.map_eq_some_iff] at hj
       obtain⟨_,⟨y,hy,rfl⟩,rfl⟩:=hj
       exact hcell j y hy)
      simp only[List.length_map] at hl
      have hpush:∀(l:List AV) (r:ByteArray),l.all isU8=true→(l.map fun y=>(match y with | .int _ n=>n|_=>0:Int)).foldl (fun r n=>r.push (UInt8.ofNat n.toNat)) r=⟨r.data++(l.map toU8).toArray⟩:=by
       intro l
       induction l with
       | nil=>intro r _; simp
       | cons y l ih =>
        intro r hall
        simp only[List.all_cons,Bool.and_eq_true] at hall
        simp only[List.map_cons,List.foldl_cons]
        rw[ih _ hall.2]
        cases y<;>simp[isU8] at hall
        simp[ByteArray.push,toU8]
      have hrun:(convert s d (ρ x)).run P w = .ok (.string ⟨⟨ys.map toU8⟩⟩) w:=by
       rw[hv1,run_convert_bytes_string w s d e _ _ _ h1 h3 h2,run_bytesToString w ad ys.length c _ hl,hpush ys _ hp.2]
       have he0:ByteArray.empty.data = #[]:=rfl
       rw[he0]
       simp
      exact OpOk.pure hs hex hrun (.str _)
    ·cases hr
  ·cases hc
 ·cases hc
end
end Go.Am
namespace Go.Am
set_option linter.all false
open Go Go.RowKit
section
variable {P:Program}
theorem sound_none{op:Op}(h:comp P op=none):Sound P op:=by
 intro C ρ G bx w id ve o c p r ho hc
 rw[h] at hc; cases hc
theorem sound_pick(c a b:Operand):Sound P (.pick c a b):=by
 intro C ρ G bx w id ve o cc p r ho hc hr
 simp only[comp] at hc
 split at hc
 ·injection hc with hc
  subst hc
  simp[sem] at hr
 ·cases hc
theorem sound_panic(x:Operand):Sound P (.panic x):=by
 intro C ρ G bx w id ve o cc p r ho hc hr
 simp only[comp,Option.map_eq_some_iff] at hc
 obtain⟨a,_,rfl⟩:=hc
 simp[sem] at hr
theorem compCall_sem{ca:Callee}{xs:List Operand}{ts:List TypeId}{c:COp}(h:compCall P ca xs ts=some c):(∃x t,ca = .builtin .len∧xs=[x]∧ts=[t])∨(∃x y t u,ca = .builtin .append∧xs=[x,y]∧ts=[t,u])∨(∃(mx:Bool) (x y:Operand) (t u:TypeId),ca = .builtin (match mx with|true=>.max|false=>.min)∧xs=[x,y]∧ts=[t,u])∨∀ve bx id,sem ve bx id c=none:=by
 unfold compCall at h
 split at h
 ·exact .inl ⟨_,_,rfl,rfl,rfl⟩
 ·exact .inr (.inl ⟨_,_,_,_,rfl,rfl,rfl⟩)
 ·exact .inr (.inr (.inl ⟨false,_,_,_,_,rfl,rfl,rfl⟩))
 ·exact .inr (.inr (.inl ⟨true,_,_,_,_,rfl,rfl,rfl⟩))
 ·simp only[Option.map_eq_some_iff] at h
  obtain⟨ys,_,rfl⟩:=h
  exact .inr (.inr (.inr fun _ _ _=>rfl))
 ·simp only[Option.map_eq_some_iff] at h
  obtain⟨ys,_,rfl⟩:=h
  exact .inr (.inr (.inr fun _ _ _=>rfl))
 ·cases h
theorem sound_call(c:Call):Sound P (.call c):=by
 intro C ρ G bx w id ve o cc p r ho hc hr hp hs hu hv
 have hc':=hc
 simp only[comp] at hc'
 obtain⟨ca,xs,ts⟩:=c
 rcases compCall_sem hc' with⟨x,t,h1,h2,h3⟩|⟨x,y,t,u,h1,h2,h3⟩|⟨mx,x,y,t,u,h1,h2,h3⟩|h
 ·simp only at h1 h2 h3
  have h2':xs = #[x]:=by apply Array.ext'; simpa using h2
  have h3':ts = #[t]:=by apply Array.ext'; simpa using h3
  subst h1 h2' h3'
  exact sound_len x t C ρ G bx w id ve o cc p r ho hc hr hp hs hu hv
 ·simp only at h1 h2 h3
  have h2':xs = #[x,y]:=by apply Array.ext'; simpa using h2
  have h3':ts = #[t,u]:=by apply Array.ext'; simpa using h3
  subst h1 h2' h3'
  exact sound_append x y t u C ρ G bx w id ve o cc p r ho hc hr hp hs hu hv
 ·simp only at h1 h2 h3
  have h2':xs = #[x,y]:=by apply Array.ext'; simpa using h2
  have h3':ts = #[t,u]:=by apply Array.ext'; simpa using h3
  subst h1 h2' h3'
  exact sound_mm mx x y t u C ρ G bx w id ve o cc p r ho hc hr hp hs hu hv
 ·rw[h] at hr; cases hr
theorem sound_all(op:Op):Sound P op:=by
 cases op with
 | move x=>exact sound_move x
 | assign x=>exact sound_assign x
 | pick c a b=>exact sound_pick c a b
 | alloc t=>exact sound_alloc t
 | box t x=>exact sound_box t x
 | build t ps=>exact sound_build t ps
 | buildSlice t n ps=>exact sound_bslice t n ps
 | load t x=>exact sound_load t x
 | store t x v=>exact sound_store t x v
 | nilCheck x=>exact sound_nilCheck x
 | binOp op t x y u=>exact sound_binOp op t x y u
 | unOp op t x=>exact sound_unOp op t x
 | convert s d x=>exact sound_convert s d x
 | makeFunc fn first caps =>
  cases fn with
  | func f=>exact sound_makeFunc f first caps
  | _=>exact sound_none rfl
 | makeSlice t l c=>exact sound_makeSlice t l c
 | slice t x lo hi m =>
  cases m with
  | none=>exact sound_slice t x lo hi
  | some m=>exact sound_none rfl
 | fieldAddr t x k=>exact sound_fieldAddr t x k
 | indexAddr t x i=>exact sound_indexAddr t x i
 | index t x i=>exact sound_index t x i
 | extract x i=>exact sound_extract x i
 | call c=>exact sound_call c
 | makeInterface t x=>exact sound_mki t x
 | field t x k=>exact sound_field t x k
 | typeAssert x u t b=>exact sound_ta x u t b
 | panic x=>exact sound_panic x
 | _=>exact sound_none rfl
end
end Go.Am
namespace Go.Am
set_option linter.all false
open Go Go.RowKit
def Has(bx:Nat→Option Bx)(rd:List (Nat×Bx)):Prop:=∀q∈rd,bx q.1=some q.2
theorem Has.nil{bx:Nat→Option Bx}:Has bx []:=fun q hq=>by cases hq
theorem Has.left{bx:Nat→Option Bx}{a b:List (Nat×Bx)}(h:Has bx (a++b)):Has bx a:=fun q hq=>h q (by simp[hq])
theorem Has.right{bx:Nat→Option Bx}{a b:List (Nat×Bx)}(h:Has bx (a++b)):Has bx b:=fun q hq=>h q (by simp[hq])
theorem Has.app{bx:Nat→Option Bx}{a b:List (Nat×Bx)}(h:Has bx a)(k:Has bx b):Has bx (a++b):=fun q hq=>(List.mem_append.1 hq).elim (h q) (k q)
theorem Has.one{bx:Nat→Option Bx}{i:Nat}{b:Bx}(h:bx i=some b):Has bx [(i,b)]:=fun q hq=>by simp only[List.mem_singleton] at hq; subst hq; exact h
theorem Has.get{bx:Nat→Option Bx}{i:Nat}{b:Bx}(h:Has bx [(i,b)]):bx i=some b:=h (i,b) (by simp)
section
variable {bx bx':Nat→Option Bx}
theorem lookT_local{x:AV}{p:Prop}{cs:List AV}{rd:List (Nat×Bx)}(h:lookT bx x=some (p,cs,rd)):Has bx rd∧(Has bx' rd→lookT bx' x=some (p,cs,rd)):=by
 unfold lookT at h
 split at h
 ·simp only[Option.some.injEq,Prod.mk.injEq] at h
  obtain⟨rfl,rfl,rfl⟩:=h
  exact⟨Has.nil,fun _=>rfl⟩
 ·split at h
  ·rename_i b hb
   simp only[Option.some.injEq,Prod.mk.injEq] at h
   obtain⟨rfl,rfl,rfl⟩:=h
   exact⟨Has.one hb,fun hx=>by simp only[lookT,hx.get]⟩
  ·cases h
 ·cases h
theorem fieldT_local{off:Nat}{x r:AV}{p:Prop}{rd:List (Nat×Bx)}(h:fieldT bx off x=some (p,r,rd)):Has bx rd∧(Has bx' rd→fieldT bx' off x=some (p,r,rd)):=by
 unfold fieldT at h
 split at h
 ·simp only[Option.some.injEq,Prod.mk.injEq] at h
  obtain⟨rfl,rfl,rfl⟩:=h
  exact⟨Has.nil,fun _=>rfl⟩
 ·split at h
  ·rename_i b hb
   simp only[Option.some.injEq,Prod.mk.injEq] at h
   obtain⟨rfl,rfl,rfl⟩:=h
   exact⟨Has.one hb,fun hx=>by simp only[fieldT,hx.get]⟩
  ·cases h
 ·cases h
theorem indexT_local{s:Nat}{z x i r:AV}{p:Prop}{rd:List (Nat×Bx)}(h:indexT s z bx x i=some (p,r,rd)):Has bx rd∧(Has bx' rd→indexT s z bx' x i=some (p,r,rd)):=by
 unfold indexT at h
 split at h
 ·simp only[Option.some.injEq,Prod.mk.injEq] at h
  obtain⟨rfl,rfl,rfl⟩:=h
  exact⟨Has.nil,fun _=>rfl⟩
 ·split at h
  ·rename_i b hb
   simp only[Option.some.injEq,Prod.mk.injEq] at h
   obtain⟨rfl,rfl,rfl⟩:=h
   exact⟨Has.one hb,fun hx=>by simp only[indexT,hx.get]⟩
  ·cases h
 ·cases h
theorem lenT_local{x r:AV}{rd:List (Nat×Bx)}(h:lenT bx x=some (r,rd)):Has bx rd∧(Has bx' rd→lenT bx' x=some (r,rd)):=by
 unfold lenT at h
 split at h<;>first
  | (simp only[Option.some.injEq,Prod.mk.injEq] at h; obtain⟨rfl,rfl⟩:=h; exact⟨Has.nil,fun _=>rfl⟩)
  | (split at h
     ·rename_i b hb
      simp only[Option.some.injEq,Prod.mk.injEq] at h; obtain⟨rfl,rfl⟩:=h
      exact⟨Has.one hb,fun hx=>by simp only[lenT,hx.get]⟩
     ·cases h)
  | cases h
theorem elemsT_local{x:AV}{p:Prop}{ys:List AV}{rd:List (Nat×Bx)}(h:elemsT bx x=some (p,ys,rd)):Has bx rd∧(Has bx' rd→elemsT bx' x=some (p,ys,rd)):=by
 unfold elemsT at h
 split at h<;>first
  | (simp only[Option.some.injEq,Prod.mk.injEq] at h; obtain⟨rfl,rfl,rfl⟩:=h; exact⟨Has.nil,fun _=>rfl⟩)
  | (split at h
     ·rename_i b hb
      simp only[Option.some.injEq,Prod.mk.injEq] at h; obtain⟨rfl,rfl,rfl⟩:=h
      exact⟨Has.one hb,fun hx=>by simp only[elemsT,hx.get]⟩
     ·cases h)
  | cases h
theorem rsv1T_local{x:AV}(hp:(rsv1T bx x).1):Has bx (rsv1T bx x).2.2∧(Has bx' (rsv1T bx x).2.2→rsv1T bx' x=rsv1T bx x):=by
 cases x with
 | bsl id off len =>
  simp only[rsv1T] at hp ⊢
  cases hb:bx id with
  | none=>simp only[hb] at hp
  | some b =>
   simp only
   exact⟨Has.one hb,fun hx=>by simp only[hx.get]⟩
 | _=>exact⟨Has.nil,fun _=>rfl⟩
theorem rsvL_local:∀{l:List AV},(rsvL bx l).1→Has bx (rsvL bx l).2.2∧(Has bx' (rsvL bx l).2.2→rsvL bx' l=rsvL bx l)
 | [],_=>⟨Has.nil,fun _=>rfl⟩
 | x::r,hp=>by
  simp only[rsvL] at hp ⊢
  obtain⟨h1,h2⟩:=rsv1T_local (bx':=bx') hp.1
  obtain⟨h3,h4⟩:=rsvL_local (l:=r) hp.2
  exact⟨h1.app h3,fun hx=>by rw[h2 hx.left,h4 hx.right]⟩
theorem rsvT_local{x:AV}(hp:(rsvT bx x).1):Has bx (rsvT bx x).2.2∧(Has bx' (rsvT bx x).2.2→rsvT bx' x=rsvT bx x):=by
 cases x with
 | agg cs =>
  obtain⟨h1,h2⟩:=rsvL_local (bx':=bx') (l:=cs) hp
  exact⟨h1,fun hx=>by simp only[rsvT]; rw[h2 hx]⟩
 | tup cs =>
  obtain⟨h1,h2⟩:=rsvL_local (bx':=bx') (l:=cs) hp
  exact⟨h1,fun hx=>by simp only[rsvT]; rw[h2 hx]⟩
 | bsl id off len=>exact rsv1T_local (bx':=bx') (x:=.bsl id off len) hp
 | _=>exact⟨Has.nil,fun _=>rfl⟩
theorem rsvs_local:∀{l:List AV},(rsvs bx l).1→Has bx (rsvs bx l).2.2∧(Has bx' (rsvs bx l).2.2→rsvs bx' l=rsvs bx l)
 | [],_=>⟨Has.nil,fun _=>rfl⟩
 | x::r,hp=>by
  simp only[rsvs] at hp ⊢
  obtain⟨h1,h2⟩:=rsvT_local (bx':=bx') hp.1
  obtain⟨h3,h4⟩:=rsvs_local (l:=r) hp.2
  exact⟨h1.app h3,fun hx=>by rw[h2 hx.left,h4 hx.right]⟩
end
end Go.Am
namespace Go.Am
set_option linter.all false
open Go Go.RowKit
section
variable {bx bx':Nat→Option Bx}
theorem ldT_local{agg:Bool}{n:Nat}{x:AV}{p:Prop}{r:Rs}(h:ldT agg n (lookT bx x)=some (p,r)):Has bx r.rd∧(Has bx' r.rd→ldT agg n (lookT bx' x)=some (p,r)):=by
 cases hl:lookT bx x with
 | none=>rw[hl] at h; cases h
 | some q =>
  obtain⟨p0,cs,rd⟩:=q
  rw[hl] at h
  obtain⟨h1,h2⟩:=lookT_local (bx':=bx') hl
  have hrd:r.rd=rd:=by
   unfold ldT at h
   cases agg with
   | true=>simp only[Option.some.injEq,Prod.mk.injEq] at h; rw[←h.2]
   | false=>cases cs<;>simp only[Option.some.injEq,Prod.mk.injEq,reduceCtorEq] at h; rw[←h.2]
  rw[hrd]
  exact⟨h1,fun hx=>by rw[h2 hx]; exact h⟩
theorem stT_local{n:Nat}{x v:AV}{p:Prop}{r:Rs}(h:stT bx n x v=some (p,r)):Has bx r.rd∧(Has bx' r.rd→stT bx' n x v=some (p,r)):=by
 unfold stT at h
 split at h
 ·split at h
  ·rename_i b hb
   simp only[Option.some.injEq,Prod.mk.injEq] at h
   obtain⟨rfl,rfl⟩:=h
   exact⟨Has.one hb,fun hx=>by simp only[stT,hx.get]⟩
  ·cases h
 ·cases h
theorem appT_local{d:AV}{bytes id:Nat}{x:AV}{ys:List AV}{p:Prop}{r:Rs}(h:appT d bytes bx id x ys=some (p,r)):Has bx r.rd∧(Has bx' r.rd→appT d bytes bx' id x ys=some (p,r)):=by
 unfold appT at h
 split at h
 ·simp only[Option.some.injEq,Prod.mk.injEq] at h
  obtain⟨rfl,rfl⟩:=h
  exact⟨Has.nil,fun _=>rfl⟩
 ·split at h
  ·rename_i b hb
   simp only[Option.some.injEq,Prod.mk.injEq] at h
   obtain⟨rfl,rfl⟩:=h
   exact⟨Has.one hb,fun hx=>by simp only[appT,hx.get]⟩
  ·cases h
 ·cases h
theorem convT_local{k:CK}{x:AV}{p:Prop}{r:Rs}(h:convT bx k x=some (p,r)):Has bx r.rd∧(Has bx' r.rd→convT bx' k x=some (p,r)):=by
 cases k with
 | same=>simp only[convT,Option.some.injEq,Prod.mk.injEq] at h; obtain⟨rfl,rfl⟩:=h; exact⟨Has.nil,fun _=>rfl⟩
 | mki t=>simp only[convT,Option.some.injEq,Prod.mk.injEq] at h; obtain⟨rfl,rfl⟩:=h; exact⟨Has.nil,fun _=>rfl⟩
 | rcv t=>simp only[convT,Option.some.injEq,Prod.mk.injEq] at h; obtain⟨rfl,rfl⟩:=h; exact⟨Has.nil,fun _=>rfl⟩
 | fld i =>
  simp only[convT] at h
  split at h
  ·split at h
   ·rename_i hq
    simp only[Option.some.injEq,Prod.mk.injEq] at h
    obtain⟨rfl,rfl⟩:=h
    exact⟨Has.nil,fun _=>by simp only[convT,hq]⟩
   ·cases h
  ·cases h
 | ta t=>simp only[convT] at h; split at h<;>first|(split at h<;>first|(simp only[Option.some.injEq,Prod.mk.injEq] at h; obtain⟨rfl,rfl⟩:=h; exact⟨Has.nil,fun _=>by simp_all[convT]⟩)|cases h)|cases h
 | int k=>simp only[convT] at h; split at h<;>first|(simp only[Option.some.injEq,Prod.mk.injEq] at h; obtain⟨rfl,rfl⟩:=h; exact⟨Has.nil,fun _=>rfl⟩)|cases h
 | bytes=>simp only[convT] at h; split at h<;>first|(simp only[Option.some.injEq,Prod.mk.injEq] at h; obtain⟨rfl,rfl⟩:=h; exact⟨Has.nil,fun _=>rfl⟩)|cases h
 | str =>
  have hs:∀s,x≠.str s:=fun s hs=>by subst hs; simp[convT] at h
  have key:∀b:Nat→Option Bx,convT b .str x=match elemsT b x with
   | some (p,ys,rd)=>some (p∧ys.all isU8=true,⟨.str (ys.map toU8),rd,[]⟩)
   | none=>none:=fun b=>by
   cases x<;>first|rfl|exact (hs _ rfl).elim
  rw[key] at h
  cases he:elemsT bx x with
  | none=>rw[he] at h; cases h
  | some q =>
   obtain⟨p0,ys,rd⟩:=q
   rw[he] at h
   simp only[Option.some.injEq,Prod.mk.injEq] at h
   obtain⟨rfl,rfl⟩:=h
   obtain⟨h1,h2⟩:=elemsT_local (bx':=bx') he
   exact⟨h1,fun hx=>by rw[key,h2 hx]⟩
theorem sem_local{ve:Opd→AV}{id:Nat}{c:COp}{p:Prop}{r:Rs}(h:sem ve bx id c=some (p,r))(hp:p):Has bx r.rd∧(Has bx' r.rd→sem ve bx' id c=some (p,r)):=by
 have plain:r.rd=[]→(∀b,sem ve b id c=sem ve bx id c)→Has bx r.rd∧(Has bx' r.rd→sem ve bx' id c=some (p,r)):=fun h1 h2=>⟨by rw[h1]; exact Has.nil,fun _=>by rw[h2]; exact h⟩
 have keep:∀(q:Option (Prop×AV)),(match q with|some (p,r)=>some (p,(⟨r,[],[]⟩:Rs))|none=>none)=some (p,r)→r.rd=[]:=fun q hq=>by
  cases q with
  | none=>cases hq
  | some q=>simp only[Option.some.injEq,Prod.mk.injEq] at hq; rw[←hq.2]
 have named:∀(f:(Nat→Option Bx)→Option (Prop×AV×List (Nat×Bx))),(∀p0 r0 rd,f bx=some (p0,r0,rd)→Has bx rd∧(Has bx' rd→f bx'=some (p0,r0,rd))) →
   (match f bx with|some (p,r,rd)=>some (p,(⟨r,rd,[]⟩:Rs))|none=>none)=some (p,r)→Has bx r.rd∧(Has bx' r.rd→(match f bx' with|some (p,r,rd)=>some (p,(⟨r,rd,[]⟩:Rs))|none=>none)=some (p,r)):=fun f hf hq=>by
  cases he:f bx with
  | none=>rw[he] at hq; cases hq
  | some q =>
   obtain⟨p0,r0,rd⟩:=q
   rw[he] at hq
   simp only[Option.some.injEq,Prod.mk.injEq] at hq
   obtain⟨rfl,rfl⟩:=hq
   obtain⟨h1,h2⟩:=hf _ _ _ he
   exact⟨h1,fun hx=>by rw[h2 hx]⟩
 cases c with
 | ld agg n x=>exact ldT_local h
 | st n x v=>exact stT_local h
 | conv k x=>exact convT_local h
 | mv x=>exact plain (by simp only[sem,Option.some.injEq,Prod.mk.injEq] at h; rw[←h.2]) fun b=>rfl
 | alloc z=>exact plain (by simp only[sem,Option.some.injEq,Prod.mk.injEq] at h; rw[←h.2]) fun b=>rfl
 | box x=>exact plain (by simp only[sem,Option.some.injEq,Prod.mk.injEq] at h; rw[←h.2]) fun b=>rfl
 | mkf f caps=>exact plain (by simp only[sem,Option.some.injEq,Prod.mk.injEq] at h; rw[←h.2]) fun b=>rfl
 | pick c a b=>cases h
 | call f xs=>cases h
 | callv x xs=>cases h
 | pnk x=>cases h
 | build zs ps =>
  refine plain ?_ fun b=>rfl
  simp only[sem] at h
  split at h
  ·simp only[Option.some.injEq,Prod.mk.injEq] at h; rw[←h.2]
  ·cases h
 | bin op eqs x y=>exact plain (keep _ h) fun b=>rfl
 | mm mx x y=>exact plain (keep _ h) fun b=>rfl
 | un op x=>exact plain (keep _ h) fun b=>rfl
 | mks z bytes l c =>
  refine plain ?_ fun b=>rfl
  simp only[sem] at h
  split at h
  ·simp only[Option.some.injEq,Prod.mk.injEq] at h; rw[←h.2]
  ·cases h
 | ix x i =>
  refine plain ?_ fun b=>rfl
  simp only[sem] at h
  split at h
  ·simp only[Option.some.injEq,Prod.mk.injEq] at h; rw[←h.2]
  ·cases h
 | ext x i =>
  refine plain ?_ fun b=>rfl
  simp only[sem] at h
  split at h
  ·split at h
   ·simp only[Option.some.injEq,Prod.mk.injEq] at h; rw[←h.2]
   ·cases h
  ·cases h
 | slis x lo hi =>
  refine plain ?_ fun b=>rfl
  simp only[sem,slisT] at h
  split at h
  ·split at h
   ·split at h
    ·simp only[Option.some.injEq,Prod.mk.injEq] at h; rw[←h.2]
    ·cases h
   ·cases h
  ·cases h
 | fa off x=>exact named (fun b=>fieldT b off (ve x)) (fun _ _ _ h=>fieldT_local h) h
 | ia s z x i=>exact named (fun b=>indexT s z b (ve x) (ve i)) (fun _ _ _ h=>indexT_local h) h
 | len st x =>
  simp only[sem] at h ⊢
  cases he:lenT bx (ve x) with
  | none=>rw[he] at h; cases h
  | some q =>
   obtain⟨r0,rd⟩:=q
   rw[he] at h
   simp only[Option.some.injEq,Prod.mk.injEq] at h
   obtain⟨rfl,rfl⟩:=h
   obtain⟨h1,h2⟩:=lenT_local (bx':=bx') he
   exact⟨h1,fun hx=>by rw[h2 hx]⟩
 | chk x =>
  simp only[sem] at h ⊢
  cases hv:ve x<;>rw[hv] at h<;>simp only at h⊢<;> try cases h
  ·rename_i j i off
   cases hb:bx j with
   | none=>rw[hb] at h; cases h
   | some b =>
    rw[hb] at h
    simp only[Option.some.injEq,Prod.mk.injEq] at h
    obtain⟨rfl,rfl⟩:=h
    exact⟨Has.one hb,fun hx=>by rw[hx.get]⟩
  ·exact⟨Has.nil,fun _=>rfl⟩
  ·exact⟨Has.nil,fun _=>rfl⟩
 | bslice z n ps =>
  simp only[sem,Option.some.injEq,Prod.mk.injEq] at h
  obtain⟨rfl,rfl⟩:=h
  obtain⟨h1,h2⟩:=rsvs_local (bx':=bx') hp.1
  exact⟨h1,fun hx=>by simp only[sem]; rw[h2 hx]⟩
 | sli n x lo hi =>
  simp only[sem,sliT] at h ⊢
  split at h
  ·rename_i xs he
   split at h
   ·split at h
    ·simp only[Option.some.injEq,Prod.mk.injEq] at h
     obtain⟨rfl,rfl⟩:=h
     obtain⟨h1,h2⟩:=rsvT_local (bx':=bx') hp.1.1
     refine⟨h1,fun hx=>?_⟩
     rw[h2 hx]
     simp[*]
    ·cases h
   ·cases h
  ·cases h
 | app st z bytes x y =>
  simp only[sem] at h ⊢
  cases he:elemsT bx (ve y) with
  | none=>rw[he] at h; cases h
  | some q =>
   obtain⟨p0,ys,rd⟩:=q
   rw[he] at h
   simp only at h
   cases ha:appT z bytes bx id (ve x) ys with
   | none=>rw[ha] at h; cases h
   | some q =>
    obtain⟨q0,r0⟩:=q
    rw[ha] at h
    simp only[Option.some.injEq,Prod.mk.injEq] at h
    obtain⟨rfl,rfl⟩:=h
    obtain⟨h1,h2⟩:=elemsT_local (bx':=bx') he
    obtain⟨h3,h4⟩:=appT_local (bx':=bx') ha
    exact⟨h1.app h3,fun hx=>by rw[h2 hx.left]; simp only; rw[h4 hx.right]⟩
end
end Go.Am
