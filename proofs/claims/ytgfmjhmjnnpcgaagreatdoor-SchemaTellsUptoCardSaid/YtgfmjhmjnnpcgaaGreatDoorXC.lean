/- Parts of the proof: an abstract machine for Go functions, and what functions of the program give back (Am27, Am28, Am29, Am30, Am31, Am32, Am33, Am34, Am35, Am36, Am37, Am38, Am39, Am40, Am41, Am42, Am43, Ck). No condition. -/
import Derived.Test.YtgfmjhmjnnpcgaaGreatDoorXB
import Derived.IntWalk
import Derived.ProofKit
import Derived.WideShapes
import Derived.Carry
import Derived.SizedLaws
namespace Go.Am
set_option linter.all false
open Go Go.RowKit
def PlainF (P : Program) (f : Nat) : Prop := ∃ fn, P.funcs[f]? = some fn ∧ (fn.name == "runtime.NumGoroutine") = false ∧ fn.body.isNone = false
def FnOk(P:Program)(f:Nat)(args:List AV)(rd:List (Nat×Bx))(id:Nat)(res:AV)(wr:List (Nat×Option Bx)):Prop :=
 PlainF P f∧∀(C:Cx P) (G:Gh) (bx:Nat→Option Bx) (w:World) (vs:Array Value) (nb:Nat),RS C G bx w→RVs G w args vs→Has bx rd→(∀x,nb≤x→¬G.used x)→(∀x,id≤x→x<id+1024→¬G.used x) →
  Calls P f vs w fun e w'=>∃v G',e = .returned v∧RS C G' (appl bx wr) w'∧Evo G w G' w'∧RV G' w' res v∧∀x,G'.used x→G.used x∨(id≤x∧x<id+1024)
def goL:List (Nat×Bx)→List (Nat×Option Bx)
 | []=>[]
 | (i,_)::l=>(i,none)::goL l
def FnPn(P:Program)(f:Nat)(args:List AV)(rd:List (Nat×Bx))(id:Nat)(pv:AV):Prop :=
 PlainF P f∧∀(C:Cx P) (G:Gh) (bx:Nat→Option Bx) (w:World) (vs:Array Value) (nb:Nat),RS C G bx w→RVs G w args vs→Has bx rd→(∀x,nb≤x→¬G.used x)→(∀x,id≤x→x<id+1024→¬G.used x) →
  Calls P f vs w fun e w'=>∃v G',e = .panicked [{ v:=v,recovered:=false }]∧RS C G' (appl bx (goL rd)) w'∧Evo G w G' w'∧RV G' w' pv v∧∀x,G'.used x→G.used x∨(id≤x∧x<id+1024)
def FnE(P:Program)(f:Nat)(args:List AV)(rd:List (Nat×Bx))(id:Nat):Except AV (AV×List (Nat×Option Bx))→Prop
 | .ok (v,wr)=>FnOk P f args rd id v wr
 | .error pv=>FnPn P f args rd id pv
abbrev Fr:=Nat→Option (Bool×AV)
def veF(F:Fr):Opd→AV
 | .t n=>match F n with
  | some (_,v)=>v
  | none=>.nili
 | .c v=>v
 | .f n=>.fn n []
def ceF(F:Fr)(n:Nat):Bool:=match F n with
 | some (c,_)=>c
 | none=>false
def ceO(F:Fr):Opd→Bool
 | .t n=>ceF F n
 | _=>true
structure DescF{P:Program}(C:Cx P)(N:Nat)(D:List Deferred)(n0:Nat)(G0:Gh)(w0:World)(F:Fr)(B:Nat→Option Bx)(U:Nat→Prop)(G:Gh)(a:Act)(w:World):Prop where
 ev:Evo G0 w0 G w
 rs:RS C G B w
 used:∀id,G.used id→U id
 old:∀id,id<n0→G.used id→G0.used id
 fr:∀n c v,F n=some (c,v)→(c=true→RV G w v (a.tmps.getD n undef))∧(c=false→a.tmps.getD n undef=undef)
 size:a.tmps.size=N
 defers:a.defers=D
structure CR where
 dst:Option Nat
 g:Option (Nat×Bool)
 us:List Nat
 op:COp
 deriving Inhabited
structure RR where
 c:Bool
 v:AV
 rd:List (Nat×Bx)
 wr:List (Nat×Option Bx)
def AV.isBoolB:AV→Bool
 | .bool _=>true
 | _=>false
def AV.isT:AV→Bool
 | .bool b=>b
 | _=>false
def cndF(F:Fr):Option (Nat×Bool)→Bool
 | none=>true
 | some (s,want)=>ceF F s&&((veF F (.t s)).isT==want)
def gokF(F:Fr):Option (Nat×Bool)→Prop
 | none=>True
 | some (s,_)=>(F s).isSome=true∧(ceF F s=true→(veF F (.t s)).isBoolB=true)
def pickB(c a b:Bool):Bool:=(c&&a)||(!c&&b)
def CallG(K:List AV→List (Nat×Bx)→List (Nat×Option Bx)→Prop)(B:Nat→Option Bx)(args:List AV)(r:RR):Prop :=
 (K args r.rd r.wr∧Has B r.rd) ∨
 (∃rd wr,(rsvs B args).1∧K (rsvs B args).2.1 rd wr∧Has B rd∧(∀q∈rd,∀q1∈(rsvs B args).2.2,q.1≠q1.1)∧r.rd=(rsvs B args).2.2++rd∧r.wr=wrF (rsvs B args).2.2++wr)
def CallR(P:Program)(id:Nat)(B:Nat→Option Bx)(f:Nat)(args:List AV)(r:RR):Prop:=CallG (fun as rd wr=>FnOk P f as rd id r.v wr) B args r
def CallP(P:Program)(id:Nat)(B:Nat→Option Bx)(f:Nat)(args:List AV)(pv:AV)(r:RR):Prop:=CallG (fun as rd wr=>FnPn P f as rd id pv∧wr=goL rd) B args r
inductive ExR(P:Program)(us:List Nat)(id:Nat)(F:Fr)(B:Nat→Option Bx):COp→RR→Prop
 | pick (k:Bool) (c a b:Opd) (h1:ceO F c=true) (h2:(veF F c).isBoolB=true) (h3:(veF F c).isT=true→ceO F a=true∧(veF F a).isBoolB=true) (h4:(veF F c).isT=false→ceO F b=true∧(veF F b).isBoolB=true) :
   ExR P us id F B (.pick c a b) ⟨k,.bool (pickB (veF F c).isT (veF F a).isT (veF F b).isT),[],[]⟩
 | call (f:Nat) (xs:List Opd) (r:RR) (hu:us.all (ceF F)=true) (h:CallR P id B f (xs.map (veF F)) r):ExR P us id F B (.call f xs) r
 | callv (x:Opd) (xs:List Opd) (f:Nat) (caps:List AV) (r:RR) (hu:us.all (ceF F)=true) (hx:veF F x = .fn f caps) (h:CallR P id B f (xs.map (veF F)++caps) r):ExR P us id F B (.callv x xs) r
 | callb (x:Opd) (xs:List Opd) (f:Nat) (caps:List AV) (r:RR) (hu:us.all (ceF F)=true) (hx:veF F x = .fnb f caps) (h:CallR P id B f (caps++xs.map (veF F)) r):ExR P us id F B (.callv x xs) r
 | sem (k:Bool) (op:COp) (p:Prop) (v:AV) (rd:List (Nat×Bx)) (wr:List (Nat×Option Bx)) (hu:us.all (ceF F)=true) (h:Am.sem (veF F) B id op=some (p,⟨v,rd,wr⟩)) (hp:p):ExR P us id F B op ⟨k,v,rd,wr⟩
 | keep (k:Bool) (z:AV) (n:Nat) (ps:List (Nat×Opd)) (hu:us.all (ceF F)=true) (ho:setOk n z.cells.length (ps.map fun q=>(q.1,veF F q.2))) :
   ExR P us id F B (.bslice z n ps) ⟨k,.bsl id 0 n,[],[(id,some ⟨setAll (List.replicate n z) (ps.map fun q=>(q.1,veF F q.2)),z,false,false⟩)]⟩
inductive PaR(P:Program)(us:List Nat)(id:Nat)(F:Fr)(B:Nat→Option Bx):COp→AV→RR→Prop
 | call (f:Nat) (xs:List Opd) (pv:AV) (r:RR) (hu:us.all (ceF F)=true) (h:CallP P id B f (xs.map (veF F)) pv r):PaR P us id F B (.call f xs) pv r
 | callv (x:Opd) (xs:List Opd) (f:Nat) (caps:List AV) (pv:AV) (r:RR) (hu:us.all (ceF F)=true) (hx:veF F x = .fn f caps) (h:CallP P id B f (xs.map (veF F)++caps) pv r):PaR P us id F B (.callv x xs) pv r
 | callb (x:Opd) (xs:List Opd) (f:Nat) (caps:List AV) (pv:AV) (r:RR) (hu:us.all (ceF F)=true) (hx:veF F x = .fnb f caps) (h:CallP P id B f (caps++xs.map (veF F)) pv r):PaR P us id F B (.callv x xs) pv r
 | pnk (x:Opd) (t:Nat) (v:AV) (k:Bool) (y:AV) (hu:us.all (ceF F)=true) (hx:veF F x = .iface t v):PaR P us id F B (.pnk x) (.iface t v) ⟨k,y,[],[]⟩
def OpP(P:Program)(cr:CR)(id:Nat)(F:Fr)(B:Nat→Option Bx)(pv:AV)(r:RR):Prop :=
 gokF F cr.g∧cndF F cr.g=true∧PaR P cr.us id F B cr.op pv r
def OpR(P:Program)(cr:CR)(id:Nat)(F:Fr)(B:Nat→Option Bx)(r:RR):Prop :=
 gokF F cr.g∧r.c=cndF F cr.g∧(r.c=true→ExR P cr.us id F B cr.op r)∧(r.c=false→r.wr=[])
/-! ### An operation hangs on what it names alone -/
def Opd.slots:Opd→List Nat
 | .t n=>[n]
 | _=>[]
def oslots:Option Opd→List Nat
 | some x=>x.slots
 | none=>[]
def COp.slots:COp→List Nat
 | .mv x=>x.slots
 | .pick c a b=>c.slots++(a.slots++b.slots)
 | .alloc _=>[]
 | .box x=>x.slots
 | .build _ ps=>ps.flatMap fun q=>q.2.2.slots
 | .bslice _ _ ps=>ps.flatMap fun q=>q.2.slots
 | .ld _ _ x=>x.slots
 | .st _ x v=>x.slots++v.slots
 | .chk x=>x.slots
 | .bin _ _ x y=>x.slots++y.slots
 | .mm _ x y=>x.slots++y.slots
 | .un _ x=>x.slots
 | .conv _ x=>x.slots
 | .mkf _ caps=>caps.flatMap Opd.slots
 | .mks _ _ l c=>l.slots++c.slots
 | .slis x lo hi=>x.slots++(oslots lo++oslots hi)
 | .sli _ x lo hi=>x.slots++(oslots lo++oslots hi)
 | .fa _ x=>x.slots
 | .ia _ _ x i=>x.slots++i.slots
 | .ix x i=>x.slots++i.slots
 | .ext x _=>x.slots
 | .len _ x=>x.slots
 | .app _ _ _ x y=>x.slots++y.slots
 | .call _ args=>args.flatMap Opd.slots
 | .callv x args=>x.slots++args.flatMap Opd.slots
 | .pnk x=>x.slots
section
variable {F F':Fr}
theorem veF_congr{x:Opd}(h:∀n∈x.slots,F n=F' n):veF F x=veF F' x:=by
 cases x with
 | t n=>simp only[veF,h n (by simp[Opd.slots])]
 | _=>rfl
theorem ceO_congr{x:Opd}(h:∀n∈x.slots,F n=F' n):ceO F x=ceO F' x:=by
 cases x with
 | t n=>simp only[ceO,ceF,h n (by simp[Opd.slots])]
 | _=>rfl
theorem veo_congr{x:Option Opd}(h:∀n∈oslots x,F n=F' n):x.map (veF F)=x.map (veF F'):=by
 cases x with
 | none=>rfl
 | some x=>simp only[Option.map_some,veF_congr (x:=x) h]
theorem vel_congr{xs:List Opd}(h:∀n∈xs.flatMap Opd.slots,F n=F' n):xs.map (veF F)=xs.map (veF F') :=
 List.map_congr_left fun x hx=>veF_congr fun n hn=>h n (List.mem_flatMap.2 ⟨x,hx,hn⟩)
theorem sem_congr{B:Nat→Option Bx}{id:Nat}{c:COp}(h:∀n∈c.slots,F n=F' n):sem (veF F) B id c=sem (veF F') B id c:=by
 cases c with
 | alloc z=>rfl
 | build zs ps =>
  have:(ps.map fun q=>(q.1,q.2.1,veF F q.2.2))=ps.map fun q=>(q.1,q.2.1,veF F' q.2.2):=List.map_congr_left fun q hq=>by
   rw[veF_congr fun n hn=>h n (List.mem_flatMap.2 ⟨q,hq,hn⟩)]
  simp only[sem,this]
 | bslice z n ps =>
  have:(ps.map fun q=>veF F q.2)=ps.map fun q=>veF F' q.2:=List.map_congr_left fun q hq=>by
   rw[veF_congr fun n hn=>h n (List.mem_flatMap.2 ⟨q,hq,hn⟩)]
  simp only[sem,this]
 | mkf f caps=>simp only[sem,vel_congr (xs:=caps) h]
 | slis x lo hi =>
  simp only[COp.slots,List.mem_append] at h
  simp only[sem,veF_congr fun n hn=>h n (.inl hn),veo_congr fun n hn=>h n (.inr (.inl hn)),veo_congr fun n hn=>h n (.inr (.inr hn))]
 | sli k x lo hi =>
  simp only[COp.slots,List.mem_append] at h
  simp only[sem,veF_congr fun n hn=>h n (.inl hn),veo_congr fun n hn=>h n (.inr (.inl hn)),veo_congr fun n hn=>h n (.inr (.inr hn))]
 | st n x y|bin op eqs x y|mm mx x y|mks z b x y|ia s z x y|ix x y|app s z b x y =>
  simp only[COp.slots,List.mem_append] at h
  simp only[sem,veF_congr fun n hn=>h n (.inl hn),veF_congr fun n hn=>h n (.inr hn)]
 | call f xs=>rfl
 | callv x xs=>rfl
 | pick a b c=>rfl
 | pnk x=>rfl
 | mv x|box x|ld a n x|chk x|un op x|conv k x|fa off x|ext x i|len s x=>simp only[sem,veF_congr (x:=x) h]
theorem cndF_congr{g:Option (Nat×Bool)}(h:∀s want,g=some (s,want)→F s=F' s):cndF F g=cndF F' g:=by
 cases g with
 | none=>rfl
 | some q=>obtain⟨s,want⟩:=q; simp only[cndF,ceF,veF,h s want rfl]
theorem gokF_congr{g:Option (Nat×Bool)}(h:∀s want,g=some (s,want)→F s=F' s):gokF F g→gokF F' g:=by
 cases g with
 | none=>exact id
 | some q=>obtain⟨s,want⟩:=q; simp only[gokF,ceF,veF,h s want rfl]; exact id
theorem us_congr{us:List Nat}(h:∀n∈us,F n=F' n)(hu:us.all (ceF F)=true):us.all (ceF F')=true:=by
 rw[List.all_eq_true] at hu ⊢
 intro n hn
 have:=hu n hn
 simp only[ceF,h n hn] at this ⊢
 exact this
theorem CallG.local{K:List AV→List (Nat×Bx)→List (Nat×Option Bx)→Prop}{B B':Nat→Option Bx}{args:List AV}{r:RR}(h:CallG K B args r)(hB:Has B' r.rd):CallG K B' args r:=by
 rcases h with⟨h1,h2⟩|⟨rd,wr,h1,h2,h3,h4,h5,h6⟩
 ·exact .inl ⟨h1,hB⟩
 ·rw[h5] at hB
  have e:=(rsvs_local (bx':=B') h1).2 hB.left
  refine .inr ⟨rd,wr,?_⟩
  rw[e]
  exact⟨h1,h2,hB.right,h4,h5,h6⟩
theorem CallG.has{K:List AV→List (Nat×Bx)→List (Nat×Option Bx)→Prop}{B:Nat→Option Bx}{args:List AV}{r:RR}(h:CallG K B args r):Has B r.rd:=by
 rcases h with⟨_,h2⟩|⟨rd,wr,h1,h2,h3,h4,h5,h6⟩
 ·exact h2
 ·rw[h5]; exact (rsvs_local (bx':=B) h1).1.app h3
theorem ExR.local{P:Program}{us:List Nat}{id:Nat}{B B':Nat→Option Bx}{op:COp}{r:RR}(h:ExR P us id F B op r)(hF:∀n∈op.slots,F n=F' n)(hu:∀n∈us,F n=F' n)(hB:Has B' r.rd):ExR P us id F' B' op r:=by
 cases h with
 | pick k c a b h1 h2 h3 h4 =>
  simp only[COp.slots,List.mem_append] at hF
  have ec:=veF_congr (F:=F) (F':=F') (x:=c) fun n hn=>hF n (.inl hn)
  have ea:=veF_congr (F:=F) (F':=F') (x:=a) fun n hn=>hF n (.inr (.inl hn))
  have eb:=veF_congr (F:=F) (F':=F') (x:=b) fun n hn=>hF n (.inr (.inr hn))
  have oc:=ceO_congr (F:=F) (F':=F') (x:=c) fun n hn=>hF n (.inl hn)
  have oa:=ceO_congr (F:=F) (F':=F') (x:=a) fun n hn=>hF n (.inr (.inl hn))
  have ob:=ceO_congr (F:=F) (F':=F') (x:=b) fun n hn=>hF n (.inr (.inr hn))
  rw[ec,ea,eb]
  rw[ec] at h2 h3 h4
  rw[oc] at h1
  rw[ea,oa] at h3
  rw[eb,ob] at h4
  exact .pick k c a b h1 h2 h3 h4
 | call f xs r hu' h=>exact .call f xs r (us_congr hu hu') (by rw[←vel_congr (xs:=xs) hF]; exact CallG.local h hB)
 | callv x xs f caps r hu' hx h =>
  simp only[COp.slots,List.mem_append] at hF
  exact .callv x xs f caps r (us_congr hu hu') (by rw[←veF_congr fun n hn=>hF n (.inl hn)]; exact hx) (by rw[←vel_congr (xs:=xs) fun n hn=>hF n (.inr hn)]; exact CallG.local h hB)
 | callb x xs f caps r hu' hx h =>
  simp only[COp.slots,List.mem_append] at hF
  exact .callb x xs f caps r (us_congr hu hu') (by rw[←veF_congr fun n hn=>hF n (.inl hn)]; exact hx) (by rw[←vel_congr (xs:=xs) fun n hn=>hF n (.inr hn)]; exact CallG.local h hB)
 | sem k op p v rd wr hu' h hp =>
  refine .sem k op p v rd wr (us_congr hu hu') ?_ hp
  rw[←sem_congr hF]
  exact (sem_local (bx':=B') h hp).2 hB
 | keep k z n ps hu' ho =>
  have e:(ps.map fun q=>(q.1,veF F q.2))=ps.map fun q=>(q.1,veF F' q.2):=List.map_congr_left fun q hq=>by
   rw[veF_congr fun n hn=>hF n (List.mem_flatMap.2 ⟨q,hq,hn⟩)]
  rw[e] at ho ⊢
  exact .keep k z n ps (us_congr hu hu') ho
theorem OpR.local{P:Program}{cr:CR}{id:Nat}{B B':Nat→Option Bx}{r:RR}(h:OpR P cr id F B r)(hF:∀n∈cr.op.slots,F n=F' n)(hu:∀n∈cr.us,F n=F' n)(hg:∀s want,cr.g=some (s,want)→F s=F' s)(hB:r.c=true→Has B' r.rd):OpR P cr id F' B' r:=by
 obtain⟨h1,h2,h3,h4⟩:=h
 exact⟨gokF_congr hg h1,h2.trans (cndF_congr hg),fun hc=>(h3 hc).local hF hu (hB hc),h4⟩
theorem OpP.local{P:Program}{cr:CR}{id:Nat}{B B':Nat→Option Bx}{pv:AV}{r:RR}(h:OpP P cr id F B pv r)(hF:∀n∈cr.op.slots,F n=F' n)(hu:∀n∈cr.us,F n=F' n)(hg:∀s want,cr.g=some (s,want)→F s=F' s)(hB:Has B' r.rd):OpP P cr id F' B' pv r:=by
 obtain⟨h1,h2,h3⟩:=h
 refine⟨gokF_congr hg h1,(cndF_congr hg).symm.trans h2,?_⟩
 obtain⟨dst,g,us,op⟩:=cr
 cases h3 with
 | call f xs pv r hu' h=>exact .call f xs pv r (us_congr hu hu') (by rw[←vel_congr (xs:=xs) hF]; exact CallG.local h hB)
 | callv x xs f caps pv r hu' hx h =>
  simp only[COp.slots,List.mem_append] at hF
  exact .callv x xs f caps pv r (us_congr hu hu') (by rw[←veF_congr fun n hn=>hF n (.inl hn)]; exact hx) (by rw[←vel_congr (xs:=xs) fun n hn=>hF n (.inr hn)]; exact CallG.local h hB)
 | callb x xs f caps pv r hu' hx h =>
  simp only[COp.slots,List.mem_append] at hF
  exact .callb x xs f caps pv r (us_congr hu hu') (by rw[←veF_congr fun n hn=>hF n (.inl hn)]; exact hx) (by rw[←vel_congr (xs:=xs) fun n hn=>hF n (.inr hn)]; exact CallG.local h hB)
 | pnk x t v k y hu' hx=>exact .pnk x t v k y (us_congr hu hu') (by rw[←veF_congr hF]; exact hx)
theorem OpP.has{P:Program}{cr:CR}{id:Nat}{B:Nat→Option Bx}{pv:AV}{r:RR}(h:OpP P cr id F B pv r):Has B r.rd:=by
 obtain⟨dst,g,us,op⟩:=cr
 cases h.2.2 with
 | call f xs pv r hu' h|callv x xs f caps pv r hu' hx h|callb x xs f caps pv r hu' hx h=>exact CallG.has h
 | pnk=>exact Has.nil
theorem ExR.has{P:Program}{us:List Nat}{id:Nat}{B:Nat→Option Bx}{op:COp}{r:RR}(h:ExR P us id F B op r):Has B r.rd:=by
 cases h with
 | pick=>exact Has.nil
 | call f xs r hu' h|callv x xs f caps r hu' hx h|callb x xs f caps r hu' hx h=>exact CallG.has h
 | sem k op p v rd wr hu' h hp=>exact (sem_local (bx':=B) h hp).1
 | keep=>exact Has.nil
end
end Go.Am
namespace Go.Am
set_option linter.all false
open Go Go.RowKit
def slotOf(ops:Array Oper)(j:Nat):Option Nat:=(ops[j]?).bind (·.dst)
def guardOf(ops:Array Oper):Option (Nat×Bool)→Option (Option (Nat×Bool))
 | none=>some none
 | some (j,want)=>(slotOf ops j).map fun s=>some (s,want)
def usesOf(o:Op):List Nat:=o.operands.toList.filterMap fun | .tmp t=>some t|_=>none
def compR(P:Program)(N:Nat)(ops:Array Oper)(o:Oper):Option CR:=match comp P o.op,guardOf ops o.guard with
 | some c,some g=>if o.dst.all (decide<|· < N)&&c.slots.all ((usesOf o.op).contains ·) then some ⟨o.dst,g,usesOf o.op,c⟩ else none
 | _,_=>none
def updF(F:Fr)(dst:Option Nat)(r:RR):Fr:=match dst with
 | none=>F
 | some d=>upd F d (some (r.c,r.v))
section
variable {P:Program} {C:Cx P} {N:Nat} {D:List Deferred} {n0:Nat} {G0:Gh} {w0:World} {F:Fr} {B:Nat→Option Bx} {U:Nat→Prop} {G:Gh} {a:Act} {w:World} {ops:Array Oper} {Q:Exit→Act→World→Prop}
theorem getD_put(tm:Array Value)(d:Nat)(v:Value)(n:Nat)(hd:d<tm.size):(tm.setIfInBounds d v).getD n undef=if n=d then v else tm.getD n undef:=by
 simp only[Array.getD_eq_getD_getElem?,Array.getElem?_setIfInBounds]
 by_cases h:d=n
 ·subst h; simp[hd]
 ·rw[if_neg h,if_neg (fun e=>h e.symm)]
theorem DescF.put(h:DescF C N D n0 G0 w0 F B U G a w){dst:Option Nat}(hd:∀d,dst=some d→d<N){r:RR}{u:Value}(h1:r.c=true→RV G w r.v u)(h2:r.c=false→u=undef):DescF C N D n0 G0 w0 (updF F dst r) B U G (a.put dst u) w:=by
 cases dst with
 | none=>exact h
 | some d =>
  refine⟨h.ev,h.rs,h.used,h.old,fun n c' v' hl=>?_,by simp[Act.put,h.size],h.defers⟩
  simp only[Act.put]
  rw[getD_put _ _ _ _ (by rw[h.size]; exact hd d rfl)]
  simp only[updF] at hl
  by_cases hn:n=d
  ·subst hn
   rw[upd_eq,Option.some.injEq,Prod.mk.injEq] at hl
   obtain⟨rfl,rfl⟩:=hl
   rw[if_pos rfl]
   exact⟨h1,h2⟩
  ·rw[upd_ne _ _ _ hn] at hl
   rw[if_neg hn]
   exact h.fr n c' v' hl
theorem DescF.step(h:DescF C N D n0 G0 w0 F B U G a w){B':Nat→Option Bx}{U':Nat→Prop}{G':Gh}{w':World}(hr:RS C G' B' w')(e:Evo G w G' w')(hf:∀id,G'.used id→U' id)(ho:∀id,id<n0→G'.used id→G.used id):
  DescF C N D n0 G0 w0 F B' U' G' a w' :=
 ⟨h.ev.trans e,hr,hf,fun id hi hu=>h.old id hi (ho id hi hu),fun n c v hl=>⟨fun hc=>((h.fr n c v hl).1 hc).mono e,(h.fr n c v hl).2⟩,h.size,h.defers⟩
theorem DescF.weak(h:DescF C N D n0 G0 w0 F B U G a w){U':Nat→Prop}(hU:∀id,U id→U' id):DescF C N D n0 G0 w0 F B U' G a w :=
 ⟨h.ev,h.rs,fun id hi=>hU id (h.used id hi),h.old,h.fr,h.size,h.defers⟩
theorem DescF.opd(h:DescF C N D n0 G0 w0 F B U G a w){X:Operand}{x:Opd}(hx:opd X=some x)(hc:∀n,X = .tmp n→ceF F n=true):RV G w (veF F x) (a.eval X):=by
 cases X with
 | tmp n =>
  simp only[Am.opd,Option.some.injEq] at hx
  subst hx
  have:=hc n rfl
  simp only[ceF] at this
  simp only[veF,Act.eval]
  split at this
  ·rename_i c v hl
   subst this
   exact (h.fr n true v hl).1 rfl
  ·cases this
 | const v =>
  simp only[Am.opd,Option.map_eq_some_iff] at hx
  obtain⟨x',h1,rfl⟩:=hx
  exact rv_ofV h1
 | func f =>
  simp only[Am.opd,Option.some.injEq] at hx
  subst hx
  exact .fn f [] #[] rfl fun i y hy=>by simp at hy
 | global g=>cases hx
theorem guard_eq(hd:DescF C N D n0 G0 w0 F B U G a w){o:Oper}{g:Option (Nat×Bool)}(hg:guardOf ops o.guard=some g)(h:gokF F g):Region.wanted o (yielded ops a.tmps)=cndF F g:=by
 unfold Region.wanted
 cases ho:o.guard with
 | none =>
  rw[ho] at hg
  simp only[guardOf,Option.some.injEq] at hg
  subst hg
  rfl
 | some q =>
  obtain⟨j,want⟩:=q
  rw[ho] at hg
  simp only[guardOf,Option.map_eq_some_iff] at hg
  obtain⟨s,hs,rfl⟩:=hg
  obtain⟨h1,h2⟩:=h
  simp only[cndF,ceF,veF] at h1 h2 ⊢
  obtain⟨⟨c,v⟩,hl⟩:=Option.isSome_iff_exists.1 h1
  rw[hl] at h2 ⊢
  simp only at h2 ⊢
  have hf:=hd.fr s c v hl
  have hs':((ops[j]?).bind (·.dst))=some s:=hs
  unfold yielded
  rw[hs']
  simp only[Option.bind_some]
  cases c with
  | true =>
   have hv:=h2 rfl
   have hrv:=hf.1 rfl
   cases v<;>simp only[AV.isBoolB,Bool.false_eq_true] at hv
   rename_i b
   rw[Array.getD_eq_getD_getElem?] at hrv
   cases hg:a.tmps[s]? with
   | none=>rw[hg] at hrv; cases hrv
   | some u =>
    rw[hg] at hrv
    simp only[Option.getD_some] at hrv
    cases hrv
    simp only[AV.isT,Bool.true_and]
    cases b<;>cases want<;>rfl
  | false =>
   have hu:=hf.2 rfl
   rw[Array.getD_eq_getD_getElem?] at hu
   cases hg:a.tmps[s]? with
   | none=>rfl
   | some u =>
    rw[hg] at hu
    simp only[Option.getD_some] at hu
    subst hu
    rfl
theorem reads_of(h:DescF C N D n0 G0 w0 F B U G a w){op:Op}(hu:(usesOf op).all (ceF F)=true):Reads G w a.eval (veF F) op.operands.toList:=fun X hX x hx=>h.opd hx fun n hn=>by
 subst hn
 refine (List.all_eq_true.1 hu) n ?_
 exact List.mem_filterMap.2 ⟨.tmp n,hX,rfl⟩
theorem wpOp_skip{i:Nat}{o:Oper}{Kc:Act→World→Prop}(ho:ops[i]?=some o)(hw:Region.wanted o (yielded ops a.tmps)=false)(h:Kc (a.put o.dst undef) w):wpOp P ops Q i Kc a w:=by
 unfold wpOp
 rw[ho]
 simp only[hw,Bool.false_eq_true,if_false]
 exact h
theorem wpOp_run{i:Nat}{o:Oper}{Kc:Act→World→Prop}(ho:ops[i]?=some o)(hw:Region.wanted o (yielded ops a.tmps)=true)(h:o.wp P a w Kc Q):wpOp P ops Q i Kc a w:=by
 unfold wpOp
 rw[ho]
 simp only[hw,if_true]
 exact .inl h
theorem wp_of_ok{o:Oper}{Kc:Act→World→Prop}{bx:Nat→Option Bx}{id:Nat}{r:Rs}(h:OpOk P C a.eval o G bx w id r)
  (hK:∀u w' G',RS C G' (appl bx r.wr) w'→Evo G w G' w'→RV G' w' r.v u→(∀x,G'.used x→G.used x∨x=id)→Kc (a.put o.dst u) w'):o.wp P a w Kc Q:=by
 obtain⟨nx,w',G',v,h1,h2,h3,h4,h5,h6⟩:=h
 unfold Oper.wp
 rw[h1]
 rcases h2 with rfl|⟨rfl,rfl⟩
 ·exact hK v w' G' h3 h4 h5 h6
 ·exact hK undef w' G' h3 h4 h5 h6
theorem callFunc_run{f:Nat}(h:PlainF P f)(vs:Array Value)(w:World):(callFunc f vs).run P w = .ok (.enter f vs) w:=by
 obtain⟨fn,h1,h2,h3⟩:=h
 have h2' : ¬ fn.name = "runtime.NumGoroutine" := by simpa using h2
 have h3':fn.body≠none:=fun h=>by rw[h] at h3; cases h3
 simp[callFunc,h1,h2',h3']
theorem rvs_append{xs ys:List AV}{us vs:Array Value}(h:RVs G w xs us)(k:RVs G w ys vs):RVs G w (xs++ys) (us++vs):=by
 refine RVs.of_get (by simp[h.1,k.1]) fun i y u hy hu=>?_
 by_cases hi:i<xs.length
 ·rw[List.getElem?_append_left hi] at hy
  rw[Array.getElem?_append_left (by rw[←h.1]; exact hi)] at hu
  obtain⟨u',h1,h2⟩:=h.get hy
  rw[h1] at hu; injection hu with hu; subst hu; exact h2
 ·rw[List.getElem?_append_right (by omega)] at hy
  rw[Array.getElem?_append_right (by have:=h.1; omega),←h.1] at hu
  obtain⟨u',h1,h2⟩:=k.get hy
  rw[h1] at hu; injection hu with hu; subst hu; exact h2
theorem CallG.enter{K:List AV→List (Nat×Bx)→List (Nat×Option Bx)→Prop}{args:List AV}{vs:Array Value}{r:RR}(h:CallG K B args r)(hs:RS C G B w)(hv:RVs G w args vs):
  ∃G1 as rd wr B1,K as rd wr∧RS C G1 B1 w∧RVs G1 w as vs∧Has B1 rd∧(∀x,G1.used x→G.used x)∧Evo G w G1 w∧appl B1 wr=appl B r.wr:=by
 rcases h with⟨h1,h2⟩|⟨rd,wr,h1,h2,h3,h4,h5,h6⟩
 ·exact⟨G,args,r.rd,r.wr,B,h1,hs,hv,h2,fun _ h=>h,Evo.refl _ _,rfl⟩
 ·obtain⟨G1,s1,e1,u1,st⟩:=freezeAll (rsvs B args).2.2 hs fun q hq=>let ⟨q1,q2⟩:=rsvs_mem h1 q hq; ⟨.inl q1,q2⟩
  obtain⟨l1,l2⟩:=rsvs_rv e1 h1 st
  refine⟨G1,(rsvs B args).2.1,rd,wr,_,h2,s1,⟨l1.trans hv.1,l2 (fun i=>vs.getD i undef) hv.2⟩,fun q hq=>?_,u1,e1,by rw[h6,appl_append]⟩
  have key:∀(l:List (Nat×Bx)) (B:Nat→Option Bx),(∀q1∈l,q.1≠q1.1)→appl B (wrF l) q.1=B q.1:=fun l=>by
   induction l with
   | nil=>intro B _; rfl
   | cons p l ih =>
    intro B hl
    obtain⟨i,b⟩:=p
    simp only[wrF,appl]
    rw[ih _ fun q1 hq1=>hl q1 (by simp[hq1]),upd_ne _ _ _ (hl (i,b) (by simp))]
  rw[key _ B (h4 q hq)]
  exact h3 q hq
theorem wp_call{o:Oper}{Kc:Act→World→Prop}{f:Nat}{args:List AV}{vs:Array Value}{r:RR}(hrun:PlainF P f→(execOp a.eval o).run P w = .ok (.enter f vs) w)(hs:RS C G B w)(hv:RVs G w args vs){id:Nat}(h:CallR P id B f args r){nb:Nat}(hnb:∀x,nb≤x→¬G.used x)(hid:∀x,id≤x→x<id+1024→¬G.used x)
  (hK:∀u w' G',RS C G' (appl B r.wr) w'→Evo G w G' w'→RV G' w' r.v u→(∀x,G'.used x→G.used x∨(id≤x∧x<id+1024))→Kc (a.put o.dst u) w'):o.wp P a w Kc Q:=by
 obtain⟨G1,as,rd,wr,B1,⟨hp,h2⟩,s1,hv1,hh,u1,e1,ea⟩:=CallG.enter h hs hv
 unfold Oper.wp
 rw[hrun hp,Oper.upon_enter]
 refine Calls.mono (h2 C G1 B1 w vs nb s1 hv1 hh (fun x hx hu=>hnb x hx (u1 x hu)) fun x hx hx' hu=>hid x hx hx' (u1 x hu)) fun e w' he=>?_
 obtain⟨v,G',rfl,k1,k2,k3,k4⟩:=he
 exact hK v w' G' (by rw[←ea]; exact k1) (e1.trans k2) k3 fun x hx=>(k4 x hx).imp (u1 x) _root_.id
theorem wp_callP{o:Oper}{Kc:Act→World→Prop}{f:Nat}{args:List AV}{vs:Array Value}{pv:AV}{r:RR}(hrun:PlainF P f→(execOp a.eval o).run P w = .ok (.enter f vs) w)(hs:RS C G B w)(hv:RVs G w args vs){id:Nat}(h:CallP P id B f args pv r){nb:Nat}(hnb:∀x,nb≤x→¬G.used x)(hid:∀x,id≤x→x<id+1024→¬G.used x)
  (hK:∀u w' G',RS C G' (appl B r.wr) w'→Evo G w G' w'→RV G' w' pv u→(∀x,G'.used x→G.used x∨(id≤x∧x<id+1024))→Q (.panic [{ v:=u,recovered:=false }]) a w'):o.wp P a w Kc Q:=by
 obtain⟨G1,as,rd,wr,B1,⟨⟨hp,h2⟩,hwr⟩,s1,hv1,hh,u1,e1,ea⟩:=CallG.enter h hs hv
 unfold Oper.wp
 rw[hrun hp,Oper.upon_enter]
 refine Calls.mono (h2 C G1 B1 w vs nb s1 hv1 hh (fun x hx hu=>hnb x hx (u1 x hu)) fun x hx hx' hu=>hid x hx hx' (u1 x hu)) fun e w' he=>?_
 obtain⟨v,G',rfl,k1,k2,k3,k4⟩:=he
 exact hK v w' G' (by rw[←ea,hwr]; exact k1) (e1.trans k2) k3 fun x hx=>(k4 x hx).imp (u1 x) _root_.id
theorem map_ne{α:Type}{x:Option α}{f:α→COp}{c:COp}(h:x.map f=some c)(hf:∀a,f a≠c):False:=by
 obtain⟨a,_,h2⟩:=Option.map_eq_some_iff.1 h
 exact hf a h2
theorem comp_pick{op:Op}{x y z:Opd}(h:comp P op=some (.pick x y z)):∃c a b,op = .pick c a b∧opd c=some x∧opd a=some y∧opd b=some z:=by
 unfold comp at h
 split at h
 case h_3 c a b =>
  split at h
  ·rename_i h1 h2 h3
   injection h with h
   injection h with e1 e2 e3
   subst e1 e2 e3
   exact⟨c,a,b,rfl,h1,h2,h3⟩
  ·cases h
 all_goals try simp only[compCall,compLen,compApp,compMM] at h
 all_goals repeat' split at h
 all_goals first|cases h; done|(refine (map_ne h ?_).elim; intro a h; cases h; done)
theorem comp_call{op:Op}{f:Nat}{xs:List Opd}(h:comp P op=some (.call f xs)):∃c:Call,op = .call c∧c.callee = .value (.func f)∧opds c.args.toList=some xs:=by
 unfold comp at h
 split at h
 all_goals try simp only[compCall,compLen,compApp,compMM] at h
 all_goals repeat' split at h
 all_goals first|cases h; done|(refine (map_ne h ?_).elim; intro a h; cases h; done)|skip
 rename_i c _ _ _ g hc
 obtain⟨a,h1,h2⟩:=Option.map_eq_some_iff.1 h
 injection h2 with e1 e2
 subst e1 e2
 exact⟨c,rfl,hc,h1⟩
theorem comp_callv{op:Op}{x:Opd}{xs:List Opd}(h:comp P op=some (.callv x xs)):∃(c:Call) (t:Nat),op = .call c∧x = .t t∧c.callee = .value (.tmp t)∧opds c.args.toList=some xs:=by
 unfold comp at h
 split at h
 all_goals try simp only[compCall,compLen,compApp,compMM] at h
 all_goals repeat' split at h
 all_goals first|cases h; done|(refine (map_ne h ?_).elim; intro a h; cases h; done)|skip
 rename_i c _ _ _ t hc
 obtain⟨a,h1,h2⟩:=Option.map_eq_some_iff.1 h
 injection h2 with e1 e2
 subst e1 e2
 exact⟨c,t,rfl,rfl,hc,h1⟩
theorem comp_pnk{op:Op}{x:Opd}(h:comp P op=some (.pnk x)):∃X,op = .panic X∧opd X=some x:=by
 unfold comp at h
 split at h
 all_goals try simp only[compCall,compLen,compApp,compMM] at h
 all_goals repeat' split at h
 all_goals first|cases h; done|(refine (map_ne h ?_).elim; intro a h; cases h; done)|skip
 obtain⟨a,h1,h2⟩:=Option.map_eq_some_iff.1 h
 injection h2 with h2
 subst h2
 exact⟨_,rfl,h1⟩
theorem comp_bslice{op:Op}{z:AV}{n:Nat}{ps:List (Nat×Opd)}(h:comp P op=some (.bslice z n ps)):∃(t:TypeId) (qs:Array (Nat×Operand)),op = .buildSlice t n qs∧opdp qs.toList=some ps:=by
 unfold comp at h
 split at h
 all_goals try simp only[compCall,compLen,compApp,compMM,compBuild] at h
 all_goals repeat' split at h
 all_goals first|cases h; done|(refine (map_ne h ?_).elim; intro a h; cases h; done)|skip
 all_goals injection h with h
 all_goals injection h with h1 h2 h3
 all_goals subst h1 h2 h3
 all_goals exact⟨_,_,rfl,by assumption⟩
theorem keep_ok{ρ:Operand→Value}{o:Oper}{bx:Nat→Option Bx}{id:Nat}{ve:Opd→AV}{P:Program}{C:Cx P}{G:Gh}{w:World}(hs:RS C G bx w)(hu:¬G.used id){t:TypeId}{n:Nat}{ps:Array (Nat×Operand)}(ho:o.op = .buildSlice t n ps){z:AV}{qs:List (Nat×Opd)}(hc:comp P (.buildSlice t n ps)=some (.bslice z n qs))
  (hso:setOk n z.cells.length (qs.map fun q=>(q.1,ve q.2))) (hv:Reads G w ρ ve (Op.buildSlice t n ps).operands.toList):OpOk P C ρ o G bx w id ⟨.bsl id 0 n,[],[(id,some ⟨setAll (List.replicate n z) (qs.map fun q=>(q.1,ve q.2)),z,false,false⟩)]⟩:=by
 simp only[comp] at hc
 split at hc
 ·rename_i e ht
  split at hc
  ·rename_i z' s qs' hz hsz hqs
   split at hc
   ·rename_i hcond
    injection hc with hc
    injection hc with e1 e2 e3
    subst e1 e3
    obtain⟨c1,c2,c3⟩:=hcond
    obtain⟨zv,z1,z2⟩:=zeroAV_ok hz
    obtain⟨l1,l2⟩:=opdp_ok hqs
    have hmade:=bslice_ok (P:=P) hs hu ht hsz z1 (z2 G w) c1 (len:=n) c2 (by simp only[maxLen]; omega) (by rw[←c1]; exact hso) (vs:=ps.map fun q=>(q.1,ρ q.2)) (by simp[l1]) fun i q q' hq hq'=>by
     simp only[Array.getElem?_map,Option.map_eq_some_iff] at hq'
     obtain⟨b,hb,rfl⟩:=hq'
     have hb':ps.toList[i]?=some b:=by simpa using hb
     simp only[List.getElem?_map,Option.map_eq_some_iff] at hq
     obtain⟨a,ha,rfl⟩:=hq
     obtain⟨k1,k2⟩:=l2 i a b ha hb'
     refine⟨k1,?_⟩
     exact hv b.2 (by simp only[Op.operands,List.mem_map,Array.toList_map]; exact⟨b,List.mem_of_getElem? hb',rfl⟩) _ k2
    obtain⟨v,w',G2,h1,h2,h3,h4,h5⟩:=hmade
    refine⟨.value v,w',G2,v,?_,.inl rfl,h2,h3,h4,h5⟩
    unfold execOp
    simp only[ho,Sem.run_bind,h1,Result.andThen_ok,Sem.run_pure]
   ·cases hc
  ·cases hc
 ·cases hc
theorem call_run(hd:DescF C N D n0 G0 w0 F B U G a w){o:Oper}{f:Nat}{xs:List Opd}(hcomp:comp P o.op=some (.call f xs))(hu:(usesOf o.op).all (ceF F)=true):∃vs,(PlainF P f→(execOp a.eval o).run P w = .ok (.enter f vs) w)∧RVs G w (xs.map (veF F)) vs:=by
 obtain⟨c,hop,hcal,hxs⟩:=comp_call hcomp
 refine⟨c.args.map a.eval,fun hp=>?_,rvs_of_opds hxs fun X hX x hx=>reads_of hd hu X (by rw[hop]; simp[Op.operands,Call.operands]; exact .inr (by simpa using hX)) x hx⟩
 unfold execOp
 simp only[hop,resolve,hcal,Act.eval,Deferred.ofValue,Sem.run_bind,Sem.run_pure,Result.andThen_ok,invoke]
 rw[callFunc_run hp]
 simp
theorem callv_run(hd:DescF C N D n0 G0 w0 F B U G a w){o:Oper}{f:Nat}{x:Opd}{xs:List Opd}{caps:List AV}(hcomp:comp P o.op=some (.callv x xs))(hu:(usesOf o.op).all (ceF F)=true)(hx:veF F x = .fn f caps):∃vs,(PlainF P f→(execOp a.eval o).run P w = .ok (.enter f vs) w)∧RVs G w (xs.map (veF F)++caps) vs:=by
 obtain⟨c,t,hop,rfl,hcal,hxs⟩:=comp_callv hcomp
 have hr:=reads_of hd hu
 have hfv:RV G w (veF F (.t t)) (a.eval (.tmp t)):=hr (.tmp t) (by rw[hop]; simp[Op.operands,Call.operands,hcal]) (.t t) rfl
 rw[hx] at hfv
 obtain⟨us,e1,e2⟩:∃us,a.eval (.tmp t) = .func (.func f) #[] us∧RVs G w caps us:=by
  generalize a.eval (.tmp t)=u at hfv
  cases hfv with|fn _ _ vs hl hh=>exact⟨vs,rfl,hl,hh⟩
 have e3:RVs G w (xs.map (veF F)) (c.args.map a.eval):=rvs_of_opds hxs fun X hX x hx=>hr X (by rw[hop]; simp[Op.operands,Call.operands]; exact .inr (by simpa using hX)) x hx
 refine⟨c.args.map a.eval++us,fun hp=>?_,rvs_append e3 e2⟩
 unfold execOp
 simp only[hop,resolve,hcal,e1,Deferred.ofValue,Sem.run_bind,Sem.run_pure,Result.andThen_ok,invoke]
 rw[callFunc_run hp]
 simp
theorem callb_run(hd:DescF C N D n0 G0 w0 F B U G a w){o:Oper}{f:Nat}{x:Opd}{xs:List Opd}{caps:List AV}(hcomp:comp P o.op=some (.callv x xs))(hu:(usesOf o.op).all (ceF F)=true)(hx:veF F x = .fnb f caps):∃vs,(PlainF P f→(execOp a.eval o).run P w = .ok (.enter f vs) w)∧RVs G w (caps++xs.map (veF F)) vs:=by
 obtain⟨c,t,hop,rfl,hcal,hxs⟩:=comp_callv hcomp
 have hr:=reads_of hd hu
 have hfv:RV G w (veF F (.t t)) (a.eval (.tmp t)):=hr (.tmp t) (by rw[hop]; simp[Op.operands,Call.operands,hcal]) (.t t) rfl
 rw[hx] at hfv
 obtain⟨us,e1,e2⟩:∃us,a.eval (.tmp t) = .func (.func f) us #[]∧RVs G w caps us:=by
  generalize a.eval (.tmp t)=u at hfv
  cases hfv with|fnb _ _ vs hl hh=>exact⟨vs,rfl,hl,hh⟩
 have e3:RVs G w (xs.map (veF F)) (c.args.map a.eval):=rvs_of_opds hxs fun X hX x hx=>hr X (by rw[hop]; simp[Op.operands,Call.operands]; exact .inr (by simpa using hX)) x hx
 refine⟨us++c.args.map a.eval,fun hp=>?_,rvs_append e2 e3⟩
 unfold execOp
 simp only[hop,resolve,hcal,e1,Deferred.ofValue,Sem.run_bind,Sem.run_pure,Result.andThen_ok,invoke]
 rw[callFunc_run hp]
 simp
theorem op_ok(hd:DescF C N D n0 G0 w0 F B U G a w){j:Nat}{o:Oper}(ho:ops[j]?=some o){cr:CR}(hc:compR P N ops o=some cr){id:Nat}{r:RR}(h:OpR P cr id F B r)(hid:∀x,id≤x→x<id+1024→¬G.used x)(hn:n0≤id){nb:Nat}(hnb:∀x,nb≤x→¬G.used x){Kc:Act→World→Prop}
  (hK:∀G' u w',DescF C N D n0 G0 w0 (updF F cr.dst r) (appl B r.wr) (fun x=>G.used x∨(id≤x∧x<id+1024)) G' (a.put o.dst u) w'→Kc (a.put o.dst u) w'):wpOp P ops Q j Kc a w:=by
 unfold compR at hc
 split at hc
 ·rename_i c g hcomp hg
  split at hc
  ·rename_i hdst
   injection hc with hc
   subst hc
   simp only[Bool.and_eq_true] at hdst
   obtain⟨hdst,-⟩:=hdst
   have hd':∀d,o.dst=some d→d<N:=fun d hd=>by rw[hd] at hdst; simpa using hdst
   obtain⟨h1,h2,h3,h4⟩:=h
   simp only at h1 h2 h3 hK
   have hw:=guard_eq hd (o:=o) hg h1
   rw[←h2] at hw
   cases hrc:r.c with
   | false =>
    rw[hrc] at hw
    have hwr:=h4 hrc
    refine wpOp_skip ho hw (hK G undef w ?_)
    rw[hwr]
    exact DescF.put (hd.step hd.rs (Evo.refl _ _) (fun x hx=>.inl hx) fun _ _ h=>h) hd' (fun hc=>by rw[hrc] at hc; cases hc) fun _=>rfl
   | true =>
    rw[hrc] at hw
    refine wpOp_run ho hw ?_
    have fin:∀u w' G',RS C G' (appl B r.wr) w'→Evo G w G' w'→RV G' w' r.v u→(∀x,G'.used x→G.used x∨(id≤x∧x<id+1024))→Kc (a.put o.dst u) w':=fun u w' G' k1 k2 k3 k4 =>
     hK G' u w' (DescF.put (hd.step k1 k2 (fun x hx=>k4 x hx) fun x hx hu=>(k4 x hu).resolve_right (by omega)) hd' (fun _=>k3) fun hc=>by rw[hrc] at hc; cases hc)
    cases h3 hrc with
    | pick k x y z p1 p2 p3 p4 =>
     obtain⟨c,x',y',hop,e1,e2,e3⟩:=comp_pick hcomp
     have rd:∀{X:Operand} {x:Opd},opd X=some x→ceO F x=true→RV G w (veF F x) (a.eval X):=fun {X x} hX hx=>hd.opd hX fun n hn=>by
      subst hn
      simp only[Am.opd,Option.some.injEq] at hX
      subst hX
      exact hx
     have rb:∀{X:Operand} {x:Opd},opd X=some x→ceO F x=true→(veF F x).isBoolB=true→a.eval X = .bool (veF F x).isT:=fun {X x} hX hx hb=>by
      have h:=rd hX hx
      generalize a.eval X=u at h
      generalize veF F x=v at h hb
      cases h<;>simp[AV.isBoolB] at hb
      rfl
     have hc:=rb e1 p1 p2
     unfold Oper.wp
     have hrun:(execOp a.eval o).run P w = .ok (.value (if (veF F x).isT then a.eval x' else a.eval y')) w:=by
      unfold execOp
      simp only[hop,hc,asBool,Sem.run_bind,Sem.run_pure,Result.andThen_ok]
     rw[hrun,Oper.upon_value]
     refine fin _ w G hd.rs (Evo.refl _ _) ?_ fun x hx=>.inl hx
     cases ht:(veF F x).isT with
     | true =>
      obtain⟨q1,q2⟩:=p3 ht
      simp only[if_true,rb e2 q1 q2,pickB,Bool.true_and,Bool.not_true,Bool.false_and,Bool.or_false]
      exact .bool _
     | false =>
      obtain⟨q1,q2⟩:=p4 ht
      simp only[Bool.false_eq_true,if_false,rb e3 q1 q2,pickB,Bool.false_and,Bool.not_false,Bool.true_and,Bool.false_or]
      exact .bool _
    | call f xs r hu hcall =>
     obtain⟨vs,e1,e2⟩:=call_run hd hcomp hu (o:=o)
     exact wp_call e1 hd.rs e2 hcall hnb hid fun u w' G' k1 k2 k3 k4=>fin u w' G' k1 k2 k3 k4
    | callv x xs f caps r hu hx hcall =>
     obtain⟨vs,e1,e2⟩:=callv_run hd hcomp hu hx (o:=o)
     exact wp_call e1 hd.rs e2 hcall hnb hid fun u w' G' k1 k2 k3 k4=>fin u w' G' k1 k2 k3 k4
    | callb x xs f caps r hu hx hcall =>
     obtain⟨vs,e1,e2⟩:=callb_run hd hcomp hu hx (o:=o)
     exact wp_call e1 hd.rs e2 hcall hnb hid fun u w' G' k1 k2 k3 k4=>fin u w' G' k1 k2 k3 k4
    | keep k z n ps hu hso =>
     obtain⟨t,qs,hop,hqs⟩:=comp_bslice hcomp
     rw[hop] at hcomp
     refine wp_of_ok (keep_ok hd.rs (hid id (Nat.le_refl _) (by omega)) hop hcomp hso (by rw[←hop]; exact reads_of hd hu)) fun u w' G' k1 k2 k3 k4=>fin u w' G' k1 k2 k3 fun x hx=>(k4 x hx).imp _root_.id fun h=>by omega
    | sem k op p v rd wr hu hsem hp =>
     refine wp_of_ok (sound_all o.op C a.eval G B w id (veF F) o c p ⟨v,rd,wr⟩ rfl hcomp hsem hp hd.rs (hid id (Nat.le_refl _) (by omega)) (reads_of hd hu)) fun u w' G' k1 k2 k3 k4=>fin u w' G' k1 k2 k3 fun x hx=>(k4 x hx).imp _root_.id fun h=>by omega
  ·cases hc
 ·cases hc
theorem op_pn(hd:DescF C N D n0 G0 w0 F B U G a w){j:Nat}{o:Oper}(ho:ops[j]?=some o){cr:CR}(hc:compR P N ops o=some cr){id:Nat}{pv:AV}{r:RR}(h:OpP P cr id F B pv r)(hid:∀x,id≤x→x<id+1024→¬G.used x)(hn:n0≤id){nb:Nat}(hnb:∀x,nb≤x→¬G.used x){Kc:Act→World→Prop}
  (hK:∀G' u w',DescF C N D n0 G0 w0 F (appl B r.wr) (fun x=>G.used x∨(id≤x∧x<id+1024)) G' a w'→RV G' w' pv u→Q (.panic [{ v:=u,recovered:=false }]) a w'):wpOp P ops Q j Kc a w:=by
 unfold compR at hc
 split at hc
 ·rename_i c g hcomp hg
  split at hc
  ·injection hc with hc
   subst hc
   obtain⟨h1,h2,h3⟩:=h
   simp only at h1 h2 h3
   have hw:=guard_eq hd (o:=o) hg h1
   rw[h2] at hw
   refine wpOp_run ho hw ?_
   have fin:∀u w' G',RS C G' (appl B r.wr) w'→Evo G w G' w'→RV G' w' pv u→(∀x,G'.used x→G.used x∨(id≤x∧x<id+1024))→Q (.panic [{ v:=u,recovered:=false }]) a w':=fun u w' G' k1 k2 k3 k4 =>
    hK G' u w' (hd.step k1 k2 (fun x hx=>k4 x hx) fun x hx hu=>(k4 x hu).resolve_right (by omega)) k3
   cases h3 with
   | call f xs pv r hu hcall =>
    obtain⟨vs,e1,e2⟩:=call_run hd hcomp hu (o:=o)
    exact wp_callP e1 hd.rs e2 hcall hnb hid fun u w' G' k1 k2 k3 k4=>fin u w' G' k1 k2 k3 k4
   | callv x xs f caps pv r hu hx hcall =>
    obtain⟨vs,e1,e2⟩:=callv_run hd hcomp hu hx (o:=o)
    exact wp_callP e1 hd.rs e2 hcall hnb hid fun u w' G' k1 k2 k3 k4=>fin u w' G' k1 k2 k3 k4
   | callb x xs f caps pv r hu hx hcall =>
    obtain⟨vs,e1,e2⟩:=callb_run hd hcomp hu hx (o:=o)
    exact wp_callP e1 hd.rs e2 hcall hnb hid fun u w' G' k1 k2 k3 k4=>fin u w' G' k1 k2 k3 k4
   | pnk x t v k y hu hx =>
    obtain⟨X,hop,hX⟩:=comp_pnk hcomp
    have hr:=reads_of hd hu X (by rw[hop]; simp[Op.operands]) x hX
    rw[hx] at hr
    obtain⟨u,e1,e2⟩:∃u,a.eval X = .iface t u∧RV G w v u:=by
     generalize a.eval X=z at hr
     cases hr with|iface _ _ u h=>exact⟨u,rfl,h⟩
    have hrun:(execOp a.eval o).run P w = .halt (.panic (.iface t u)) w:=by
     unfold execOp
     simp only[hop,e1]
     rfl
    unfold Oper.wp
    rw[hrun,Oper.upon_panic]
    exact fin _ w G hd.rs (Evo.refl _ _) (.iface t v u e2) fun x hx=>.inl hx
  ·cases hc
 ·cases hc
end
end Go.Am
namespace Go.Am
set_option linter.all false
open Go Go.RowKit
/-! ### Folds over those that were done -/
section
variable {α β:Type} (st:Nat→(α→β)→α→β) (K:Nat→α→Prop)
def foldD(D:Nat→Bool):List Nat→(α→β)→α→β
 | [],f=>f
 | i::l,f=>foldD D l (if D i then st i f else f)
variable {st K} (h1:∀i f x,¬K i x→st i f x=f x) (h2:∀i f g x,K i x→st i f x=st i g x)
include h1 h2
theorem foldD_agree{D D':Nat→Bool}{x:α}:∀{l:List Nat} {f g:α→β},(∀i∈l,K i x→D i=D' i)→f x=g x→foldD st D l f x=foldD st D' l g x
 | [],f,g,_,h=>h
 | i::l,f,g,hD,h=>by
  simp only[foldD]
  refine foldD_agree (fun k hk=>hD k (by simp[hk])) ?_
  by_cases hK:K i x
  ·rw[hD i (by simp) hK]
   split
   ·exact h2 i f g x hK
   ·exact h
  ·have e1:(if D i=true then st i f else f) x=f x:=by split; exact h1 i f x hK; rfl
   have e2:(if D' i=true then st i g else g) x=g x:=by split; exact h1 i g x hK; rfl
   rw[e1,e2,h]
omit h2 in
theorem foldD_skip{D:Nat→Bool}{x:α}:∀{l:List Nat} {f:α→β},(∀i∈l,D i=true→¬K i x)→foldD st D l f x=f x
 | [],f,_=>rfl
 | i::l,f,hD=>by
  simp only[foldD]
  rw[foldD_skip (fun k hk=>hD k (by simp[hk]))]
  split
  ·rename_i h; exact h1 i f x (hD i (by simp) h)
  ·rfl
omit h1 h2 in
theorem foldD_append{D:Nat→Bool}:∀{l l':List Nat} {f:α→β},foldD st D (l++l') f=foldD st D l' (foldD st D l f)
 | [],_,_=>rfl
 | i::l,l',f=>by simp only[List.cons_append,foldD,foldD_append]
theorem foldD_add{D D':Nat→Bool}{l1 l2:List Nat}{j:Nat}{f:α→β}(hj':D' j=true)(hD:∀i,i≠j→D i=D' i)(hl:j∉l2)
  (hc:∀i∈l2,D i=true→∀x,K j x→¬K i x):st j (foldD st D (l1++j::l2) f)=foldD st D' (l1++j::l2) f:=by
 funext x
 by_cases hK:K j x
 ·have:foldD st D' (l1++j::l2) f x=st j (foldD st D' l1 f) x:=by
   rw[foldD_append]
   simp only[foldD,hj',if_true]
   refine foldD_skip h1 fun i hi hd=>?_
   have hij:i≠j:=fun h=>hl (h▸hi)
   exact hc i hi (by rw[hD i hij]; exact hd) x hK
  rw[this]
  exact h2 j _ _ x hK
 ·rw[h1 j _ x hK]
  refine foldD_agree h1 h2 (fun i _ hi=>hD i fun h=>hK (h▸hi)) rfl
end
theorem range_split(j n:Nat)(h:j<n):List.range n=List.range j++j::List.range' (j+1) (n - j - 1):=by
 rw[List.range_eq_range',List.range_eq_range',←List.range'_succ,show n - j - 1+1=n - j by omega]
 have:=List.range'_append_1 (s:=0) (m:=j) (n:=n - j)
 rw[Nat.zero_add,show j+(n - j)=n by omega] at this
 exact this.symm
/-! ### What a region's operations make,one behind the other -/
def keysR(l:List (Nat×Bx)):List Nat:=l.map (·.1)
def keysW(l:List (Nat×Option Bx)):List Nat:=l.map (·.1)
def Runs(P:Program)(base:Nat):Nat→List CR→Fr→(Nat→Option Bx)→List RR→Prop
 | _,[],_,_,[]=>True
 | j,cr::l,F,B,r::rs=>OpR P cr (base+1024*j) F B r∧Runs P base (j+1) l (updF F cr.dst r) (appl B r.wr) rs
 | _,_,_,_,_=>False
def PRuns(P:Program)(base:Nat)(pv:AV)(r:RR):Nat→List CR→Fr→(Nat→Option Bx)→List RR→Prop
 | j,cr::_,F,B,[]=>OpP P cr (base+1024*j) F B pv r
 | j,cr::l,F,B,r0::rs=>OpR P cr (base+1024*j) F B r0∧PRuns P base pv r (j+1) l (updF F cr.dst r0) (appl B r0.wr) rs
 | _,[],_,_,_=>False
def runF:List CR→List RR→Fr→Fr
 | cr::l,r::rs,F=>runF l rs (updF F cr.dst r)
 | _,_,F=>F
def runB:List RR→(Nat→Option Bx)→Nat→Option Bx
 | r::rs,B=>runB rs (appl B r.wr)
 | [],B=>B
def compL(P:Program)(N:Nat)(ops:Array Oper):List Oper→Option (List CR)
 | []=>some []
 | o::l=>match compR P N ops o,compL P N ops l with
  | some c,some cs=>some (c::cs)
  | _,_=>none
theorem compL_get{P:Program}{N:Nat}{ops:Array Oper}:∀{l:List Oper} {cs:List CR},compL P N ops l=some cs→cs.length=l.length∧∀(i:Nat) o,l[i]?=some o→∃c,cs[i]?=some c∧compR P N ops o=some c
 | [],cs,h=>by simp[compL] at h; subst h; exact⟨rfl,fun i o h=>by simp at h⟩
 | o::l,cs,h=>by
  simp only[compL] at h
  split at h
  ·rename_i c cs' hc hl
   injection h with h
   subst h
   obtain⟨k1,k2⟩:=compL_get hl
   refine⟨by simp[k1],fun i o' ho=>?_⟩
   cases i with
   | zero=>simp at ho; subst ho; exact⟨c,rfl,hc⟩
   | succ i=>simpa using k2 i o' (by simpa using ho)
  ·cases h
section
variable {P:Program} {C:Cx P} {N:Nat} {D:List Deferred} {n0:Nat} {G0:Gh} {w0:World} {G:Gh} {a:Act} {w:World} {ops:Array Oper} {Q:Exit→Act→World→Prop}
theorem seq_ok{crs:List CR}(hlen:crs.length=ops.size)(hcr:∀(i:Nat) o,ops[i]?=some o→∃c,crs[i]?=some c∧compR P N ops o=some c){base:Nat}(hn:n0≤base){F':Fr}{B':Nat→Option Bx}
  (hK:∀G a w,DescF C N D n0 G0 w0 F' B' (· < base+1024*ops.size) G a w→Q .normal a w) :
  ∀(m j:Nat) (rs:List RR) (F:Fr) (B:Nat→Option Bx) (G:Gh) (a:Act) (w:World),j+m=ops.size→Runs P base j (crs.drop j) F B rs→runF (crs.drop j) rs F=F'→runB rs B=B'→DescF C N D n0 G0 w0 F B (· < base+1024*j) G a w →
   wpOps P ops Q (List.range' j m) a w:=by
 intro m
 induction m with
 | zero =>
  intro j rs F B G a w hj hr hF hB hd
  have hj':j=ops.size:=by omega
  subst hj'
  rw[List.drop_of_length_le (by omega)] at hr hF
  cases rs with
  | cons=>exact hr.elim
  | nil =>
   simp only[runF] at hF
   simp only[runB] at hB
   subst hF hB
   exact hK G a w hd
 | succ m ih =>
  intro j rs F B G a w hj hr hF hB hd
  have hjn:j<ops.size:=by omega
  obtain⟨o,ho⟩:∃o,ops[j]?=some o:=⟨_,Array.getElem?_eq_getElem hjn⟩
  obtain⟨cr,hc1,hc2⟩:=hcr j o ho
  have hdrop:crs.drop j=cr::crs.drop (j+1):=by
   rw[List.drop_eq_getElem_cons (by omega)]
   rw[List.getElem?_eq_getElem (by omega)] at hc1
   injection hc1 with hc1
   rw[hc1]
  rw[hdrop] at hr hF
  cases rs with
  | nil=>exact hr.elim
  | cons r rs =>
   obtain⟨hr1,hr2⟩:=hr
   rw[List.range'_succ,wpOps_cons]
   refine op_ok hd ho hc2 hr1 (fun x hx _ h=>absurd (hd.used _ h) (by omega)) (by omega) (nb:=base+1024*j) (fun x hx h=>absurd (hd.used _ h) (by omega)) fun G' u w' hd'=>?_
   exact ih (j+1) rs _ _ G' _ w' (by omega) hr2 hF hB (hd'.weak fun id h=>h.elim (fun h=>by have:=hd.used _ h; omega) fun h=>by omega)
theorem seq_pn{crs:List CR}(hlen:crs.length=ops.size)(hcr:∀(i:Nat) o,ops[i]?=some o→∃c,crs[i]?=some c∧compR P N ops o=some c){base:Nat}(hn:n0≤base){pv:AV}{r:RR}{B':Nat→Option Bx}
  (hK:∀G a w u F U,DescF C N D n0 G0 w0 F (appl B' r.wr) U G a w→RV G w pv u→Q (.panic [{ v:=u,recovered:=false }]) a w) :
  ∀(rs:List RR) (m j:Nat) (F:Fr) (B:Nat→Option Bx) (G:Gh) (a:Act) (w:World),j+m=ops.size→PRuns P base pv r j (crs.drop j) F B rs→runB rs B=B'→DescF C N D n0 G0 w0 F B (· < base+1024*j) G a w →
   wpOps P ops Q (List.range' j m) a w:=by
 intro rs
 induction rs with
 | nil =>
  intro m j F B G a w hj hr hB hd
  simp only[runB] at hB
  subst hB
  have hjn:j<ops.size:=by
   rcases Nat.lt_or_ge j ops.size with h|h
   ·exact h
   ·rw[List.drop_of_length_le (by omega)] at hr; exact hr.elim
  obtain⟨o,ho⟩:∃o,ops[j]?=some o:=⟨_,Array.getElem?_eq_getElem hjn⟩
  obtain⟨cr,hc1,hc2⟩:=hcr j o ho
  have hdrop:crs.drop j=cr::crs.drop (j+1):=by
   rw[List.drop_eq_getElem_cons (by omega)]
   rw[List.getElem?_eq_getElem (by omega)] at hc1
   injection hc1 with hc1
   rw[hc1]
  rw[hdrop] at hr
  obtain⟨m,rfl⟩:∃k,m=k+1:=⟨m - 1,by omega⟩
  rw[List.range'_succ,wpOps_cons]
  exact op_pn hd ho hc2 hr (fun x hx _ h=>absurd (hd.used _ h) (by omega)) (by omega) (nb:=base+1024*j) (fun x hx h=>absurd (hd.used _ h) (by omega)) fun G' u w' hd' hv=>hK G' a w' u _ _ hd' hv
 | cons r0 rs ih =>
  intro m j F B G a w hj hr hB hd
  have hjn:j<ops.size:=by
   rcases Nat.lt_or_ge j ops.size with h|h
   ·exact h
   ·rw[List.drop_of_length_le (by omega)] at hr; exact hr.elim
  obtain⟨o,ho⟩:∃o,ops[j]?=some o:=⟨_,Array.getElem?_eq_getElem hjn⟩
  obtain⟨cr,hc1,hc2⟩:=hcr j o ho
  have hdrop:crs.drop j=cr::crs.drop (j+1):=by
   rw[List.drop_eq_getElem_cons (by omega)]
   rw[List.getElem?_eq_getElem (by omega)] at hc1
   injection hc1 with hc1
   rw[hc1]
  rw[hdrop] at hr
  obtain⟨hr1,hr2⟩:=hr
  obtain⟨m,rfl⟩:∃k,m=k+1:=⟨m - 1,by omega⟩
  rw[List.range'_succ,wpOps_cons]
  refine op_ok hd ho hc2 hr1 (fun x hx _ h=>absurd (hd.used _ h) (by omega)) (by omega) (nb:=base+1024*j) (fun x hx h=>absurd (hd.used _ h) (by omega)) fun G' u w' hd'=>?_
  exact ih m (j+1) _ _ G' _ w' (by omega) hr2 hB (hd'.weak fun id h=>h.elim (fun h=>by have:=hd.used _ h; omega) fun h=>by omega)
end
end Go.Am
namespace Go.Am
set_option linter.all false
open Go Go.RowKit
inductive Before(ops:Array Oper):Nat→Nat→Prop
 | one (i j:Nat) (o:Oper) (e:Edge) (ho:ops[j]?=some o) (he:e∈o.after) (hb:Region.binds .any e=true) (hi:e.on=i):Before ops i j
 | more (i k j:Nat) (h1:Before ops i k) (h2:Before ops k j):Before ops i j
def Closed(ops:Array Oper)(D:Nat→Bool):Prop:=∀(j:Nat) o,ops[j]?=some o→D j=true→∀e∈o.after,Region.binds .any e=true→D e.on=true
theorem Closed.before{ops:Array Oper}{D:Nat→Bool}(h:Closed ops D){i j:Nat}(hb:Before ops i j):D j=true→D i=true:=by
 induction hb with
 | one i j o e ho he hb hi=>intro hj; subst hi; exact h j o ho hj e he hb
 | more i k j _ _ ih1 ih2=>exact fun hj=>ih1 (ih2 hj)
theorem before_ready{ops:Array Oper}{D:Nat→Bool}(h:Closed ops D){i j:Nat}(hb:Before ops i j):(∀o,ops[j]?=some o→∀e∈o.after,Region.binds .any e=true→D e.on=true)→D i=true:=by
 induction hb with
 | one i j o e ho he hb hi=>intro hj; subst hi; exact hj o ho e he hb
 | more i k j h1 _ ih1 ih2=>exact fun hj=>h.before h1 (ih2 hj)
def bindsOf(o:Oper):List Nat:=(o.after.toList.filter fun e=>Region.binds .any e).map (·.on)
theorem mem_bindsOf{o:Oper}{i:Nat}:i∈bindsOf o↔∃e∈o.after,Region.binds .any e=true∧e.on=i:=by
 simp[bindsOf,and_assoc]
def dedup(l:List Nat):List Nat:=l.foldr (fun x r=>if r.contains x then r else x::r) []
theorem mem_dedup{x:Nat}:∀{l:List Nat},x∈dedup l→x∈l
 | [],h=>h
 | y::l,h=>by
  have e:dedup (y::l)=if (dedup l).contains y then dedup l else y::dedup l:=rfl
  rw[e] at h
  split at h
  ·exact List.mem_cons_of_mem _ (mem_dedup h)
  ·rcases List.mem_cons.1 h with rfl|h
   ·simp
   ·exact List.mem_cons_of_mem _ (mem_dedup h)
def ancs:List Oper→List (List Nat)→List (List Nat)
 | [],acc=>acc
 | o::l,acc=>ancs l (acc++[dedup ((bindsOf o).flatMap fun i=>i::acc.getD i [])])
theorem ancs_ok{ops:Array Oper}:∀{l:List Oper} {acc:List (List Nat)},(∀(i:Nat) o,l[i]?=some o→ops[acc.length+i]?=some o)→(∀(j i:Nat),i∈acc.getD j []→Before ops i j) →
  ∀(j i:Nat),i∈(ancs l acc).getD j []→Before ops i j
 | [],acc,_,h=>h
 | o::l,acc,hl,h=>by
  simp only[ancs]
  refine ancs_ok (fun i o' ho'=>?_) fun j i hi=>?_
  ·have:=hl (i+1) o' (by simpa using ho')
   simpa [Nat.add_assoc,Nat.add_comm 1 i] using this
  ·rw[List.getD_eq_getElem?_getD] at hi
   by_cases hj:j<acc.length
   ·rw[List.getElem?_append_left hj] at hi
    exact h j i (by rw[List.getD_eq_getElem?_getD]; exact hi)
   ·rw[List.getElem?_append_right (by omega)] at hi
    by_cases hj':j=acc.length
    ·subst hj'
     simp only[Nat.sub_self,List.getElem?_cons_zero,Option.getD_some] at hi
     have hi:=mem_dedup hi
     simp only[List.mem_flatMap,mem_bindsOf,List.mem_cons] at hi
     obtain⟨k,⟨e,he,hb,rfl⟩,hi⟩:=hi
     have h0:=hl 0 o rfl
     have h1:Before ops e.on acc.length:=.one _ _ o e h0 he hb rfl
     rcases hi with rfl|hi
     ·exact h1
     ·exact .more _ _ _ (h _ _ hi) h1
    ·have:j - acc.length≠0:=by omega
     obtain⟨m,hm⟩:=Nat.exists_eq_succ_of_ne_zero this
     rw[hm] at hi
     simp at hi
def COp.mayW:COp→Bool
 | .mv _ | .pick _ _ _ | .build _ _ | .ld _ _ _ | .chk _ | .bin _ _ _ _ | .mm _ _ _ | .un _ _ | .conv _ _ | .mkf _ _ | .slis _ _ _ | .fa _ _ | .ia _ _ _ _ | .ix _ _ | .ext _ _ | .len _ _=>false
 | _=>true
def CR.looks(c:CR):List Nat:=c.op.slots++(c.us++match c.g with|some (s,_)=>[s]|none=>[])
def slotsApart(x y:CR):Bool :=
 (match x.dst with
  | some d=>!(y.looks).contains d&&y.dst != some d
  | none=>true) &&
 (match y.dst with
  | some d=>!(x.looks).contains d
  | none=>true)
def openPairs(an:List (List Nat))(n:Nat):List (Nat×Nat):=(List.range n).flatMap fun j=>((List.range j).filter fun i=>!(an.getD j []).contains i).map fun i=>(i,j)
theorem mem_openPairs{an:List (List Nat)}{n i j:Nat}:(i,j)∈openPairs an n↔j<n∧i<j∧¬i∈an.getD j []:=by
 simp[openPairs];
 constructor
 ·rintro⟨a,h1,b,⟨h2,h3⟩,rfl,rfl⟩; exact⟨h1,h2,h3⟩
 ·rintro⟨h1,h2,h3⟩; exact⟨j,h1,i,⟨h2,h3⟩,rfl,rfl⟩
def statOk(ops:Array Oper)(crs:List CR)(ps:List (Nat×Nat)):Bool :=
 (ops.toList.zipIdx.all fun q=>(bindsOf q.1).all (decide<|· < q.2))&&ps.all fun q=>match crs[q.1]?,crs[q.2]? with
  | some x,some y=>slotsApart x y
  | _,_=>false
def dynPairs(crs:List CR)(ps:List (Nat×Nat)):List (Nat×Nat):=ps.filter fun q=>match crs[q.1]?,crs[q.2]? with
 | some x,some y=>x.op.mayW||y.op.mayW
 | _,_=>false
def outOf(x:Nat):List Nat→Prop
 | []=>True
 | y::l=>x≠y∧outOf x l
def apartL:List Nat→List Nat→Prop
 | [],_=>True
 | x::l,r=>outOf x r∧apartL l r
theorem outOf_iff{x:Nat}:∀{l:List Nat},outOf x l↔x∉l
 | []=>by simp[outOf]
 | y::l=>by simp[outOf,outOf_iff (l:=l)]
theorem apartL_iff:∀{l r:List Nat},apartL l r↔∀x∈l,x∉r
 | [],r=>by simp[apartL]
 | x::l,r=>by simp[apartL,outOf_iff,apartL_iff (l:=l)]
def apartR(x y:RR):Prop:=apartL (keysW x.wr) (keysR y.rd)∧apartL (keysW x.wr) (keysW y.wr)∧apartL (keysW y.wr) (keysR x.rd)
def getR:List RR→Nat→RR
 | [],_=>⟨false,.nili,[],[]⟩
 | r::_,0=>r
 | _::l,n+1=>getR l n
def dynOk(rs:List RR):List (Nat×Nat)→Prop
 | []=>True
 | q::l=>apartR (getR rs q.1) (getR rs q.2)∧dynOk rs l
theorem getR_some{rs:List RR}:∀{i:Nat} {r:RR},rs[i]?=some r→getR rs i=r:=by
 induction rs with
 | nil=>intro i r h; simp at h
 | cons x l ih =>
  intro i r h
  cases i with
  | zero=>simpa [getR] using h
  | succ i=>exact ih (by simpa using h)
theorem dynOk_mem{rs:List RR}:∀{ps:List (Nat×Nat)},dynOk rs ps→∀q∈ps,apartR (getR rs q.1) (getR rs q.2)
 | [],_,q,hq=>by cases hq
 | p::l,h,q,hq=>by
  rcases List.mem_cons.1 hq with rfl|hq
  ·exact h.1
  ·exact dynOk_mem h.2 q hq
theorem mayW_false{P:Program}{us:List Nat}{id:Nat}{F:Fr}{B:Nat→Option Bx}{op:COp}{r:RR}(h:ExR P us id F B op r)(hm:op.mayW=false):r.wr=[]:=by
 cases h with
 | pick=>rfl
 | call=>cases hm
 | callv=>cases hm
 | callb=>cases hm
 | keep=>cases hm
 | sem k op p v rd wr hu h hp =>
  cases op<;>simp only[COp.mayW,Bool.true_eq_false] at hm<;>simp only[sem,ldT,slisT,convT] at h
  all_goals repeat' split at h
  all_goals first|(cases h; done)|(cases h; rfl)
end Go.Am
namespace Go.Am
set_option linter.all false
open Go Go.RowKit
section
variable {α β:Type} {st:Nat→(α→β)→α→β}
theorem foldD_congr{D D':Nat→Bool}:∀{l:List Nat} {f:α→β},(∀i∈l,D i=D' i)→foldD st D l f=foldD st D' l f
 | [],_,_=>rfl
 | i::l,f,h=>by
  simp only[foldD,h i (by simp)]
  exact foldD_congr fun k hk=>h k (by simp[hk])
theorem foldD_false{D:Nat→Bool}:∀{l:List Nat} {f:α→β},(∀i∈l,D i=false)→foldD st D l f=f
 | [],_,_=>rfl
 | i::l,f,h=>by
  simp only[foldD,h i (by simp),Bool.false_eq_true,if_false]
  exact foldD_false fun k hk=>h k (by simp[hk])
theorem foldD_below{n j:Nat}(h:j≤n)(f:α→β):foldD st (fun i=>decide (i<j)) (List.range n) f=foldD st (fun _=>true) (List.range' 0 j) f:=by
 have e:List.range n=List.range' 0 j++List.range' j (n - j):=by
  rw[List.range_eq_range']
  have:=List.range'_append_1 (s:=0) (m:=j) (n:=n - j)
  rw[Nat.zero_add,show j+(n - j)=n by omega] at this
  exact this.symm
 rw[e,foldD_append,foldD_congr (D':=fun _=>true) (l:=List.range' 0 j) fun i hi=>by simp[List.mem_range'_1] at hi; simpa using hi]
 exact foldD_false fun i hi=>by simp[List.mem_range'_1] at hi; simp; exact hi.1
end
def stF(crs:List CR)(rs:List RR)(i:Nat)(F:Fr):Fr:=match crs[i]?,rs[i]? with
 | some c,some r=>updF F c.dst r
 | _,_=>F
def stB(rs:List RR)(i:Nat)(B:Nat→Option Bx):Nat→Option Bx:=match rs[i]? with
 | some r=>appl B r.wr
 | none=>B
def KF(crs:List CR)(i:Nat)(x:Nat):Prop:=∃c,crs[i]?=some c∧c.dst=some x
def KB(rs:List RR)(i:Nat)(x:Nat):Prop:=∃r,rs[i]?=some r∧x∈keysW r.wr
theorem appl_out{x:Nat}:∀{l:List (Nat×Option Bx)} {B:Nat→Option Bx},x∉keysW l→appl B l x=B x
 | [],_,_=>rfl
 | (i,b)::l,B,h=>by
  simp only[keysW,List.map_cons,List.mem_cons,not_or] at h
  simp only[appl]
  rw[appl_out (l:=l) h.2,upd_ne _ _ _ h.1]
theorem appl_in{x:Nat}:∀{l:List (Nat×Option Bx)} {B B':Nat→Option Bx},x∈keysW l→appl B l x=appl B' l x
 | (i,b)::l,B,B',h=>by
  simp only[appl]
  by_cases hx:x∈keysW l
  ·exact appl_in hx
  ·rw[appl_out hx,appl_out hx]
   simp only[keysW,List.map_cons,List.mem_cons] at h
   rcases h with rfl|h
   ·rw[upd_eq,upd_eq]
   ·exact (hx h).elim
theorem appl_mem{y:Nat}:∀{l:List (Nat×Option Bx)} {B:Nat→Option Bx},y∈keysW l→(y,appl B l y)∈l
 | (i,b)::l,B,h=>by
  simp only[appl]
  by_cases hx:y∈keysW l
  ·exact List.mem_cons_of_mem _ (appl_mem hx)
  ·rw[appl_out hx]
   simp only[keysW,List.map_cons,List.mem_cons] at h
   rcases h with rfl|h
   ·rw[upd_eq]; exact List.mem_cons_self
   ·exact (hx h).elim
theorem stF1{crs:List CR}{rs:List RR}(i:Nat)(F:Fr)(x:Nat)(h:¬KF crs i x):stF crs rs i F x=F x:=by
 unfold stF
 cases hc:crs[i]? with
 | none=>rfl
 | some c =>
  cases hr:rs[i]? with
  | none=>rfl
  | some r =>
   simp only[updF]
   cases hd:c.dst with
   | none=>rfl
   | some d=>exact upd_ne _ _ _ fun e=>h ⟨c,hc,by rw[hd,e]⟩
theorem stF2{crs:List CR}{rs:List RR}(hl:crs.length=rs.length)(i:Nat)(F F':Fr)(x:Nat)(h:KF crs i x):stF crs rs i F x=stF crs rs i F' x:=by
 obtain⟨c,hc,hd⟩:=h
 have hi:i<rs.length:=by rw[←hl]; exact (List.getElem?_eq_some_iff.1 hc).1
 unfold stF
 simp only[hc,List.getElem?_eq_getElem hi,updF,hd,upd_eq]
theorem stB1{rs:List RR}(i:Nat)(B:Nat→Option Bx)(x:Nat)(h:¬KB rs i x):stB rs i B x=B x:=by
 unfold stB
 cases hr:rs[i]? with
 | none=>rfl
 | some r=>exact appl_out fun hx=>h ⟨r,hr,hx⟩
theorem stB2{rs:List RR}(i:Nat)(B B':Nat→Option Bx)(x:Nat)(h:KB rs i x):stB rs i B x=stB rs i B' x:=by
 obtain⟨r,hr,hx⟩:=h
 unfold stB
 simp only[hr]
 exact appl_in hx
section
variable {P:Program} {base:Nat}
theorem Runs.len:∀{l:List CR} {rs:List RR} {j:Nat} {F:Fr} {B:Nat→Option Bx},Runs P base j l F B rs→l.length=rs.length
 | [],[],_,_,_,_=>rfl
 | [],_::_,_,_,_,h=>h.elim
 | _::_,[],_,_,_,h=>h.elim
 | _::_,_::_,_,_,_,h=>by simp[Runs.len h.2]
theorem Runs.get:∀{l:List CR} {rs:List RR} {j:Nat} {F:Fr} {B:Nat→Option Bx},Runs P base j l F B rs→∀(i:Nat) cr r,l[i]?=some cr→rs[i]?=some r→OpR P cr (base+1024*(j+i)) (runF (l.take i) (rs.take i) F) (runB (rs.take i) B) r
 | [],_,_,_,_,_,i,cr,r,h,_=>by simp at h
 | _::_,[],_,_,_,h,_,_,_,_,_=>h.elim
 | c::l,r0::rs,j,F,B,h,i,cr,r,h1,h2=>by
  cases i with
  | zero =>
   simp at h1 h2
   subst h1 h2
   exact h.1
  | succ i =>
   have:=Runs.get h.2 i cr r (by simpa using h1) (by simpa using h2)
   simp only[List.take_succ_cons,runF,runB]
   rwa [show j+(i+1)=j+1+i by omega]
end
theorem runF_fold{crs:List CR}{rs:List RR}(hl:crs.length=rs.length):∀(m j:Nat) (F:Fr),j+m≤crs.length→runF ((crs.drop j).take m) ((rs.drop j).take m) F=foldD (stF crs rs) (fun _=>true) (List.range' j m) F
 | 0,_,_,_=>rfl
 | m+1,j,F,h=>by
  have e1:crs.drop j=crs[j]::crs.drop (j+1):=List.drop_eq_getElem_cons (by omega)
  have e2:rs.drop j=rs[j]::rs.drop (j+1):=List.drop_eq_getElem_cons (by omega)
  rw[e1,e2]
  simp only[List.take_succ_cons,runF,List.range'_succ,foldD,if_true]
  rw[runF_fold hl m (j+1) _ (by omega)]
  simp only[stF,List.getElem?_eq_getElem (show j<crs.length by omega),List.getElem?_eq_getElem (show j<rs.length by omega)]
theorem runB_fold{rs:List RR}:∀(m j:Nat) (B:Nat→Option Bx),j+m≤rs.length→runB ((rs.drop j).take m) B=foldD (stB rs) (fun _=>true) (List.range' j m) B
 | 0,_,_,_=>rfl
 | m+1,j,B,h=>by
  have e2:rs.drop j=rs[j]::rs.drop (j+1):=List.drop_eq_getElem_cons (by omega)
  rw[e2]
  simp only[List.take_succ_cons,runB,List.range'_succ,foldD,if_true]
  rw[runB_fold m (j+1) _ (by omega)]
  simp only[stB,List.getElem?_eq_getElem (show j<rs.length by omega)]
section
variable {P:Program} {C:Cx P} {N:Nat} {D:List Deferred} {n0:Nat} {G0:Gh} {w0:World} {ops:Array Oper} {Q:Exit→Act→World→Prop}
theorem any_ok{crs:List CR}{rs:List RR}{base p:Nat}{F0:Fr}{B0:Nat→Option Bx}(hn:n0≤base)(hl2:crs.length=rs.length)(hpl:p≤crs.length)(hps:p≤ops.size)(hcr:∀(i:Nat) o c,ops[i]?=some o→crs[i]?=some c→compR P N ops o=some c)
  (hr:Runs P base 0 (crs.take p) F0 B0 (rs.take p)) (hac:∀(j:Nat) o,ops[j]?=some o→∀e∈o.after,Region.binds .any e=true→e.on<j)
  (hcf:∀(i j:Nat) x y r s,i<j→crs[i]?=some x→crs[j]?=some y→rs[i]?=some r→rs[j]?=some s→Before ops i j∨(slotsApart x y=true∧apartR r s))
  (hK:p=ops.size→∀G a w,DescF C N D n0 G0 w0 (runF (crs.take p) (rs.take p) F0) (runB (rs.take p) B0) (· < base+1024*ops.size) G a w→Q .normal a w)
  (hP:p<ops.size→(p<crs.length∧∀i,p<i→i<ops.size→Before ops p i)∧∃pv,∀cr r,crs[p]?=some cr→rs[p]?=some r→OpP P cr (base+1024*p) (runF (crs.take p) (rs.take p) F0) (runB (rs.take p) B0) pv r ∧
   ∀L G a w u F U,DescF C N D n0 G0 w0 F (appl (foldD (stB rs) L (List.range p) B0) r.wr) U G a w→RV G w pv u→Q (.panic [{ v:=u,recovered:=false }]) a w) :
  ∀(fuel:Nat) (listed:Array Bool) (G:Gh) (a:Act) (w:World),listed.size=ops.size→Closed ops (fun i=>listed.getD i false)→(∀i,p≤i→listed.getD i false=false)→(List.range ops.size).countP (fun i=>!listed.getD i false)≤fuel →
   DescF C N D n0 G0 w0 (foldD (stF crs rs) (fun i=>listed.getD i false) (List.range p) F0) (foldD (stB rs) (fun i=>listed.getD i false) (List.range p) B0) (fun id=>id<base∨∃i,listed.getD i false=true∧base+1024*i≤id∧id<base+1024*i+1024) G a w →
   wpAny P .any ops Q fuel listed a w:=by
 have rF:∀j,j≤p→runF (crs.take j) (rs.take j) F0=foldD (stF crs rs) (fun i=>decide (i<j)) (List.range p) F0:=fun j hj=>by
  rw[foldD_below hj]
  have:=runF_fold hl2 j 0 F0 (by omega)
  simpa using this
 have rB:∀j,j≤p→runB (rs.take j) B0=foldD (stB rs) (fun i=>decide (i<j)) (List.range p) B0:=fun j hj=>by
  rw[foldD_below hj]
  have:=runB_fold (rs:=rs) j 0 B0 (by omega)
  simpa using this
 have done:∀(listed:Array Bool) (G:Gh) (a:Act) (w:World),listed.size=ops.size→(∀i,p≤i→listed.getD i false=false)→Region.ready .any ops listed=[] →
   DescF C N D n0 G0 w0 (foldD (stF crs rs) (fun i=>listed.getD i false) (List.range p) F0) (foldD (stB rs) (fun i=>listed.getD i false) (List.range p) B0) (fun id=>id<base∨∃i,listed.getD i false=true∧base+1024*i≤id∧id<base+1024*i+1024) G a w→Q .normal a w:=by
  intro listed G a w hsz hlow hrd hd
  have all:∀j,j<ops.size→listed.getD j false=true:=fun j=>by
   induction j using Nat.strongRecOn with
   | _ j ih =>
    intro hj
    cases hlj:listed.getD j false with
    | true=>rfl
    | false =>
     obtain⟨o,ho⟩:∃o,ops[j]?=some o:=⟨_,Array.getElem?_eq_getElem hj⟩
     have:j∈Region.ready .any ops listed:=mem_ready.2 ⟨by
      rw[Array.getD_eq_getD_getElem?,Array.getElem?_eq_getElem (by omega)] at hlj ⊢
      exact hlj,o,ho,fun e he hb=>ih e.on (hac j o ho e he hb) (Nat.lt_trans (hac j o ho e he hb) hj)⟩
     rw[hrd] at this; cases this
  have hpe:p=ops.size:=by
   rcases Nat.lt_or_ge p ops.size with h|h
   ·have:=all p h; rw[hlow p (Nat.le_refl _)] at this; cases this
   ·omega
  refine hK hpe G a w ?_
  have cg:∀i∈List.range p,listed.getD i false=decide (i<p):=fun i hi=>by
   rw[all i (Nat.lt_of_lt_of_le (by simpa using hi) hps)]; symm; simpa using hi
  rw[foldD_congr cg,foldD_congr cg,←rF p (Nat.le_refl _),←rB p (Nat.le_refl _)] at hd
  refine hd.weak fun id h=>?_
  rcases h with h|⟨i,hi,h1,h2⟩
  ·omega
  ·have:i<ops.size:=by
    rw[←hsz]
    rcases Nat.lt_or_ge i listed.size with h|h
    ·exact h
    ·rw[Array.getD_eq_getD_getElem?,Array.getElem?_eq_none h] at hi; cases hi
   omega
 intro fuel
 induction fuel with
 | zero =>
  intro listed G a w hsz hcl hlow hct hd
  have hrd:Region.ready .any ops listed=[]:=by
   cases hrd:Region.ready .any ops listed with
   | nil=>rfl
   | cons j l =>
    obtain⟨h0,o,ho,_⟩:=mem_ready.1 (show j∈Region.ready .any ops listed by rw[hrd]; simp)
    have hj:j<ops.size:=(Array.getElem?_eq_some_iff.1 ho).1
    have h1:listed.getD j false=false:=by
     rw[Array.getD_eq_getD_getElem?,Array.getElem?_eq_getElem (by omega)] at h0 ⊢
     exact h0
    have:0<(List.range ops.size).countP (fun i=>!listed.getD i false):=List.countP_pos_iff.2 ⟨j,by simpa using hj,by rw[h1]; rfl⟩
    omega
  exact⟨hrd,done listed G a w hsz hlow hrd hd⟩
 | succ fuel ih =>
  intro listed G a w hsz hcl hlow hct hd
  refine⟨fun hrd=>done listed G a w hsz hlow hrd hd,fun j hj=>?_⟩
  obtain⟨h0,o,ho,hed⟩:=mem_ready.1 hj
  have hjn:j<ops.size:=(Array.getElem?_eq_some_iff.1 ho).1
  have hDj:listed.getD j false=false:=by
   rw[Array.getD_eq_getD_getElem?,Array.getElem?_eq_getElem (by omega)] at h0 ⊢
   exact h0
  have ahead:∀i,Before ops i j→listed.getD i false=true:=fun i hb=>before_ready hcl hb fun o' ho' e he hbd=>by
   rw[ho] at ho'; injection ho' with ho'; subst ho'; exact hed e he hbd
  have behind:∀i,Before ops j i→listed.getD i false=false:=fun i hb=>by
   cases h:listed.getD i false with
   | false=>rfl
   | true=>have:=hcl.before hb h; rw[hDj] at this; cases this
  have hjp:j≤p:=by
   rcases Nat.lt_or_ge p j with h|h
   ·have:=ahead p ((hP (by omega)).1.2 j h hjn)
    rw[hlow p (Nat.le_refl _)] at this; cases this
   ·exact h
  have hjl:j<crs.length:=by
   rcases Nat.lt_or_ge j p with h|h
   ·omega
   ·have:=(hP (by omega)).1.1; omega
  obtain⟨cr,hc1⟩:∃c,crs[j]?=some c:=⟨_,List.getElem?_eq_getElem hjl⟩
  have hc2:=hcr j o cr ho hc1
  have hrj:rs[j]?=some rs[j]:=List.getElem?_eq_getElem (by omega)
  generalize rs[j]=r at hrj
  have slots:∀x∈cr.looks,foldD (stF crs rs) (fun i=>decide (i<j)) (List.range p) F0 x=foldD (stF crs rs) (fun i=>listed.getD i false) (List.range p) F0 x:=fun x hx =>
   foldD_agree stF1 (stF2 hl2) (fun i hi ⟨c,hc,hdst⟩=>by
    have hin:i<p:=by simpa using hi
    rcases Nat.lt_trichotomy i j with h|h|h
    ·rcases hcf i j c cr _ r h hc hc1 (List.getElem?_eq_getElem (by omega)) hrj with hb|⟨hs,_⟩
     ·rw[ahead i hb]; simpa using h
     ·simp only[slotsApart,hdst,Bool.and_eq_true,Bool.not_eq_true',List.contains_eq_mem,decide_eq_false_iff_not] at hs
      exact (hs.1.1 hx).elim
    ·subst h; rw[hDj]; simp
    ·rcases hcf j i cr c r _ h hc1 hc hrj (List.getElem?_eq_getElem (by omega)) with hb|⟨hs,_⟩
     ·rw[behind i hb]; simp; omega
     ·simp only[slotsApart,hdst,Bool.and_eq_true,Bool.not_eq_true',List.contains_eq_mem,decide_eq_false_iff_not] at hs
      exact (hs.2 hx).elim) rfl
  have boxes:Has (foldD (stB rs) (fun i=>decide (i<j)) (List.range p) B0) r.rd→Has (foldD (stB rs) (fun i=>listed.getD i false) (List.range p) B0) r.rd:=fun hh q hq=>by
   rw[←hh q hq]
   refine (foldD_agree stB1 stB2 (fun i hi ⟨s,hs,hx⟩=>?_) rfl).symm
   have hin:i<p:=by simpa using hi
   have hqr:q.1∈keysR r.rd:=List.mem_map.2 ⟨q,hq,rfl⟩
   rcases Nat.lt_trichotomy i j with h|h|h
   ·rcases hcf i j _ cr s r h (List.getElem?_eq_getElem (by omega)) hc1 hs hrj with hb|⟨_,ha⟩
    ·rw[ahead i hb]; simpa using h
    ·exact (apartL_iff.1 ha.1 _ hx hqr).elim
   ·subst h; rw[hDj]; simp
   ·rcases hcf j i cr _ r s h hc1 (List.getElem?_eq_getElem (by omega)) hrj hs with hb|⟨_,ha⟩
    ·rw[behind i hb]; simp; omega
    ·exact (apartL_iff.1 ha.2.2 _ hx hqr).elim
  have hU:∀x,base+1024*j≤x→x<base+1024*j+1024→¬G.used x:=fun x hx1 hx2 h=>by
   rcases hd.used _ h with h|⟨i,hi,h,h'⟩
   ·omega
   ·have:i=j:=by omega
    subst this; rw[hDj] at hi; cases hi
  have hnb:∀x,base+1024*ops.size≤x→¬G.used x:=fun x hx h=>by
   rcases hd.used _ h with h|⟨i,hi,h,h'⟩
   ·omega
   ·have:i<ops.size:=by
     rw[←hsz]
     rcases Nat.lt_or_ge i listed.size with h|h
     ·exact h
     ·rw[Array.getD_eq_getD_getElem?,Array.getElem?_eq_none h] at hi; cases hi
    omega
  rcases Nat.lt_or_ge j p with hlt|hge
  case inr =>
   have hje:j=p:=by omega
   subst hje
   obtain⟨_,pv,hpv⟩:=hP hjn
   obtain⟨hop,hQ⟩:=hpv cr r hc1 hrj
   rw[rF j (Nat.le_refl _),rB j (Nat.le_refl _)] at hop
   have hop':=hop.local (fun n hn=>slots n (by simp[CR.looks,hn])) (fun n hn=>slots n (by simp[CR.looks,hn])) (fun s want hg=>slots s (by simp[CR.looks,hg])) (boxes hop.has)
   exact op_pn hd ho hc2 hop' hU (by omega) hnb fun G' u w' hd' hv=>hQ _ G' a w' u _ _ hd' hv
  case inl =>
  have hop:=hr.get j cr r (by rw[List.getElem?_take_of_lt hlt]; exact hc1) (by rw[List.getElem?_take_of_lt hlt]; exact hrj)
  rw[Nat.zero_add,List.take_take,List.take_take,Nat.min_eq_left (by omega),rF j (by omega),rB j (by omega)] at hop
  have hop':=hop.local (fun n hn=>slots n (by simp[CR.looks,hn])) (fun n hn=>slots n (by simp[CR.looks,hn])) (fun s want hg=>slots s (by simp[CR.looks,hg])) fun hrc=>boxes (hop.2.2.1 hrc).has
  refine op_ok hd ho hc2 hop' hU (by omega) hnb fun G' u w' hd'=>?_
  have hget:∀i,(listed.setIfInBounds j true).getD i false=(if i=j then true else listed.getD i false):=fun i=>by
   rw[Array.getD_eq_getD_getElem?,Array.getElem?_setIfInBounds]
   by_cases hij:j=i
   ·subst hij; simp[show j<listed.size by omega]
   ·rw[if_neg hij,if_neg (fun h=>hij h.symm),Array.getD_eq_getD_getElem?]
  have hsp:=range_split j p hlt
  have hnl:j∉List.range' (j+1) (p - j - 1):=fun h=>by rw[List.mem_range'_1] at h; omega
  have eF:updF (foldD (stF crs rs) (fun i=>listed.getD i false) (List.range p) F0) cr.dst r=foldD (stF crs rs) (fun i=>(listed.setIfInBounds j true).getD i false) (List.range p) F0:=by
   have:updF (foldD (stF crs rs) (fun i=>listed.getD i false) (List.range p) F0) cr.dst r=stF crs rs j (foldD (stF crs rs) (fun i=>listed.getD i false) (List.range p) F0):=by
    simp only[stF,hc1,hrj]
   rw[this,hsp]
   refine foldD_add stF1 (stF2 hl2) (by rw[hget,if_pos rfl]) (fun i hi=>by simp only[hget,if_neg hi]) hnl fun i hi hD x ⟨c,hc,hx⟩ ⟨c',hc',hx'⟩=>?_
   rw[List.mem_range'_1] at hi
   rw[hc1] at hc; injection hc with hc; subst hc
   rcases hcf j i cr c' r _ (by omega) hc1 hc' hrj (List.getElem?_eq_getElem (by have:=(List.getElem?_eq_some_iff.1 hc').1; omega)) with hb|⟨hs,_⟩
   ·rw[behind i hb] at hD; cases hD
   ·simp[slotsApart,hx,hx'] at hs
  have eB:appl (foldD (stB rs) (fun i=>listed.getD i false) (List.range p) B0) r.wr=foldD (stB rs) (fun i=>(listed.setIfInBounds j true).getD i false) (List.range p) B0:=by
   have:appl (foldD (stB rs) (fun i=>listed.getD i false) (List.range p) B0) r.wr=stB rs j (foldD (stB rs) (fun i=>listed.getD i false) (List.range p) B0):=by
    simp only[stB,hrj]
   rw[this,hsp]
   refine foldD_add stB1 stB2 (by rw[hget,if_pos rfl]) (fun i hi=>by simp only[hget,if_neg hi]) hnl fun i hi hD x ⟨s,hs,hx⟩ ⟨s',hs',hx'⟩=>?_
   rw[List.mem_range'_1] at hi
   rw[hrj] at hs; injection hs with hs; subst hs
   rcases hcf j i cr _ r s' (by omega) hc1 (List.getElem?_eq_getElem (by have:=(List.getElem?_eq_some_iff.1 hs').1; omega)) hrj hs' with hb|⟨_,ha⟩
   ·rw[behind i hb] at hD; cases hD
   ·exact apartL_iff.1 ha.2.1 _ hx hx'
  rw[eF,eB] at hd'
  refine ih (listed.setIfInBounds j true) G' _ w' (by simp[hsz]) (fun k ok hk hDk e he hb=>?_) (fun i hi=>by rw[hget,if_neg (by omega)]; exact hlow i hi) ?_ (hd'.weak fun id h=>?_)
  ·simp only[hget] at hDk ⊢
   by_cases hkj:k=j
   ·subst hkj
    rw[ho] at hk; injection hk with hk; subst hk
    split
    ·rfl
    ·exact hed e he hb
   ·rw[if_neg hkj] at hDk
    split
    ·rfl
    ·exact hcl k ok hk hDk e he hb
  ·rw[range_split j ops.size hjn] at hct ⊢
   simp only[List.countP_append,List.countP_cons,hDj,Bool.not_false,if_true] at hct
   have hnl:j∉List.range' (j+1) (ops.size - j - 1):=fun h=>by rw[List.mem_range'_1] at h; omega
   have c1:∀l:List Nat,j∉l→l.countP (fun i=>!(listed.setIfInBounds j true).getD i false)=l.countP (fun i=>!listed.getD i false):=fun l hl=>List.countP_congr fun i hi=>by
    have hij:i≠j:=fun h=>hl (h▸hi)
    rw[hget,if_neg hij]
   simp only[List.countP_append,List.countP_cons,hget j,if_true,Bool.not_true,Bool.false_eq_true,if_false]
   rw[c1 _ (by simp),c1 _ hnl]
   omega
  ·rcases h with h|h
   ·rcases hd.used _ h with h|⟨i,hi,h⟩
    ·exact .inl h
    ·exact .inr ⟨i,by rw[hget]; split; rfl; exact hi,h⟩
   ·exact .inr ⟨j,by rw[hget,if_pos rfl],h⟩
theorem foldB_hist{rs:List RR}{L:Nat→Bool}(y:Nat):∀{l:List Nat} {B:Nat→Option Bx},foldD (stB rs) L l B y=B y∨∃r∈rs,(y,foldD (stB rs) L l B y)∈r.wr
 | [],B=>.inl rfl
 | i::l,B=>by
  simp only[foldD]
  rcases foldB_hist y (l:=l) (B:=if L i=true then stB rs i B else B) with h|h
  ·rw[h]
   split
   ·unfold stB
    cases hr:rs[i]? with
    | none=>exact .inl rfl
    | some r =>
     simp only
     by_cases hk:y∈keysW r.wr
     ·exact .inr ⟨r,List.mem_of_getElem? hr,appl_mem hk⟩
     ·exact .inl (appl_out hk)
   ·exact .inl rfl
  ·exact .inr h
end
end Go.Am
namespace Go.Am
set_option linter.all false
open Go Go.RowKit
mutual
def namesIn(S:Nat→Prop):AV→Prop
 | .ptr id _ _=>S id
 | .bsl id _ _=>S id
 | .cptr cs=>namesL S cs
 | .sl xs=>namesL S xs
 | .agg cs=>namesL S cs
 | .tup vs=>namesL S vs
 | .fn _ caps=>namesL S caps
 | .fnb _ caps=>namesL S caps
 | .iface _ v=>namesIn S v
 | _=>True
def namesL(S:Nat→Prop):List AV→Prop
 | []=>True
 | x::r=>namesIn S x∧namesL S r
end
theorem namesL_iff{S:Nat→Prop}:∀{l:List AV},namesL S l↔∀(i:Nat) x,l[i]?=some x→namesIn S x
 | []=>by simp[namesL]
 | x::r=>by
  simp only[namesL,namesL_iff (l:=r)]
  constructor
  ·rintro⟨h1,h2⟩ i y hy
   cases i with
   | zero=>simp at hy; subst hy; exact h1
   | succ i=>exact h2 i y (by simpa using hy)
  ·exact fun h=>⟨h 0 x rfl,fun i y hy=>h (i+1) y (by simpa using hy)⟩
mutual
theorem namesIn_pure{S:Nat→Prop}:∀(x:AV),x.pureB=true→namesIn S x
 | .ptr _ _ _,h=>by simp[AV.pureB] at h
 | .bsl _ _ _,h=>by simp[AV.pureB] at h
 | .cptr cs,h=>namesL_pure cs (by simpa [AV.pureB] using h)
 | .sl xs,h=>namesL_pure xs (by simpa [AV.pureB] using h)
 | .agg cs,h=>namesL_pure cs (by simpa [AV.pureB] using h)
 | .tup vs,h=>namesL_pure vs (by simpa [AV.pureB] using h)
 | .fn _ caps,h=>namesL_pure caps (by simpa [AV.pureB] using h)
 | .fnb _ caps,h=>namesL_pure caps (by simpa [AV.pureB] using h)
 | .iface _ v,h=>namesIn_pure v (by simpa [AV.pureB] using h)
 | .int _ _,_ | .bool _,_ | .str _,_ | .nilp,_ | .nils,_ | .nilf,_ | .nili,_=>trivial
theorem namesL_pure{S:Nat→Prop}:∀(l:List AV),pureL l=true→namesL S l
 | [],_=>trivial
 | x::r,h=>by
  simp only[pureL,Bool.and_eq_true] at h
  exact⟨namesIn_pure x h.1,namesL_pure r h.2⟩
end
theorem RV.names{G:Gh}{w:World}{x:AV}{v:Value}(h:RV G w x v):namesIn G.used x:=by
 induction h with
 | ptr id i off v ho hu hb=>exact hu
 | bsl id off len v ho hu hb hn=>exact hu
 | cptr cs a u h1 h2 h3 ih=>exact namesL_iff.2 ih
 | sl xs A c s u hc hm hn hs h1 h2 h3 ih =>
  refine namesL_iff.2 fun i x hx=>?_
  cases x with
  | agg cs=>exact namesL_iff.2 fun j y hy=>ih i _ j y hx hy
  | _=>exact ih i _ 0 _ hx rfl
 | fn f caps vs hl h ih=>exact namesL_iff.2 ih
 | fnb f caps vs hl h ih=>exact namesL_iff.2 ih
 | iface t x v h ih=>exact ih
 | agg cs vs hl h ih=>exact namesL_iff.2 ih
 | tup cs vs hl h ih=>exact namesL_iff.2 ih
 | _=>trivial
mutual
theorem namesIn_mono{S S':Nat→Prop}(hS:∀i,S i→S' i):∀(x:AV),namesIn S x→namesIn S' x
 | .ptr id _ _,h=>hS id h
 | .bsl id _ _,h=>hS id h
 | .cptr cs,h=>namesL_mono hS cs h
 | .sl xs,h=>namesL_mono hS xs h
 | .agg cs,h=>namesL_mono hS cs h
 | .tup vs,h=>namesL_mono hS vs h
 | .fn _ caps,h=>namesL_mono hS caps h
 | .fnb _ caps,h=>namesL_mono hS caps h
 | .iface _ v,h=>namesIn_mono hS v h
 | .int _ _,_ | .bool _,_ | .str _,_ | .nilp,_ | .nils,_ | .nilf,_ | .nili,_=>trivial
theorem namesL_mono{S S':Nat→Prop}(hS:∀i,S i→S' i):∀(l:List AV),namesL S l→namesL S' l
 | [],_=>trivial
 | x::r,h=>⟨namesIn_mono hS x h.1,namesL_mono hS r h.2⟩
end
structure Rn where
 ρ:Nat→Option Nat
 inj:∀y y' x,ρ y=some x→ρ y'=some x→y=y'
def Rn.fix(R:Rn)(S:Nat→Prop)(x:Nat):Prop:=R.ρ x=some x∨(R.ρ x=none∧S x)
def Gh.ren(G:Gh)(R:Rn)(S:Nat→Prop):Gh:={ fz:=G.fz,used:=fun y=>(∃x,R.ρ y=some x∧G.used x)∨S y,bm:=fun y=>(R.ρ y).bind G.bm,nl:=fun y=>∃x,R.ρ y=some x∧G.nl x }
theorem RV.fix{R:Rn}{S:Nat→Prop}{G:Gh}{w:World}{x:AV}{v:Value}(h:RV G w x v):namesIn (R.fix S) x→RV (G.ren R S) w x v:=by
 induction h with
 | int k n=>intro _; exact .int k n
 | bool b=>intro _; exact .bool b
 | str s=>intro _; exact .str s
 | nilp=>intro _; exact .nilp
 | ptr id i off v ho hu hb =>
  intro hf
  rcases (show R.fix S id from hf) with hf'|⟨hf',hS⟩
  ·exact .ptr id i off v ho (.inl ⟨id,hf',hu⟩) fun b s hbs=>hb b s (by simpa [Gh.ren,hf'] using hbs)
  ·exact .ptr id i off v ho (.inr hS) fun b s hbs=>by simp[Gh.ren,hf'] at hbs
 | cptr cs a u h1 h2 h3 ih=>intro hf; exact .cptr cs a u h1 h2 fun j y hj=>ih j y hj (namesL_iff.1 hf j y hj)
 | nils=>intro _; exact .nils
 | sl xs A c s u hc hm hn hs h1 h2 h3 ih =>
  intro hf
  refine .sl xs A c s u hc hm hn hs h1 h2 fun i x j y hx hy=>ih i x j y hx hy ?_
  have hx':=namesL_iff.1 hf i x hx
  cases x with
  | agg cs=>exact namesL_iff.1 hx' j y hy
  | _ =>
   cases j with
   | zero=>simp[AV.cells] at hy; subst hy; exact hx'
   | succ j=>simp[AV.cells] at hy
 | bsl id off len v ho hu hb hn =>
  intro hf
  rcases (show R.fix S id from hf) with hf'|⟨hf',hS⟩
  ·exact .bsl id off len v ho (.inl ⟨id,hf',hu⟩) (fun b s hbs=>hb b s (by simpa [Gh.ren,hf'] using hbs)) fun⟨x,hx,hnl⟩=>hn (by rw[hf'] at hx; injection hx with hx; subst hx; exact hnl)
  ·exact .bsl id off len v ho (.inr hS) (fun b s hbs=>by simp[Gh.ren,hf'] at hbs) fun⟨x,hx,hnl⟩=>by rw[hf'] at hx; cases hx
 | fn f caps vs hl h ih=>intro hf; exact .fn f caps vs hl fun i y hy=>ih i y hy (namesL_iff.1 hf i y hy)
 | fnb f caps vs hl h ih=>intro hf; exact .fnb f caps vs hl fun i y hy=>ih i y hy (namesL_iff.1 hf i y hy)
 | nilf=>intro _; exact .nilf
 | iface t x v h ih=>intro hf; exact .iface t x v (ih hf)
 | nili=>intro _; exact .nili
 | agg cs vs hl h ih=>intro hf; exact .agg cs vs hl fun i y hy=>ih i y hy (namesL_iff.1 hf i y hy)
 | tup cs vs hl h ih=>intro hf; exact .tup cs vs hl fun i y hy=>ih i y hy (namesL_iff.1 hf i y hy)
mutual
inductive RenR(R:Rn)(S:Nat→Prop):AV→AV→Prop
 | same (v:AV) (h:namesIn (R.fix S) v):RenR R S v v
 | ptr (a b i o:Nat) (h:R.ρ b=some a):RenR R S (.ptr a i o) (.ptr b i o)
 | bsl (a b o l:Nat) (h:R.ρ b=some a):RenR R S (.bsl a o l) (.bsl b o l)
 | nils:RenR R S .nils (.sl [])
 | agg (cs ds:List AV) (h:RenL R S cs ds):RenR R S (.agg cs) (.agg ds)
 | tup (cs ds:List AV) (h:RenL R S cs ds):RenR R S (.tup cs) (.tup ds)
 | fn (f:Nat) (cs ds:List AV) (h:RenL R S cs ds):RenR R S (.fn f cs) (.fn f ds)
 | fnb (f:Nat) (cs ds:List AV) (h:RenL R S cs ds):RenR R S (.fnb f cs) (.fnb f ds)
inductive RenL(R:Rn)(S:Nat→Prop):List AV→List AV→Prop
 | nil:RenL R S [] []
 | cons (x y:AV) (l r:List AV) (h:RenR R S x y) (hl:RenL R S l r):RenL R S (x::l) (y::r)
end
theorem RenL.get{R:Rn}{S:Nat→Prop}:∀{l r:List AV},RenL R S l r→l.length=r.length∧∀(i:Nat) y,r[i]?=some y→∃x,l[i]?=some x∧RenR R S x y
 | [],[],_=>⟨rfl,fun i y hy=>by simp at hy⟩
 | x::l,y::r,h=>by
  cases h with|cons _ _ _ _ h hl =>
  obtain⟨h1,h2⟩:=hl.get
  refine⟨by simp[h1],fun i z hz=>?_⟩
  cases i with
  | zero=>simp at hz; subst hz; exact⟨x,rfl,h⟩
  | succ i=>obtain⟨q,q1,q2⟩:=h2 i z (by simpa using hz); exact⟨q,by simpa using q1,q2⟩
 | [],_::_,h=>by cases h
 | _::_,[],h=>by cases h
theorem RenL.same{R:Rn}{S:Nat→Prop}:∀{l:List AV},namesL (R.fix S) l→RenL R S l l
 | [],_=>.nil
 | x::r,h=>.cons x x r r (.same x h.1) (RenL.same h.2)
mutual
theorem RV.ren{R:Rn}{S:Nat→Prop}{G:Gh}{w:World}:∀{x y:AV} {v:Value},RenR R S x y→RV G w x v→RV (G.ren R S) w y v
 | _,_,v,.same x hf,h=>h.fix hf
 | _,_,v,.ptr a b i o hr,h=>by
  cases h with|ptr _ _ _ _ ho hu hb=>exact .ptr b i o _ ho (.inl ⟨a,hr,hu⟩) fun blk s hbs=>hb blk s (by simpa [Gh.ren,hr] using hbs)
 | _,_,v,.bsl a b o l hr,h=>by
  cases h with|bsl _ _ _ _ ho hu hb hn =>
  exact .bsl b o l _ ho (.inl ⟨a,hr,hu⟩) (fun blk s hbs=>hb blk s (by simpa [Gh.ren,hr] using hbs)) fun⟨x,hx,hnl⟩=>hn (by rw[hr] at hx; injection hx with hx; subst hx; exact hnl)
 | _,_,v,.nils,h=>by
  cases h
  exact .sl [] none 0 0 (fun _ _=>undef) (Nat.le_refl _) (by simp[maxLen]) (fun _=>⟨rfl,rfl⟩) (fun i x hi=>by simp at hi) (fun a i x j y _ hi=>by simp at hi) (fun a i x j y _ hi=>by simp at hi) (fun i x j y hi=>by simp at hi)
 | _,_,v,.agg cs ds hr,h=>by
  cases h with|agg _ vs hl hh =>
  exact .agg ds vs (hr.get.1.symm.trans hl) (RV.renL hr (fun i=>vs.getD i undef) hh)
 | _,_,v,.tup cs ds hr,h=>by
  cases h with|tup _ vs hl hh =>
  exact .tup ds vs (hr.get.1.symm.trans hl) (RV.renL hr (fun i=>vs.getD i undef) hh)
 | _,_,v,.fn f cs ds hr,h=>by
  cases h with|fn _ _ vs hl hh =>
  exact .fn f ds vs (hr.get.1.symm.trans hl) (RV.renL hr (fun i=>vs.getD i undef) hh)
 | _,_,v,.fnb f cs ds hr,h=>by
  cases h with|fnb _ _ vs hl hh =>
  exact .fnb f ds vs (hr.get.1.symm.trans hl) (RV.renL hr (fun i=>vs.getD i undef) hh)
theorem RV.renL{R:Rn}{S:Nat→Prop}{G:Gh}{w:World}:∀{l r:List AV},RenL R S l r→∀u:Nat→Value,(∀(i:Nat) x,l[i]?=some x→RV G w x (u i))→∀(i:Nat) y,r[i]?=some y→RV (G.ren R S) w y (u i)
 | _,_,.nil,u,_,i,y,hy=>by simp at hy
 | _,_,.cons x y l r h hl,u,hu,i,z,hz=>by
  cases i with
  | zero=>simp at hz; subst hz; exact RV.ren h (hu 0 x rfl)
  | succ i=>exact RV.renL hl (fun i=>u (i+1)) (fun i x hx=>hu (i+1) x (by simpa using hx)) i z (by simpa using hz)
end
theorem namesIn_cells{S:Nat→Prop}{x:AV}(h:namesIn S x):namesL S x.cells:=by
 cases x<;>first|exact⟨h,trivial⟩|exact h
theorem RenR.cells{R:Rn}{S:Nat→Prop}{x y:AV}(h:RenR R S x y):RenL R S x.cells y.cells:=by
 cases h with
 | same v h=>exact RenL.same (namesIn_cells h)
 | ptr a b i o h=>exact .cons _ _ _ _ (.ptr a b i o h) .nil
 | bsl a b o l h=>exact .cons _ _ _ _ (.bsl a b o l h) .nil
 | nils=>exact .cons _ _ _ _ .nils .nil
 | agg cs ds h=>exact h
 | tup cs ds h=>exact .cons _ _ _ _ (.tup cs ds h) .nil
 | fn f cs ds h=>exact .cons _ _ _ _ (.fn f cs ds h) .nil
 | fnb f cs ds h=>exact .cons _ _ _ _ (.fnb f cs ds h) .nil
structure BxR(R:Rn)(S:Nat→Prop)(b b':Bx):Prop where
 xs:RenL R S b.xs b'.xs
 sz:b.sz=b'.sz
 ro:b.ro=b'.ro
 frz:b.frz=b'.frz
section
variable {P:Program} {C:Cx P} {G:Gh} {B B':Nat→Option Bx} {w:World} {R:Rn} {S:Nat→Prop}
theorem RS.ren(h:RS C G B w)(hB:∀y b',B' y=some b'→∃x b,R.ρ y=some x∧B x=some b∧BxR R S b b'):RS C (G.ren R S) B' w:=by
 have hnl:∀{y x},R.ρ y=some x→(G.ren R S).nl y→G.nl x:=fun {y x} hr ⟨x',hx,hn⟩=>by rw[hr] at hx; injection hx with hx; subst hx; exact hn
 refine⟨h.below,h.size,h.fzok,h.fzold,fun y b' hy hn=>?_,fun y b' hy hn=>?_,fun y hn=>?_,fun y b s hb=>?_,fun y y' b s s' h1 h2=>?_,fun y b s hb=>?_⟩
 ·obtain⟨x,b,hr,hb,⟨r1,r2,r3,r4⟩⟩:=hB y b' hy
  obtain⟨blk,s,cur,e,h1,h2,h3,⟨h4,h5⟩,h6,h7,h8⟩:=h.box x b hb fun hx=>hn ⟨x,hr,hx⟩
  obtain⟨l1,l2⟩:=r1.get
  refine⟨blk,s,cur,e,by simpa [Gh.ren,hr] using h1,h2,fun hro=>h3 (r3.trans hro),⟨r2.symm.trans h4,by rw[←l1]; exact h5⟩,fun i v' hv'=>?_,fun hf=>h7 (r4.trans hf),by rw[←l1]; exact h8⟩
  obtain⟨v,hv,hvr⟩:=l2 i v' hv'
  obtain⟨k1,k2⟩:=h6 i v hv
  obtain⟨c1,c2⟩:=hvr.cells.get
  refine⟨c1.symm.trans k1,fun j z hz=>?_⟩
  obtain⟨z0,hz0,hzr⟩:=c2 j z hz
  obtain⟨u,hu,hrv⟩:=k2 j z0 hz0
  exact⟨u,hu,hrv.ren hzr⟩
 ·obtain⟨x,b,hr,hb,⟨r1,r2,r3,r4⟩⟩:=hB y b' hy
  obtain⟨k1,k2⟩:=h.nil x b hb (hnl hr hn)
  refine⟨?_,r3.symm.trans k2⟩
  have:=r1.get.1
  rw[k1] at this
  exact List.eq_nil_of_length_eq_zero this.symm
 ·obtain⟨x,hr,hx⟩:=hn
  exact⟨.inl ⟨x,hr,(h.nlu x hx).1⟩,by simp[Gh.ren,hr,(h.nlu x hx).2]⟩
 ·simp only[Gh.ren,Option.bind_eq_some_iff] at hb
  obtain⟨x,hr,hx⟩:=hb
  exact .inl ⟨x,hr,h.used x b s hx⟩
 ·simp only[Gh.ren,Option.bind_eq_some_iff] at h1 h2
  obtain⟨x,hr,hx⟩:=h1
  obtain⟨x',hr',hx'⟩:=h2
  have:=h.inj x x' b s s' hx hx'
  subst this
  exact R.inj y y' x hr hr'
 ·simp only[Gh.ren,Option.bind_eq_some_iff] at hb
  obtain⟨x,hr,hx⟩:=hb
  exact h.rows x b s hx
theorem Evo.ren{G0:Gh}{w0:World}(e:Evo G0 w0 G w)(hf:∀x,G0.used x→R.ρ x=some x∨R.ρ x=none):Evo G0 w0 (G.ren R G0.used) w:=by
 refine⟨e.fz,e.cell,fun x hx=>.inr hx,fun x hx=>?_,fun x hx ⟨x',hr,hn⟩=>?_,fun x b s hx hb=>?_⟩
 ·rcases hf x hx with h|h
  ·simp only[Gh.ren,h,Option.bind_some]
   exact e.bm x hx
  ·exact .inr (by simp only[Gh.ren,h,Option.bind_none])
 ·rcases hf x hx with h|h
  ·rw[h] at hr; injection hr with hr; subst hr; exact e.nl x hx hn
  ·rw[h] at hr; cases hr
 ·rcases hf x hx with h|h
  ·simp only[Gh.ren,h,Option.bind_some] at hb
   exact e.row x b s hx hb
  ·simp only[Gh.ren,h,Option.bind_none] at hb; cases hb
def lkN:List (Nat×Nat)→Nat→Option Nat
 | [],_=>none
 | (a,b)::l,y=>if y=a then some b else lkN l y
def goneN:List (Nat×Nat)→Nat→Bool
 | [],_=>false
 | (_,b)::l,y=>if y=b then true else goneN l y
def rnOk:List (Nat×Nat)→Prop
 | []=>True
 | (_,b)::l=>goneN l b=false∧rnOk l
def rnF(n0:Nat)(l:List (Nat×Nat))(y:Nat):Option Nat:=match lkN l y with
 | some x=>some x
 | none=>if y<n0 then (if goneN l y=true then none else some y) else none
theorem lkN_mem:∀{l:List (Nat×Nat)} {a b:Nat},lkN l a=some b→(a,b)∈l
 | [],_,_,h=>by cases h
 | (c,d)::l,a,b,h=>by
  simp only[lkN] at h
  split at h
  ·rename_i e; injection h with h; subst e h; simp
  ·exact List.mem_cons_of_mem _ (lkN_mem h)
theorem goneN_iff:∀{l:List (Nat×Nat)} {b:Nat},goneN l b=true↔∃a,(a,b)∈l
 | [],b=>by simp[goneN]
 | (c,d)::l,b=>by
  simp only[goneN]
  split
  ·rename_i e; subst e; simp
  ·rename_i e
   rw[goneN_iff (l:=l)]
   constructor
   ·rintro⟨a,h⟩; exact⟨a,List.mem_cons_of_mem _ h⟩
   ·rintro⟨a,h⟩
    rcases List.mem_cons.1 h with h|h
    ·injection h with _ h; exact (e h).elim
    ·exact⟨a,h⟩
theorem rnOk_inj:∀{l:List (Nat×Nat)},rnOk l→∀a a' b,lkN l a=some b→lkN l a'=some b→a=a'
 | [],_,a,a',b,h,_=>by cases h
 | (c,d)::l,hl,a,a',b,h,h'=>by
  have one:∀x,lkN ((c,d)::l) x=some b→(x=c∧b=d)∨(x≠c∧lkN l x=some b):=fun x hx=>by
   simp only[lkN] at hx
   split at hx
   ·rename_i e; injection hx with hx; exact .inl ⟨e,hx.symm⟩
   ·rename_i e; exact .inr ⟨e,hx⟩
  have out:∀x,lkN l x=some d→False:=fun x hx=>by
   have:=goneN_iff.2 ⟨x,lkN_mem hx⟩
   rw[hl.1] at this; cases this
  rcases one a h with⟨rfl,rfl⟩|⟨_,q⟩<;>rcases one a' h' with⟨rfl,e⟩|⟨_,q'⟩
  ·rfl
  ·exact (out a' q').elim
  ·exact (out a (e▸q)).elim
  ·exact rnOk_inj hl.2 a a' b q q'
def mkRn(n0:Nat)(l:List (Nat×Nat))(h:rnOk l):Rn:=⟨rnF n0 l,fun y y' x h1 h2=>by
 unfold rnF at h1 h2
 cases e1:lkN l y with
 | some a =>
  rw[e1] at h1
  injection h1 with h1
  subst h1
  cases e2:lkN l y' with
  | some b=>rw[e2] at h2; injection h2 with h2; subst h2; exact rnOk_inj h y y' _ e1 e2
  | none =>
   rw[e2] at h2
   simp only at h2
   split at h2
   ·split at h2
    ·cases h2
    ·rename_i hg; injection h2 with h2; subst h2; exact (hg (goneN_iff.2 ⟨y,lkN_mem e1⟩)).elim
   ·cases h2
 | none =>
  rw[e1] at h1
  simp only at h1
  split at h1
  ·split at h1
   ·cases h1
   ·rename_i hg
    injection h1 with h1
    subst h1
    cases e2:lkN l y' with
    | some b=>rw[e2] at h2; injection h2 with h2; subst h2; exact (hg (goneN_iff.2 ⟨y',lkN_mem e2⟩)).elim
    | none =>
     rw[e2] at h2
     simp only at h2
     split at h2
     ·split at h2
      ·cases h2
      ·injection h2 with h2; exact h2.symm
     ·cases h2
  ·cases h1⟩
theorem rnF_old{n0:Nat}{l:List (Nat×Nat)}{y:Nat}(h:lkN l y=none):rnF n0 l y=none∨rnF n0 l y=some y:=by
 unfold rnF
 rw[h]
 simp only
 split
 ·split
  ·exact .inl rfl
  ·exact .inr rfl
 ·exact .inl rfl
end
end Go.Am
namespace Go.Am
set_option linter.all false
open Go Go.RowKit
inductive CC where
 | skip
 | reg (draw:Bool) (crs:List CR) (ps:List (Nat×Nat))
 | seq (a b:CC)
 | cond (c:Opd) (a b:CC)
 | block (id:Nat) (c:CC)
 | loop (c:CC)
 | exit (id:Nat)
 | ret
 | bad
 deriving Inhabited
def compG(P:Program)(N:Nat)(ops:Array Oper)(draw:Bool):CC:=match compL P N ops ops.toList with
 | none=>.bad
 | some crs=>match draw with
  | false=>.reg false crs []
  | true=>if statOk ops crs (openPairs (ancs ops.toList []) ops.size)&&P.follows .mixedOrders then .reg true crs (dynPairs crs (openPairs (ancs ops.toList []) ops.size)) else .bad
def compC(P:Program)(N:Nat):Code→CC
 | .skip=>.skip
 | .label _=>.skip
 | .region _ ops draw=>compG P N ops draw
 | .seq a b=>.seq (compC P N a) (compC P N b)
 | .cond c a b=>match opd c with
  | some c=>.cond c (compC P N a) (compC P N b)
  | none=>.bad
 | .block id c=>.block id (compC P N c)
 | .loop c=>.loop (compC P N c)
 | .exit id=>.exit id
 | .ret=>.ret
 | _=>.bad
structure St where
 fr:List (Nat×Bool×AV)
 bx:List (Nat×Option Bx)
 k:Nat
def lk:List (Nat×Bool×AV)→Nat→Option (Bool×AV)
 | [],_=>none
 | (m,e)::r,n=>if n=m then some e else lk r n
def bk:List (Nat×Option Bx)→Nat→Option Bx
 | [],_=>none
 | (m,b)::r,n=>if n=m then b else bk r n
def ov(β:Nat→Option Bx):List (Nat×Option Bx)→Nat→Option Bx
 | []=>β
 | (m,b)::r=>upd (ov β r) m b
def addW(l:List (Nat×Option Bx)):List (Nat×Option Bx)→List (Nat×Option Bx)
 | []=>l
 | q::r=>addW (q::l) r
def putF(fr:List (Nat×Bool×AV))(dst:Option Nat)(c:Bool)(v:AV):List (Nat×Bool×AV):=match dst with
 | some d=>(d,c,v)::fr
 | none=>fr
def St.app(σ:St)(dst:Option Nat)(r:RR):St:=⟨putF σ.fr dst r.c r.v,addW σ.bx r.wr,σ.k⟩
def St.apps:List CR→List RR→St→St
 | cr::l,r::rs,σ=>St.apps l rs (σ.app cr.dst r)
 | _,_,σ=>σ
def St.bump(σ:St)(n:Nat):St:=⟨σ.fr,σ.bx,σ.k+n⟩
structure Env where
 P:Program
 C:Cx P
 β:Nat→Option Bx
 N:Nat
 n0:Nat
 G0:Gh
 w0:World
 own:∀id,n0≤id→β id=none
 old:∀id,G0.used id→id<n0
 rs0:RS C G0 β w0
 D:List Deferred
 Rt:St→Prop
 Pn:AV→St→Prop
def Desc(E:Env)(σ:St)(G:Gh)(a:Act)(w:World):Prop:=DescF E.C E.N E.D E.n0 E.G0 E.w0 (lk σ.fr) (ov E.β σ.bx) (· < E.n0+σ.k) G a w
def ARuns(P:Program)(base:Nat):Nat→List CR→St→List RR→Prop
 | _,[],_,[]=>True
 | j,cr::l,σ,r::rs=>OpR P cr (base+1024*j) (lk σ.fr) (bk σ.bx) r∧ARuns P base (j+1) l (σ.app cr.dst r) rs
 | _,_,_,_=>False
def APn(P:Program)(base:Nat)(pv:AV)(r:RR):Nat→List CR→St→List RR→Prop
 | j,cr::_,σ,[]=>OpP P cr (base+1024*j) (lk σ.fr) (bk σ.bx) pv r
 | j,cr::l,σ,r0::rs=>OpR P cr (base+1024*j) (lk σ.fr) (bk σ.bx) r0∧APn P base pv r (j+1) l (σ.app cr.dst r0) rs
 | _,[],_,_=>False
def dynP(rs:List RR)(p:Nat):List (Nat×Nat)→Prop
 | []=>True
 | q::l=>(if q.2≤p then apartR (getR rs q.1) (getR rs q.2) else q.1≠p)∧dynP rs p l
theorem dynP_mem{rs:List RR}{p:Nat}:∀{ps:List (Nat×Nat)},dynP rs p ps→∀q∈ps,(q.2≤p→apartR (getR rs q.1) (getR rs q.2))∧(p<q.2→q.1≠p)
 | [],_,q,hq=>by cases hq
 | x::l,h,q,hq=>by
  rcases List.mem_cons.1 hq with rfl|hq
  ·have h1:=h.1
   split at h1
   ·exact⟨fun _=>h1,fun h=>by omega⟩
   ·exact⟨fun h=>by omega,fun _=>h1⟩
  ·exact dynP_mem h.2 q hq
def HistB(β:Nat→Option Bx)(l:List (Nat×Option Bx))(B:Nat→Option Bx):Prop:=∀y,B y=β y∨(y,B y)∈l
inductive Itm where
 | code (c:CC)
 | blk (id:Nat)
 | post (p:St→Prop)
 | ops (crs:List CR) (j:Nat) (acc:List RR) (ps:List (Nat×Nat))
def Post(E:Env)(K:St→Prop)(X:Nat→St→Prop):Exit→Act→World→Prop
 | .normal,a,w=>∃σ G,Desc E σ G a w∧K σ
 | .exit id,a,w=>∃σ G,Desc E σ G a w∧X id σ
 | .ret,a,w=>∃σ G,Desc E σ G a w∧E.Rt σ
 | .panic chain,a,w=>∃pv u σ F B U G,chain=[{ v:=u,recovered:=false }]∧DescF E.C E.N E.D E.n0 E.G0 E.w0 F B U G a w∧HistB E.β σ.bx B∧RV G w pv u∧E.Pn pv σ
 | _,_,_=>False
def WW(E:Env):List Itm→(St→Prop)×(Nat→St→Prop)
 | []=>(E.Rt,fun _ _=>False)
 | .blk id::k=>((WW E k).1,fun id' σ=>if id'=id then (WW E k).1 σ else (WW E k).2 id' σ)
 | .post p::k=>(p,(WW E k).2)
 | .code cc::k=>(fun σ=>∀c,compC E.P E.N c=cc→∀G a w,Desc E σ G a w→c.wp E.P (Post E (WW E k).1 (WW E k).2) a w,(WW E k).2)
 | .ops crs j acc ps::k=>(fun σ=>(∃rs,ARuns E.P (E.n0+σ.k) j crs σ rs∧dynOk (acc.reverse++rs) ps∧(WW E k).1 ((σ.apps crs rs).bump (1024*(j+crs.length))))∨∃rs pv r,APn E.P (E.n0+σ.k) pv r j crs σ rs∧dynP (acc.reverse++rs++[r]) (j+rs.length) ps∧E.Pn pv ((σ.apps crs rs).app none r),(WW E k).2)
def Wk(E:Env)(k:List Itm)(σ:St):Prop:=(WW E k).1 σ
def Wx(E:Env)(id:Nat)(k:List Itm)(σ:St):Prop:=(WW E k).2 id σ
section
variable {E:Env} {σ:St} {k:List Itm}
theorem lk_put(fr:List (Nat×Bool×AV))(dst:Option Nat)(r:RR):lk (putF fr dst r.c r.v)=updF (lk fr) dst r:=by
 cases dst with
 | none=>rfl
 | some d=>funext n; simp only[putF,lk,updF,upd]
theorem ov_addW(β:Nat→Option Bx):∀(wr l:List (Nat×Option Bx)),ov β (addW l wr)=appl (ov β l) wr
 | [],_=>rfl
 | (i,b)::r,l=>ov_addW β r ((i,b)::l)
theorem ov_bk(β:Nat→Option Bx):∀{l:List (Nat×Option Bx)} {n:Nat} {b:Bx},bk l n=some b→ov β l n=some b
 | [],n,b,h=>by cases h
 | (m,x)::r,n,b,h=>by
  simp only[bk] at h
  by_cases hn:n=m
  ·subst hn
   rw[if_pos rfl] at h
   simp only[ov,upd_eq]; exact h
  ·rw[if_neg hn] at h
   simp only[ov,upd_ne _ _ _ hn]; exact ov_bk β h
theorem Has.ov{l:List (Nat×Option Bx)}{rd:List (Nat×Bx)}(h:Has (bk l) rd)(β:Nat→Option Bx):Has (Am.ov β l) rd:=fun q hq=>ov_bk β (h q hq)
theorem OpR.ov{P:Program}{cr:CR}{id:Nat}{F:Fr}{l:List (Nat×Option Bx)}{r:RR}(h:OpR P cr id F (bk l) r)(β:Nat→Option Bx):OpR P cr id F (Am.ov β l) r :=
 h.local (fun _ _=>rfl) (fun _ _=>rfl) (fun _ _ _=>rfl) fun hc=>((h.2.2.1 hc).has).ov β
theorem ARuns.runs{P:Program}{base:Nat}(β:Nat→Option Bx):∀{l:List CR} {j:Nat} {σ:St} {rs:List RR},ARuns P base j l σ rs→Runs P base j l (lk σ.fr) (ov β σ.bx) rs∧runF l rs (lk σ.fr)=lk (σ.apps l rs).fr∧runB rs (ov β σ.bx)=ov β (σ.apps l rs).bx∧(σ.apps l rs).k=σ.k
 | [],_,_,[],_=>⟨trivial,rfl,rfl,rfl⟩
 | [],_,_,_::_,h=>h.elim
 | _::_,_,_,[],h=>h.elim
 | cr::l,j,σ,r::rs,h=>by
  obtain⟨h1,h2⟩:=h
  obtain⟨k1,k2,k3,k4⟩:=ARuns.runs β h2
  simp only[St.app,lk_put,ov_addW] at k1 k2 k3
  exact⟨⟨h1.ov β,k1⟩,k2,k3,k4⟩
theorem OpP.ov{P:Program}{cr:CR}{id:Nat}{F:Fr}{l:List (Nat×Option Bx)}{pv:AV}{r:RR}(h:OpP P cr id F (bk l) pv r)(β:Nat→Option Bx):OpP P cr id F (Am.ov β l) pv r :=
 h.local (fun _ _=>rfl) (fun _ _=>rfl) (fun _ _ _=>rfl) (h.has.ov β)
theorem OpP.mayW{P:Program}{cr:CR}{id:Nat}{F:Fr}{B:Nat→Option Bx}{pv:AV}{r:RR}(h:OpP P cr id F B pv r):cr.op.mayW=true:=by
 obtain⟨dst,g,us,op⟩:=cr
 cases h.2.2<;>rfl
theorem APn.runs{P:Program}{base:Nat}(β:Nat→Option Bx){pv:AV}{r:RR}:∀{rs:List RR} {l:List CR} {j:Nat} {σ:St},APn P base pv r j l σ rs→PRuns P base pv r j l (lk σ.fr) (ov β σ.bx) rs∧Runs P base j (l.take rs.length) (lk σ.fr) (ov β σ.bx) rs ∧
  runB rs (ov β σ.bx)=ov β (σ.apps l rs).bx∧∃cr,l[rs.length]?=some cr∧OpP P cr (base+1024*(j+rs.length)) (runF (l.take rs.length) rs (lk σ.fr)) (runB rs (ov β σ.bx)) pv r
 | [],[],_,_,h=>h.elim
 | _::_,[],_,_,h=>h.elim
 | [],cr::l,j,σ,h=>⟨OpP.ov h β,trivial,rfl,cr,rfl,OpP.ov h β⟩
 | r0::rs,cr::l,j,σ,h=>by
  obtain⟨h1,h2⟩:=h
  obtain⟨k1,k2,k3,c,k4,k5⟩:=APn.runs β h2
  simp only[St.app,lk_put,ov_addW] at k1 k2 k3 k5
  refine⟨⟨h1.ov β,k1⟩,⟨h1.ov β,k2⟩,k3,c,by simpa using k4,?_⟩
  simp only[List.length_cons,List.take_succ_cons,runF,runB]
  rw[show j+(rs.length+1)=j+1+rs.length by omega]
  exact k5
theorem mem_addW{q:Nat×Option Bx}:∀{r l:List (Nat×Option Bx)},q∈addW l r↔q∈l∨q∈r
 | [],l=>by simp[addW]
 | x::r,l=>by
  simp only[addW]
  rw[mem_addW,List.mem_cons,List.mem_cons]
  constructor
  ·rintro ((h|h)|h)
   ·exact .inr (.inl h)
   ·exact .inl h
   ·exact .inr (.inr h)
  ·rintro (h|h|h)
   ·exact .inl (.inr h)
   ·exact .inl (.inl h)
   ·exact .inr h
theorem mem_apps{q:Nat×Option Bx}:∀{rs:List RR} {l:List CR} {σ:St},rs.length≤l.length→(q∈σ.bx∨∃r∈rs,q∈r.wr)→q∈(σ.apps l rs).bx
 | [],[],σ,_,h=>by rcases h with h|⟨r,hr,_⟩; exact h; cases hr
 | [],_::_,σ,_,h=>by rcases h with h|⟨r,hr,_⟩; exact h; cases hr
 | _::_,[],_,hl,_=>by simp at hl
 | r0::rs,cr::l,σ,hl,h=>by
  refine mem_apps (l:=l) (σ:=σ.app cr.dst r0) (by simpa using hl) ?_
  rcases h with h|⟨r,hr,h⟩
  ·exact .inl (mem_addW.2 (.inl h))
  ·rcases List.mem_cons.1 hr with rfl|hr
   ·exact .inl (mem_addW.2 (.inr h))
   ·exact .inr ⟨r,hr,h⟩
theorem ov_hist{β:Nat→Option Bx}(y:Nat):∀(l:List (Nat×Option Bx)),ov β l y=β y∨(y,ov β l y)∈l
 | []=>.inl rfl
 | (m,b)::l=>by
  by_cases h:y=m
  ·subst h; right; simp only[ov,upd_eq]; exact List.mem_cons_self
  ·simp only[ov,upd_ne _ _ _ h]
   exact (ov_hist y l).imp id fun h=>List.mem_cons_of_mem _ h
theorem statOk_spec{ops:Array Oper}{crs:List CR}{ps:List (Nat×Nat)}(h:statOk ops crs ps=true):
  (∀(j:Nat) o,ops[j]?=some o→∀e∈o.after,Region.binds .any e=true→e.on<j)∧∀i j,(i,j)∈ps→∀x y,crs[i]?=some x→crs[j]?=some y→slotsApart x y=true:=by
 simp only[statOk,Bool.and_eq_true] at h
 obtain⟨h1,h2⟩:=h
 refine⟨fun j o ho e he hb=>?_,fun i j hp x y hx hy=>?_⟩
 ·have:=List.all_eq_true.1 h1 (o,j) (by
   rw[List.mem_zipIdx_iff_getElem?]
   simpa using ho)
  have:=List.all_eq_true.1 this e.on (mem_bindsOf.2 ⟨e,he,hb,rfl⟩)
  simpa using this
 ·have:=List.all_eq_true.1 h2 (i,j) hp
  simpa only[hx,hy] using this
theorem region_ok{id:Nat}{ops:Array Oper}{draw:Bool}{crs:List CR}{ps:List (Nat×Nat)}(hc:compG E.P E.N ops draw = .reg draw crs ps){rs:List RR}(hr:ARuns E.P (E.n0+σ.k) 0 crs σ rs)(hd:dynOk rs ps)
  {K:St→Prop} {X:Nat→St→Prop} (hK:K ((σ.apps crs rs).bump (1024*crs.length))) {G:Gh} {a:Act} {w:World} (hD:Desc E σ G a w):(Code.region id ops draw).wp E.P (Post E K X) a w:=by
 unfold compG at hc
 split at hc
 ·cases hc
 ·rename_i cs hcs
  obtain⟨hlen,hget⟩:=compL_get hcs
  have hlen':cs.length=ops.size:=by simpa using hlen
  have hcr:∀(i:Nat) o,ops[i]?=some o→∃c,cs[i]?=some c∧compR E.P E.N ops o=some c:=fun i o ho=>hget i o (by simpa using ho)
  obtain⟨q1,q2,q3,q4⟩:=hr.runs E.β
  have fin:crs=cs→∀G a w,DescF E.C E.N E.D E.n0 E.G0 E.w0 (runF crs rs (lk σ.fr)) (runB rs (ov E.β σ.bx)) (· < E.n0+σ.k+1024*ops.size) G a w→Post E K X .normal a w:=fun hcc G a w h=>by
   refine⟨_,G,?_,hK⟩
   rw[q2,q3] at h
   subst hcc
   simp only[Desc,St.bump,q4]
   exact h.weak fun id hid=>by rw[hlen']; omega
  cases draw with
  | false =>
   simp only[CC.reg.injEq,true_and] at hc
   obtain⟨rfl,rfl⟩:=hc
   refine wp_region ?_
   rw[List.range_eq_range']
   refine seq_ok hlen' hcr (base:=E.n0+σ.k) (by omega) (Q:=Post E K X) (fin rfl) ops.size 0 rs _ _ G a w (by omega) ?_ ?_ rfl (hD.weak fun id hid=>by omega)
   ·exact q1
   ·rfl
  | true =>
   simp only at hc
   split at hc
   ·rename_i hs
    rw[Bool.and_eq_true] at hs
    simp only[CC.reg.injEq,true_and] at hc
    obtain⟨rfl,rfl⟩:=hc
    obtain⟨s1,s2⟩:=statOk_spec hs.1
    refine wp_region_any hs.2 ?_
    obtain⟨r1,r2⟩:=hD.rs.drew
    have hD':DescF E.C E.N E.D E.n0 E.G0 E.w0 (lk σ.fr) (ov E.β σ.bx) (· < E.n0+σ.k) G a w.drew:=DescF.step hD r1 r2 (fun id h=>hD.used id h) fun id _ h=>h
    have anc:=ancs_ok (ops:=ops) (l:=ops.toList) (acc:=[]) (fun i o ho=>by simpa using ho) fun j i hi=>by simp at hi
    have e1:∀(D:Nat→Bool),(∀i,D i=false)→∀{β:Type} (st:Nat→(Nat→β)→Nat→β) (f:Nat→β),foldD st D (List.range ops.size) f=f:=fun D hD β st f=>foldD_false fun i _=>hD i
    have none:∀i,(Array.replicate ops.size false).getD i false=false:=fun i=>by simp[Array.getD_eq_getD_getElem?,Array.getElem?_replicate]; split<;>rfl
    have q0:rs.length=cs.length:=(Runs.len q1).symm
    have hcf:∀(i j:Nat) x y r s,i<j→cs[i]?=some x→cs[j]?=some y→rs[i]?=some r→rs[j]?=some s→Before ops i j∨(slotsApart x y=true∧apartR r s):=fun i j x y r s hij hx hy hr' hs'=>by
     by_cases hb:i∈(ancs ops.toList []).getD j []
     ·exact .inl (anc j i hb)
     ·refine .inr ?_
      have hj:j<ops.size:=by rw[←hlen']; exact (List.getElem?_eq_some_iff.1 hy).1
      have hm:=mem_openPairs.2 ⟨hj,hij,hb⟩
      refine⟨s2 i j hm x y hx hy,?_⟩
      cases hw:x.op.mayW||y.op.mayW with
      | true =>
       have:=dynOk_mem hd (i,j) (List.mem_filter.2 ⟨hm,by simp only[hx,hy,hw]⟩)
       simpa only[getR_some hr',getR_some hs'] using this
      | false =>
       simp only[Bool.or_eq_false_iff] at hw
       have pure:∀(m:Nat) z t,cs[m]?=some z→rs[m]?=some t→z.op.mayW=false→t.wr=[]:=fun m z t hz ht hzw=>by
        obtain⟨_,_,g3,g4⟩:=q1.get m z t hz ht
        cases hc:t.c with
        | false=>exact g4 hc
        | true=>exact mayW_false (g3 hc) hzw
       simp[apartR,pure i x r hx hr' hw.1,pure j y s hy hs' hw.2,keysW,apartL]
    have t1:cs.take ops.size=cs:=List.take_of_length_le (by omega)
    have t2:rs.take ops.size=rs:=List.take_of_length_le (by omega)
    refine any_ok (n0:=E.n0) (F0:=lk σ.fr) (B0:=ov E.β σ.bx) (base:=E.n0+σ.k) (p:=ops.size) (crs:=cs) (rs:=rs) (by omega) q0.symm (by omega) (Nat.le_refl _) (fun i o c ho hc=>by obtain⟨c',h1,h2⟩:=hcr i o ho; rw[hc] at h1; injection h1 with h1; rw[h1]; exact h2) (by rw[t1,t2]; exact q1) s1 hcf (fun _=>by rw[t1,t2]; exact fin rfl) (fun h=>by omega) ops.size _ G a w.drew (by simp) (fun j o ho hj=>by simp only[none] at hj; cases hj) (fun i _=>none i) ?_ ?_
    ·refine Nat.le_trans List.countP_le_length (by simp)
    ·rw[e1 _ none,e1 _ none]
     exact hD'.weak fun id hid=>.inl hid
   ·cases hc
theorem region_pn{id:Nat}{ops:Array Oper}{draw:Bool}{crs:List CR}{ps:List (Nat×Nat)}(hc:compG E.P E.N ops draw = .reg draw crs ps){rs:List RR}{pv:AV}{r:RR}(hr:APn E.P (E.n0+σ.k) pv r 0 crs σ rs)(hd:dynP (rs++[r]) rs.length ps)
  {K:St→Prop} {X:Nat→St→Prop} (hK:E.Pn pv ((σ.apps crs rs).app .none r)) {G:Gh} {a:Act} {w:World} (hD:Desc E σ G a w):(Code.region id ops draw).wp E.P (Post E K X) a w:=by
 unfold compG at hc
 split at hc
 ·cases hc
 ·rename_i cs hcs
  obtain⟨hlen,hget⟩:=compL_get hcs
  have hlen':cs.length=ops.size:=by simpa using hlen
  have hcr:∀(i:Nat) o,ops[i]?=some o→∃c,cs[i]?=some c∧compR E.P E.N ops o=some c:=fun i o ho=>hget i o (by simpa using ho)
  obtain⟨q1,q2,q3,cp,q4,q5⟩:=hr.runs E.β
  have hpl:rs.length<crs.length:=(List.getElem?_eq_some_iff.1 q4).1
  have inA:∀q,q∈(σ.apps crs rs).bx→q∈((σ.apps crs rs).app .none r).bx:=fun q hq=>mem_addW.2 (.inl hq)
  have inR:∀q,q∈r.wr→q∈((σ.apps crs rs).app .none r).bx:=fun q hq=>mem_addW.2 (.inr hq)
  cases draw with
  | false =>
   simp only[CC.reg.injEq,true_and] at hc
   obtain⟨rfl,rfl⟩:=hc
   refine wp_region ?_
   rw[List.range_eq_range']
   refine seq_pn hlen' hcr (base:=E.n0+σ.k) (by omega) (Q:=Post E K X) (pv:=pv) (r:=r) (B':=runB rs (ov E.β σ.bx)) (fun G a w u F U h hv=>⟨pv,u,_,F,_,U,G,rfl,h,fun y=>?_,hv,hK⟩) rs ops.size 0 _ _ G a w (by omega) q1 rfl (hD.weak fun id hid=>by omega)
   by_cases hy:y∈keysW r.wr
   ·exact .inr (inR _ (appl_mem hy))
   ·rw[appl_out hy,q3]
    exact (ov_hist y _).imp _root_.id (inA _)
  | true =>
   simp only at hc
   split at hc
   ·rename_i hs
    rw[Bool.and_eq_true] at hs
    simp only[CC.reg.injEq,true_and] at hc
    obtain⟨rfl,rfl⟩:=hc
    obtain⟨s1,s2⟩:=statOk_spec hs.1
    refine wp_region_any hs.2 ?_
    obtain⟨r1,r2⟩:=hD.rs.drew
    have hD':DescF E.C E.N E.D E.n0 E.G0 E.w0 (lk σ.fr) (ov E.β σ.bx) (· < E.n0+σ.k) G a w.drew:=DescF.step hD r1 r2 (fun id h=>hD.used id h) fun id _ h=>h
    have anc:=ancs_ok (ops:=ops) (l:=ops.toList) (acc:=[]) (fun i o ho=>by simpa using ho) fun j i hi=>by simp at hi
    have e1:∀(D:Nat→Bool),(∀i,D i=false)→∀{β:Type} (st:Nat→(Nat→β)→Nat→β) (f:Nat→β) (n:Nat),foldD st D (List.range n) f=f:=fun D hD β st f n=>foldD_false fun i _=>hD i
    have none:∀i,(Array.replicate ops.size false).getD i false=false:=fun i=>by simp[Array.getD_eq_getD_getElem?,Array.getElem?_replicate]; split<;>rfl
    have hlt:(cs.take (rs.length+1)).length=rs.length+1:=by rw[List.length_take]; omega
    have g1:∀(i:Nat) c,(cs.take (rs.length+1))[i]?=some c→i<rs.length+1∧cs[i]?=some c:=fun i c h=>by
     have hi:i<rs.length+1:=by have:=(List.getElem?_eq_some_iff.1 h).1; omega
     rw[List.getElem?_take_of_lt hi] at h
     exact⟨hi,h⟩
    have t1:(cs.take (rs.length+1)).take rs.length=cs.take rs.length:=by rw[List.take_take,Nat.min_eq_left (by omega)]
    have t2:(rs++[r]).take rs.length=rs:=List.take_left' rfl
    have hcf:∀(i j:Nat) x y r0 s,i<j→(cs.take (rs.length+1))[i]?=some x→(cs.take (rs.length+1))[j]?=some y→(rs++[r])[i]?=some r0→(rs++[r])[j]?=some s→Before ops i j∨(slotsApart x y=true∧apartR r0 s):=fun i j x y r0 s hij hx hy hr' hs'=>by
     obtain⟨hi1,hx⟩:=g1 i x hx
     obtain⟨hj1,hy⟩:=g1 j y hy
     by_cases hb:i∈(ancs ops.toList []).getD j []
     ·exact .inl (anc j i hb)
     ·refine .inr ?_
      have hj:j<ops.size:=by rw[←hlen']; exact (List.getElem?_eq_some_iff.1 hy).1
      have hm:=mem_openPairs.2 ⟨hj,hij,hb⟩
      refine⟨s2 i j hm x y hx hy,?_⟩
      cases hw:x.op.mayW||y.op.mayW with
      | true =>
       have:=(dynP_mem hd (i,j) (List.mem_filter.2 ⟨hm,by simp only[hx,hy,hw]⟩)).1 (by omega)
       simpa only[getR_some hr',getR_some hs'] using this
      | false =>
       simp only[Bool.or_eq_false_iff] at hw
       have hjp:j<rs.length:=by
        rcases Nat.lt_or_ge j rs.length with h|h
        ·exact h
        ·have:j=rs.length:=by omega
         subst this
         rw[q4] at hy; injection hy with hy; subst hy
         rw[q5.mayW] at hw; cases hw.2
       have pure:∀(m:Nat) z t,m<rs.length→cs[m]?=some z→(rs++[r])[m]?=some t→z.op.mayW=false→t.wr=[]:=fun m z t hm hz ht hzw=>by
        rw[List.getElem?_append_left hm] at ht
        obtain⟨_,_,g3,g4⟩:=q2.get m z t (by rw[List.getElem?_take_of_lt hm]; exact hz) ht
        cases hc:t.c with
        | false=>exact g4 hc
        | true=>exact mayW_false (g3 hc) hzw
       simp[apartR,pure i x r0 (by omega) hx hr' hw.1,pure j y s hjp hy hs' hw.2,keysW,apartL]
    refine any_ok (C:=E.C) (D:=E.D) (G0:=E.G0) (w0:=E.w0) (n0:=E.n0) (base:=E.n0+σ.k) (p:=rs.length) (crs:=cs.take (rs.length+1)) (rs:=rs++[r]) (F0:=lk σ.fr) (B0:=ov E.β σ.bx) (by omega) (by rw[hlt]; simp) (by omega) (by omega) (fun i o c ho hc=>by obtain⟨c',h1,h2⟩:=hcr i o ho; rw[(g1 i c hc).2] at h1; injection h1 with h1; rw[h1]; exact h2) (by rw[t1,t2]; exact q2) s1 hcf (fun h=>by omega) (fun _=>⟨⟨by omega,fun i hpi hi=>?_⟩,pv,fun c r' hc' hr'=>?_⟩) ops.size _ G a w.drew (by simp) (fun j o ho hj=>by simp only[none] at hj; cases hj) (fun i _=>none i) ?_ ?_
    ·by_cases hb:rs.length∈(ancs ops.toList []).getD i []
     ·exact anc i _ hb
     ·exfalso
      have hm:=mem_openPairs.2 ⟨hi,hpi,hb⟩
      obtain⟨y,hy⟩:∃y,cs[i]?=some y:=⟨_,List.getElem?_eq_getElem (by omega)⟩
      exact (dynP_mem hd (rs.length,i) (List.mem_filter.2 ⟨hm,by simp only[q4,hy,q5.mayW,Bool.true_or]⟩)).2 hpi rfl
    ·have e2:=(g1 _ c hc').2
     rw[q4] at e2; injection e2 with e2; subst e2
     have e3:r'=r:=by simpa using hr'.symm
     subst e3
     rw[Nat.zero_add] at q5
     rw[t1,t2]
     refine⟨q5,fun L G a w u F U h hv=>⟨pv,u,_,F,_,U,G,rfl,h,fun y=>?_,hv,hK⟩⟩
     by_cases hy:y∈keysW r'.wr
     ·exact .inr (inR _ (appl_mem hy))
     ·rw[appl_out hy]
      rcases foldB_hist (rs:=rs++[r']) (L:=L) y (l:=List.range rs.length) (B:=ov E.β σ.bx) with h|⟨r0,h1,h2⟩
      ·rw[h]
       exact (ov_hist y _).imp _root_.id fun h=>inA _ (mem_apps (by omega) (.inl h))
      ·refine .inr ?_
       rcases List.mem_append.1 h1 with h1|h1
       ·exact inA _ (mem_apps (by omega) (.inr ⟨r0,h1,h2⟩))
       ·rw[List.mem_singleton] at h1; subst h1; exact inR _ h2
    ·refine Nat.le_trans List.countP_le_length (by simp)
    ·rw[e1 _ none,e1 _ none]
     exact hD'.weak fun id hid=>.inl hid
   ·cases hc
end
end Go.Am
namespace Go.Am
set_option linter.all false
open Go Go.RowKit
section
variable {E:Env} {σ:St} {k:List Itm}
theorem comp_seq{P:Program}{N:Nat}{c:Code}{a b:CC}(h:compC P N c = .seq a b):∃x y,c = .seq x y∧compC P N x=a∧compC P N y=b:=by
 cases c
 case seq x y=>simp only[compC,CC.seq.injEq] at h; exact⟨x,y,rfl,h⟩
 case region=>simp only[compC,compG] at h; split at h; cases h; split at h; cases h; split at h<;>cases h
 case cond=>simp only[compC] at h; split at h<;>cases h
 all_goals cases h
theorem comp_cond{P:Program}{N:Nat}{c:Code}{o:Opd}{a b:CC}(h:compC P N c = .cond o a b):∃X x y,c = .cond X x y∧opd X=some o∧compC P N x=a∧compC P N y=b:=by
 cases c
 case cond X x y =>
  simp only[compC] at h
  split at h
  ·rename_i o' ho
   simp only[CC.cond.injEq] at h
   obtain⟨rfl,h1,h2⟩:=h
   exact⟨X,x,y,rfl,ho,h1,h2⟩
  ·cases h
 case region=>simp only[compC,compG] at h; split at h; cases h; split at h; cases h; split at h<;>cases h
 all_goals cases h
theorem comp_block{P:Program}{N:Nat}{c:Code}{id:Nat}{a:CC}(h:compC P N c = .block id a):∃x,c = .block id x∧compC P N x=a:=by
 cases c
 case block i x=>simp only[compC,CC.block.injEq] at h; obtain⟨rfl,h⟩:=h; exact⟨x,rfl,h⟩
 case region=>simp only[compC,compG] at h; split at h; cases h; split at h; cases h; split at h<;>cases h
 case cond=>simp only[compC] at h; split at h<;>cases h
 all_goals cases h
theorem comp_loop{P:Program}{N:Nat}{c:Code}{a:CC}(h:compC P N c = .loop a):∃x,c = .loop x∧compC P N x=a:=by
 cases c
 case loop x=>simp only[compC,CC.loop.injEq] at h; exact⟨x,rfl,h⟩
 case region=>simp only[compC,compG] at h; split at h; cases h; split at h; cases h; split at h<;>cases h
 case cond=>simp only[compC] at h; split at h<;>cases h
 all_goals cases h
theorem comp_exit{P:Program}{N:Nat}{c:Code}{id:Nat}(h:compC P N c = .exit id):c = .exit id:=by
 cases c
 case exit i=>simp only[compC,CC.exit.injEq] at h; rw[h]
 case region=>simp only[compC,compG] at h; split at h; cases h; split at h; cases h; split at h<;>cases h
 case cond=>simp only[compC] at h; split at h<;>cases h
 all_goals cases h
theorem comp_ret{P:Program}{N:Nat}{c:Code}(h:compC P N c = .ret):c = .ret:=by
 cases c
 case ret=>rfl
 case region=>simp only[compC,compG] at h; split at h; cases h; split at h; cases h; split at h<;>cases h
 case cond=>simp only[compC] at h; split at h<;>cases h
 all_goals cases h
theorem comp_skip{P:Program}{N:Nat}{c:Code}(h:compC P N c = .skip):c = .skip∨∃l,c = .label l:=by
 cases c
 case skip=>exact .inl rfl
 case label l=>exact .inr ⟨l,rfl⟩
 case region=>simp only[compC,compG] at h; split at h; cases h; split at h; cases h; split at h<;>cases h
 case cond=>simp only[compC] at h; split at h<;>cases h
 all_goals cases h
theorem comp_reg{P:Program}{N:Nat}{c:Code}{d:Bool}{crs:List CR}{ps:List (Nat×Nat)}(h:compC P N c = .reg d crs ps):∃id ops,c = .region id ops d∧compG P N ops d = .reg d crs ps:=by
 cases c
 case region id ops draw =>
  have h':=h
  simp only[compC,compG] at h'
  split at h'
  ·cases h'
  ·split at h'
   ·simp only[CC.reg.injEq] at h'; obtain⟨rfl,_⟩:=h'; exact⟨id,ops,rfl,h⟩
   ·split at h'
    ·simp only[CC.reg.injEq] at h'; obtain⟨rfl,_⟩:=h'; exact⟨id,ops,rfl,h⟩
    ·cases h'
 case cond=>simp only[compC] at h; split at h<;>cases h
 all_goals cases h
theorem w_skip(h:Wk E k σ):Wk E (.code .skip::k) σ:=fun c hc G a w hD=>by
 rcases comp_skip hc with rfl|⟨l,rfl⟩
 ·exact wp_skip ⟨σ,G,hD,h⟩
 ·exact wp_label ⟨σ,G,hD,h⟩
theorem w_seq{x y:CC}(h:Wk E (.code x::.code y::k) σ):Wk E (.code (.seq x y)::k) σ:=fun c hc G a w hD=>by
 obtain⟨cx,cy,rfl,hx,hy⟩:=comp_seq hc
 refine wp_seq (wp_mono (h cx hx G a w hD) fun e a' w' hq=>?_)
 cases e with
 | normal=>obtain⟨σ',G',h1,h2⟩:=hq; exact h2 cy hy G' a' w' h1
 | _=>exact hq
theorem w_exit{id:Nat}(h:Wx E id k σ):Wk E (.code (.exit id)::k) σ:=fun c hc G a w hD=>by
 rw[comp_exit hc]; exact wp_exit ⟨σ,G,hD,h⟩
theorem w_ret(h:E.Rt σ):Wk E (.code .ret::k) σ:=fun c hc G a w hD=>by
 rw[comp_ret hc]; exact wp_ret ⟨σ,G,hD,h⟩
theorem w_block{id:Nat}{c:CC}(h:Wk E (.code c::.blk id::k) σ):Wk E (.code (.block id c)::k) σ:=fun c' hc G a w hD=>by
 obtain⟨x,rfl,hx⟩:=comp_block hc
 refine wp_block (wp_mono (h x hx G a w hD) fun e a' w' hq=>?_)
 cases e with
 | exit id' =>
  obtain⟨σ',G',h1,h2⟩:=hq
  simp only[WW] at h2
  simp only[Exit.inBlock]
  split at h2
  ·rename_i hid; rw[if_pos hid]; exact⟨σ',G',h1,h2⟩
  ·rename_i hid; rw[if_neg hid]; exact⟨σ',G',h1,h2⟩
 | _=>exact hq
theorem w_cond{o:Opd}{x y:CC}{b:Bool}(hc:ceO (lk σ.fr) o=true)(hv:veF (lk σ.fr) o = .bool b)(h1:b=true→Wk E (.code x::k) σ)(h2:b=false→Wk E (.code y::k) σ):Wk E (.code (.cond o x y)::k) σ:=fun c hcc G a w hD=>by
 obtain⟨X,cx,cy,rfl,ho,hx,hy⟩:=comp_cond hcc
 have hr:=DescF.opd hD ho fun n hn=>by
  subst hn
  simp only[Am.opd,Option.some.injEq] at ho
  subst ho
  exact hc
 rw[hv] at hr
 have he:a.eval X = .bool b:=by generalize a.eval X=u at hr; cases hr; rfl
 refine wp_cond_split he (fun hb=>h1 hb cx hx G a w hD) fun hb=>h2 hb cy hy G a w hD
theorem w_reg{d:Bool}{crs:List CR}{ps:List (Nat×Nat)}(h:Wk E (.ops crs 0 [] ps::k) σ):Wk E (.code (.reg d crs ps)::k) σ:=fun c hc G a w hD=>by
 obtain⟨id,ops,rfl,hg⟩:=comp_reg hc
 rcases h with⟨rs,h1,h2,h3⟩|⟨rs,pv,r,h1,h2,h3⟩
 ·exact region_ok hg h1 h2 (by simpa using h3) hD
 ·exact region_pn hg h1 (by simpa using h2) h3 hD
theorem w_op{cr:CR}{l:List CR}{j:Nat}{acc:List RR}{ps:List (Nat×Nat)}{r:RR}(h1:OpR E.P cr (E.n0+σ.k+1024*j) (lk σ.fr) (bk σ.bx) r)(h:Wk E (.ops l (j+1) (r::acc) ps::k) (σ.app cr.dst r)):Wk E (.ops (cr::l) j acc ps::k) σ:=by
 rcases h with⟨rs,h2,h3,h4⟩|⟨rs,pv,r1,h2,h3,h4⟩
 ·refine .inl ⟨r::rs,⟨h1,h2⟩,by simpa using h3,?_⟩
  simp only[St.apps,List.length_cons]
  rw[show j+(l.length+1)=j+1+l.length by omega]
  exact h4
 ·refine .inr ⟨r::rs,pv,r1,⟨h1,h2⟩,?_,h4⟩
  rw[List.length_cons,show j+(rs.length+1)=j+1+rs.length by omega]
  simpa using h3
theorem w_pn{cr:CR}{l:List CR}{j:Nat}{acc:List RR}{ps:List (Nat×Nat)}{pv:AV}{r:RR}(h1:OpP E.P cr (E.n0+σ.k+1024*j) (lk σ.fr) (bk σ.bx) pv r)(hd:dynP (r::acc).reverse j ps)(h:E.Pn pv (σ.app none r)):Wk E (.ops (cr::l) j acc ps::k) σ :=
 .inr ⟨[],pv,r,h1,by simpa using hd,h⟩
theorem w_ops{j:Nat}{acc:List RR}{ps:List (Nat×Nat)}(h1:dynOk acc.reverse ps)(h:Wk E k (σ.bump (1024*j))):Wk E (.ops [] j acc ps::k) σ :=
 .inl ⟨[],trivial,by simpa using h1,by simpa [St.apps,Wk] using h⟩
def Conv(E:Env)(σ σ':St):Prop:=∀G a w,Desc E σ G a w→∃G',Desc E σ' G' a w
theorem Conv.refl:Conv E σ σ:=fun G _ _ h=>⟨G,h⟩
theorem Conv.trans{σ1 σ2:St}(h:Conv E σ σ1)(h':Conv E σ1 σ2):Conv E σ σ2:=fun G a w hD=>let ⟨G1,h1⟩:=h G a w hD; h' G1 a w h1
theorem w_conv{cc:CC}{σ':St}(hc:Conv E σ σ')(h:Wk E (.code cc::k) σ'):Wk E (.code cc::k) σ:=fun c hcc G a w hD=>by
 obtain⟨G',hD'⟩:=hc G a w hD
 exact h c hcc G' a w hD'
theorem w_loop{body:CC}{X:Type}(inv:X→St)(ok:X→Prop)(m:X→Nat)(x0:X)(h0:Conv E σ (inv x0))(hx0:ok x0)
  (step:∀x,ok x→∀p:St→Prop,(∀σ' x',ok x'→m x'<m x→Conv E σ' (inv x')→p σ')→Wk E (.code body::.post p::k) (inv x)):Wk E (.code (.loop body)::k) σ:=fun c hc G a w hD=>by
 obtain⟨cb,rfl,hb⟩:=comp_loop hc
 obtain⟨G1,hD1⟩:=h0 G a w hD
 refine wp_loop_ghost (fun n a w=>∃x G,ok x∧m x=n∧Desc E (inv x) G a w) (m x0) ⟨x0,G1,hx0,rfl,hD1⟩ fun n a w hI=>?_
 obtain⟨x,G2,hx,rfl,hD2⟩:=hI
 refine wp_mono (step x hx (fun σ'=>∃x',ok x'∧m x'<m x∧Conv E σ' (inv x')) (fun σ' x' h1 h2 h3=>⟨x',h1,h2,h3⟩) cb hb G2 a w hD2) fun e a' w' hq=>?_
 cases e with
 | normal =>
  obtain⟨σ',G',h1,x',h2,h3,h4⟩:=hq
  obtain⟨G3,h5⟩:=h4 G' a' w' h1
  exact⟨m x',h3,x',G3,h2,rfl,h5⟩
 | _=>exact hq
end
/-! ### Conversions -/
def newIn(a b:Nat):List (Nat×Nat)→Prop
 | []=>True
 | (y,_)::l=>(a≤y∧y<b)∧newIn a b l
theorem newIn_mem{a b:Nat}:∀{l:List (Nat×Nat)},newIn a b l→∀q∈l,a≤q.1∧q.1<b
 | [],_,q,hq=>by cases hq
 | (y,t)::l,h,q,hq=>by
  rcases List.mem_cons.1 hq with rfl|hq
  ·exact h.1
  ·exact newIn_mem h.2 q hq
def SubF(R:Rn)(S:Nat→Prop)(fr:List (Nat×Bool×AV)):List (Nat×Bool×AV)→Prop
 | []=>True
 | (n,c,v)::l=>(∃v0,lk fr n=some (c,v0)∧(c=true→RenR R S v0 v))∧SubF R S fr l
def SubB(R:Rn)(S:Nat→Prop)(bx:List (Nat×Option Bx)):List (Nat×Option Bx)→Prop
 | []=>True
 | (_,none)::l=>SubB R S bx l
 | (y,some b)::l=>(∃x b0,R.ρ y=some x∧bk bx x=some b0∧BxR R S b0 b)∧SubB R S bx l
def hasKey(y:Nat):List (Nat×Option Bx)→Prop
 | []=>False
 | (x,_)::l=>y=x∨hasKey y l
def DropOk(n0:Nat)(bx':List (Nat×Option Bx)):List (Nat×Option Bx)→Prop
 | []=>True
 | (x,_)::l=>(n0≤x∨hasKey x bx')∧DropOk n0 bx' l
section
variable {E:Env} {σ:St}
theorem SubF.get{R:Rn}{S:Nat→Prop}{fr:List (Nat×Bool×AV)}:∀{l:List (Nat×Bool×AV)},SubF R S fr l→∀n c v,lk l n=some (c,v)→∃v0,lk fr n=some (c,v0)∧(c=true→RenR R S v0 v)
 | [],_,n,c,v,h=>by cases h
 | (m,c',v')::l,hs,n,c,v,h=>by
  simp only[lk] at h
  split at h
  ·rename_i hn
   simp only[Option.some.injEq,Prod.mk.injEq] at h
   obtain⟨rfl,rfl⟩:=h
   subst hn
   exact hs.1
  ·exact SubF.get hs.2 n c v h
theorem DropOk.get{n0:Nat}{bx':List (Nat×Option Bx)}:∀{l:List (Nat×Option Bx)},DropOk n0 bx' l→∀x,x<n0→¬hasKey x bx'→∀β,ov β l x=β x
 | [],_,_,_,_,_=>rfl
 | (y,b)::l,h,x,hx,hk,β=>by
  have hne:x≠y:=fun e=>by
   subst e
   rcases h.1 with h|h
   ·omega
   ·exact hk h
  simp only[ov,upd_ne _ _ _ hne]
  exact DropOk.get h.2 x hx hk β
theorem ov_nokey{β:Nat→Option Bx}{y:Nat}:∀{l:List (Nat×Option Bx)},¬hasKey y l→ov β l y=β y
 | [],_=>rfl
 | (x,b)::l,h=>by
  simp only[hasKey,not_or] at h
  simp only[ov,upd_ne _ _ _ h.1]
  exact ov_nokey h.2
theorem SubB.get{R:Rn}{S:Nat→Prop}{bx:List (Nat×Option Bx)}{β:Nat→Option Bx}:∀{l:List (Nat×Option Bx)},SubB R S bx l→∀y b,ov β l y=some b→hasKey y l→∃x b0,R.ρ y=some x∧bk bx x=some b0∧BxR R S b0 b
 | [],_,y,b,_,hk=>hk.elim
 | (z,none)::l,hs,y,b,h,hk=>by
  simp only[ov] at h
  by_cases hz:y=z
  ·subst hz; rw[upd_eq] at h; cases h
  ·rw[upd_ne _ _ _ hz] at h
   exact SubB.get (l:=l) hs y b h (hk.resolve_left hz)
 | (z,some b')::l,hs,y,b,h,hk=>by
  simp only[ov] at h
  by_cases hz:y=z
  ·subst hz
   rw[upd_eq] at h
   injection h with h
   subst h
   exact hs.1
  ·rw[upd_ne _ _ _ hz] at h
   exact SubB.get (l:=l) hs.2 y b h (hk.resolve_left hz)
theorem BxR.same{R:Rn}{S:Nat→Prop}{b:Bx}(h:∀(i:Nat) x,b.xs[i]?=some x→namesIn (R.fix S) x):BxR R S b b:=⟨RenL.same (namesL_iff.2 h),rfl,rfl,rfl⟩
theorem RS.boxNames{P:Program}{C:Cx P}{G:Gh}{B:Nat→Option Bx}{w:World}(h:RS C G B w){id:Nat}{b:Bx}(hb:B id=some b):G.used id∧∀(i:Nat) x,b.xs[i]?=some x→namesIn G.used x:=by
 by_cases hn:G.nl id
 ·refine⟨(h.nlu id hn).1,fun i x hx=>?_⟩
  rw[(h.nil id b hb hn).1] at hx
  simp at hx
 ·obtain⟨blk,s,cur,e,h1,h2,h3,h4,h5,h6⟩:=h.box id b hb hn
  refine⟨h.used id blk s h1,fun i x hx=>?_⟩
  obtain⟨hl,hc⟩:=h5 i x hx
  have:namesL G.used x.cells:=namesL_iff.2 fun j z hz=>let ⟨u,_,hr⟩:=hc j z hz; hr.names
  cases x<;>first|exact this|exact this.1
def goneOk(n0:Nat)(bx':List (Nat×Option Bx)):List (Nat×Nat)→Prop
 | []=>True
 | (_,b)::l=>(n0≤b∨hasKey b bx')∧goneOk n0 bx' l
theorem goneOk_get{n0:Nat}{bx':List (Nat×Option Bx)}:∀{l:List (Nat×Nat)},goneOk n0 bx' l→∀y,y<n0→¬hasKey y bx'→goneN l y=false
 | [],_,_,_,_=>rfl
 | (a,b)::l,h,y,hy,hk=>by
  simp only[goneN]
  split
  ·rename_i e
   subst e
   rcases h.1 with h|h
   ·omega
   ·exact (hk h).elim
  ·exact goneOk_get h.2 y hy hk
theorem Conv.sub(l:List (Nat×Nat))(hl:rnOk l){σ':St}(hk:newIn E.n0 (E.n0+σ'.k) l)(h1:SubF (mkRn E.n0 l hl) E.G0.used σ.fr σ'.fr)(h2:SubB (mkRn E.n0 l hl) E.G0.used σ.bx σ'.bx)(h3:DropOk E.n0 σ'.bx σ.bx)
  (h4:goneOk E.n0 σ'.bx l):Conv E σ σ':=fun G a w hD=>by
 have hlow:∀x,x<E.n0→lkN l x=none:=fun x hx=>by
  cases h:lkN l x with
  | none=>rfl
  | some b=>have:=newIn_mem hk _ (lkN_mem h); simp only at this; omega
 have hfix:∀x,E.G0.used x→(mkRn E.n0 l hl).ρ x=some x∨(mkRn E.n0 l hl).ρ x=none:=fun x hx=>(rnF_old (hlow x (E.old x hx))).symm
 have hst:∀x,x<E.n0→goneN l x=false→(mkRn E.n0 l hl).ρ x=some x:=fun x hx hg=>by
  show rnF E.n0 l x=some x
  unfold rnF
  rw[hlow x hx]
  simp[hx,hg]
 refine⟨G.ren (mkRn E.n0 l hl) E.G0.used,Evo.ren hD.ev hfix,hD.rs.ren fun y b' hy=>?_,fun y hy=>?_,fun y hy hu=>?_,fun n c v hv=>?_,hD.size,hD.defers⟩
 ·by_cases hk:hasKey y σ'.bx
  ·obtain⟨x,b0,q1,q2,q3⟩:=h2.get y b' hy hk
   exact⟨x,b0,q1,ov_bk E.β q2,q3⟩
  ·rw[ov_nokey hk] at hy
   have hlt:y<E.n0:=by
    rcases Nat.lt_or_ge y E.n0 with h|h
    ·exact h
    ·rw[E.own y h] at hy; cases hy
   refine⟨y,b',hst y hlt (goneOk_get h4 y hlt hk),by rw[h3.get y hlt hk E.β]; exact hy,BxR.same fun i x hx=>?_⟩
   exact namesIn_mono (fun z hz=>(hfix z hz).imp _root_.id fun h=>⟨h,hz⟩) x ((E.rs0.boxNames hy).2 i x hx)
 ·rcases hy with⟨x,hx,hu⟩|hy
  ·have hx':rnF E.n0 l y=some x:=hx
   cases h:lkN l y with
   | some b=>exact (newIn_mem hk _ (lkN_mem h)).2
   | none =>
    unfold rnF at hx'
    rw[h] at hx'
    simp only at hx'
    split at hx'
    ·omega
    ·cases hx'
  ·have:=E.old y hy; omega
 ·rcases hu with⟨x,hx,hu⟩|hu
  ·rcases rnF_old (n0:=E.n0) (hlow y hy) with h|h
   ·have hx':rnF E.n0 l y=some x:=hx
    rw[h] at hx'; cases hx'
   ·have hx':rnF E.n0 l y=some x:=hx
    rw[h] at hx'
    injection hx' with hx'
    subst hx'
    exact hD.old _ hy hu
  ·exact hu
 ·obtain⟨v0,q1,q2⟩:=h1.get n c v hv
  obtain⟨r1,r2⟩:=hD.fr n c v0 q1
  exact⟨fun hc=>(r1 hc).ren (q2 hc),r2⟩
/-! ### A slice that is nil,as an empty one of the call's own -/
inductive VoidR(id:Nat):AV→AV→Prop
 | nils:VoidR id .nils (.bsl id 0 0)
 | agg (cs ds:List AV) (h:cs.length=ds.length) (hh:∀(i:Nat) x y,cs[i]?=some x→ds[i]?=some y→x=y∨(x = .nils∧y = .bsl id 0 0)):VoidR id (.agg cs) (.agg ds)
theorem VoidR.rv{id:Nat}{G:Gh}{w:World}{x y:AV}{v:Value}(h:VoidR id x y)(hv:RV G w x v)(hn:RV G w (.bsl id 0 0) (.slice none 0 0)):RV G w y v:=by
 cases h with
 | nils=>cases hv; exact hn
 | agg cs ds hl hh =>
  cases hv with|agg _ vs hs hx =>
  refine .agg ds vs (hl.symm.trans hs) fun i y hy=>?_
  obtain⟨x,hx'⟩:∃x,cs[i]?=some x:=⟨_,List.getElem?_eq_getElem (by rw[hl]; exact (List.getElem?_eq_some_iff.1 hy).1)⟩
  rcases hh i x y hx' hy with rfl|⟨rfl,rfl⟩
  ·exact hx i x hx'
  ·have:=hx i _ hx'
   generalize vs.getD i undef=u at this
   cases this
   exact hn
theorem Conv.voidSlot(n:Nat){x y:AV}(hx:lk σ.fr n=some (true,x))(hv:VoidR (E.n0+σ.k) x y)(d:AV):Conv E σ ⟨(n,true,y)::σ.fr,(E.n0+σ.k,some ⟨[],d,false,false⟩)::σ.bx,σ.k+1⟩:=fun G a w hD=>by
 have hu:¬G.used (E.n0+σ.k):=fun h=>absurd (hD.used _ h) (Nat.lt_irrefl _)
 obtain⟨r1,r2,r3⟩:=hD.rs.void hu d false
 refine⟨_,hD.ev.trans r2,r1,fun id h=>?_,fun id hid h=>?_,fun m c v hm=>?_,hD.size,hD.defers⟩
 ·show id<E.n0+(σ.k+1)
  rcases h with h|h
  ·omega
  ·have:=hD.used _ h; omega
 ·rcases h with h|h
  ·omega
  ·exact hD.old id hid h
 ·simp only[lk] at hm
  split at hm
  ·rename_i he
   subst he
   simp only[Option.some.injEq,Prod.mk.injEq] at hm
   obtain⟨rfl,rfl⟩:=hm
   exact⟨fun _=>hv.rv (((hD.fr m true x hx).1 rfl).mono r2) r3,fun h=>by cases h⟩
  ·exact⟨fun hc=>((hD.fr m c v hm).1 hc).mono r2,(hD.fr m c v hm).2⟩
theorem VoidR.cells{id:Nat}{x y:AV}(h:VoidR id x y):x.cells.length=y.cells.length∧∀(j:Nat) z z',x.cells[j]?=some z→y.cells[j]?=some z'→z=z'∨(z = .nils∧z' = .bsl id 0 0):=by
 cases h with
 | nils =>
  refine⟨rfl,fun j z z' h1 h2=>?_⟩
  cases j with
  | zero=>simp[AV.cells] at h1 h2; exact .inr ⟨h1.symm,h2.symm⟩
  | succ j=>simp[AV.cells] at h1
 | agg cs ds hl hh=>exact⟨hl,hh⟩
theorem Conv.voidBox(j:Nat){b:Bx}{x y:AV}(hb:bk σ.bx j=some b)(hx:b.xs=[x])(hv:VoidR (E.n0+σ.k) x y)(d:AV):
  Conv E σ ⟨σ.fr,(j,some { b with xs:=[y] })::(E.n0+σ.k,some ⟨[],d,false,false⟩)::σ.bx,σ.k+1⟩:=fun G a w hD=>by
 have hu:¬G.used (E.n0+σ.k):=fun h=>absurd (hD.used _ h) (Nat.lt_irrefl _)
 obtain⟨r1,r2,r3⟩:=hD.rs.void hu d false
 have hbj:=ov_bk E.β hb
 have hne:j≠E.n0+σ.k:=fun e=>hu (e▸(hD.rs.boxNames hbj).1)
 have hbj':ov E.β ((E.n0+σ.k,some ⟨[],d,false,false⟩)::σ.bx) j=some b:=by simp only[ov,upd_ne _ _ _ hne]; exact hbj
 have r4:RS E.C (G.void (E.n0+σ.k)) (ov E.β ((j,some { b with xs:=[y] })::(E.n0+σ.k,some ⟨[],d,false,false⟩)::σ.bx)) w:=by
  have r1':RS E.C (G.void (E.n0+σ.k)) (ov E.β ((E.n0+σ.k,some ⟨[],d,false,false⟩)::σ.bx)) w:=r1
  refine⟨r1'.below,r1'.size,r1'.fzok,r1'.fzold,fun i b' hi hn=>?_,fun i b' hi hn=>?_,r1'.nlu,r1'.used,r1'.inj,r1'.rows⟩
  ·by_cases hij:i=j
   ·subst hij
    simp only[ov,upd_eq,Option.some.injEq] at hi
    subst hi
    obtain⟨blk,s,cur,e,k1,k2,k3,k4,k5,k6,k7⟩:=r1'.box i b hbj' hn
    have hlen:b.xs.length=1:=by rw[hx]; rfl
    refine⟨blk,s,cur,e,k1,k2,k3,⟨k4.1,by have:=k4.2; rw[hlen] at this; exact this⟩,fun i' y' hy'=>?_,k6,by have:=k7; rw[hlen] at this; exact this⟩
    cases i' with
    | succ i'=>simp at hy'
    | zero =>
     simp only[List.getElem?_cons_zero,Option.some.injEq] at hy'
     subst hy'
     obtain⟨c1,c2⟩:=hv.cells
     obtain⟨d1,d2⟩:=k5 0 x (by rw[hx]; rfl)
     refine⟨c1.symm.trans d1,fun m z hz=>?_⟩
     obtain⟨z0,hz0⟩:∃z0,x.cells[m]?=some z0:=⟨_,List.getElem?_eq_getElem (by rw[c1]; exact (List.getElem?_eq_some_iff.1 hz).1)⟩
     obtain⟨u,hu1,hu2⟩:=d2 m z0 hz0
     refine⟨u,hu1,?_⟩
     rcases c2 m z0 z hz0 hz with rfl|⟨rfl,rfl⟩
     ·exact hu2
     ·cases hu2; exact r3
   ·simp only[ov,upd_ne _ _ _ hij] at hi
    exact r1'.box i b' hi hn
  ·by_cases hij:i=j
   ·subst hij
    exfalso
    have:=(r1'.nil i b hbj' hn).1
    rw[hx] at this; cases this
   ·simp only[ov,upd_ne _ _ _ hij] at hi
    exact r1'.nil i b' hi hn
 refine⟨_,hD.ev.trans r2,r4,fun id h=>?_,fun id hid h=>?_,fun m c v hm=>⟨fun hc=>((hD.fr m c v hm).1 hc).mono r2,(hD.fr m c v hm).2⟩,hD.size,hD.defers⟩
 ·show id<E.n0+(σ.k+1)
  rcases h with h|h
  ·omega
  ·have:=hD.used _ h; omega
 ·rcases h with h|h
  ·omega
  ·exact hD.old id hid h
end
end Go.Am
namespace Go.Am
set_option linter.all false
open Go Go.RowKit
inductive CRes where
 | tmp (t:Nat)
 | cell (a:Nat) (agg:Bool) (n:Nat)
def compRes(P:Program):List ResultVar→Option (List CRes)
 | []=>some []
 | .tmp t::l=>(compRes P l).map (.tmp t::·)
 | .cell a t::l=>match P.underlying t,sizeB P t,compRes P l with
  | some _,some n,some r=>some (.cell a (isAggB P t) n::r)
  | _,_,_=>none
def resV(F:Fr)(B:Nat→Option Bx):List CRes→Option (Prop×List AV)
 | []=>some (True,[])
 | .tmp t::l=>match resV F B l with
  | some (p,vs)=>some (ceF F t=true∧p,veF F (.t t)::vs)
  | none=>none
 | .cell a agg n::l=>match ldT agg n (lookT B (veF F (.t a))),resV F B l with
  | some (q,r),some (p,vs)=>some ((ceF F a=true∧q)∧p,r.v::vs)
  | _,_=>none
def tupOf:List AV→AV
 | [v]=>v
 | vs=>.tup vs
section
variable {P:Program} {C:Cx P} {G:Gh} {B:Nat→Option Bx} {w:World} {F:Fr} {tmps:Array Value}
def resOne(tmps:Array Value):ResultVar→Sem Value
 | .tmp t=>pure (tmps.getD t undef)
 | .cell a t=>do loadVar t (←asAddr (tmps.getD a undef))
theorem resV_ok(hs:RS C G B w)(hF:∀n c v,F n=some (c,v)→c=true→RV G w v (tmps.getD n undef)):∀{l:List ResultVar} {crs:List CRes} {p:Prop} {vs:List AV},compRes P l=some crs→resV F B crs=some (p,vs)→p →
  ∃us:List Value,(l.mapM (resOne tmps)).run P w = .ok us w∧vs.length=us.length∧∀(i:Nat) v u,vs[i]?=some v→us[i]?=some u→RV G w v u
 | [],crs,p,vs,h1,h2,_=>by
  simp only[compRes,Option.some.injEq] at h1
  subst h1
  simp only[resV,Option.some.injEq,Prod.mk.injEq] at h2
  obtain⟨_,rfl⟩:=h2
  exact⟨[],rfl,rfl,fun i v u h=>by simp at h⟩
 | .tmp t::l,crs,p,vs,h1,h2,hp=>by
  simp only[compRes,Option.map_eq_some_iff] at h1
  obtain⟨r,hr,rfl⟩:=h1
  simp only[resV] at h2
  cases hv:resV F B r with
  | none=>rw[hv] at h2; cases h2
  | some q =>
   obtain⟨p',vs'⟩:=q
   rw[hv] at h2
   simp only[Option.some.injEq,Prod.mk.injEq] at h2
   obtain⟨rfl,rfl⟩:=h2
   obtain⟨us,k1,k2,k3⟩:=resV_ok hs hF hr hv hp.2
   have h0:RV G w (veF F (.t t)) (tmps.getD t undef):=by
    have:=hp.1
    simp only[ceF] at this
    simp only[veF]
    split at this
    ·rename_i c v hl; exact hF t c v hl this
    ·cases this
   refine⟨tmps.getD t undef::us,?_,by simp[k2],fun i v u hv hu=>?_⟩
   ·simp only[List.mapM_cons,resOne,Sem.run_bind,Sem.run_pure,Result.andThen_ok,k1]
   ·cases i with
    | zero=>simp only[List.getElem?_cons_zero,Option.some.injEq] at hv hu; subst hv hu; exact h0
    | succ i=>exact k3 i v u (by simpa using hv) (by simpa using hu)
 | .cell a t::l,crs,p,vs,h1,h2,hp=>by
  simp only[compRes] at h1
  split at h1
  ·rename_i d n r hd hn hr
   injection h1 with h1
   subst h1
   simp only[resV] at h2
   split at h2
   ·rename_i q rr p' vs' hq hv
    simp only[Option.some.injEq,Prod.mk.injEq] at h2
    obtain⟨rfl,rfl⟩:=h2
    obtain⟨us,k1,k2,k3⟩:=resV_ok hs hF hr hv hp.2
    have h0:RV G w (veF F (.t a)) (tmps.getD a undef):=by
     have:=hp.1.1
     simp only[ceF] at this
     simp only[veF]
     split at this
     ·rename_i c v hl; exact hF a c v hl this
     ·cases this
    have hld:∃u,(resOne tmps (.cell a t)).run P w = .ok u w∧RV G w rr.v u:=by
     cases hl:lookT B (veF F (.t a)) with
     | none=>rw[hl] at hq; simp[ldT] at hq
     | some z =>
      obtain⟨p0,cs,rd⟩:=z
      rw[hl] at hq
      cases hag:isAggB P t with
      | true =>
       simp only[hag,ldT,Option.some.injEq,Prod.mk.injEq] at hq
       obtain⟨rfl,rfl⟩:=hq
       obtain⟨addr,hv1,hat⟩:=look_at hs h0 (lookT_ok hl hp.1.2.1)
       obtain⟨v,e1,e2⟩:=(hat.take n).load_agg (P:=P) hag hn (by rw[List.length_take]; have:=hp.1.2.2; omega)
       exact⟨v,by simp only[resOne,hv1,asAddr,Sem.run_bind,Sem.run_pure,Result.andThen_ok,e1],e2⟩
      | false =>
       simp only[hag,ldT] at hq
       cases cs with
       | nil=>simp at hq
       | cons y l =>
        simp only[Option.some.injEq,Prod.mk.injEq] at hq
        obtain⟨rfl,rfl⟩:=hq
        obtain⟨addr,hv1,hat⟩:=look_at hs h0 (lookT_ok hl hp.1.2)
        obtain⟨v,e1,e2⟩:=hat.load_one (P:=P) hd hag rfl
        exact⟨v,by simp only[resOne,hv1,asAddr,Sem.run_bind,Sem.run_pure,Result.andThen_ok,e1],e2⟩
    obtain⟨u0,e1,e2⟩:=hld
    refine⟨u0::us,?_,by simp[k2],fun i v u hv hu=>?_⟩
    ·simp only[List.mapM_cons,Sem.run_bind,Sem.run_pure,Result.andThen_ok,k1,e1]
    ·cases i with
     | zero=>simp at hv hu; subst hv hu; exact e2
     | succ i=>exact k3 i v u (by simpa using hv) (by simpa using hu)
   ·cases h2
  ·cases h1
theorem results_run{fn:Func}{us:List Value}(h:(fn.results.toList.mapM (resOne tmps)).run P w = .ok us w):(results fn tmps).run P w = .ok (if h:us.length=1 then us[0] else .tuple us.toArray) w:=by
 have e:results fn tmps=(do let vs←fn.results.mapM (resOne tmps); pure (if h:vs.size=1 then vs[0] else .tuple vs)):=by
  unfold results
  congr 1
 rw[e,Array.mapM_eq_mapM_toList]
 simp only[Sem.run_bind,Sem.run_pure]
 rw[show (List.toArray <$> List.mapM (resOne tmps) fn.results.toList)=(do let r←List.mapM (resOne tmps) fn.results.toList; pure r.toArray) from rfl]
 simp[h]
end
/-! ### The end of a function -/
def someL:List (Nat×Bx)→List (Nat×Option Bx)
 | []=>[]
 | (i,b)::l=>(i,some b)::someL l
def FinB(R:Rn)(S:Nat→Prop)(bx':List (Nat×Option Bx))(fin:Nat→Option Bx):List Nat→Prop
 | []=>True
 | y::l=>(match fin y with
  | none=>True
  | some b'=>∃x b,R.ρ y=some x∧bk bx' x=some b∧BxR R S b b')∧FinB R S bx' fin l
def freshL(id:Nat)(rd:List (Nat×Option Bx)):List (Nat×Option Bx)→Prop
 | []=>True
 | (y,_)::l=>(hasKey y rd∨(id≤y∧y<id+1024))∧freshL id rd l
structure EndP(n0 id:Nat)(S:Nat→Prop)(rd:List (Nat×Bx))(res:AV)(wr:List (Nat×Option Bx))(vs:List AV)(bx':List (Nat×Option Bx))(rn:List (Nat×Nat))(hrn:rnOk rn):Prop where
 res:RenR (mkRn n0 rn hrn) S (tupOf vs) res
 fin:FinB (mkRn n0 rn hrn) S bx' (appl (bk (someL rd)) wr) (keysR rd++keysW wr)
 drop:DropOk n0 (someL rd) bx'
 wr:freshL id (someL rd) wr
 new:newIn id (id+1024) rn
 gone:goneOk n0 (someL rd) rn
def EndV(n0 id:Nat)(S:Nat→Prop)(rd:List (Nat×Bx))(res:AV)(wr:List (Nat×Option Bx))(σ:St)(vs:List AV)(rn:List (Nat×Nat))(hrn:rnOk rn):Bool→Prop
 | true=>(rsvs (bk σ.bx) vs).1∧EndP n0 id S rd res wr (rsvs (bk σ.bx) vs).2.1 (addW σ.bx (wrF (rsvs (bk σ.bx) vs).2.2)) rn hrn
 | false=>EndP n0 id S rd res wr vs σ.bx rn hrn
def EndR(n0 id:Nat)(S:Nat→Prop)(rd:List (Nat×Bx))(res:AV)(wr:List (Nat×Option Bx))(σ:St):Option (Prop×List AV)→Prop
 | none=>False
 | some (p,vs)=>p∧∃(b:Bool) (rn:List (Nat×Nat)) (hrn:rnOk rn),EndV n0 id S rd res wr σ vs rn hrn b
def RtOk(n0 id:Nat)(S:Nat→Prop)(crs:List CRes)(rd:List (Nat×Bx))(res:AV)(wr:List (Nat×Option Bx))(σ:St):Prop:=EndR n0 id S rd res wr σ (resV (lk σ.fr) (bk σ.bx) crs)
theorem FinB.get{R:Rn}{S:Nat→Prop}{bx':List (Nat×Option Bx)}{fin:Nat→Option Bx}:∀{l:List Nat},FinB R S bx' fin l→∀y∈l,∀b',fin y=some b'→∃x b,R.ρ y=some x∧bk bx' x=some b∧BxR R S b b'
 | [],_,y,hy,_,_=>by cases hy
 | z::l,h,y,hy,b',hf=>by
  rcases List.mem_cons.1 hy with rfl|hy
  ·have:=h.1
   rw[hf] at this
   exact this
  ·exact FinB.get h.2 y hy b' hf
theorem freshL_mem{id:Nat}{rd:List (Nat×Option Bx)}:∀{l:List (Nat×Option Bx)},freshL id rd l→∀y∈keysW l,hasKey y rd∨(id≤y∧y<id+1024)
 | [],_,y,hy=>by simp[keysW] at hy
 | (z,b)::l,h,y,hy=>by
  simp only[keysW,List.map_cons,List.mem_cons] at hy
  rcases hy with rfl|hy
  ·exact h.1
  ·exact freshL_mem h.2 y hy
theorem hasKey_someL{y:Nat}:∀{l:List (Nat×Bx)},hasKey y (someL l)↔y∈keysR l
 | []=>by simp[hasKey,someL,keysR]
 | (i,b)::l=>by simp[hasKey,someL,keysR,hasKey_someL (l:=l)]
theorem bk_someL{β:Nat→Option Bx}:∀{l:List (Nat×Bx)},Has β l→∀y,y∈keysR l→bk (someL l) y=β y
 | [],_,y,hy=>by simp[keysR] at hy
 | (i,b)::l,h,y,hy=>by
  simp only[someL,bk]
  split
  ·rename_i e; subst e; exact (h (y,b) (by simp)).symm
  ·rename_i e
   simp only[keysR,List.map_cons,List.mem_cons] at hy
   exact bk_someL (fun q hq=>h q (by simp[hq])) y (hy.resolve_left e)
theorem ov_someL{β:Nat→Option Bx}:∀{l:List (Nat×Bx)},Has β l→ov β (someL l)=β
 | [],_=>rfl
 | (i,b)::l,h=>by
  simp only[someL,ov]
  rw[ov_someL fun q hq=>h q (by simp[hq])]
  funext y
  by_cases e:y=i
  ·subst e; rw[upd_eq]; exact (h (y,b) (by simp)).symm
  ·exact upd_ne _ _ _ e
def frOf:Nat→List AV→List (Nat×Bool×AV)
 | _,[]=>[]
 | i,a::l=>(i,true,a)::frOf (i+1) l
theorem lk_frOf:∀{l:List AV} {i n:Nat} {c:Bool} {v:AV},lk (frOf i l) n=some (c,v)→c=true∧i≤n∧l[n - i]?=some v
 | [],_,_,_,_,h=>by cases h
 | a::l,i,n,c,v,h=>by
  simp only[frOf,lk] at h
  split at h
  ·rename_i e
   subst e
   simp only[Option.some.injEq,Prod.mk.injEq] at h
   obtain⟨rfl,rfl⟩:=h
   exact⟨rfl,Nat.le_refl _,by simp⟩
  ·rename_i e
   obtain⟨h1,h2,h3⟩:=lk_frOf h
   refine⟨h1,by omega,?_⟩
   rw[show n - i=(n - (i+1))+1 by omega]
   simpa using h3
theorem RV.tupOf{G:Gh}{w:World}{vs:List AV}{us:List Value}(hl:vs.length=us.length)(h:∀(i:Nat) v u,vs[i]?=some v→us[i]?=some u→RV G w v u):RV G w (Am.tupOf vs) (if h:us.length=1 then us[0] else .tuple us.toArray):=by
 match vs,us,hl,h with
 | [v],[u],_,h=>exact h 0 v u rfl rfl
 | [],[],_,_=>exact .tup [] _ rfl fun i y hy=>by simp at hy
 | v::v'::vs,u::u'::us,hl,h =>
  simp only[List.length_cons,Nat.add_eq_right,Nat.add_eq_zero_iff,Nat.succ_ne_self,and_false,dite_false]
  refine .tup _ _ (by simpa using hl) fun i y hy=>?_
  obtain⟨z,hz⟩:∃z,(u::u'::us)[i]?=some z:=⟨_,List.getElem?_eq_getElem (by rw[←hl]; exact (List.getElem?_eq_some_iff.1 hy).1)⟩
  have:=h i y z hy hz
  rw[Array.getD_eq_getD_getElem?]
  simpa [hz] using this
theorem end_ok{E:Env}{fn:Func}{crs:List CRes}{rd:List (Nat×Bx)}{id:Nat}{res:AV}{wr:List (Nat×Option Bx)}{σ:St}{G':Gh}{a:Act}{w':World}(hrs:compRes E.P fn.results.toList=some crs)(hh:Has E.β rd)(hid:∀x,id≤x→x<id+1024→¬E.G0.used x)
  (hD':Desc E σ G' a w') (hR:RtOk E.n0 id E.G0.used crs rd res wr σ) :
  ∃v,(results fn a.tmps).run E.P w' = .ok v w'∧∃G1,RS E.C G1 (appl E.β wr) w'∧Evo E.G0 E.w0 G1 w'∧RV G1 w' res v∧∀x,G1.used x→E.G0.used x∨(id≤x∧x<id+1024):=by
 have hR':EndR E.n0 id E.G0.used rd res wr σ (resV (lk σ.fr) (bk σ.bx) crs):=hR
 cases hres:resV (lk σ.fr) (bk σ.bx) crs with
 | none=>rw[hres] at hR'; exact hR'.elim
 | some q =>
  obtain⟨p,rvs⟩:=q
  rw[hres] at hR'
  obtain⟨hp,b,rn,hrn,hend⟩:=hR'
  have hres':resV (lk σ.fr) (ov E.β σ.bx) crs=some (p,rvs):=by
   have key:∀{l:List CRes} {p:Prop} {vs:List AV},resV (lk σ.fr) (bk σ.bx) l=some (p,vs)→resV (lk σ.fr) (ov E.β σ.bx) l=some (p,vs):=fun {l}=>by
    induction l with
    | nil=>intro p vs h; exact h
    | cons x l ih =>
     intro p vs h
     cases x with
     | tmp t =>
      simp only[resV] at h ⊢
      cases hl:resV (lk σ.fr) (bk σ.bx) l with
      | none=>rw[hl] at h; cases h
      | some q=>obtain⟨p',vs'⟩:=q; rw[hl] at h; rw[ih hl]; exact h
     | cell a agg n =>
      simp only[resV] at h ⊢
      cases hld:ldT agg n (lookT (bk σ.bx) (veF (lk σ.fr) (.t a))) with
      | none=>rw[hld] at h; cases h
      | some q0 =>
       obtain⟨q,r⟩:=q0
       obtain⟨l1,l2⟩:=ldT_local (bx':=ov E.β σ.bx) hld
       rw[l2 (l1.ov E.β)]
       rw[hld] at h
       cases hl:resV (lk σ.fr) (bk σ.bx) l with
       | none=>rw[hl] at h; cases h
       | some q=>obtain⟨p',vs'⟩:=q; rw[hl] at h; rw[ih hl]; exact h
   exact key hres
  obtain⟨us,k1,k2,k3⟩:=resV_ok hD'.rs (fun n c v h1 h2=>(hD'.fr n c v h1).1 h2) hrs hres' hp
  obtain⟨G1,vs1,bx1,s1,e1,u1,l1,r1,hE⟩:∃G1 vs1 bx1,RS E.C G1 (ov E.β bx1) w'∧Evo G' w' G1 w'∧(∀i,G1.used i→G'.used i)∧vs1.length=us.length∧(∀(i:Nat) v u,vs1[i]?=some v→us[i]?=some u→RV G1 w' v u)∧EndP E.n0 id E.G0.used rd res wr vs1 bx1 rn hrn:=by
   cases b with
   | false=>exact⟨G',rvs,σ.bx,hD'.rs,Evo.refl _ _,fun _ h=>h,k2,k3,hend⟩
   | true =>
    obtain⟨h1,h2⟩:=hend
    obtain⟨g1,g2⟩:=rsvs_local (bx':=ov E.β σ.bx) h1
    have ge:=g2 (g1.ov E.β)
    obtain⟨G1,q1,q2,q3,q4⟩:=freezeAll (rsvs (bk σ.bx) rvs).2.2 hD'.rs fun q hq=>let ⟨z1,z2⟩:=rsvs_mem h1 q hq; ⟨.inl (ov_bk E.β z1),z2⟩
    have h1':(rsvs (ov E.β σ.bx) rvs).1:=by rw[ge]; exact h1
    have q4':Stays G' G1 w' (rsvs (ov E.β σ.bx) rvs).2.2:=by rw[ge]; exact q4
    obtain⟨m1,m2⟩:=rsvs_rv q2 h1' q4'
    rw[ge] at m1 m2
    refine⟨G1,_,_,by rw[ov_addW]; exact q1,q2,q3,m1.trans k2,fun i v u hv hu=>?_,h2⟩
    have:=m2 (fun i=>us.getD i undef) (fun i y hy=>by
     obtain⟨z,hz⟩:∃z,us[i]?=some z:=⟨_,List.getElem?_eq_getElem (by rw[←k2]; exact (List.getElem?_eq_some_iff.1 hy).1)⟩
     simp only[List.getD_eq_getElem?_getD,hz,Option.getD_some]
     exact k3 i y z hy hz) i v hv
    simp only[List.getD_eq_getElem?_getD,hu,Option.getD_some] at this
    exact this
  have hrv:=(RV.tupOf l1 r1).ren hE.res
  have hlk:∀y,(¬(id≤y∧y<id+1024))→lkN rn y=none:=fun y hf=>by
   cases hl:lkN rn y with
   | none=>rfl
   | some t=>exact (hf (newIn_mem hE.new _ (lkN_mem hl))).elim
  have hfix:∀x,E.G0.used x→(mkRn E.n0 rn hrn).ρ x=some x∨(mkRn E.n0 rn hrn).ρ x=none:=fun x hx=>(rnF_old (hlk x fun⟨h1,h2⟩=>hid x h1 h2 hx)).symm
  refine⟨_,results_run k1,G1.ren (mkRn E.n0 rn hrn) E.G0.used,s1.ren fun y b' hy=>?_,Evo.ren (hD'.ev.trans e1) hfix,hrv,fun y hy=>?_⟩
  ·by_cases hk:y∈keysR rd++keysW wr
   ·have hy':appl (bk (someL rd)) wr y=some b':=by
     by_cases hw:y∈keysW wr
     ·rw[appl_in (B':=E.β) hw]; exact hy
     ·rw[appl_out hw] at hy ⊢
      rw[bk_someL hh y (by simpa [hw] using hk)]; exact hy
    obtain⟨x,b,z1,z2,z3⟩:=hE.fin.get y hk b' hy'
    exact⟨x,b,z1,ov_bk E.β z2,z3⟩
   ·simp only[List.mem_append,not_or] at hk
    rw[appl_out hk.2] at hy
    have hub:=E.rs0.boxNames hy
    have hkk:¬hasKey y (someL rd):=fun h=>hk.1 (hasKey_someL.1 h)
    have hlt:=E.old y hub.1
    have hst:(mkRn E.n0 rn hrn).ρ y=some y:=by
     show rnF E.n0 rn y=some y
     unfold rnF
     rw[hlk y fun⟨h1,h2⟩=>hid y h1 h2 hub.1]
     rw[goneOk_get hE.gone y hlt hkk]
     simp[hlt]
    refine⟨y,b',hst,?_,BxR.same fun i x hx=>namesIn_mono (fun z hz=>(hfix z hz).imp _root_.id fun h=>⟨h,hz⟩) x (hub.2 i x hx)⟩
    rw[hE.drop.get y hlt hkk E.β]
    exact hy
  ·rcases hy with⟨x,hx,hu⟩|hy
   ·by_cases hf:id≤y∧y<id+1024
    ·exact .inr hf
    ·have hx':rnF E.n0 rn y=some x:=hx
     rcases rnF_old (n0:=E.n0) (hlk y hf) with h|h
     ·rw[h] at hx'; cases hx'
     ·have hy:y<E.n0:=by
       unfold rnF at h
       rw[hlk y hf] at h
       simp only at h
       split at h
       ·assumption
       ·cases h
      rw[h] at hx'
      injection hx' with hx'
      subst hx'
      exact .inl (hD'.old _ hy (u1 _ hu))
   ·exact .inl hy
theorem DropOk.mem{n0:Nat}{bx':List (Nat×Option Bx)}:∀{l:List (Nat×Option Bx)},DropOk n0 bx' l→∀q∈l,n0≤q.1∨hasKey q.1 bx'
 | [],_,q,hq=>by cases hq
 | (x,b)::l,h,q,hq=>by
  rcases List.mem_cons.1 hq with rfl|hq
  ·exact h.1
  ·exact DropOk.mem h.2 q hq
theorem appl_goL{f:Nat→Option Bx}{y:Nat}{b:Bx}:∀{rd:List (Nat×Bx)},appl f (goL rd) y=some b→y∉keysR rd∧f y=some b
 | [],h=>⟨by simp[keysR],h⟩
 | (i,b')::l,h=>by
  simp only[goL,appl] at h
  obtain⟨h1,h2⟩:=appl_goL h
  have hy:y≠i:=fun e=>by subst e; rw[upd_eq] at h2; cases h2
  rw[upd_ne _ _ _ hy] at h2
  exact⟨by simp[keysR,hy] at h1 ⊢; exact h1,h2⟩
theorem pend_ok{E:Env}{rd:List (Nat×Bx)}{id:Nat}{pv:AV}{u:Value}{l:List (Nat×Option Bx)}{F:Fr}{B:Nat→Option Bx}{U:Nat→Prop}{G':Gh}{a:Act}{w':World}
  (hD':DescF E.C E.N E.D E.n0 E.G0 E.w0 F B U G' a w') (hB:HistB E.β l B) (hv:RV G' w' pv u) (hp:pv.pureB=true) (hd:DropOk E.n0 (someL rd) l) :
  ∃G1,RS E.C G1 (appl E.β (goL rd)) w'∧Evo E.G0 E.w0 G1 w'∧RV G1 w' pv u∧∀x,G1.used x→E.G0.used x∨(id≤x∧x<id+1024):=by
 have hfix:∀x,E.G0.used x→(mkRn E.n0 [] trivial).ρ x=some x∨(mkRn E.n0 [] trivial).ρ x=none:=fun x hx=>(rnF_old (show lkN [] x=none from rfl)).symm
 refine⟨G'.ren (mkRn E.n0 [] trivial) E.G0.used,hD'.rs.ren fun y b' hy=>?_,Evo.ren hD'.ev hfix,hv.ren (.same _ (namesIn_pure _ hp)),fun y hy=>?_⟩
 ·obtain⟨h1,h2⟩:=appl_goL hy
  have hub:=E.rs0.boxNames h2
  have hlt:=E.old y hub.1
  refine⟨y,b',?_,?_,BxR.same fun i x hx=>namesIn_mono (fun z hz=>(hfix z hz).imp _root_.id fun h=>⟨h,hz⟩) x (hub.2 i x hx)⟩
  ·show rnF E.n0 [] y=some y
   simp[rnF,lkN,goneN,hlt]
  ·rcases hB y with h|h
   ·rw[h,h2]
   ·rcases hd.mem _ h with h|h
    ·simp only at h; omega
    ·exact (h1 (hasKey_someL.1 h)).elim
 ·rcases hy with⟨x,hx,hu⟩|hy
  ·have hx':rnF E.n0 [] y=some x:=hx
   simp only[rnF,lkN,goneN] at hx'
   split at hx'
   ·rename_i hy
    injection hx' with hx'
    subst hx'
    exact .inl (hD'.old _ (by simpa using hy) hu)
   ·cases hx'
  ·exact .inl hy
theorem fn_core{P:Program}{f:Nat}{fn:Func}{c:Code}{crs:List CRes}{args:List AV}{rd:List (Nat×Bx)}{id:Nat}{o:Except AV (AV×List (Nat×Option Bx))}(Rt:Nat→(Nat→Prop)→St→Prop)(Pn:Nat→AV→St→Prop)
  (hf : P.funcs[f]? = some fn) (hb : fn.body = some c) (hnm : (fn.name == "runtime.NumGoroutine") = false) (hrs : compRes P fn.results.toList = some crs) (hN : args.length ≤ fn.ntmps)
  (hRt:∀n0 S σ,Rt n0 S σ→∃q,o = .ok q∧RtOk n0 id S crs rd q.1 q.2 σ) (hPn:∀n0 pv σ,Pn n0 pv σ→o = .error pv∧pv.pureB=true∧DropOk n0 (someL rd) σ.bx)
  (h:∀E:Env,E.P=P→E.N=fn.ntmps→E.Rt=Rt E.n0 E.G0.used→E.Pn=Pn E.n0→(∀q∈rd,q.1<E.n0∧(q.1<id∨id+1024≤q.1))→id+1024≤E.n0→Has E.β rd→(∀z,E.G0.used z→z<id∨id+1024≤z)→Wk E [.code (compC P fn.ntmps c)] ⟨frOf 0 args,someL rd,0⟩):FnE P f args rd id o:=by
 have pl:PlainF P f:=⟨fn,hf,hnm,by rw[hb]; rfl⟩
 have main:∀(C:Cx P) (G:Gh) (bx:Nat→Option Bx) (w:World) (vs:Array Value) (nb:Nat),RS C G bx w→RVs G w args vs→Has bx rd→(∀x,nb≤x→¬G.used x)→(∀x,id≤x→x<id+1024→¬G.used x) →
   Calls P f vs w fun e w'=>(∃q,o = .ok q∧∃v G',e = .returned v∧RS C G' (appl bx q.2) w'∧Evo G w G' w'∧RV G' w' q.1 v∧∀x,G'.used x→G.used x∨(id≤x∧x<id+1024)) ∨
    ∃pv,o = .error pv∧∃v G',e = .panicked [{ v:=v,recovered:=false }]∧RS C G' (appl bx (goL rd)) w'∧Evo G w G' w'∧RV G' w' pv v∧∀x,G'.used x→G.used x∨(id≤x∧x<id+1024):=fun C G bx w vs nb hs hv hh hnb hid=>calls_of_wp hf hb<|by
  have own:∀i,max nb (id+1024)≤i→bx i=none:=fun i hi=>by
   cases hbi:bx i with
   | none=>rfl
   | some b=>exact (hnb i (by omega) (hs.boxNames hbi).1).elim
  have old:∀i,G.used i→i<max nb (id+1024):=fun i hi=>by
   rcases Nat.lt_or_ge i nb with h|h
   ·omega
   ·exact (hnb i h hi).elim
  let E:Env:=⟨P,C,bx,fn.ntmps,max nb (id+1024),G,w,own,old,hs,[],Rt (max nb (id+1024)) G.used,Pn (max nb (id+1024))⟩
  have hW:=h E rfl rfl rfl rfl (fun q hq=>⟨E.old _ (hs.boxNames (hh q hq)).1,by
   have:=(hs.boxNames (hh q hq)).1
   rcases Nat.lt_or_ge q.1 id with h|h
   ·exact .inl h
   ·rcases Nat.lt_or_ge q.1 (id+1024) with h'|h'
    ·exact (hid _ h h' this).elim
    ·exact .inr h'⟩) (by show id+1024≤max nb (id+1024); omega) hh (fun z hz=>by
   rcases Nat.lt_or_ge z id with h|h
   ·exact .inl h
   ·rcases Nat.lt_or_ge z (id+1024) with h'|h'
    ·exact (hid z h h' hz).elim
    ·exact .inr h')
  have hD:Desc E ⟨frOf 0 args,someL rd,0⟩ G { tmps:=vs++Array.replicate (fn.ntmps - vs.size) undef,defers:=[] } w:=by
   refine⟨Evo.refl G w,?_,fun i hi=>?_,fun i _ hi=>hi,fun n c v hl=>?_,?_,rfl⟩
   ·show RS C G (ov bx (someL rd)) w
    rw[ov_someL hh]; exact hs
   ·have:=E.old i hi
    show i<E.n0+0
    omega
   ·obtain⟨rfl,_,h3⟩:=lk_frOf hl
    simp only[Nat.sub_zero] at h3
    refine⟨fun _=>?_,fun h=>by cases h⟩
    have:=hv.2 n v h3
    rw[Array.getD_eq_getD_getElem?] at this ⊢
    rw[Array.getElem?_append_left (by rw[←hv.1]; exact (List.getElem?_eq_some_iff.1 h3).1)]
    exact this
   ·show (vs++Array.replicate (fn.ntmps - vs.size) undef).size=fn.ntmps
    have:=hv.1
    simp; omega
  refine wp_mono (hW c rfl G _ w hD) fun e a w' hq=>?_
  have fin:∀σ G',Desc E σ G' a w'→E.Rt σ→a.defers=[]∧∃v,(results fn a.tmps).run P w' = .ok v w'∧((∃q,o = .ok q∧∃v_1 G',Ending.returned v = .returned v_1∧RS C G' (appl bx q.2) w'∧Evo G w G' w'∧RV G' w' q.1 v_1∧∀x,G'.used x→G.used x∨(id≤x∧x<id+1024)) ∨
    ∃pv,o = .error pv∧∃v_1 G',Ending.returned v = .panicked [{ v:=v_1,recovered:=false }]∧RS C G' (appl bx (goL rd)) w'∧Evo G w G' w'∧RV G' w' pv v_1∧∀x,G'.used x→G.used x∨(id≤x∧x<id+1024)):=fun σ G' hD' hR=>by
   obtain⟨q,ho,hR'⟩:=hRt _ _ _ hR
   obtain⟨v,h1,G1,h2,h3,h4,h5⟩:=end_ok (E:=E) hrs hh hid hD' hR'
   exact⟨hD'.defers,v,h1,.inl ⟨q,ho,v,G1,rfl,h2,h3,h4,h5⟩⟩
  cases e with
  | normal=>obtain⟨σ,G',h1,h2⟩:=hq; exact fin σ G' h1 h2
  | ret=>obtain⟨σ,G',h1,h2⟩:=hq; exact fin σ G' h1 h2
  | exit id=>obtain⟨σ,G',h1,h2⟩:=hq; exact h2
  | panic chain =>
   obtain⟨pv,u,σ,F,B,U,G',rfl,h1,h2,h3,h4⟩:=hq
   obtain⟨ho,hp,hd⟩:=hPn _ _ _ h4
   obtain⟨G1,k1,k2,k3,k4⟩:=pend_ok (E:=E) (id:=id) h1 h2 h3 hp hd
   exact⟨h1.defers,.inr ⟨pv,ho,u,G1,rfl,k1,k2,k3,k4⟩⟩
  | _=>exact hq.elim
 cases o with
 | ok q =>
  refine⟨pl,fun C G bx w vs nb hs hv hh hnb hid=>Calls.mono (main C G bx w vs nb hs hv hh hnb hid) fun e w' he=>?_⟩
  rcases he with⟨q',h1,h2⟩|⟨_,h1,_⟩
  ·injection h1 with h1; subst h1; exact h2
  ·cases h1
 | error pv =>
  refine⟨pl,fun C G bx w vs nb hs hv hh hnb hid=>Calls.mono (main C G bx w vs nb hs hv hh hnb hid) fun e w' he=>?_⟩
  rcases he with⟨_,h1,_⟩|⟨q',h1,h2⟩
  ·cases h1
  ·injection h1 with h1; subst h1; exact h2
theorem fn_ok{P:Program}{f:Nat}{fn:Func}{c:Code}{crs:List CRes}{args:List AV}{rd:List (Nat×Bx)}{id:Nat}{res:AV}{wr:List (Nat×Option Bx)}
  (hf : P.funcs[f]? = some fn) (hb : fn.body = some c) (hnm : (fn.name == "runtime.NumGoroutine") = false) (hrs : compRes P fn.results.toList = some crs) (hN : args.length ≤ fn.ntmps)
  (h:∀E:Env,E.P=P→E.N=fn.ntmps→E.Rt=RtOk E.n0 id E.G0.used crs rd res wr→(∀q∈rd,q.1<E.n0∧(q.1<id∨id+1024≤q.1))→id+1024≤E.n0→Wk E [.code (compC P fn.ntmps c)] ⟨frOf 0 args,someL rd,0⟩):FnOk P f args rd id res wr :=
 fn_core (o:=.ok (res,wr)) (fun n0 S=>RtOk n0 id S crs rd res wr) (fun _ _ _=>False) hf hb hnm hrs hN (fun _ _ _ h=>⟨_,rfl,h⟩) (fun _ _ _ h=>h.elim) fun E h1 h2 h3 _ h5 h6 _ _=>h E h1 h2 h3 h5 h6
end Go.Am
namespace Go.Am
set_option linter.all false
open Go Go.RowKit
def accN(ps:List (Nat×Nat))(r:RR)(acc:List RR):List RR:=match ps with
 | []=>[]
 | _::_=>r::acc
def uses(F:Fr)(us:List Nat):Prop:=us.all (ceF F)=true
def dynL(acc:List RR)(j:Nat):List (Nat×Nat)→Prop
 | []=>True
 | q::l=>(q.1<j∧q.2<j)∧apartR (getR acc (j - 1 - q.1)) (getR acc (j - 1 - q.2))∧dynL acc j l
def dynR(acc:List RR)(j:Nat)(ps:List (Nat×Nat)):Prop:=match ps with
 | []=>True
 | q::l=>acc.length=j∧dynL acc j (q::l)
theorem getR_rev{acc:List RR}{i:Nat}(h:i<acc.length):getR acc.reverse i=getR acc (acc.length - 1 - i):=by
 have h1:acc.reverse[i]?=acc[acc.length - 1 - i]?:=List.getElem?_reverse h
 have h2:acc[acc.length - 1 - i]?=some acc[acc.length - 1 - i]:=List.getElem?_eq_getElem (by omega)
 rw[getR_some (h1.trans h2),getR_some h2]
theorem dynL_ok{acc:List RR}:∀{ps:List (Nat×Nat)},dynL acc acc.length ps→dynOk acc.reverse ps
 | [],_=>trivial
 | q::l,h=>by
  obtain⟨⟨h1,h2⟩,h3,h4⟩:=h
  exact⟨by rw[getR_rev h1,getR_rev h2]; exact h3,dynL_ok h4⟩
theorem dynR_ok{acc:List RR}{j:Nat}{ps:List (Nat×Nat)}(h:dynR acc j ps):dynOk acc.reverse ps:=by
 cases ps with
 | nil=>trivial
 | cons q l=>obtain⟨rfl,h⟩:=h; exact dynL_ok h
mutual
def go(E:Env):Nat→List Itm→St→Prop
 | 0,k,σ=>Wk E k σ
 | _+1,[],σ=>E.Rt σ
 | n+1,.blk _::k,σ=>go E n k σ
 | _+1,.post p::_,σ=>p σ
 | n+1,.code .skip::k,σ=>go E n k σ
 | n+1,.code (.seq x y)::k,σ=>go E n (.code x::.code y::k) σ
 | n+1,.code (.block id c)::k,σ=>go E n (.code c::.blk id::k) σ
 | n+1,.code (.exit id)::k,σ=>goX E n id k σ
 | _+1,.code .ret::_,σ=>E.Rt σ
 | n+1,.code (.cond o x y)::k,σ=>ceO (lk σ.fr) o=true∧goV E n (veF (lk σ.fr) o) x y k σ
 | n+1,.code (.reg _ crs ps)::k,σ=>go E n (.ops crs 0 [] ps::k) σ
 | _+1,.code (.loop c)::k,σ=>Wk E (.code (.loop c)::k) σ
 | _+1,.code .bad::k,σ=>Wk E (.code .bad::k) σ
 | n+1,.ops [] j acc ps::k,σ=>dynR acc j ps∧go E n k (σ.bump (1024*j))
 | n+1,.ops (cr::l) j acc ps::k,σ=>gokF (lk σ.fr) cr.g∧goO E n cr.op cr l j acc ps k σ (cndF (lk σ.fr) cr.g)
def goX(E:Env):Nat→Nat→List Itm→St→Prop
 | 0,id,k,σ=>Wx E id k σ
 | _+1,_,[],_=>False
 | n+1,id,.blk id'::k,σ=>goB E n (decide (id=id')) id k σ
 | n+1,id,.post _::k,σ=>goX E n id k σ
 | n+1,id,.code _::k,σ=>goX E n id k σ
 | n+1,id,.ops _ _ _ _::k,σ=>goX E n id k σ
def goB(E:Env):Nat→Bool→Nat→List Itm→St→Prop
 | 0,b,id,k,σ=>if b then Wk E k σ else Wx E id k σ
 | n+1,true,_,k,σ=>go E n k σ
 | n+1,false,id,k,σ=>goX E n id k σ
def goV(E:Env):Nat→AV→CC→CC→List Itm→St→Prop
 | 0,v,x,y,k,σ=>∃b,v = .bool b∧(b=true→Wk E (.code x::k) σ)∧(b=false→Wk E (.code y::k) σ)
 | n+1,.bool b,x,y,k,σ=>goC E n b x y k σ
 | _+1,_,_,_,_,_=>False
def goC(E:Env):Nat→Bool→CC→CC→List Itm→St→Prop
 | 0,b,x,y,k,σ=>(b=true→Wk E (.code x::k) σ)∧(b=false→Wk E (.code y::k) σ)
 | n+1,true,x,_,k,σ=>go E n (.code x::k) σ
 | n+1,false,_,y,k,σ=>go E n (.code y::k) σ
def goO(E:Env):Nat→COp→CR→List CR→Nat→List RR→List (Nat×Nat)→List Itm→St→Bool→Prop
 | 0,_,_,_,_,_,_,_,_,_=>False
 | n+1,.pick c a b,cr,l,j,acc,ps,k,σ,g =>
  (g=true→(ceO (lk σ.fr) c=true∧(veF (lk σ.fr) c).isBoolB=true)∧((veF (lk σ.fr) c).isT=true→ceO (lk σ.fr) a=true∧(veF (lk σ.fr) a).isBoolB=true)∧((veF (lk σ.fr) c).isT=false→ceO (lk σ.fr) b=true∧(veF (lk σ.fr) b).isBoolB=true)) ∧
  goR E n cr l j acc ps k σ g (.bool (pickB (veF (lk σ.fr) c).isT (veF (lk σ.fr) a).isT (veF (lk σ.fr) b).isT)) [] []
 | _+1,.call f xs,cr,l,j,acc,ps,k,σ,_=>Wk E (.ops (⟨cr.dst,cr.g,cr.us,.call f xs⟩::l) j acc ps::k) σ
 | _+1,.callv x xs,cr,l,j,acc,ps,k,σ,_=>Wk E (.ops (⟨cr.dst,cr.g,cr.us,.callv x xs⟩::l) j acc ps::k) σ
 | n+1,op,cr,l,j,acc,ps,k,σ,g=>goS E n cr l j acc ps k σ g (sem (veF (lk σ.fr)) (bk σ.bx) (E.n0+(σ.k+1024*j)) op)
def goS(E:Env):Nat→CR→List CR→Nat→List RR→List (Nat×Nat)→List Itm→St→Bool→Option (Prop×Rs)→Prop
 | 0,_,_,_,_,_,_,_,_,_=>False
 | _+1,_,_,_,_,_,_,_,_,none=>False
 | n+1,cr,l,j,acc,ps,k,σ,g,some (p,⟨v,rd,wr⟩)=>(g=true→uses (lk σ.fr) cr.us∧p)∧goR E n cr l j acc ps k σ g v rd wr
def goR(E:Env):Nat→CR→List CR→Nat→List RR→List (Nat×Nat)→List Itm→St→Bool→AV→List (Nat×Bx)→List (Nat×Option Bx)→Prop
 | 0,_,_,_,_,_,_,_,_,_,_,_=>False
 | n+1,cr,l,j,acc,ps,k,σ,g,v,rd,[]=>go E n (.ops l (j+1) (accN ps ⟨g,v,rd,[]⟩ acc) ps::k) (σ.app cr.dst ⟨g,v,rd,[]⟩)
 | n+1,cr,l,j,acc,ps,k,σ,g,v,rd,q::wr=>goG E n cr l j acc ps k σ g v rd (q::wr)
def goG(E:Env):Nat→CR→List CR→Nat→List RR→List (Nat×Nat)→List Itm→St→Bool→AV→List (Nat×Bx)→List (Nat×Option Bx)→Prop
 | 0,_,_,_,_,_,_,_,_,_,_,_=>False
 | n+1,cr,l,j,acc,ps,k,σ,true,v,rd,wr=>go E n (.ops l (j+1) (accN ps ⟨true,v,rd,wr⟩ acc) ps::k) (σ.app cr.dst ⟨true,v,rd,wr⟩)
 | n+1,cr,l,j,acc,ps,k,σ,false,_,_,_=>go E n (.ops l (j+1) (accN ps ⟨false,.nili,[],[]⟩ acc) ps::k) (σ.app cr.dst ⟨false,.nili,[],[]⟩)
end
section
variable {E:Env}
theorem w_acc{l:List CR}{j:Nat}{acc acc':List RR}{k:List Itm}{σ:St}(h:Wk E (.ops l j acc []::k) σ):Wk E (.ops l j acc' []::k) σ:=by
 rcases h with⟨rs,h1,h2,h3⟩|⟨rs,pv,r,h1,h2,h3⟩
 ·exact .inl ⟨rs,h1,trivial,h3⟩
 ·exact .inr ⟨rs,pv,r,h1,trivial,h3⟩
theorem w_accN{l:List CR}{j:Nat}{acc:List RR}{ps:List (Nat×Nat)}{r:RR}{k:List Itm}{σ:St}(h:Wk E (.ops l j (accN ps r acc) ps::k) σ):Wk E (.ops l j (r::acc) ps::k) σ:=by
 cases ps with
 | nil=>exact w_acc h
 | cons p ps=>exact h
theorem go_all:∀n:Nat,(∀k σ,go E n k σ→Wk E k σ)∧(∀id k σ,goX E n id k σ→Wx E id k σ)∧(∀b id k σ,goB E n b id k σ→if b then Wk E k σ else Wx E id k σ) ∧
  (∀v x y k σ,goV E n v x y k σ→∃b,v = .bool b∧(b=true→Wk E (.code x::k) σ)∧(b=false→Wk E (.code y::k) σ)) ∧
  (∀b x y k σ,goC E n b x y k σ→(b=true→Wk E (.code x::k) σ)∧(b=false→Wk E (.code y::k) σ)) ∧
  (∀cr l j acc ps k σ,gokF (lk σ.fr) cr.g→goO E n cr.op cr l j acc ps k σ (cndF (lk σ.fr) cr.g)→Wk E (.ops (cr::l) j acc ps::k) σ) ∧
  (∀cr l j acc ps k σ op p v rd wr,cr.op=op→gokF (lk σ.fr) cr.g→sem (veF (lk σ.fr)) (bk σ.bx) (E.n0+(σ.k+1024*j)) op=some (p,⟨v,rd,wr⟩)→goS E n cr l j acc ps k σ (cndF (lk σ.fr) cr.g) (some (p,⟨v,rd,wr⟩))→Wk E (.ops (cr::l) j acc ps::k) σ) ∧
  (∀cr l j acc ps k σ v rd wr,gokF (lk σ.fr) cr.g→(cndF (lk σ.fr) cr.g=true→ExR E.P cr.us (E.n0+σ.k+1024*j) (lk σ.fr) (bk σ.bx) cr.op ⟨true,v,rd,wr⟩)→goR E n cr l j acc ps k σ (cndF (lk σ.fr) cr.g) v rd wr→Wk E (.ops (cr::l) j acc ps::k) σ) ∧
  (∀cr l j acc ps k σ v rd wr,gokF (lk σ.fr) cr.g→(cndF (lk σ.fr) cr.g=true→ExR E.P cr.us (E.n0+σ.k+1024*j) (lk σ.fr) (bk σ.bx) cr.op ⟨true,v,rd,wr⟩)→goG E n cr l j acc ps k σ (cndF (lk σ.fr) cr.g) v rd wr→Wk E (.ops (cr::l) j acc ps::k) σ):=by
 intro n
 induction n with
 | zero =>
  refine⟨fun k σ h=>by simpa only[go] using h,fun id k σ h=>by simpa only[goX] using h,fun b id k σ h=>by simpa only[goB] using h,fun v x y k σ h=>by simpa only[goV] using h,fun b x y k σ h=>by simpa only[goC] using h,
   fun cr l j acc ps k σ hg h=>by simp only[goO] at h,fun cr l j acc ps k σ op p v rd wr hop hg hs h=>by simp only[goS] at h,fun cr l j acc ps k σ v rd wr hg hx h=>by simp only[goR] at h,fun cr l j acc ps k σ v rd wr hg hx h=>by simp only[goG] at h⟩
 | succ n ih =>
  obtain⟨i1,i2,i3,i4,i5,i6,i7,i8,i9⟩:=ih
  refine⟨fun k σ h=>?_,fun id k σ h=>?_,fun b id k σ h=>?_,fun v x y k σ h=>?_,fun b x y k σ h=>?_,fun cr l j acc ps k σ hg h=>?_,fun cr l j acc ps k σ op p v rd wr hop hg hs h=>?_,fun cr l j acc ps k σ v rd wr hg hx h=>?_,fun cr l j acc ps k σ v rd wr hg hx h=>?_⟩
  ·cases k with
   | nil=>simp only[go] at h; exact h
   | cons x k =>
    cases x with
    | blk id=>simp only[go] at h; exact i1 k σ h
    | post p=>simp only[go] at h; exact h
    | code c =>
     cases c with
     | skip=>simp only[go] at h; exact w_skip (i1 k σ h)
     | seq x y=>simp only[go] at h; exact w_seq (i1 _ σ h)
     | block id c=>simp only[go] at h; exact w_block (i1 _ σ h)
     | exit id=>simp only[go] at h; exact w_exit (i2 id k σ h)
     | ret=>simp only[go] at h; exact w_ret h
     | cond o x y =>
      simp only[go] at h
      obtain⟨b,e,h1,h2⟩:=i4 _ x y k σ h.2
      exact w_cond h.1 e h1 h2
     | reg d crs ps=>simp only[go] at h; exact w_reg (i1 _ σ h)
     | loop c=>simpa only[go] using h
     | bad=>simpa only[go] using h
    | ops l j acc ps =>
     cases l with
     | nil=>simp only[go] at h; exact w_ops (dynR_ok h.1) (i1 k _ h.2)
     | cons cr l=>simp only[go] at h; exact i6 cr l j acc ps k σ h.1 h.2
  ·cases k with
   | nil=>simp only[goX] at h
   | cons x k =>
    cases x with
    | blk id' =>
     simp only[goX] at h
     have:=i3 _ id k σ h
     show (if id=id' then Wk E k σ else Wx E id k σ)
     simpa only[decide_eq_true_eq] using this
    | post p=>simp only[goX] at h; exact i2 id k σ h
    | code c=>simp only[goX] at h; exact i2 id k σ h
    | ops=>simp only[goX] at h; exact i2 id k σ h
  ·cases b with
   | true=>simp only[goB] at h; simpa using i1 k σ h
   | false=>simp only[goB] at h; simpa using i2 id k σ h
  ·cases v with
   | bool b=>simp only[goV] at h; exact⟨b,rfl,i5 b x y k σ h⟩
   | _=>simp only[goV] at h
  ·cases b with
   | true=>simp only[goC] at h; exact⟨fun _=>i1 _ σ h,fun h=>by cases h⟩
   | false=>simp only[goC] at h; exact⟨(fun h=>by cases h),fun _=>i1 _ σ h⟩
  ·have other:∀op,cr.op=op→goS E n cr l j acc ps k σ (cndF (lk σ.fr) cr.g) (sem (veF (lk σ.fr)) (bk σ.bx) (E.n0+(σ.k+1024*j)) op)→Wk E (.ops (cr::l) j acc ps::k) σ:=fun op hop h=>by
    cases hs:sem (veF (lk σ.fr)) (bk σ.bx) (E.n0+(σ.k+1024*j)) op with
    | none=>rw[hs] at h; cases n<;>simp only[goS] at h
    | some q =>
     obtain⟨p,v,rd,wr⟩:=q
     rw[hs] at h
     exact i7 cr l j acc ps k σ op p v rd wr hop hg hs h
   obtain⟨dst,g,us,op⟩:=cr
   cases op with
   | pick c a b =>
    simp only[goO] at h
    refine i8 _ l j acc ps k σ _ [] [] hg (fun hc=>?_) h.2
    obtain⟨⟨q1,q2⟩,q3,q4⟩:=h.1 hc
    exact .pick true c a b q1 q2 q3 q4
   | call f xs=>simpa only[goO] using h
   | callv x xs=>simpa only[goO] using h
   | _=>simp only[goO] at h; exact other _ rfl h
  ·subst hop
   simp only[goS] at h
   refine i8 cr l j acc ps k σ v rd wr hg (fun hc=>?_) h.2
   obtain⟨q1,q2⟩:=h.1 hc
   exact .sem true cr.op p v rd wr q1 (by rw[Nat.add_assoc]; exact hs) q2
  ·have ex:∀b,cndF (lk σ.fr) cr.g=b→(b=true→ExR E.P cr.us (E.n0+σ.k+1024*j) (lk σ.fr) (bk σ.bx) cr.op ⟨b,v,rd,wr⟩):=fun b hb hb'=>by subst hb'; exact hx hb
   cases wr with
   | nil =>
    simp only[goR] at h
    exact w_op (r:=⟨cndF (lk σ.fr) cr.g,v,rd,[]⟩) ⟨hg,rfl,fun hc=>ex _ rfl hc,fun _=>rfl⟩ (w_accN (i1 _ _ h))
   | cons q wr=>simp only[goR] at h; exact i9 cr l j acc ps k σ v rd (q::wr) hg hx h
  ·cases hc:cndF (lk σ.fr) cr.g with
   | true =>
    rw[hc] at h
    simp only[goG] at h
    exact w_op (r:=⟨true,v,rd,wr⟩) ⟨hg,hc.symm,fun _=>hx hc,fun h=>by cases h⟩ (w_accN (i1 _ _ h))
   | false =>
    rw[hc] at h
    simp only[goG] at h
    exact w_op (r:=⟨false,.nili,[],[]⟩) ⟨hg,hc.symm,(fun h=>by cases h),fun _=>rfl⟩ (w_accN (i1 _ _ h))
theorem w_go(n:Nat){k:List Itm}{σ:St}(h:go E n k σ):Wk E k σ:=(go_all n).1 k σ h
end
end Go.Am
namespace Go.Am
set_option linter.all false
open Go Go.RowKit
def HasL(B:Nat→Option Bx):List (Nat×Bx)→Prop
 | []=>True
 | (i,b)::l=>B i=some b∧HasL B l
theorem HasL.has{B:Nat→Option Bx}:∀{l:List (Nat×Bx)},HasL B l→Has B l
 | [],_=>Has.nil
 | (i,b)::l,h=>fun q hq=>by
  rcases List.mem_cons.1 hq with rfl|hq
  ·exact h.1
  ·exact h.2.has q hq
section
variable {E:Env} {σ:St} {k:List Itm} {P:Program}
theorem w_call(hP:E.P=P){dst:Option Nat}{us:List Nat}{f:Nat}{xs:List Opd}{l:List CR}{j:Nat}{acc:List RR}{ps:List (Nat×Nat)}{args:List AV}{rd:List (Nat×Bx)}{v:AV}{wr:List (Nat×Option Bx)}
  (ha:xs.map (veF (lk σ.fr))=args) (hc:FnOk P f args rd (E.n0+(σ.k+1024*j)) v wr) (hu:uses (lk σ.fr) us) (hh:HasL (bk σ.bx) rd) (h:Wk E (.ops l (j+1) (accN ps ⟨true,v,rd,wr⟩ acc) ps::k) (σ.app dst ⟨true,v,rd,wr⟩)) :
  Wk E (.ops (⟨dst,none,us,.call f xs⟩::l) j acc ps::k) σ:=by
 subst hP ha
 refine w_op (r:=⟨true,v,rd,wr⟩) ⟨trivial,rfl,fun _=>.call f xs _ hu (.inl ⟨?_,hh.has⟩),fun h=>by cases h⟩ (w_accN h)
 rw[Nat.add_assoc]; exact hc
theorem w_callF(hP:E.P=P){dst:Option Nat}{us:List Nat}{f:Nat}{xs:List Opd}{l:List CR}{j:Nat}{acc:List RR}{ps:List (Nat×Nat)}{args args':List AV}{p:Prop}{fz rd:List (Nat×Bx)}{v:AV}{wr:List (Nat×Option Bx)}
  (ha:xs.map (veF (lk σ.fr))=args) (hr:rsvs (bk σ.bx) args=(p,args',fz)) (hp:p) (hc:FnOk P f args' rd (E.n0+(σ.k+1024*j)) v wr) (hu:uses (lk σ.fr) us) (hh:HasL (bk σ.bx) rd) (hd:apartL (keysR rd) (keysR fz))
  (h:Wk E (.ops l (j+1) (accN ps ⟨true,v,fz++rd,wrF fz++wr⟩ acc) ps::k) (σ.app dst ⟨true,v,fz++rd,wrF fz++wr⟩)) :
  Wk E (.ops (⟨dst,none,us,.call f xs⟩::l) j acc ps::k) σ:=by
 subst hP ha
 refine w_op (r:=⟨true,v,fz++rd,wrF fz++wr⟩) ⟨trivial,rfl,fun _=>.call f xs _ hu (.inr ⟨rd,wr,?_⟩),fun h=>by cases h⟩ (w_accN h)
 rw[hr,Nat.add_assoc]
 exact⟨hp,hc,hh.has,fun q hq q1 hq1 e=>apartL_iff.1 hd q.1 (List.mem_map.2 ⟨q,hq,rfl⟩) (List.mem_map.2 ⟨q1,hq1,e.symm⟩),rfl,rfl⟩
theorem w_callg(hP:E.P=P){dst:Option Nat}{g:Option (Nat×Bool)}{us:List Nat}{f:Nat}{xs:List Opd}{l:List CR}{j:Nat}{acc:List RR}{ps:List (Nat×Nat)}{args:List AV}{rd:List (Nat×Bx)}{v:AV}
  (hg:gokF (lk σ.fr) g) (ha:xs.map (veF (lk σ.fr))=args) (hc:cndF (lk σ.fr) g=true→FnOk P f args rd (E.n0+(σ.k+1024*j)) v []∧uses (lk σ.fr) us∧HasL (bk σ.bx) rd)
  (h:Wk E (.ops l (j+1) (accN ps ⟨cndF (lk σ.fr) g,v,rd,[]⟩ acc) ps::k) (σ.app dst ⟨cndF (lk σ.fr) g,v,rd,[]⟩)) :
  Wk E (.ops (⟨dst,g,us,.call f xs⟩::l) j acc ps::k) σ:=by
 subst hP ha
 refine w_op (r:=⟨cndF (lk σ.fr) g,v,rd,[]⟩) ⟨hg,rfl,fun hcc=>?_,fun _=>rfl⟩ (w_accN h)
 obtain⟨h1,h2,h3⟩:=hc hcc
 refine .call f xs _ h2 (.inl ⟨?_,h3.has⟩)
 rw[Nat.add_assoc]; exact h1
theorem w_callv(hP:E.P=P){dst:Option Nat}{us:List Nat}{f:Nat}{caps:List AV}{x:Opd}{xs:List Opd}{l:List CR}{j:Nat}{acc:List RR}{ps:List (Nat×Nat)}{args:List AV}{rd:List (Nat×Bx)}{v:AV}{wr:List (Nat×Option Bx)}
  (hx:veF (lk σ.fr) x = .fn f caps) (ha:xs.map (veF (lk σ.fr))=args) (hc:FnOk P f (args++caps) rd (E.n0+(σ.k+1024*j)) v wr) (hu:uses (lk σ.fr) us) (hh:HasL (bk σ.bx) rd) (h:Wk E (.ops l (j+1) (accN ps ⟨true,v,rd,wr⟩ acc) ps::k) (σ.app dst ⟨true,v,rd,wr⟩)) :
  Wk E (.ops (⟨dst,none,us,.callv x xs⟩::l) j acc ps::k) σ:=by
 subst hP ha
 refine w_op (r:=⟨true,v,rd,wr⟩) ⟨trivial,rfl,fun _=>.callv x xs f caps _ hu hx (.inl ⟨?_,hh.has⟩),fun h=>by cases h⟩ (w_accN h)
 rw[Nat.add_assoc]; exact hc
theorem goc{b:Bool}{n:Nat}{x y:CC}(h1:b=true→go E n (.code x::k) σ)(h2:b=false→go E n (.code y::k) σ):goC E (n+1) b x y k σ:=by
 cases b with
 | true=>simpa only[goC] using h1 rfl
 | false=>simpa only[goC] using h2 rfl
theorem goc_true{b:Bool}{n:Nat}{x y:CC}(hb:b=true)(h1:go E n (.code x::k) σ):goC E (n+1) b x y k σ:=by subst hb; simpa only[goC] using h1
theorem goc_false{b:Bool}{n:Nat}{x y:CC}(hb:b=false)(h1:go E n (.code y::k) σ):goC E (n+1) b x y k σ:=by subst hb; simpa only[goC] using h1
theorem end_pure{n0 id:Nat}{S:Nat→Prop}{res:AV}{vs:List AV}{bx':List (Nat×Option Bx)}(h:tupOf vs=res)(hp:res.pureB=true)(hd:DropOk n0 [] bx'):EndP n0 id S [] res [] vs bx' [] trivial :=
 ⟨by rw[h]; exact .same _ (namesIn_pure _ hp),trivial,hd,trivial,trivial,trivial⟩
end
end Go.Am
namespace Go.Am
set_option linter.all false
open Go Go.RowKit
section
variable {R:Rn} {S:Nat→Prop}
theorem renR_int{k k':IntKind}{a b:Int}:RenR R S (.int k a) (.int k' b)↔k=k'∧a=b :=
 ⟨fun h=>by cases h; exact⟨rfl,rfl⟩,fun⟨h1,h2⟩=>by subst h1 h2; exact .same _ trivial⟩
theorem renR_bool{a b:Bool}:RenR R S (.bool a) (.bool b)↔a=b :=
 ⟨fun h=>by cases h; rfl,fun h=>by subst h; exact .same _ trivial⟩
theorem renR_str{a b:List UInt8}:RenR R S (.str a) (.str b)↔a=b :=
 ⟨fun h=>by cases h; rfl,fun h=>by subst h; exact .same _ trivial⟩
theorem renR_nilp:RenR R S .nilp .nilp↔True:=⟨fun _=>trivial,fun _=>.same _ trivial⟩
theorem renR_nilf:RenR R S .nilf .nilf↔True:=⟨fun _=>trivial,fun _=>.same _ trivial⟩
theorem renR_nili:RenR R S .nili .nili↔True:=⟨fun _=>trivial,fun _=>.same _ trivial⟩
theorem renR_nils:RenR R S .nils .nils↔True:=⟨fun _=>trivial,fun _=>.same _ trivial⟩
theorem renR_nilsl{ys:List AV}:RenR R S .nils (.sl ys)↔ys=[] :=
 ⟨fun h=>by cases h; rfl,fun h=>by subst h; exact .nils⟩
theorem renR_sl{xs ys:List AV}:RenR R S (.sl xs) (.sl ys)↔xs=ys∧namesL (R.fix S) xs :=
 ⟨fun h=>by cases h with|same _ h=>exact⟨rfl,h⟩,fun⟨h1,h2⟩=>by subst h1; exact .same _ h2⟩
theorem renR_cptr{xs ys:List AV}:RenR R S (.cptr xs) (.cptr ys)↔xs=ys∧namesL (R.fix S) xs :=
 ⟨fun h=>by cases h with|same _ h=>exact⟨rfl,h⟩,fun⟨h1,h2⟩=>by subst h1; exact .same _ h2⟩
theorem renR_ptr{a b i i' o o':Nat}:RenR R S (.ptr a i o) (.ptr b i' o')↔i=i'∧o=o'∧(R.ρ b=some a∨(a=b∧R.ρ a=none∧S a)):=by
 constructor
 ·intro h
  cases h with
  | same _ h=>exact⟨rfl,rfl,h.imp _root_.id fun h=>⟨rfl,h⟩⟩
  | ptr _ _ _ _ h=>exact⟨rfl,rfl,.inl h⟩
 ·rintro⟨rfl,rfl,h|⟨rfl,h⟩⟩
  ·exact .ptr _ _ _ _ h
  ·exact .same _ (.inr h)
theorem renR_bsl{a b i i' o o':Nat}:RenR R S (.bsl a i o) (.bsl b i' o')↔i=i'∧o=o'∧(R.ρ b=some a∨(a=b∧R.ρ a=none∧S a)):=by
 constructor
 ·intro h
  cases h with
  | same _ h=>exact⟨rfl,rfl,h.imp _root_.id fun h=>⟨rfl,h⟩⟩
  | bsl _ _ _ _ h=>exact⟨rfl,rfl,.inl h⟩
 ·rintro⟨rfl,rfl,h|⟨rfl,h⟩⟩
  ·exact .bsl _ _ _ _ h
  ·exact .same _ (.inr h)
theorem renR_agg{cs ds:List AV}:RenR R S (.agg cs) (.agg ds)↔RenL R S cs ds :=
 ⟨fun h=>by
  cases h with
  | same _ h=>exact RenL.same h
  | agg _ _ h=>exact h,.agg _ _⟩
theorem renR_tup{cs ds:List AV}:RenR R S (.tup cs) (.tup ds)↔RenL R S cs ds :=
 ⟨fun h=>by
  cases h with
  | same _ h=>exact RenL.same h
  | tup _ _ h=>exact h,.tup _ _⟩
theorem renR_fn{f g:Nat}{cs ds:List AV}:RenR R S (.fn f cs) (.fn g ds)↔f=g∧RenL R S cs ds :=
 ⟨fun h=>by
  cases h with
  | same _ h=>exact⟨rfl,RenL.same h⟩
  | fn _ _ _ h=>exact⟨rfl,h⟩,fun⟨h1,h2⟩=>by subst h1; exact .fn _ _ _ h2⟩
theorem renR_fnb{f g:Nat}{cs ds:List AV}:RenR R S (.fnb f cs) (.fnb g ds)↔f=g∧RenL R S cs ds :=
 ⟨fun h=>by
  cases h with
  | same _ h=>exact⟨rfl,RenL.same h⟩
  | fnb _ _ _ h=>exact⟨rfl,h⟩,fun⟨h1,h2⟩=>by subst h1; exact .fnb _ _ _ h2⟩
theorem renL_nil:RenL R S [] []↔True:=⟨fun _=>trivial,fun _=>.nil⟩
theorem renL_cons{x y:AV}{l r:List AV}:RenL R S (x::l) (y::r)↔RenR R S x y∧RenL R S l r :=
 ⟨fun h=>by cases h with|cons _ _ _ _ h hl=>exact⟨h,hl⟩,fun⟨h,hl⟩=>.cons _ _ _ _ h hl⟩
theorem renL_pure{xs ys:List AV}(h:xs=ys)(hp:pureL xs=true):RenL R S xs ys:=by subst h; exact RenL.same (namesL_pure _ hp)
theorem bxR_iff{xs xs':List AV}{d d':AV}{ro ro' frz frz':Bool}:BxR R S ⟨xs,d,ro,frz⟩ ⟨xs',d',ro',frz'⟩↔RenL R S xs xs'∧d.cells.length=d'.cells.length∧ro=ro'∧frz=frz' :=
 ⟨fun⟨h1,h2,h3,h4⟩=>⟨h1,h2,h3,h4⟩,fun⟨h1,h2,h3,h4⟩=>⟨h1,h2,h3,h4⟩⟩
theorem mkRn_ρ(n0:Nat)(l:List (Nat×Nat))(h:rnOk l)(y:Nat):(mkRn n0 l h).ρ y=rnF n0 l y:=rfl
theorem pureL_map{α:Type}{f:α→AV}(h:∀x,(f x).pureB=true):∀l:List α,pureL (l.map f)=true
 | []=>rfl
 | x::l=>by simp only[List.map_cons,pureL,h x,pureL_map h l,Bool.and_self]
theorem pureL_append{a b:List AV}(h1:pureL a=true)(h2:pureL b=true):pureL (a++b)=true:=by
 induction a with
 | nil=>exact h2
 | cons x l ih =>
  simp only[pureL,Bool.and_eq_true,List.cons_append] at h1 ⊢
  exact⟨h1.1,ih h1.2⟩
end
theorem wrap64{x:Int}(h : -9223372036854775808≤x∧x≤9223372036854775807):IntKind.i64.wrap x=x:=IntWalk.i64_in _ h
theorem ne_own{i n0:Nat}(h:i<n0)(t:Nat):(i=n0+t)=False:=by simp; omega
theorem ne_own'{i n0:Nat}(h:i<n0)(t:Nat):(n0+t=i)=False:=by simp; omega
theorem ne_own0{i n0:Nat}(h:i<n0):(i=n0)=False:=by simp; omega
theorem ne_own0'{i n0:Nat}(h:i<n0):(n0=i)=False:=by simp; omega
end Go.Am
namespace Go.Am
set_option linter.all false
open Go Go.RowKit
theorem id_ne{i id:Nat}(h:i<id∨id+1024≤i):(i=id)=False:=by simp; omega
theorem id_ne'{i id:Nat}(h:i<id∨id+1024≤i):(id=i)=False:=by simp; omega
theorem id_lt{id n0:Nat}(h:id+1024≤n0):(id<n0)=True:=by simp; omega
theorem id_own{id n0:Nat}(h:id+1024≤n0)(t:Nat):(id=n0+t)=False:=by simp; omega
theorem id_own'{id n0:Nat}(h:id+1024≤n0)(t:Nat):(n0+t=id)=False:=by simp; omega
theorem id_own0{id n0:Nat}(h:id+1024≤n0):(id=n0)=False:=by simp; omega
theorem id_own0'{id n0:Nat}(h:id+1024≤n0):(n0=id)=False:=by simp; omega
theorem lf{i n0 id:Nat}(h:i<n0∧(i<id∨id+1024≤i)):(∀t,(i=n0+t)=False)∧(∀t,(n0+t=i)=False)∧(i=n0)=False∧(n0=i)=False∧i<n0∧(i=id)=False∧(id=i)=False :=
 ⟨ne_own h.1,ne_own' h.1,ne_own0 h.1,ne_own0' h.1,h.1,id_ne h.2,id_ne' h.2⟩
theorem idO{id n0:Nat}(h:id+1024≤n0):(id<n0)=True∧(∀t,(id=n0+t)=False)∧(∀t,(n0+t=id)=False)∧(id=n0)=False∧(n0=id)=False:=⟨id_lt h,id_own h,id_own' h,id_own0 h,id_own0' h⟩
theorem pickB_false(c a:Bool):pickB c a false=(c&&a):=by cases c<;>cases a<;>rfl
theorem pickB_true(c b:Bool):pickB c true b=(c||b):=by cases c<;>cases b<;>rfl
attribute [simp] go goX goB goV goC goO goS goR goG mmT mmI St.app St.bump putF addW lk bk veF ceF ceO cndF gokF accN uses sem frOf someL lookT fieldT indexT lenT hiT loT elemsT cmpT binT rsv1 rsv rsv1T rsvL rsvT rsvs wrF appT Bx.el Bx.sz ldT stT unT convT slisT sliT AV.isAgg AV.isStr AV.isBoolB AV.isT AV.cells AV.one pickB_false pickB_true mend keysR keysW dynR dynL apartR apartL outOf getR HasL splice fillAV setAll setOk
attribute [simp] SubF SubB DropOk goneOk newIn rnOk goneN hasKey lkN rnF mkRn_ρ renR_int renR_bool renR_str renR_nilp renR_nilf renR_nili renR_nils renR_nilsl renR_sl renR_cptr renR_ptr renR_bsl renR_agg renR_tup renR_fn renR_fnb renL_nil renL_cons bxR_iff tupOf FinB freshL appl upd AV.pureB pureL
theorem fn_okc{P:Program}{f:Nat}{fn:Func}{cc:CC}{crs:List CRes}{args:List AV}{rd:List (Nat×Bx)}{id:Nat}{res:AV}{wr:List (Nat×Option Bx)}
  (hf : P.funcs[f]? = some fn) (hcc : fn.body.map (compC P fn.ntmps) = some cc) (hnm : (fn.name == "runtime.NumGoroutine") = false) (hrs : compRes P fn.results.toList = some crs) (hN : args.length ≤ fn.ntmps)
  (h:∀E:Env,E.P=P→E.Rt=RtOk E.n0 id E.G0.used crs rd res wr→(∀q∈rd,q.1<E.n0∧(q.1<id∨id+1024≤q.1))→id+1024≤E.n0→Wk E [.code cc] ⟨frOf 0 args,someL rd,0⟩):FnOk P f args rd id res wr:=by
 obtain⟨c,hb,rfl⟩:=Option.map_eq_some_iff.1 hcc
 exact fn_ok hf hb hnm hrs hN fun E h1 _ h3 h4 h5=>h E h1 h3 h4 h5
def ResIs(F:Fr)(B:Nat→Option Bx)(crs:List CRes)(vs:List AV):Prop:=match resV F B crs with
 | some (p,us)=>p∧us=vs
 | none=>False
theorem rt_end{n0 id:Nat}{S:Nat→Prop}{crs:List CRes}{rd:List (Nat×Bx)}{res:AV}{wr:List (Nat×Option Bx)}{σ:St}{vs:List AV}(h:ResIs (lk σ.fr) (bk σ.bx) crs vs)(rn:List (Nat×Nat))(hrn:rnOk rn)(he:EndP n0 id S rd res wr vs σ.bx rn hrn):RtOk n0 id S crs rd res wr σ:=by
 unfold ResIs at h
 unfold RtOk
 cases hr:resV (lk σ.fr) (bk σ.bx) crs with
 | none=>rw[hr] at h; exact h.elim
 | some q =>
  obtain⟨p,us⟩:=q
  rw[hr] at h
  obtain⟨hp,rfl⟩:=h
  exact⟨hp,false,rn,hrn,he⟩
theorem rt_endF{n0 id:Nat}{S:Nat→Prop}{crs:List CRes}{rd:List (Nat×Bx)}{res:AV}{wr:List (Nat×Option Bx)}{σ:St}{vs vs':List AV}{q:Prop}{fz:List (Nat×Bx)}(h:ResIs (lk σ.fr) (bk σ.bx) crs vs)(hr:rsvs (bk σ.bx) vs=(q,vs',fz))(hq:q)
  (rn:List (Nat×Nat)) (hrn:rnOk rn) (he:EndP n0 id S rd res wr vs' (addW σ.bx (wrF fz)) rn hrn):RtOk n0 id S crs rd res wr σ:=by
 unfold ResIs at h
 unfold RtOk
 cases hv:resV (lk σ.fr) (bk σ.bx) crs with
 | none=>rw[hv] at h; exact h.elim
 | some z =>
  obtain⟨p,us⟩:=z
  rw[hv] at h
  obtain⟨hp,rfl⟩:=h
  refine⟨hp,true,rn,hrn,?_⟩
  show (rsvs (bk σ.bx) us).1∧_
  rw[hr]
  exact⟨hq,he⟩
def RsvIs(B:Nat→Option Bx)(vs vs':List AV)(fz:List (Nat×Bx)):Prop:=(rsvs B vs).1∧(rsvs B vs).2.1=vs'∧(rsvs B vs).2.2=fz
theorem RsvIs.eq{B:Nat→Option Bx}{vs vs':List AV}{fz:List (Nat×Bx)}(h:RsvIs B vs vs' fz):rsvs B vs=((rsvs B vs).1,vs',fz):=by
 obtain⟨_,h2,h3⟩:=h
 rw[←h2,←h3]
theorem w_callR{E:Env}{σ:St}{k:List Itm}{P:Program}(hP:E.P=P){dst:Option Nat}{us:List Nat}{f:Nat}{xs:List Opd}{l:List CR}{j:Nat}{acc:List RR}{ps:List (Nat×Nat)}{args args':List AV}{fz rd:List (Nat×Bx)}{v:AV}{wr:List (Nat×Option Bx)}
  (ha:xs.map (veF (lk σ.fr))=args) (hc:FnOk P f args' rd (E.n0+(σ.k+1024*j)) v wr) (hr:RsvIs (bk σ.bx) args args' fz) (hu:uses (lk σ.fr) us) (hh:HasL (bk σ.bx) rd) (hd:apartL (keysR rd) (keysR fz))
  (h:Wk E (.ops l (j+1) (accN ps ⟨true,v,fz++rd,wrF fz++wr⟩ acc) ps::k) (σ.app dst ⟨true,v,fz++rd,wrF fz++wr⟩)) :
  Wk E (.ops (⟨dst,none,us,.call f xs⟩::l) j acc ps::k) σ:=w_callF hP ha hr.eq hr.1 hc hu hh hd h
theorem rt_endR{n0 id:Nat}{S:Nat→Prop}{crs:List CRes}{rd:List (Nat×Bx)}{res:AV}{wr:List (Nat×Option Bx)}{σ:St}{vs vs':List AV}{fz:List (Nat×Bx)}(h:ResIs (lk σ.fr) (bk σ.bx) crs vs)(hr:RsvIs (bk σ.bx) vs vs' fz)
  (rn:List (Nat×Nat)) (hrn:rnOk rn) (he:EndP n0 id S rd res wr vs' (addW σ.bx (wrF fz)) rn hrn):RtOk n0 id S crs rd res wr σ:=rt_endF h hr.eq hr.1 rn hrn he
@[simp] theorem take_map_len {α:Type} (f:α→AV) (l:List α):List.take l.length (l.map f)=l.map f:=List.take_of_length_le (by simp)
attribute [simp] resV ResIs RsvIs
end Go.Am
namespace Go.Am
set_option linter.all false
open Go Go.RowKit
def G0(W:World):Gh:={ fz:=fun b o=>∃u,W.cell? ⟨b,o,none⟩=some u,used:=fun _=>False,bm:=fun _=>none,nl:=fun _=>False }
def C0{P:Program}(W:World)(ht:Tabs P W):Cx P:=⟨W.heap.size,W,(G0 W).fz,fun _ hb=>ht.below hb⟩
theorem RS.start{P:Program}(W:World)(ht:Tabs P W):RS (C0 W ht) (G0 W) (fun _=>none) W :=
 ⟨Below.refl _ _,Nat.le_refl _,fun _ _ h=>h,fun _ _ h _=>h,fun _ _ h=>by (cases h),fun _ _ h=>by (cases h),fun _ h=>h.elim,fun _ _ _ h=>by (cases h),fun _ _ _ _ _ h=>by (cases h),fun _ _ _ h=>by (cases h)⟩
def FitsL(p:TypeId→AV→Prop):List TypeId→List AV→Prop
 | [],[]=>True
 | t::ts,y::ys=>p t y∧FitsL p ts ys
 | _,_=>False
def Fits(P:Program):Nat→TypeId→AV→Prop
 | 0,_,_=>False
 | n+1,t,x=>match P.underlying t with
  | some .bool=>∃b,x = .bool b
  | some (.int k)=>∃m,x = .int k m∧(Lit.int k m).wf=true
  | some .string=>∃s:List UInt8,x = .str s∧s.length≤reachBytes
  | some (.slice e)=>∃xs:List AV,x = .sl xs∧xs.length≤reachBytes∧∀y∈xs,Fits P n e y
  | some (.struct fs)=>∃ys:List AV,x = .agg (ys.flatMap AV.cells)∧FitsL (Fits P n) (fs.toList.map (·.type)) ys
  | _=>False
mutual
def avOf{H:Type}:DataW H→AV
 | .lit (.int k n)=>.int k n
 | .lit (.bool b)=>.bool b
 | .lit (.string s)=>.str s
 | .nil=>.sl []
 | .slice elems _=>.sl (avAll elems)
 | .agg parts=>.agg (avCells parts)
 | _=>.nili
def avAll{H:Type}:List (DataW H)→List AV
 | []=>[]
 | d::r=>avOf d::avAll r
def avCells{H:Type}:List (DataW H)→List AV
 | []=>[]
 | d::r=>(avOf d).cells++avCells r
end
theorem avAll_map{H:Type}:∀l:List (DataW H),avAll l=l.map avOf
 | []=>rfl
 | d::r=>by simp only[avAll,List.map_cons,avAll_map r]
theorem avCells_map{H:Type}:∀l:List (DataW H),avCells l=(l.map avOf).flatMap AV.cells
 | []=>rfl
 | d::r=>by simp only[avCells,List.map_cons,List.flatMap_cons,avCells_map r]
def laidB(P:Program):List Field→Nat→Nat→Bool
 | [],k,n=>k==n
 | f::r,k,n=>f.offset==k&&laidB P r (k+P.cellsOf f.type) n
def kindB(P:Program)(l:List TypeId)(t:TypeId):Bool:=match P.underlying t with
 | some .bool=>true
 | some (.int _)=>true
 | some .string=>true
 | some (.slice e)=>l.contains e&&decide (0<P.bytesOf e)
 | some (.struct fs)=>fs.toList.all (fun f=>l.contains f.type)&&laidB P fs.toList 0 (P.cellsOf t)
 | _=>false
theorem laidB_le{P:Program}:∀{l:List Field} {k n:Nat},laidB P l k n=true→k≤n
 | [],k,n,h=>by simp[laidB] at h; omega
 | f::r,k,n,h=>by
  simp only[laidB,Bool.and_eq_true] at h
  have:=laidB_le h.2
  omega
def CellsOk(W:World)(a:AV)(cs:List Value):Prop:=a.cells.length=cs.length∧∀(j:Nat) y,a.cells[j]?=some y→RV (G0 W) W y (cs.getD j undef)
def Light(l:List Nat):Prop:=∀n∈l,n≤reachBytes
theorem Light.of{l:List Nat}(h:l.all (·≤reachBytes)=true):Light l:=fun n hn=>by simpa using List.all_eq_true.1 h n hn
theorem light_all{H:Type}{P:Program}{e:TypeId}:∀{l:List (DataW H)},Light (DataW.weightsAll P e l)→∀d∈l,Light (d.weights P e)
 | [],_,d,hd=>by cases hd
 | x::l,h,d,hd=>by
  simp only[DataW.weightsAll] at h
  rcases List.mem_cons.1 hd with rfl|hd
  ·exact fun n hn=>h n (by simp[hn])
  ·exact light_all (l:=l) (fun n hn=>h n (by simp[hn])) d hd
section
variable {H:Type} {enc:TypeId×Value→H} {P:Program} {W:World} {sp:Nat→Bool} {l:List TypeId}
theorem fields_rv{n:Nat}(ih:∀t cs (x:DataW H×List MemPlace),t∈l→DataW.trod enc P W 0 sp true n t cs=some x→Light (x.1.weights P t)→Fits P n t (avOf x.1)∧CellsOk W (avOf x.1) cs){cs:List Value}:
  ∀(fl:List Field) (xs:List (DataW H×List MemPlace)) (k:Nat),xs.length=fl.length→(∀f∈fl,f.type∈l)→laidB P fl k cs.length=true→(∀(i:Nat) f,fl[i]?=some f→DataW.trod enc P W 0 sp true n f.type ((cs.drop f.offset).take (P.cellsOf f.type))=xs[i]?) →
  Light (DataW.weightsEach P (fl.map (·.type)) (xs.map (·.1))) →
  FitsL (Fits P n) (fl.map (·.type)) (xs.map fun x=>avOf x.1)∧k+((xs.map fun x=>avOf x.1).flatMap AV.cells).length=cs.length∧∀(j:Nat) y,((xs.map fun x=>avOf x.1).flatMap AV.cells)[j]?=some y→RV (G0 W) W y (cs.getD (k+j) undef)
 | [],[],k,_,_,hl,_,_=>by
  simp[laidB] at hl
  exact⟨trivial,by simpa using hl,fun j y hy=>by simp at hy⟩
 | [],_::_,_,hx,_,_,_,_=>by simp at hx
 | _::_,[],_,hx,_,_,_,_=>by simp at hx
 | f::r,x::xs,k,hlen,hm,hl,ht,hw=>by
  simp only[laidB,Bool.and_eq_true,beq_iff_eq] at hl
  obtain⟨h1,h2⟩:=hl
  have hx:=ht 0 f rfl
  simp only[List.map_cons,DataW.weightsEach] at hw
  obtain⟨f1,f2,f3⟩:=ih _ _ _ (hm f (by simp)) hx fun n hn=>hw n (by simp[hn])
  obtain⟨g1,g2,g3⟩:=fields_rv ih r xs (k+P.cellsOf f.type) (by simpa using hlen) (fun f' hf'=>hm f' (by simp[hf'])) h2 (fun i f' hf'=>by simpa using ht (i+1) f' (by simpa using hf')) fun n hn=>hw n (by simp[hn])
  have hle:=laidB_le h2
  have hal:(avOf x.1).cells.length=P.cellsOf f.type:=by rw[f2,List.length_take,List.length_drop,h1]; omega
  refine⟨⟨f1,g1⟩,by simp only[List.map_cons,List.flatMap_cons,List.length_append]; omega,fun j y hy=>?_⟩
  simp only[List.map_cons,List.flatMap_cons] at hy
  by_cases hj:j<(avOf x.1).cells.length
  ·rw[List.getElem?_append_left hj] at hy
   have:=f3 j y hy
   have e:((cs.drop f.offset).take (P.cellsOf f.type)).getD j undef=cs.getD (k+j) undef:=by
    simp only[List.getD_eq_getElem?_getD]
    rw[List.getElem?_take_of_lt (by omega),List.getElem?_drop,h1]
   rw[e] at this
   exact this
  ·rw[List.getElem?_append_right (by omega)] at hy
   have:=g3 _ y hy
   rw[show k+P.cellsOf f.type+(j - (avOf x.1).cells.length)=k+j by omega] at this
   exact this
theorem trod_rv(hl:l.all (kindB P l)=true):∀(n:Nat) (t:TypeId) (cs:List Value) (x:DataW H×List MemPlace),t∈l→DataW.trod enc P W 0 sp true n t cs=some x→Light (x.1.weights P t)→Fits P n t (avOf x.1)∧CellsOk W (avOf x.1) cs
 | 0,t,cs,x,_,h,_=>by simp[DataW.trod] at h
 | n+1,t,cs,x,ht,h,hw=>by
  have hk:=List.all_eq_true.1 hl t ht
  have ih:=trod_rv hl n
  have one:∀(a:AV) (v:Value),a.cells=[a]→RV (G0 W) W a v→CellsOk W a [v]:=fun a v ha hr=>by
   refine⟨by rw[ha]; rfl,fun j y hy=>?_⟩
   rw[ha] at hy
   cases j with
   | zero=>simp at hy; subst hy; exact hr
   | succ j=>simp at hy
  unfold kindB at hk
  unfold Fits
  cases hu:P.underlying t with
  | none=>rw[hu] at hk; cases hk
  | some d =>
   rw[hu] at hk
   cases d with
   | bool =>
    obtain⟨b,rfl,rfl⟩:=DataW.trod_bool hu h
    exact⟨⟨b,rfl⟩,one _ _ rfl (.bool b)⟩
   | int k =>
    obtain⟨m,rfl,rfl,hwf⟩:=DataW.trod_int hu h
    exact⟨⟨m,rfl,hwf⟩,one _ _ rfl (.int k m)⟩
   | string =>
    obtain⟨s,rfl,rfl,hs⟩:=DataW.trod_string hu h
    obtain⟨⟨d⟩⟩:=s
    exact⟨⟨d,rfl,hw _ (by simp[DataW.weights])⟩,one _ _ rfl (.str d)⟩
   | struct fs =>
    simp only[Bool.and_eq_true] at hk
    obtain⟨xs,m,hm,rfl,hcl,hxl,hf⟩:=DataW.trod_struct hu h
    obtain rfl:m=n:=by omega
    simp only[DataW.weights,hu] at hw
    obtain⟨g1,g2,g3⟩:=fields_rv (cs:=cs) ih fs.toList xs 0 (by simpa using hxl) (fun f hf=>by simpa using List.all_eq_true.1 hk.1 f hf) (by rw[hcl]; exact hk.2) (fun i f hf'=>hf i f (by simpa using hf')) hw
    have e:avOf (DataW.agg (xs.map (·.1))) = .agg ((xs.map fun x=>avOf x.1).flatMap AV.cells):=by simp only[avOf,avCells_map,List.map_map]; rfl
    simp only[e]
    refine⟨⟨_,rfl,g1⟩,?_,fun j y hy=>?_⟩
    ·simp only[AV.cells]; omega
    ·have:=g3 j y hy
     rw[Nat.zero_add] at this
     exact this
   | slice e =>
    simp only[Bool.and_eq_true,decide_eq_true_eq] at hk
    have he:e∈l:=by simpa using hk.1
    rcases DataW.trod_slice hu h with⟨rfl,rfl⟩|⟨a,len,cap,elems,rest,m,hm,rfl,rfl,hb,hlc,hcm,hel,hE,-,-⟩
    ·refine⟨⟨[],rfl,by simp,fun y hy=>by cases hy⟩,one _ _ rfl ?_⟩
     exact .sl [] none 0 0 (fun _ _=>undef) (Nat.le_refl _) (by simp[maxLen]) (fun _=>⟨rfl,rfl⟩) (fun i x hi=>by simp at hi) (fun a i x j y _ hi=>by simp at hi) (fun a i x j y _ hi=>by simp at hi) (fun i x j y hi=>by simp at hi)
    ·obtain rfl:m=n:=by omega
     simp only[DataW.weights,hu] at hw
     have hlen0:(elems.length+rest.length)*P.bytesOf e≤reachBytes:=by simpa using hw _ (List.mem_cons_self ..)
     have hlen1:elems.length≤reachBytes:=by
      have:elems.length*1≤(elems.length+rest.length)*P.bytesOf e:=Nat.mul_le_mul (by omega) hk.2
      omega
     have hwe:Light (DataW.weightsAll P e (elems.map (·.1))):=fun n hn=>hw n (by simp[hn])
     have HH:∀i x,elems[i]?=some x→∃cs,(Fits P m e (avOf x.1)∧CellsOk W (avOf x.1) cs)∧cs.length=P.cellsOf e∧∀j,j<P.cellsOf e→W.cell? ((a.add (i*P.cellsOf e)).add j)=cs[j]?:=fun i x hx=>by
      have hi:i<elems.length:=(List.getElem?_eq_some_iff.1 hx).1
      have:=hE i (by omega)
      rw[hx,Option.bind_eq_some_iff] at this
      obtain⟨cs,c1,c2⟩:=this
      obtain⟨q1,q2⟩:=ih e cs x he c2 (light_all hwe x.1 (List.mem_map.2 ⟨x,List.mem_of_getElem? hx,rfl⟩))
      obtain⟨-,k2,k3⟩:=World.cells?_some c1
      exact⟨cs,⟨q1,q2⟩,k2,k3⟩
     have eav:avOf (DataW.slice (elems.map (·.1)) (rest.map (·.1))) = .sl (elems.map fun x=>avOf x.1):=by simp only[avOf,avAll_map,List.map_map]; rfl
     simp only[eav]
     have hget:∀(i:Nat) y,(elems.map fun x=>avOf x.1)[i]?=some y→∃x,elems[i]?=some x∧y=avOf x.1:=fun i y hy=>by
      rw[List.getElem?_map,Option.map_eq_some_iff] at hy
      obtain⟨x,hx,rfl⟩:=hy
      exact⟨x,hx,rfl⟩
     have hadd:∀i j,(a.add (i*P.cellsOf e)).add j=a.add (i*P.cellsOf e+j):=fun i j=>by
      clear ih one HH hE h hw
      unfold Addr.add
      generalize i*P.cellsOf e=n
      by_cases hj:j=0
      ·subst hj; simp
      ·by_cases hn:n=0
       ·subst hn; simp
       ·have:n+j≠0:=by omega
        simp[hj,hn,Nat.add_assoc]
     have hcell:∀(i:Nat) y (j:Nat) z,(elems.map fun x=>avOf x.1)[i]?=some y→y.cells[j]?=some z→∃u,W.cell? (a.add (i*P.cellsOf e+j))=some u∧RV (G0 W) W z u:=fun i y j z hy hz=>by
      obtain⟨x,hx,rfl⟩:=hget i y hy
      obtain⟨cs,⟨_,k1,k2⟩,k3,k4⟩:=HH i x hx
      have hj:j<cs.length:=by rw[←k1]; exact (List.getElem?_eq_some_iff.1 hz).1
      have h5:=k4 j (by omega)
      rw[hadd,List.getElem?_eq_getElem hj] at h5
      have h6:=k2 j z hz
      rw[List.getD_eq_getElem?_getD,List.getElem?_eq_getElem hj] at h6
      exact⟨_,h5,h6⟩
     refine⟨⟨_,rfl,by simpa using hlen1,fun y hy=>?_⟩,one _ _ rfl ?_⟩
     ·obtain⟨i,hi⟩:=List.getElem?_of_mem hy
      obtain⟨x,hx,rfl⟩:=hget i y hi
      obtain⟨_,h,_⟩:=HH i x hx
      exact h.1
     ·have hlen:(elems.map fun x=>avOf x.1).length=len:=by simpa using hel
      have:=RV.sl (G:=G0 W) (w:=W) (elems.map fun x=>avOf x.1) (some a) cap (P.cellsOf e) (fun i j=>(W.cell? (a.add (i*P.cellsOf e+j))).getD undef) (by rw[hlen]; exact hlc) hcm (fun h=>by cases h)
       (fun i y hy=>by
        obtain⟨x,hx,rfl⟩:=hget i y hy
        obtain⟨cs,⟨_,k1,k2⟩,k3,k4⟩:=HH i x hx
        rw[k1,k3])
       (fun a' i y j z ha hy hz=>by
        injection ha with ha; subst ha
        obtain⟨u,hu,hr⟩:=hcell i y j z hy hz
        have h2:=cell_norm hu
        rw[add_block,add_off] at h2
        exact⟨_,h2⟩)
       (fun a' i y j z ha hy hz=>by
        injection ha with ha; subst ha
        obtain⟨u,hu,hr⟩:=hcell i y j z hy hz
        rw[hu]; rfl)
       (fun i y j z hy hz=>by
        obtain⟨u,hu,hr⟩:=hcell i y j z hy hz
        rw[hu]; exact hr)
      rw[hlen] at this
      exact this
   | _=>cases hk
theorem arg_rv(hl:l.all (kindB P l)=true){r:Reach}{b0:Nat}{t:TypeId}(ht:t∈l){v:Value}{d:DataW H}{ps:List MemPlace}(hval:Value.okWide P W r b0 t v)(hd:DataW.Trod enc P W 0 sp true t v d ps)(hw:Light (d.weights P t)):
  (∃n,Fits P n t (avOf d))∧RV (G0 W) W (avOf d) v:=by
 obtain⟨n,hn⟩:=hd
 obtain⟨h1,h2,h3⟩:=trod_rv hl n t _ _ ht hn hw
 refine⟨⟨n,h1⟩,?_⟩
 have hk:=List.all_eq_true.1 hl t ht
 simp only at h1 h2 h3
 generalize avOf d=a at *
 cases n with
 | zero=>exact h1.elim
 | succ n =>
  unfold kindB at hk
  unfold Fits at h1
  have one:v.cells = #[v]→a.cells=[a]→RV (G0 W) W a v:=fun hv ha=>by
   have:=h3 0 a (by rw[ha]; rfl)
   rw[hv] at this
   exact this
  cases hu:P.underlying t with
  | none=>rw[hu] at hk; cases hk
  | some q =>
   rw[hu] at hk h1
   cases q with
   | bool=>obtain⟨b,rfl⟩:=WideShapes.okWide_bool hu hval; obtain⟨_,rfl⟩:=h1; exact one rfl rfl
   | int k=>obtain⟨b,rfl⟩:=WideShapes.okWide_int hu hval; obtain⟨_,rfl,_⟩:=h1; exact one rfl rfl
   | string=>obtain⟨b,rfl⟩:=WideShapes.okWide_string hu hval; obtain⟨_,rfl,_⟩:=h1; exact one rfl rfl
   | slice e=>obtain⟨a',len,cap,rfl⟩:=WideShapes.okWide_slice hu hval; obtain⟨_,rfl,_⟩:=h1; exact one rfl rfl
   | struct fs =>
    obtain⟨ys,rfl,_⟩:=h1
    simp only[Value.okWide,hu] at hval
    obtain⟨cs,rfl,_⟩:=hval
    refine .agg _ cs (by simpa [AV.cells,Value.cells] using h2) fun i y hy=>?_
    have:=h3 i y hy
    simpa [Value.cells,List.getD_eq_getElem?_getD,Array.getD_eq_getD_getElem?] using this
   | _=>cases hk
end
end Go.Am
namespace Go.Am
set_option linter.all false
open Go Go.RowKit
def FitsAny(P:Program)(t:TypeId)(a:AV):Prop:=∃n,Fits P n t a
section
variable {H:Type} {enc:TypeId×Value→H} {P:Program} {W W':World} {l:List TypeId}
theorem args_rv(hl:l.all (kindB P l)=true){sp:Nat→Bool}{r:Reach}{b0:Nat}:∀{ts:List TypeId} {vs:List Value} {ds:List (DataW H)} {ps:List MemPlace},(∀t∈ts,t∈l)→(∀(j:Nat) t v,ts[j]?=some t→vs[j]?=some v→Value.okWide P W r b0 t v) →
  DataW.TrodAll enc P W 0 sp true ts vs ds ps→Light (DataW.weightsEach P ts ds)→FitsL (FitsAny P) ts (ds.map avOf)∧ds.length=vs.length∧ds.length=ts.length∧∀(i:Nat) y,(ds.map avOf)[i]?=some y→RV (G0 W) W y (vs.getD i undef)
 | [],[],[],ps,_,_,_,_=>⟨trivial,rfl,rfl,fun i y hy=>by simp at hy⟩
 | t::ts,v::vs,d::ds,ps,hm,hv,h,hw=>by
  obtain⟨p,q,h1,h2,rfl⟩:=h
  simp only[DataW.weightsEach] at hw
  obtain⟨⟨n,f1⟩,f2⟩:=arg_rv hl (hm t (by simp)) (hv 0 t v rfl rfl) h1 fun n hn=>hw n (by simp[hn])
  obtain⟨g1,g2,g3,g4⟩:=args_rv hl (fun t ht=>hm t (by simp[ht])) (fun j t v hj hj'=>hv (j+1) t v (by simpa using hj) (by simpa using hj')) h2 fun n hn=>hw n (by simp[hn])
  refine⟨⟨⟨n,f1⟩,g1⟩,by simp[g2],by simp[g3],fun i y hy=>?_⟩
  cases i with
  | zero=>simp at hy; subst hy; exact f2
  | succ i=>exact g4 i y (by simpa using hy)
 | [],[],_::_,_,_,_,h,_=>h.elim
 | [],_::_,_,_,_,_,h,_=>h.elim
 | _::_,[],_,_,_,_,h,_=>h.elim
 | _::_,_::_,[],_,_,_,h,_=>h.elim
theorem args_stay(hlaid:laidOutB P=true):∀{ts:List TypeId} {vs:List Value} {ds:List (DataW H)} {ps:List MemPlace},(∀t∈ts,P.readableRec t=true∧t<P.types.size)→(∀x∈ps,x.block<W.heap.size)→Below W.heap.size W W' →
  DataW.TrodAll enc P W 0 (fun _=>true) true ts vs ds ps→DataW.TrodAll enc P W' 0 (fun b=>decide (b<W.heap.size)) true ts vs ds ps
 | [],[],[],ps,_,_,_,h=>h
 | t::ts,v::vs,d::ds,ps,hm,hlt,hb,h=>by
  obtain⟨p,q,h1,h2,rfl⟩:=h
  exact⟨p,q,Below.trod hlaid (hm t (by simp)).1 (hm t (by simp)).2 h1 hb fun x hx=>hlt x (by simp[hx]),args_stay hlaid (fun t ht=>hm t (by simp[ht])) (fun x hx=>hlt x (by simp[hx])) hb h2,rfl⟩
 | [],[],_::_,_,_,_,_,h=>h.elim
 | [],_::_,_,_,_,_,_,h=>h.elim
 | _::_,[],_,_,_,_,_,h=>h.elim
 | _::_,_::_,[],_,_,_,_,h=>h.elim
theorem law_post{f:Nat}{fn:Func}{s:ChangeSpec}{apart fresh handsOn:Bool}{base:Nat}{args:Array Value}{ds gs:List (DataW H)}{before:List MemPlace}{tb:TypeId}
  (hl:l.all (kindB P l)=true) (hlaid:laidOutB P=true) (hts:fn.params.toList.all (fun t=>l.contains t&&(P.readableRec t&&decide (t<P.types.size)))=true)
  (hrt:fn.resultTypes = #[tb]) (htb:P.underlying tb=some .bool) (hsv:s.vars=[])
  (hs:∀(ds:List (DataW H)),ds.length=fn.params.size→s.fn H ds={ results:=[.lit (.bool true)],args:=ds })
  (main:∀xs:List AV,FitsL (FitsAny P) fn.params.toList xs→xs=ds.map avOf→FnOk P f xs [] 0 (.bool true) [])
  (hsz:(DataW.weightsEach P (fn.params.toList++s.plain.varTypes P) (ds++gs)).all (·≤reachBytes)=true)
  (hval:∀(j:Nat) t v,fn.params[j]?=some t→args[j]?=some v→Value.okWide P W .any base t v)
  (hW:DataW.Whole enc P fn.params.toList s.vars apart W args.toList ds gs before) (htab:Tabs P W) :
  Calls P f args W fun e W'=>∃v,e = .returned v∧s.post enc P fn apart fresh handsOn false W args v W':=by
 have hW':=hW
 obtain⟨p,q,hA,hV,rfl,-,-⟩:=hW
 rw[hsv] at hV
 have hts':∀t∈fn.params.toList,t∈l∧P.readableRec t=true∧t<P.types.size:=fun t ht=>by
  have:=List.all_eq_true.1 hts t ht
  simpa using this
 have hgs:gs=[]∧q=[]:=by
  cases gs with
  | nil=>exact⟨rfl,hV⟩
  | cons g gs=>exact hV.elim
 obtain⟨rfl,rfl⟩:=hgs
 have hvt:s.plain.varTypes P=[]:=by simp[DataSpec.varTypes,ChangeSpec.plain,hsv]
 rw[hvt,List.append_nil,List.append_nil] at hsz
 obtain⟨f1,f2,f3,f4⟩:=args_rv hl (fun t ht=>(hts' t ht).1) (fun j t v hj hj'=>hval j t v (by simpa using hj) (by simpa using hj')) hA (Light.of hsz)
 refine ((main _ f1 rfl).2 (C0 W htab) (G0 W) (fun _=>none) W args 0 (RS.start W htab) ⟨by simpa using f2,fun i y hy=>?_⟩ (fun q hq=>by cases hq) (fun _ _ h=>h) (fun _ _ _ h=>h)).mono fun e W' he=>?_
 ·have:=f4 i y hy
  simpa [List.getD_eq_getElem?_getD,Array.getD_eq_getD_getElem?] using this
 ·obtain⟨v,G',rfl,r1,r2,r3,r4⟩:=he
  cases r3
  have hb:Below W.heap.size W W':=r1.below
  have e1:s.fn H (ds++[])={ results:=[.lit (.bool true)],args:=ds }:=by rw[List.append_nil]; exact hs ds (by simpa using f3)
  refine⟨_,rfl,ds,[],p++[],[],p,[],hW',?_,?_,?_,hb.frame _,fun h=>by cases h⟩
  ·rw[e1,hrt]
   exact⟨[],[],⟨1,by simp[DataW.trod,Value.cells,htb]⟩,rfl,rfl⟩
  ·rw[e1]
   exact args_stay hlaid (fun t ht=>(hts' t ht).2) (fun x hx=>hW'.lt x (by simp[hx])) hb hA
  ·rw[e1,hsv]
   rfl
end
end Go.Am
namespace Go.Am
set_option linter.all false
open Go Go.RowKit
section
variable {P:Program} {t:TypeId} {n:Nat} {x:AV}
theorem fits_int{k:IntKind}(hu:P.underlying t=some (.int k))(h:Fits P n t x):∃m,x = .int k m∧(Lit.int k m).wf=true:=by
 cases n with
 | zero=>exact h.elim
 | succ n=>unfold Fits at h; rw[hu] at h; exact h
theorem fits_str(hu:P.underlying t=some .string)(h:Fits P n t x):∃s:List UInt8,x = .str s∧s.length≤reachBytes:=by
 cases n with
 | zero=>exact h.elim
 | succ n=>unfold Fits at h; rw[hu] at h; exact h
theorem fits_sl{e:TypeId}(hu:P.underlying t=some (.slice e))(h:Fits P n t x):∃m xs,n=m+1∧x = .sl xs∧xs.length≤reachBytes∧∀y∈xs,Fits P m e y:=by
 cases n with
 | zero=>exact h.elim
 | succ n=>unfold Fits at h; rw[hu] at h; obtain⟨xs,h1,h2,h3⟩:=h; exact⟨n,xs,rfl,h1,h2,h3⟩
theorem fits_st{fs:Array Field}(hu:P.underlying t=some (.struct fs))(h:Fits P n t x):∃m ys,n=m+1∧x = .agg (ys.flatMap AV.cells)∧FitsL (Fits P m) (fs.toList.map (·.type)) ys:=by
 cases n with
 | zero=>exact h.elim
 | succ n=>unfold Fits at h; rw[hu] at h; obtain⟨ys,h1,h2⟩:=h; exact⟨n,ys,rfl,h1,h2⟩
theorem fitsL_cons{p:TypeId→AV→Prop}{t:TypeId}{ts:List TypeId}{ys:List AV}(h:FitsL p (t::ts) ys):∃y r,ys=y::r∧p t y∧FitsL p ts r:=by
 cases ys with
 | nil=>exact h.elim
 | cons y r=>exact⟨y,r,rfl,h.1,h.2⟩
theorem fitsL_nil{p:TypeId→AV→Prop}{ys:List AV}(h:FitsL p [] ys):ys=[]:=by
 cases ys with
 | nil=>rfl
 | cons y r=>exact h.elim
theorem exists_map{α:Type}{f:α→AV}:∀{xs:List AV},(∀y∈xs,∃a,y=f a)→∃l:List α,xs=l.map f
 | [],_=>⟨[],rfl⟩
 | y::r,h=>by
  obtain⟨a,rfl⟩:=h y (by simp)
  obtain⟨l,rfl⟩:=exists_map (xs:=r) fun z hz=>h z (by simp[hz])
  exact⟨a::l,rfl⟩
end
def kidsOf(P:Program)(t:TypeId):List TypeId:=match P.underlying t with
 | some (.slice e)=>[e]
 | some (.struct fs)=>fs.toList.map (·.type)
 | _=>[]
def closeT(P:Program):Nat→List TypeId→List TypeId
 | 0,l=>l
 | n+1,l=>closeT P n (l++(l.flatMap (kidsOf P)).eraseDups.filter fun t=>!l.contains t)
end Go.Am
namespace Go.Am
set_option linter.all false
open Go Go.RowKit
theorem w_split{E:Env}{σ:St}{k:List Itm}{dst:Option Nat}{g:Option (Nat×Bool)}{us:List Nat}{op:COp}{l:List CR}{j:Nat}{acc:List RR}{ps:List (Nat×Nat)}(v:AV)(hg:gokF (lk σ.fr) g)
  (h1:cndF (lk σ.fr) g=true→Wk E (.ops (⟨dst,none,us,op⟩::l) j acc ps::k) σ)
  (h2:cndF (lk σ.fr) g=false→Wk E (.ops l (j+1) (accN ps ⟨false,v,[],[]⟩ acc) ps::k) (σ.app dst ⟨false,v,[],[]⟩)):Wk E (.ops (⟨dst,g,us,op⟩::l) j acc ps::k) σ:=by
 cases hc:cndF (lk σ.fr) g with
 | true =>
  rcases h1 hc with⟨rs,r1,r2,r3⟩|⟨rs,pv,r1,r2,r3⟩
  ·cases rs with
   | nil=>exact r1.elim
   | cons r rs =>
    obtain⟨⟨o1,o2,o3,o4⟩,r1⟩:=r1
    exact .inl ⟨r::rs,⟨⟨hg,o2.trans hc.symm,o3,o4⟩,r1⟩,r2,r3⟩
  ·cases rs with
   | nil=>exact .inr ⟨[],pv,r1,⟨hg,hc,r2.2.2⟩,r3⟩
   | cons r rs =>
    obtain⟨⟨o1,o2,o3,o4⟩,r2⟩:=r2
    exact .inr ⟨r::rs,pv,r1,⟨⟨hg,o2.trans hc.symm,o3,o4⟩,r2⟩,r3⟩
 | false=>exact w_op (r:=⟨false,v,[],[]⟩) ⟨hg,hc.symm,(fun h=>by cases h),fun _=>rfl⟩ (w_accN (h2 hc))
end Go.Am
namespace Go.Am
set_option linter.all false
set_option linter.all false
open Go Go.RowKit
def CR.m(d x:Nat):CR:=⟨some d,none,[x],.mv (.t x)⟩
def CR.i(d:Nat)(n:Int):CR:=⟨some d,none,[],.mv (.c (.int .i64 n))⟩
def CR.v(d:Nat)(a:AV):CR:=⟨some d,none,[],.mv (.c a)⟩
def CR.l(d x:Nat):CR:=⟨some d,none,[x],.ld false 1 (.t x)⟩
def CR.L(d n x:Nat):CR:=⟨some d,none,[x],.ld true n (.t x)⟩
def CR.f(d k x:Nat):CR:=⟨some d,none,[x],.fa k (.t x)⟩
def CR.e(d x i:Nat):CR:=⟨some d,none,[x],.ext (.t x) i⟩
def CR.n(d x:Nat):CR:=⟨some d,none,[x],.len false (.t x)⟩
def CR.ns(d x:Nat):CR:=⟨some d,none,[x],.len true (.t x)⟩
def CR.b(d:Nat)(o:BinOp)(x y:Nat):CR:=⟨some d,none,[x,y],.bin o none (.t x) (.t y)⟩
def CR.k(d:Nat)(o:BinOp)(x:Nat)(n:Int):CR:=⟨some d,none,[x],.bin o none (.t x) (.c (.int .i64 n))⟩
def CR.j(d:Nat)(o:BinOp)(x:Nat)(a:AV):CR:=⟨some d,none,[x],.bin o none (.t x) (.c a)⟩
def CR.c(d f:Nat)(xs:List Nat):CR:=⟨some d,none,xs,.call f (xs.map Opd.t)⟩
def CR.pa(d a b:Nat):CR:=⟨some d,none,[a,b],.pick (.t a) (.t b) (.c (.bool false))⟩
def CR.po(d a b:Nat):CR:=⟨some d,none,[a,b],.pick (.t a) (.c (.bool true)) (.t b)⟩
def CR.ck(d x:Nat):CR:=⟨some d,none,[x],.chk (.t x)⟩
def CR.bx(d x:Nat):CR:=⟨some d,none,[x],.box (.t x)⟩
def CR.al(d:Nat)(z:AV):CR:=⟨some d,none,[],.alloc z⟩
def CR.no(d x:Nat):CR:=⟨some d,none,[x],.un .not (.t x)⟩
def CR.ia(d s:Nat)(z:AV)(x y:Nat):CR:=⟨some d,none,[x,y],.ia s z (.t x) (.t y)⟩
def CR.st(n x y:Nat):CR:=⟨none,none,[x,y],.st n (.t x) (.t y)⟩
def CR.si(n x:Nat)(v:Int):CR:=⟨none,none,[x],.st n (.t x) (.c (.int .i64 v))⟩
def CR.gt(s:Nat)(c:CR):CR:=⟨c.dst,some (s,true),c.us,c.op⟩
def CR.gf(s:Nat)(c:CR):CR:=⟨c.dst,some (s,false),c.us,c.op⟩
def CC.r(l:List CR):CC:=.reg false l []
def CC.d(l:List CR)(p:List (Nat×Nat)):CC:=.reg true l p
def pr:List (Nat×List Nat)→List (Nat×Nat)
 | []=>[]
 | (b,l)::r=>l.map (fun a=>(a,b))++pr r
def AV.zE:AV:=.agg [.int .i64 0,.int .i64 0,.int .i64 0,.int .i64 0,.int .i64 0,.str []]
def AV.zG:AV:=.agg [.int .i64 0,.int .i64 0,.nils]
def AV.zC:AV:=.agg [.int .i64 0,.str [],.nils]
def AV.zY:AV:=.agg [.str [],.nils]
def AV.zF:AV:=.agg [.str [],.int .i64 0,.str []]
def AV.zS:AV:=.agg [.nils,.nils]
def AV.zQ:AV:=.agg [.str [],.str [],.nils,.nils]
def AV.zA:AV:=.agg [.str [],.bool false,.str [],.int .i64 0]
attribute [simp] CR.m CR.i CR.v CR.l CR.L CR.f CR.e CR.n CR.ns CR.b CR.k CR.j CR.c CR.pa CR.po CR.ck CR.bx CR.al CR.no CR.ia CR.st CR.si CR.gt CR.gf CC.r CC.d pr AV.zE AV.zG AV.zC AV.zY AV.zF AV.zS AV.zQ AV.zA
end Go.Am
