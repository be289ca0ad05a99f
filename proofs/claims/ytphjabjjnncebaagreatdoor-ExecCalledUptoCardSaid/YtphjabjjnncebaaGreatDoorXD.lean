/- Parts of the proof: an abstract machine for Go functions, and what functions of the program give back (Am29, Am30, Am31, Am32, Am33, Am34). No condition. -/
import Derived.Test.YtphjabjjnncebaaGreatDoorXC
set_option maxRecDepth 100000
set_option linter.all false
namespace Go.Am
open Go Go.RowKit
/-! ### Folds over those that were done -/
section
variable {α β:Type} (st:Nat->(α->β)->α->β) (K:Nat->α->Prop)
def E5(D:Nat->Bool):List Nat->(α->β)->α->β
 | [],f=>f
 | i::l,f=>E5 D l (if D i then st i f else f)
variable {st K} (h1:∀i f x,¬K i x->st i f x=f x) (h2:∀i f g x,K i x->st i f x=st i g x)
include h1 h2
theorem m8{D D':Nat->Bool}{x:α}:∀{l:List Nat} {f g:α->β},(∀i∈l,K i x->D i=D' i)->f x=g x->E5 st D l f x=E5 st D' l g x
 | [],f,g,_,h=>h
 | i::l,f,g,hD,h=>by
  simp only[E5];refine m8 (fun k hk=>hD k (by simp[hk])) ?_;by_cases hK:K i x
  ·rw[hD i (by simp) hK];split
   ·exact h2 i f g x hK
   ·exact h
  ·have e1:(if D i=true then st i f else f) x=f x:=(by split; exact h1 i f x hK; rfl);have e2:(if D' i=true then st i g else g) x=g x:=(by split; exact h1 i g x hK; rfl);rw[e1,e2,h]
omit h2 in
theorem A3Z{D:Nat->Bool}{x:α}:∀{l:List Nat} {f:α->β},(∀i∈l,D i=true->¬K i x)->E5 st D l f x=f x
 | [],f,_=>rfl
 | i::l,f,hD=>by
  simp only[E5];rw[A3Z (fun k hk=>hD k (by simp[hk]))];split
  ·rename_i h; exact h1 i f x (hD i (by simp) h)
  ·rfl
omit h1 h2 in
theorem A00{D:Nat->Bool}:∀{l l':List Nat} {f:α->β},E5 st D (l++l') f=E5 st D l' (E5 st D l f)
 | [],_,_=>rfl
 | i::l,l',f=>by simp only[yo,E5,A00]
theorem A4y{D D':Nat->Bool}{l1 l2:List Nat}{j:Nat}{f:α->β}(hj':D' j=true)(hD:∀i,i≠j->D i=D' i)(hl:j∉l2)
  (hc:∀i∈l2,D i=true->∀x,K j x->¬K i x):st j (E5 st D (l1++j::l2) f)=E5 st D' (l1++j::l2) f:=by
 funext x
 by_cases hK:K j x
 ·have:E5 st D' (l1++j::l2) f x=st j (E5 st D' l1 f) x:=by
   rw[A00];simp only[E5,hj',if_true];refine A3Z h1 fun i hi hd=>?_;have hij:i≠j:=fun h=>hl (h▸hi);exact hc i hi (by rw[hD i hij]; exact hd) x hK
  rw[this];exact h2 j _ _ x hK
 ·rw[h1 j _ x hK];refine m8 h1 h2 (fun i _ hi=>hD i fun h=>hK (h▸hi)) rfl
end
theorem A2a(j n:Nat)(h:j<n):List.range n=List.range j++j::List.range' (j+1) (n - j - 1):=by
 rw[wb,wb,←wa,show n - j - 1+1=n - j by omega];have:=List.range'_append_1 (s:=0) (m:=j) (n:=n - j);rw[yu,show j+(n - j)=n by omega] at this;exact this.symm
/-! ### What a region's operations make,one behind the other -/
def O2(l:List (Nat×Bx)):List Nat:=l.map (·.1)
def K8(l:List (Nat×Option Bx)):List Nat:=l.map (·.1)
def A2w(P:Program)(base:Nat):Nat->List CR->Fr->(Nat->Option Bx)->List RR->Prop
 | _,[],_,_,[]=>True
 | j,cr::l,F,B,r::rs=>OpR P cr (base+1024*j) F B r/\A2w P base (j+1) l (z8 F cr.dst r) (D8 B r.wr) rs
 | _,_,_,_,_=>False
def A98(P:Program)(base:Nat)(pv:AV)(r:RR):Nat->List CR->Fr->(Nat->Option Bx)->List RR->Prop
 | j,cr::_,F,B,[]=>OpP P cr (base+1024*j) F B pv r
 | j,cr::l,F,B,r0::rs=>OpR P cr (base+1024*j) F B r0/\A98 P base pv r (j+1) l (z8 F cr.dst r0) (D8 B r0.wr) rs
 | _,[],_,_,_=>False
def runF:List CR->List RR->Fr->Fr
 | cr::l,r::rs,F=>runF l rs (z8 F cr.dst r)
 | _,_,F=>F
def j9:List RR->(Nat->Option Bx)->Nat->Option Bx
 | r::rs,B=>j9 rs (D8 B r.wr)
 | [],B=>B
def A76(P:Program)(N:Nat)(ops:Array Oper):List Oper->Option (List CR)
 | []=>some []
 | o::l=>match l9 P N ops o,A76 P N ops l with
  | some c,some cs=>some (c::cs)
  | _,_=>none
theorem v6{P:Program}{N:Nat}{ops:Array Oper}:∀{l:List Oper} {cs:List CR},A76 P N ops l=some cs->cs.length=l.length/\∀(i:Nat) o,l[i]?=some o->∃c,cs[i]?=some c/\l9 P N ops o=some c
 | [],cs,h=>by simp[A76] at h; subst h; exact⟨rfl,fun i o h=>by simp at h⟩
 | o::l,cs,h=>by
  simp only[A76] at h;split at h
  ·rename_i c cs' hc hl;injection h with h
   subst h;obtain⟨k1,k2⟩:=v6 hl;refine⟨by simp[k1],fun i o' ho=>?_⟩;cases i with
   | zero=>simp at ho; subst ho; exact⟨c,rfl,hc⟩
   | succ i=>simpa using k2 i o' (by simpa using ho)
  ·cases h
section
variable {P:Program} {C:Cx P} {N:Nat} {D:List Deferred} {n0:Nat} {G0:Gh} {w0:World} {G:Gh} {a:Act} {w:World} {ops:Array Oper} {Q:Exit->Act->World->Prop}
theorem B1J{crs:List CR}(hlen:crs.length=ops.size)(hcr:∀(i:Nat) o,ops[i]?=some o->∃c,crs[i]?=some c/\l9 P N ops o=some c){base:Nat}(hn:n0<=base){F':Fr}{B':Nat->Option Bx}
  (hK:∀G a w,E0 C N D n0 G0 w0 F' B' (· < base+1024*ops.size) G a w->Q .normal a w) :
  ∀(m j:Nat) (rs:List RR) (F:Fr) (B:Nat->Option Bx) (G:Gh) (a:Act) (w:World),j+m=ops.size->A2w P base j (crs.drop j) F B rs->runF (crs.drop j) rs F=F'->j9 rs B=B'->E0 C N D n0 G0 w0 F B (· < base+1024*j) G a w ->
   wpOps P ops Q (List.range' j m) a w:=by
 intro m;induction m with
 | zero =>
  intro j rs F B G a w hj hr hF hB hd;have hj':j=ops.size:=by omega
  subst hj';rw[zt (by omega)] at hr hF;cases rs with
  | cons=>exact hr.elim
  | nil =>
   simp only[runF] at hF;simp only[j9] at hB;subst hF hB;exact hK G a w hd
 | succ m ih =>
  intro j rs F B G a w hj hr hF hB hd;have hjn:j<ops.size:=by omega
  obtain⟨o,ho⟩:∃o,ops[j]?=some o:=⟨_,zy hjn⟩;obtain⟨cr,hc1,hc2⟩:=hcr j o ho;have hdrop:crs.drop j=cr::crs.drop (j+1):=by
   rw[yv (by omega)];rw[zd (by omega)] at hc1;injection hc1 with hc1
   rw[hc1]
  rw[hdrop] at hr hF;cases rs with
  | nil=>exact hr.elim
  | cons r rs =>
   obtain⟨hr1,hr2⟩:=hr;rw[wa,wpOps_cons];refine A75 hd ho hc2 hr1 (fun x hx _ h=>absurd (hd.used _ h) (by omega)) (by omega) (nb:=base+1024*j) (fun x hx h=>absurd (hd.used _ h) (by omega)) fun G' u w' hd'=>?_;exact ih (j+1) rs _ _ G' _ w' (by omega) hr2 hF hB (hd'.weak fun id h=>h.elim (fun h=>by have:=hd.used _ h; omega) fun h=>by omega)
theorem B4t{crs:List CR}(hlen:crs.length=ops.size)(hcr:∀(i:Nat) o,ops[i]?=some o->∃c,crs[i]?=some c/\l9 P N ops o=some c){base:Nat}(hn:n0<=base){pv:AV}{r:RR}{B':Nat->Option Bx}
  (hK:∀G a w u F U,E0 C N D n0 G0 w0 F (D8 B' r.wr) U G a w->RV G w pv u->Q (.panic [{ v:=u,recovered:=false }]) a w) :
  ∀(rs:List RR) (m j:Nat) (F:Fr) (B:Nat->Option Bx) (G:Gh) (a:Act) (w:World),j+m=ops.size->A98 P base pv r j (crs.drop j) F B rs->j9 rs B=B'->E0 C N D n0 G0 w0 F B (· < base+1024*j) G a w ->
   wpOps P ops Q (List.range' j m) a w:=by
 intro rs;induction rs with
 | nil =>
  intro m j F B G a w hj hr hB hd;simp only[j9] at hB;subst hB;have hjn:j<ops.size:=by
   rcases yt j ops.size with h|h
   ·exact h
   ·rw[zt (by omega)] at hr; exact hr.elim
  obtain⟨o,ho⟩:∃o,ops[j]?=some o:=⟨_,zy hjn⟩;obtain⟨cr,hc1,hc2⟩:=hcr j o ho;have hdrop:crs.drop j=cr::crs.drop (j+1):=by
   rw[yv (by omega)];rw[zd (by omega)] at hc1;injection hc1 with hc1
   rw[hc1]
  rw[hdrop] at hr;obtain⟨m,rfl⟩:∃k,m=k+1:=⟨m - 1,by omega⟩;rw[wa,wpOps_cons];exact B1I hd ho hc2 hr (fun x hx _ h=>absurd (hd.used _ h) (by omega)) (by omega) (nb:=base+1024*j) (fun x hx h=>absurd (hd.used _ h) (by omega)) fun G' u w' hd' hv=>hK G' a w' u _ _ hd' hv
 | cons r0 rs ih =>
  intro m j F B G a w hj hr hB hd;have hjn:j<ops.size:=by
   rcases yt j ops.size with h|h
   ·exact h
   ·rw[zt (by omega)] at hr; exact hr.elim
  obtain⟨o,ho⟩:∃o,ops[j]?=some o:=⟨_,zy hjn⟩;obtain⟨cr,hc1,hc2⟩:=hcr j o ho;have hdrop:crs.drop j=cr::crs.drop (j+1):=by
   rw[yv (by omega)];rw[zd (by omega)] at hc1;injection hc1 with hc1
   rw[hc1]
  rw[hdrop] at hr;obtain⟨hr1,hr2⟩:=hr;obtain⟨m,rfl⟩:∃k,m=k+1:=⟨m - 1,by omega⟩;rw[wa,wpOps_cons];refine A75 hd ho hc2 hr1 (fun x hx _ h=>absurd (hd.used _ h) (by omega)) (by omega) (nb:=base+1024*j) (fun x hx h=>absurd (hd.used _ h) (by omega)) fun G' u w' hd'=>?_;exact ih m (j+1) _ _ G' _ w' (by omega) hr2 hB (hd'.weak fun id h=>h.elim (fun h=>by have:=hd.used _ h; omega) fun h=>by omega)
end
inductive Q9(ops:Array Oper):Nat->Nat->Prop
 | one (i j:Nat) (o:Oper) (e:Edge) (ho:ops[j]?=some o) (he:e∈o.after) (hb:Region.binds .any e=true) (hi:e.on=i):Q9 ops i j
 | more (i k j:Nat) (h1:Q9 ops i k) (h2:Q9 ops k j):Q9 ops i j
def A5y(ops:Array Oper)(D:Nat->Bool):Prop:=∀(j:Nat) o,ops[j]?=some o->D j=true->∀e∈o.after,Region.binds .any e=true->D e.on=true
theorem A5y.before{ops:Array Oper}{D:Nat->Bool}(h:A5y ops D){i j:Nat}(hb:Q9 ops i j):D j=true->D i=true:=by
 induction hb with
 | one i j o e ho he hb hi=>intro hj; subst hi; exact h j o ho hj e he hb
 | more i k j _ _ ih1 ih2=>exact fun hj=>ih1 (ih2 hj)
theorem A5z{ops:Array Oper}{D:Nat->Bool}(h:A5y ops D){i j:Nat}(hb:Q9 ops i j):(∀o,ops[j]?=some o->∀e∈o.after,Region.binds .any e=true->D e.on=true)->D i=true:=by
 induction hb with
 | one i j o e ho he hb hi=>intro hj; subst hi; exact hj o ho e he hb
 | more i k j h1 _ ih1 ih2=>exact fun hj=>h.before h1 (ih2 hj)
def A3A(o:Oper):List Nat:=(o.after.toList.filter fun e=>Region.binds .any e).map (·.on)
theorem A2b{o:Oper}{i:Nat}:i∈A3A o↔∃e∈o.after,Region.binds .any e=true/\e.on=i:=by
 simp[A3A,and_assoc]
def A4z(l:List Nat):List Nat:=l.foldr (fun x r=>if r.contains x then r else x::r) []
theorem A22{x:Nat}:∀{l:List Nat},x∈A4z l->x∈l
 | [],h=>h
 | y::l,h=>by
  have e:A4z (y::l)=if (A4z l).contains y then A4z l else y::A4z l:=rfl
  rw[e] at h;split at h
  ·exact za _ (A22 h)
  ·rcases zi.1 h with rfl|h
   ·simp
   ·exact za _ (A22 h)
def A77:List Oper->List (List Nat)->List (List Nat)
 | [],acc=>acc
 | o::l,acc=>A77 l (acc++[A4z ((A3A o).flatMap fun i=>i::acc.getD i [])])
theorem A60{ops:Array Oper}:∀{l:List Oper} {acc:List (List Nat)},(∀(i:Nat) o,l[i]?=some o->ops[acc.length+i]?=some o)->(∀(j i:Nat),i∈acc.getD j []->Q9 ops i j) ->
  ∀(j i:Nat),i∈(A77 l acc).getD j []->Q9 ops i j
 | [],acc,_,h=>h
 | o::l,acc,hl,h=>by
  simp only[A77];refine A60 (fun i o' ho'=>?_) fun j i hi=>?_
  ·have:=hl (i+1) o' (by simpa using ho');simpa [yx,to 1 i] using this
  ·rw[xf] at hi;by_cases hj:j<acc.length
   ·rw[zz hj] at hi;exact h j i (by rw[xf]; exact hi)
   ·rw[ya (by omega)] at hi;by_cases hj':j=acc.length
    ·subst hj';simp only[Nat.sub_self,yb,wg] at hi;have hi:=A22 hi;simp only[xq,A2b,zi] at hi;obtain⟨k,⟨e,he,hb,rfl⟩,hi⟩:=hi;have h0:=hl 0 o rfl;have h1:Q9 ops e.on acc.length:=.one _ _ o e h0 he hb rfl;rcases hi with rfl|hi
     ·exact h1
     ·exact .more _ _ _ (h _ _ hi) h1
    ·have:j - acc.length≠0:=by omega
     obtain⟨m,hm⟩:=Nat.exists_eq_succ_of_ne_zero this;rw[hm] at hi;simp at hi
def W6.mayW:W6->Bool
 | .mv _ | .pick _ _ _ | .build _ _ | .ld _ _ _ | .chk _ | .bin _ _ _ _ | .mm _ _ _ | .un _ _ | .conv _ _ | .mkf _ _ | .slis _ _ _ | .fa _ _ | .ia _ _ _ _ | .ix _ _ | .ext _ _ | .len _ _ | .aa _ _ _ _=>false
 | _=>true
def CR.looks(c:CR):List Nat:=c.op.slots++(c.us++match c.g with|some (s,_)=>[s]|none=>[])
def O3(x y:CR):Bool :=
 (match x.dst with
  | some d=>!(y.looks).contains d&&y.dst != some d
  | none=>true) &&
 (match y.dst with
  | some d=>!(x.looks).contains d
  | none=>true)
def A0n(an:List (List Nat))(n:Nat):List (Nat×Nat):=(List.range n).flatMap fun j=>((List.range j).filter fun i=>!(an.getD j []).contains i).map fun i=>(i,j)
theorem s0{an:List (List Nat)}{n i j:Nat}:(i,j)∈A0n an n↔j<n/\i<j/\¬i∈an.getD j []:=by
 simp[A0n];constructor
 ·rintro⟨a,h1,b,⟨h2,h3⟩,rfl,rfl⟩; exact⟨h1,h2,h3⟩
 ·rintro⟨h1,h2,h3⟩; exact⟨j,h1,i,⟨h2,h3⟩,rfl,rfl⟩
def A8H(ops:Array Oper)(crs:List CR)(ps:List (Nat×Nat)):Bool :=
 (ops.toList.zipIdx.all fun q=>(A3A q.1).all (decide<|· < q.2))&&ps.all fun q=>match crs[q.1]?,crs[q.2]? with
  | some x,some y=>O3 x y
  | _,_=>false
def B1K(crs:List CR)(ps:List (Nat×Nat)):List (Nat×Nat):=ps.filter fun q=>match crs[q.1]?,crs[q.2]? with
 | some x,some y=>x.op.mayW||y.op.mayW
 | _,_=>false
def A50(x:Nat):List Nat->Prop
 | []=>True
 | y::l=>x≠y/\A50 x l
def R0:List Nat->List Nat->Prop
 | [],_=>True
 | x::l,r=>A50 x r/\R0 l r
theorem A51{x:Nat}:∀{l:List Nat},A50 x l↔x∉l
 | []=>by simp[A50]
 | y::l=>by simp[A50,A51 (l:=l)]
theorem R3:∀{l r:List Nat},R0 l r↔∀x∈l,x∉r
 | [],r=>by simp[R0]
 | x::l,r=>by simp[R0,A51,R3 (l:=l)]
def f7(x y:RR):Prop:=R0 (K8 x.wr) (O2 y.rd)/\R0 (K8 x.wr) (K8 y.wr)/\R0 (K8 y.wr) (O2 x.rd)
def A10:List RR->Nat->RR
 | [],_=>⟨false,.nili,[],[]⟩
 | r::_,0=>r
 | _::l,n+1=>A10 l n
def A3a(rs:List RR):List (Nat×Nat)->Prop
 | []=>True
 | q::l=>f7 (A10 rs q.1) (A10 rs q.2)/\A3a rs l
theorem c4{rs:List RR}:∀{i:Nat} {r:RR},rs[i]?=some r->A10 rs i=r:=by
 induction rs with
 | nil=>intro i r h; simp at h
 | cons x l ih =>
  intro i r h;cases i with
  | zero=>simpa [A10] using h
  | succ i=>exact ih (by simpa using h)
theorem A52{rs:List RR}:∀{ps:List (Nat×Nat)},A3a rs ps->∀q∈ps,f7 (A10 rs q.1) (A10 rs q.2)
 | [],_,q,hq=>by cases hq
 | p::l,h,q,hq=>by
  rcases zi.1 hq with rfl|hq
  ·exact h.1
  ·exact A52 h.2 q hq
theorem A3b{P:Program}{us:List Nat}{id:Nat}{F:Fr}{B:Nat->Option Bx}{op:W6}{r:RR}(h:ExR P us id F B op r)(hm:op.mayW=false):r.wr=[]:=by
 cases h with
 | pick=>rfl
 | call=>cases hm
 | callv=>cases hm
 | callb=>cases hm
 | keep=>cases hm
 | inv=>cases hm
 | raw op r hk hu hraw hB=>cases op<;>first|(cases hk; done)|(cases hm; done)
 | sem k op p v rd wr hu h hp =>
  cases op<;>simp only[W6.mayW,Bool.true_eq_false] at hm<;>simp only[sem,ldT,A6j,N9] at h
  all_goals repeat' split at h
  all_goals first|(cases h; done)|(cases h; rfl)
section
variable {α β:Type} {st:Nat->(α->β)->α->β}
theorem m9{D D':Nat->Bool}:∀{l:List Nat} {f:α->β},(∀i∈l,D i=D' i)->E5 st D l f=E5 st D' l f
 | [],_,_=>rfl
 | i::l,f,h=>by
  simp only[E5,h i (by simp)];exact m9 fun k hk=>h k (by simp[hk])
theorem n8{D:Nat->Bool}:∀{l:List Nat} {f:α->β},(∀i∈l,D i=false)->E5 st D l f=f
 | [],_,_=>rfl
 | i::l,f,h=>by
  simp only[E5,h i (by simp),xt,if_false];exact n8 fun k hk=>h k (by simp[hk])
theorem A2c{n j:Nat}(h:j<=n)(f:α->β):E5 st (fun i=>decide (i<j)) (List.range n) f=E5 st (fun _=>true) (List.range' 0 j) f:=by
 have e:List.range n=List.range' 0 j++List.range' j (n - j):=by
  rw[wb];have:=List.range'_append_1 (s:=0) (m:=j) (n:=n - j);rw[yu,show j+(n - j)=n by omega] at this;exact this.symm
 rw[e,A00,m9 (D':=fun _=>true) (l:=List.range' 0 j) fun i hi=>by simp[wl] at hi; simpa using hi];exact n8 fun i hi=>by simp[wl] at hi; simp; exact hi.1
end
def stF(crs:List CR)(rs:List RR)(i:Nat)(F:Fr):Fr:=match crs[i]?,rs[i]? with
 | some c,some r=>z8 F c.dst r
 | _,_=>F
def stB(rs:List RR)(i:Nat)(B:Nat->Option Bx):Nat->Option Bx:=match rs[i]? with
 | some r=>D8 B r.wr
 | none=>B
def KF(crs:List CR)(i:Nat)(x:Nat):Prop:=∃c,crs[i]?=some c/\c.dst=some x
def KB(rs:List RR)(i:Nat)(x:Nat):Prop:=∃r,rs[i]?=some r/\x∈K8 r.wr
theorem K9{x:Nat}:∀{l:List (Nat×Option Bx)} {B:Nat->Option Bx},x∉K8 l->D8 B l x=B x
 | [],_,_=>rfl
 | (i,b)::l,B,h=>by
  simp only[K8,yd,zi,not_or] at h;simp only[D8];rw[K9 (l:=l) h.2,A7 _ _ _ h.1]
theorem A61{x:Nat}:∀{l:List (Nat×Option Bx)} {B B':Nat->Option Bx},x∈K8 l->D8 B l x=D8 B' l x
 | (i,b)::l,B,B',h=>by
  simp only[D8];by_cases hx:x∈K8 l
  ·exact A61 hx
  ·rw[K9 hx,K9 hx];simp only[K8,yd,zi] at h;rcases h with rfl|h
   ·rw[B5,B5]
   ·exact (hx h).elim
theorem A1a{y:Nat}:∀{l:List (Nat×Option Bx)} {B:Nat->Option Bx},y∈K8 l->(y,D8 B l y)∈l
 | (i,b)::l,B,h=>by
  simp only[D8];by_cases hx:y∈K8 l
  ·exact za _ (A1a hx)
  ·rw[K9 hx];simp only[K8,yd,zi] at h;rcases h with rfl|h
   ·rw[B5]; exact zb
   ·exact (hx h).elim
theorem B5j{crs:List CR}{rs:List RR}(i:Nat)(F:Fr)(x:Nat)(h:¬KF crs i x):stF crs rs i F x=F x:=by
 unfold stF;cases hc:crs[i]? with
 | none=>rfl
 | some c =>
  cases hr:rs[i]? with
  | none=>rfl
  | some r =>
   simp only[z8];cases hd:c.dst with
   | none=>rfl
   | some d=>exact A7 _ _ _ fun e=>h ⟨c,hc,by rw[hd,e]⟩
theorem B5k{crs:List CR}{rs:List RR}(hl:crs.length=rs.length)(i:Nat)(F F':Fr)(x:Nat)(h:KF crs i x):stF crs rs i F x=stF crs rs i F' x:=by
 obtain⟨c,hc,hd⟩:=h;have hi:i<rs.length:=by rw[←hl]; exact (ze.1 hc).1
 unfold stF;simp only[hc,zd hi,z8,hd,B5]
theorem B5l{rs:List RR}(i:Nat)(B:Nat->Option Bx)(x:Nat)(h:¬KB rs i x):stB rs i B x=B x:=by
 unfold stB;cases hr:rs[i]? with
 | none=>rfl
 | some r=>exact K9 fun hx=>h ⟨r,hr,hx⟩
theorem B5m{rs:List RR}(i:Nat)(B B':Nat->Option Bx)(x:Nat)(h:KB rs i x):stB rs i B x=stB rs i B' x:=by
 obtain⟨r,hr,hx⟩:=h;unfold stB;simp only[hr];exact A61 hx
section
variable {P:Program} {base:Nat}
theorem A2w.len:∀{l:List CR} {rs:List RR} {j:Nat} {F:Fr} {B:Nat->Option Bx},A2w P base j l F B rs->l.length=rs.length
 | [],[],_,_,_,_=>rfl
 | [],_::_,_,_,_,h=>h.elim
 | _::_,[],_,_,_,h=>h.elim
 | _::_,_::_,_,_,_,h=>by simp[A2w.len h.2]
theorem A2w.get:∀{l:List CR} {rs:List RR} {j:Nat} {F:Fr} {B:Nat->Option Bx},A2w P base j l F B rs->∀(i:Nat) cr r,l[i]?=some cr->rs[i]?=some r->OpR P cr (base+1024*(j+i)) (runF (l.take i) (rs.take i) F) (j9 (rs.take i) B) r
 | [],_,_,_,_,_,i,cr,r,h,_=>by simp at h
 | _::_,[],_,_,_,h,_,_,_,_,_=>h.elim
 | c::l,r0::rs,j,F,B,h,i,cr,r,h1,h2=>by
  cases i with
  | zero =>
   simp at h1 h2;subst h1 h2;exact h.1
  | succ i =>
   have:=A2w.get h.2 i cr r (by simpa using h1) (by simpa using h2);simp only[wn,runF,j9]
   rwa [show j+(i+1)=j+1+i by omega]
end
theorem A53{crs:List CR}{rs:List RR}(hl:crs.length=rs.length):∀(m j:Nat) (F:Fr),j+m<=crs.length->runF ((crs.drop j).take m) ((rs.drop j).take m) F=E5 (stF crs rs) (fun _=>true) (List.range' j m) F
 | 0,_,_,_=>rfl
 | m+1,j,F,h=>by
  have e1:crs.drop j=crs[j]::crs.drop (j+1):=yv (by omega);have e2:rs.drop j=rs[j]::rs.drop (j+1):=yv (by omega);rw[e1,e2];simp only[wn,runF,wa,E5,if_true];rw[A53 hl m (j+1) _ (by omega)];simp only[stF,zd (show j<crs.length by omega),zd (show j<rs.length by omega)]
theorem A54{rs:List RR}:∀(m j:Nat) (B:Nat->Option Bx),j+m<=rs.length->j9 ((rs.drop j).take m) B=E5 (stB rs) (fun _=>true) (List.range' j m) B
 | 0,_,_,_=>rfl
 | m+1,j,B,h=>by
  have e2:rs.drop j=rs[j]::rs.drop (j+1):=yv (by omega);rw[e2];simp only[wn,j9,wa,E5,if_true];rw[A54 m (j+1) _ (by omega)];simp only[stB,zd (show j<rs.length by omega)]
section
variable {P:Program} {C:Cx P} {N:Nat} {D:List Deferred} {n0:Nat} {G0:Gh} {w0:World} {ops:Array Oper} {Q:Exit->Act->World->Prop}
theorem B1L{crs:List CR}{rs:List RR}{base p:Nat}{F0:Fr}{B0:Nat->Option Bx}(hn:n0<=base)(hl2:crs.length=rs.length)(hpl:p<=crs.length)(hps:p<=ops.size)(hcr:∀(i:Nat) o c,ops[i]?=some o->crs[i]?=some c->l9 P N ops o=some c)
  (hr:A2w P base 0 (crs.take p) F0 B0 (rs.take p)) (hac:∀(j:Nat) o,ops[j]?=some o->∀e∈o.after,Region.binds .any e=true->e.on<j)
  (hcf:∀(i j:Nat) x y r s,i<j->crs[i]?=some x->crs[j]?=some y->rs[i]?=some r->rs[j]?=some s->Q9 ops i j\/(O3 x y=true/\f7 r s))
  (hK:p=ops.size->∀G a w,E0 C N D n0 G0 w0 (runF (crs.take p) (rs.take p) F0) (j9 (rs.take p) B0) (· < base+1024*ops.size) G a w->Q .normal a w)
  (hP:p<ops.size->(p<crs.length/\∀i,p<i->i<ops.size->Q9 ops p i)/\∃pv,∀cr r,crs[p]?=some cr->rs[p]?=some r->OpP P cr (base+1024*p) (runF (crs.take p) (rs.take p) F0) (j9 (rs.take p) B0) pv r /\
   ∀L G a w u F U,E0 C N D n0 G0 w0 F (D8 (E5 (stB rs) L (List.range p) B0) r.wr) U G a w->RV G w pv u->Q (.panic [{ v:=u,recovered:=false }]) a w) :
  ∀(fuel:Nat) (listed:Array Bool) (G:Gh) (a:Act) (w:World),listed.size=ops.size->A5y ops (fun i=>listed.getD i false)->(∀i,p<=i->listed.getD i false=false)->(List.range ops.size).countP (fun i=>!listed.getD i false)<=fuel ->
   E0 C N D n0 G0 w0 (E5 (stF crs rs) (fun i=>listed.getD i false) (List.range p) F0) (E5 (stB rs) (fun i=>listed.getD i false) (List.range p) B0) (fun id=>id<base\/∃i,listed.getD i false=true/\base+1024*i<=id/\id<base+1024*i+1024) G a w ->
   wpAny P .any ops Q fuel listed a w:=by
 have rF:∀j,j<=p->runF (crs.take j) (rs.take j) F0=E5 (stF crs rs) (fun i=>decide (i<j)) (List.range p) F0:=fun j hj=>by
  rw[A2c hj];have:=A53 hl2 j 0 F0 (by omega);simpa using this
 have rB:∀j,j<=p->j9 (rs.take j) B0=E5 (stB rs) (fun i=>decide (i<j)) (List.range p) B0:=fun j hj=>by
  rw[A2c hj];have:=A54 (rs:=rs) j 0 B0 (by omega);simpa using this
 have done:∀(listed:Array Bool) (G:Gh) (a:Act) (w:World),listed.size=ops.size->(∀i,p<=i->listed.getD i false=false)->Region.ready .any ops listed=[] ->
   E0 C N D n0 G0 w0 (E5 (stF crs rs) (fun i=>listed.getD i false) (List.range p) F0) (E5 (stB rs) (fun i=>listed.getD i false) (List.range p) B0) (fun id=>id<base\/∃i,listed.getD i false=true/\base+1024*i<=id/\id<base+1024*i+1024) G a w->Q .normal a w:=by
  intro listed G a w hsz hlow hrd hd;have all:∀j,j<ops.size->listed.getD j false=true:=fun j=>by
   induction j using Nat.strongRecOn with
   | _ j ih =>
    intro hj;cases hlj:listed.getD j false with
    | true=>rfl
    | false =>
     obtain⟨o,ho⟩:∃o,ops[j]?=some o:=⟨_,zy hj⟩;have:j∈Region.ready .any ops listed:=mem_ready.2 ⟨by
      rw[zl,zy (by omega)] at hlj ⊢;exact hlj,o,ho,fun e he hb=>ih e.on (hac j o ho e he hb) (Nat.lt_trans (hac j o ho e he hb) hj)⟩
     rw[hrd] at this; cases this
  have hpe:p=ops.size:=by
   rcases yt p ops.size with h|h
   ·have:=all p h; rw[hlow p (yg _)] at this; cases this
   ·omega
  refine hK hpe G a w ?_;have cg:∀i∈List.range p,listed.getD i false=decide (i<p):=fun i hi=>by
   rw[all i (ws (by simpa using hi) hps)]; symm; simpa using hi
  rw[m9 cg,m9 cg,←rF p (yg _),←rB p (yg _)] at hd;refine hd.weak fun id h=>?_;rcases h with h|⟨i,hi,h1,h2⟩
  ·omega
  ·have:i<ops.size:=by
    rw[←hsz];rcases yt i listed.size with h|h
    ·exact h
    ·rw[zl,we h] at hi; cases hi
   omega
 intro fuel;induction fuel with
 | zero =>
  intro listed G a w hsz hcl hlow hct hd;have hrd:Region.ready .any ops listed=[]:=by
   cases hrd:Region.ready .any ops listed with
   | nil=>rfl
   | cons j l =>
    obtain⟨h0,o,ho,_⟩:=mem_ready.1 (show j∈Region.ready .any ops listed by rw[hrd]; simp);have hj:j<ops.size:=(xl.1 ho).1;have h1:listed.getD j false=false:=by
     rw[zl,zy (by omega)] at h0 ⊢;exact h0
    have:0<(List.range ops.size).countP (fun i=>!listed.getD i false):=List.countP_pos_iff.2 ⟨j,by simpa using hj,by rw[h1]; rfl⟩;omega
  exact⟨hrd,done listed G a w hsz hlow hrd hd⟩
 | succ fuel ih =>
  intro listed G a w hsz hcl hlow hct hd;refine⟨fun hrd=>done listed G a w hsz hlow hrd hd,fun j hj=>?_⟩;obtain⟨h0,o,ho,hed⟩:=mem_ready.1 hj;have hjn:j<ops.size:=(xl.1 ho).1;have hDj:listed.getD j false=false:=by
   rw[zl,zy (by omega)] at h0 ⊢;exact h0
  have ahead:∀i,Q9 ops i j->listed.getD i false=true:=fun i hb=>A5z hcl hb fun o' ho' e he hbd=>by
   rw[ho] at ho'; injection ho' with ho'; subst ho'; exact hed e he hbd
  have behind:∀i,Q9 ops j i->listed.getD i false=false:=fun i hb=>by
   cases h:listed.getD i false with
   | false=>rfl
   | true=>have:=hcl.before hb h; rw[hDj] at this; cases this
  have hjp:j<=p:=by
   rcases yt p j with h|h
   ·have:=ahead p ((hP (by omega)).1.2 j h hjn);rw[hlow p (yg _)] at this; cases this
   ·exact h
  have hjl:j<crs.length:=by
   rcases yt j p with h|h
   ·omega
   ·have:=(hP (by omega)).1.1; omega
  obtain⟨cr,hc1⟩:∃c,crs[j]?=some c:=⟨_,zd hjl⟩;have hc2:=hcr j o cr ho hc1;have hrj:rs[j]?=some rs[j]:=zd (by omega);generalize rs[j]=r at hrj;have slots:∀x∈cr.looks,E5 (stF crs rs) (fun i=>decide (i<j)) (List.range p) F0 x=E5 (stF crs rs) (fun i=>listed.getD i false) (List.range p) F0 x:=fun x hx =>
   m8 B5j (B5k hl2) (fun i hi ⟨c,hc,hdst⟩=>by
    have hin:i<p:=(by simpa using hi);rcases vp i j with h|h|h
    ·rcases hcf i j c cr _ r h hc hc1 (zd (by omega)) hrj with hb|⟨hs,_⟩
     ·rw[ahead i hb]; simpa using h
     ·simp only[O3,hdst,yh,vq,List.contains_eq_mem,decide_eq_false_iff_not] at hs;exact (hs.1.1 hx).elim
    ·subst h; rw[hDj]; simp
    ·rcases hcf j i cr c r _ h hc1 hc hrj (zd (by omega)) with hb|⟨hs,_⟩
     ·rw[behind i hb]; simp; omega
     ·simp only[O3,hdst,yh,vq,List.contains_eq_mem,decide_eq_false_iff_not] at hs;exact (hs.2 hx).elim) rfl
  have boxes:G8 (E5 (stB rs) (fun i=>decide (i<j)) (List.range p) B0) r.rd->G8 (E5 (stB rs) (fun i=>listed.getD i false) (List.range p) B0) r.rd:=fun hh q hq=>by
   rw[←hh q hq];refine (m8 B5l B5m (fun i hi ⟨s,hs,hx⟩=>?_) rfl).symm;have hin:i<p:=(by simpa using hi);have hqr:q.1∈O2 r.rd:=yi.2 ⟨q,hq,rfl⟩;rcases vp i j with h|h|h
   ·rcases hcf i j _ cr s r h (zd (by omega)) hc1 hs hrj with hb|⟨_,ha⟩
    ·rw[ahead i hb]; simpa using h
    ·exact (R3.1 ha.1 _ hx hqr).elim
   ·subst h; rw[hDj]; simp
   ·rcases hcf j i cr _ r s h hc1 (zd (by omega)) hrj hs with hb|⟨_,ha⟩
    ·rw[behind i hb]; simp; omega
    ·exact (R3.1 ha.2.2 _ hx hqr).elim
  have hU:∀x,base+1024*j<=x->x<base+1024*j+1024->¬G.used x:=fun x hx1 hx2 h=>by
   rcases hd.used _ h with h|⟨i,hi,h,h'⟩
   ·omega
   ·have:i=j:=by omega
    subst this; rw[hDj] at hi; cases hi
  have hnb:∀x,base+1024*ops.size<=x->¬G.used x:=fun x hx h=>by
   rcases hd.used _ h with h|⟨i,hi,h,h'⟩
   ·omega
   ·have:i<ops.size:=by
     rw[←hsz];rcases yt i listed.size with h|h
     ·exact h
     ·rw[zl,we h] at hi; cases hi
    omega
  rcases yt j p with hlt|hge
  case inr =>
   have hje:j=p:=(by omega);subst hje;obtain⟨_,pv,hpv⟩:=hP hjn;obtain⟨hop,hQ⟩:=hpv cr r hc1 hrj;rw[rF j (yg _),rB j (yg _)] at hop;have hop':=hop.local (fun n hn=>slots n (by simp[CR.looks,hn])) (fun n hn=>slots n (by simp[CR.looks,hn])) (fun s want hg=>slots s (by simp[CR.looks,hg])) (boxes hop.has);exact B1I hd ho hc2 hop' hU (by omega) hnb fun G' u w' hd' hv=>hQ _ G' a w' u _ _ hd' hv
  case inl =>
  have hop:=hr.get j cr r (by rw[xy hlt]; exact hc1) (by rw[xy hlt]; exact hrj);rw[yu,vt,vt,wu (by omega),rF j (by omega),rB j (by omega)] at hop;have hop':=hop.local (fun n hn=>slots n (by simp[CR.looks,hn])) (fun n hn=>slots n (by simp[CR.looks,hn])) (fun s want hg=>slots s (by simp[CR.looks,hg])) fun hrc=>boxes (hop.2.2.1 hrc).has;refine A75 hd ho hc2 hop' hU (by omega) hnb fun G' u w' hd'=>?_;have hget:∀i,(listed.setIfInBounds j true).getD i false=(if i=j then true else listed.getD i false):=fun i=>by
   rw[zl,wt];by_cases hij:j=i
   ·subst hij; simp[show j<listed.size by omega]
   ·rw[zh hij,zh (fun h=>hij h.symm),zl]
  have hsp:=A2a j p hlt;have hnl:j∉List.range' (j+1) (p - j - 1):=fun h=>by rw[wl] at h; omega
  have eF:z8 (E5 (stF crs rs) (fun i=>listed.getD i false) (List.range p) F0) cr.dst r=E5 (stF crs rs) (fun i=>(listed.setIfInBounds j true).getD i false) (List.range p) F0:=by
   have:z8 (E5 (stF crs rs) (fun i=>listed.getD i false) (List.range p) F0) cr.dst r=stF crs rs j (E5 (stF crs rs) (fun i=>listed.getD i false) (List.range p) F0):=by
    simp only[stF,hc1,hrj]
   rw[this,hsp];refine A4y B5j (B5k hl2) (by rw[hget,zk rfl]) (fun i hi=>by simp only[hget,zh hi]) hnl fun i hi hD x ⟨c,hc,hx⟩ ⟨c',hc',hx'⟩=>?_;rw[wl] at hi;rw[hc1] at hc; injection hc with hc; subst hc
   rcases hcf j i cr c' r _ (by omega) hc1 hc' hrj (zd (by have:=(ze.1 hc').1; omega)) with hb|⟨hs,_⟩
   ·rw[behind i hb] at hD; cases hD
   ·simp[O3,hx,hx'] at hs
  have eB:D8 (E5 (stB rs) (fun i=>listed.getD i false) (List.range p) B0) r.wr=E5 (stB rs) (fun i=>(listed.setIfInBounds j true).getD i false) (List.range p) B0:=by
   have:D8 (E5 (stB rs) (fun i=>listed.getD i false) (List.range p) B0) r.wr=stB rs j (E5 (stB rs) (fun i=>listed.getD i false) (List.range p) B0):=by
    simp only[stB,hrj]
   rw[this,hsp];refine A4y B5l B5m (by rw[hget,zk rfl]) (fun i hi=>by simp only[hget,zh hi]) hnl fun i hi hD x ⟨s,hs,hx⟩ ⟨s',hs',hx'⟩=>?_;rw[wl] at hi;rw[hrj] at hs; injection hs with hs; subst hs
   rcases hcf j i cr _ r s' (by omega) hc1 (zd (by have:=(ze.1 hs').1; omega)) hrj hs' with hb|⟨_,ha⟩
   ·rw[behind i hb] at hD; cases hD
   ·exact R3.1 ha.2.1 _ hx hx'
  rw[eF,eB] at hd';refine ih (listed.setIfInBounds j true) G' _ w' (by simp[hsz]) (fun k ok hk hDk e he hb=>?_) (fun i hi=>by rw[hget,zh (by omega)]; exact hlow i hi) ?_ (hd'.weak fun id h=>?_)
  ·simp only[hget] at hDk ⊢;by_cases hkj:k=j
   ·subst hkj;rw[ho] at hk; injection hk with hk; subst hk
    split
    ·rfl
    ·exact hed e he hb
   ·rw[zh hkj] at hDk;split
    ·rfl
    ·exact hcl k ok hk hDk e he hb
  ·rw[A2a j ops.size hjn] at hct ⊢;simp only[List.countP_append,List.countP_cons,hDj,Bool.not_false,if_true] at hct;have hnl:j∉List.range' (j+1) (ops.size - j - 1):=fun h=>by rw[wl] at h; omega
   have c1:∀l:List Nat,j∉l->l.countP (fun i=>!(listed.setIfInBounds j true).getD i false)=l.countP (fun i=>!listed.getD i false):=fun l hl=>List.countP_congr fun i hi=>by
    have hij:i≠j:=fun h=>hl (h▸hi);rw[hget,zh hij]
   simp only[List.countP_append,List.countP_cons,hget j,if_true,Bool.not_true,xt,if_false];rw[c1 _ (by simp),c1 _ hnl];omega
  ·rcases h with h|h
   ·rcases hd.used _ h with h|⟨i,hi,h⟩
    ·exact .inl h
    ·exact .inr ⟨i,by rw[hget]; split; rfl; exact hi,h⟩
   ·exact .inr ⟨j,by rw[hget,zk rfl],h⟩
theorem A3c{rs:List RR}{L:Nat->Bool}(y:Nat):∀{l:List Nat} {B:Nat->Option Bx},E5 (stB rs) L l B y=B y\/∃r∈rs,(y,E5 (stB rs) L l B y)∈r.wr
 | [],B=>.inl rfl
 | i::l,B=>by
  simp only[E5];rcases A3c y (l:=l) (B:=if L i=true then stB rs i B else B) with h|h
  ·rw[h];split
   ·unfold stB;cases hr:rs[i]? with
    | none=>exact .inl rfl
    | some r =>
     simp only;by_cases hk:y∈K8 r.wr
     ·exact .inr ⟨r,zf hr,A1a hk⟩
     ·exact .inl (K9 hk)
   ·exact .inl rfl
  ·exact .inr h
end
mutual
def A4(S:Nat->Prop):AV->Prop
 | .ptr id _ _=>S id
 | .bsl id _ _=>S id
 | .cptr cs=>D9 S cs
 | .sl xs=>D9 S xs
 | .agg cs=>D9 S cs
 | .tup vs=>D9 S vs
 | .fn _ caps=>D9 S caps
 | .fnb _ caps=>D9 S caps
 | .iface _ v=>A4 S v
 | _=>True
def D9(S:Nat->Prop):List AV->Prop
 | []=>True
 | x::r=>A4 S x/\D9 S r
end
theorem F3{S:Nat->Prop}:∀{l:List AV},D9 S l↔∀(i:Nat) x,l[i]?=some x->A4 S x
 | []=>by simp[D9]
 | x::r=>by
  simp only[D9,F3 (l:=r)];constructor
  ·rintro⟨h1,h2⟩ i y hy;cases i with
   | zero=>simp at hy; subst hy; exact h1
   | succ i=>exact h2 i y (by simpa using hy)
  ·exact fun h=>⟨h 0 x rfl,fun i y hy=>h (i+1) y (by simpa using hy)⟩
mutual
theorem L0{S:Nat->Prop}:∀(x:AV),x.pureB=true->A4 S x
 | .ptr _ _ _,h=>by simp[AV.pureB] at h
 | .bsl _ _ _,h=>by simp[AV.pureB] at h
 | .cptr cs,h=>A5 cs (by simpa [AV.pureB] using h)
 | .sl xs,h=>A5 xs (by simpa [AV.pureB] using h)
 | .agg cs,h=>A5 cs (by simpa [AV.pureB] using h)
 | .tup vs,h=>A5 vs (by simpa [AV.pureB] using h)
 | .fn _ caps,h=>A5 caps (by simpa [AV.pureB] using h)
 | .fnb _ caps,h=>A5 caps (by simpa [AV.pureB] using h)
 | .iface _ v,h=>L0 v (by simpa [AV.pureB] using h)
 | .int _ _,_ | .bool _,_ | .str _,_ | .nilp,_ | .nils,_ | .nilf,_ | .nili,_=>trivial
theorem A5{S:Nat->Prop}:∀(l:List AV),E7 l=true->D9 S l
 | [],_=>trivial
 | x::r,h=>by
  simp only[E7,yh] at h;exact⟨L0 x h.1,A5 r h.2⟩
end
theorem RV.names{G:Gh}{w:World}{x:AV}{v:Value}(h:RV G w x v):A4 G.used x:=by
 induction h with
 | ptr id i off v ho hu hb=>exact hu
 | bsl id off len v ho hu hb hn=>exact hu
 | cptr cs a u h1 h2 h3 ih=>exact F3.2 ih
 | sl xs A c s u hc hm hn hs h1 h2 h3 ih =>
  refine F3.2 fun i x hx=>?_;cases x with
  | agg cs=>exact F3.2 fun j y hy=>ih i _ j y hx hy
  | _=>exact ih i _ 0 _ hx rfl
 | fn f caps vs hl h ih=>exact F3.2 ih
 | fnb f caps vs hl h ih=>exact F3.2 ih
 | iface t x v h ih=>exact ih
 | agg cs vs hl h ih=>exact F3.2 ih
 | tup cs vs hl h ih=>exact F3.2 ih
 | _=>trivial
mutual
theorem G9{S S':Nat->Prop}(hS:∀i,S i->S' i):∀(x:AV),A4 S x->A4 S' x
 | .ptr id _ _,h=>hS id h
 | .bsl id _ _,h=>hS id h
 | .cptr cs,h=>O4 hS cs h
 | .sl xs,h=>O4 hS xs h
 | .agg cs,h=>O4 hS cs h
 | .tup vs,h=>O4 hS vs h
 | .fn _ caps,h=>O4 hS caps h
 | .fnb _ caps,h=>O4 hS caps h
 | .iface _ v,h=>G9 hS v h
 | .int _ _,_ | .bool _,_ | .str _,_ | .nilp,_ | .nils,_ | .nilf,_ | .nili,_=>trivial
theorem O4{S S':Nat->Prop}(hS:∀i,S i->S' i):∀(l:List AV),D9 S l->D9 S' l
 | [],_=>trivial
 | x::r,h=>⟨G9 hS x h.1,O4 hS r h.2⟩
end
structure Rn where
 ρ:Nat->Option Nat
 inj:∀y y' x,ρ y=some x->ρ y'=some x->y=y'
def Rn.fix(R:Rn)(S:Nat->Prop)(x:Nat):Prop:=R.ρ x=some x\/(R.ρ x=none/\S x)
def Gh.ren(G:Gh)(R:Rn)(S:Nat->Prop):Gh:={ fz:=G.fz,used:=fun y=>(∃x,R.ρ y=some x/\G.used x)\/S y,bm:=fun y=>(R.ρ y).bind G.bm,nl:=fun y=>∃x,R.ρ y=some x/\G.nl x }
theorem RV.fix{R:Rn}{S:Nat->Prop}{G:Gh}{w:World}{x:AV}{v:Value}(h:RV G w x v):A4 (R.fix S) x->RV (G.ren R S) w x v:=by
 induction h with
 | int k n=>intro _; exact .int k n
 | bool b=>intro _; exact .bool b
 | str s=>intro _; exact .str s
 | nilp=>intro _; exact .nilp
 | ptr id i off v ho hu hb =>
  intro hf;rcases (show R.fix S id from hf) with hf'|⟨hf',hS⟩
  ·exact .ptr id i off v ho (.inl ⟨id,hf',hu⟩) fun b s hbs=>hb b s (by simpa [Gh.ren,hf'] using hbs)
  ·exact .ptr id i off v ho (.inr hS) fun b s hbs=>by simp[Gh.ren,hf'] at hbs
 | cptr cs a u h1 h2 h3 ih=>intro hf; exact .cptr cs a u h1 h2 fun j y hj=>ih j y hj (F3.1 hf j y hj)
 | nils=>intro _; exact .nils
 | sl xs A c s u hc hm hn hs h1 h2 h3 ih =>
  intro hf;refine .sl xs A c s u hc hm hn hs h1 h2 fun i x j y hx hy=>ih i x j y hx hy ?_;have hx':=F3.1 hf i x hx;cases x with
  | agg cs=>exact F3.1 hx' j y hy
  | _ =>
   cases j with
   | zero=>simp[AV.cells] at hy; subst hy; exact hx'
   | succ j=>simp[AV.cells] at hy
 | bsl id off len v ho hu hb hn =>
  intro hf;rcases (show R.fix S id from hf) with hf'|⟨hf',hS⟩
  ·exact .bsl id off len v ho (.inl ⟨id,hf',hu⟩) (fun b s hbs=>hb b s (by simpa [Gh.ren,hf'] using hbs)) fun⟨x,hx,hnl⟩=>hn (by rw[hf'] at hx; injection hx with hx; subst hx; exact hnl)
  ·exact .bsl id off len v ho (.inr hS) (fun b s hbs=>by simp[Gh.ren,hf'] at hbs) fun⟨x,hx,hnl⟩=>by rw[hf'] at hx; cases hx
 | fn f caps vs hl h ih=>intro hf; exact .fn f caps vs hl fun i y hy=>ih i y hy (F3.1 hf i y hy)
 | fnb f caps vs hl h ih=>intro hf; exact .fnb f caps vs hl fun i y hy=>ih i y hy (F3.1 hf i y hy)
 | nilf=>intro _; exact .nilf
 | iface t x v h ih=>intro hf; exact .iface t x v (ih hf)
 | nili=>intro _; exact .nili
 | agg cs vs hl h ih=>intro hf; exact .agg cs vs hl fun i y hy=>ih i y hy (F3.1 hf i y hy)
 | tup cs vs hl h ih=>intro hf; exact .tup cs vs hl fun i y hy=>ih i y hy (F3.1 hf i y hy)
mutual
inductive J8(R:Rn)(S:Nat->Prop):AV->AV->Prop
 | same (v:AV) (h:A4 (R.fix S) v):J8 R S v v
 | ptr (a b i o:Nat) (h:R.ρ b=some a):J8 R S (.ptr a i o) (.ptr b i o)
 | bsl (a b o l:Nat) (h:R.ρ b=some a):J8 R S (.bsl a o l) (.bsl b o l)
 | nils:J8 R S .nils (.sl [])
 | agg (cs ds:List AV) (h:K2 R S cs ds):J8 R S (.agg cs) (.agg ds)
 | tup (cs ds:List AV) (h:K2 R S cs ds):J8 R S (.tup cs) (.tup ds)
 | fn (f:Nat) (cs ds:List AV) (h:K2 R S cs ds):J8 R S (.fn f cs) (.fn f ds)
 | fnb (f:Nat) (cs ds:List AV) (h:K2 R S cs ds):J8 R S (.fnb f cs) (.fnb f ds)
 | iface (t:Nat) (x y:AV) (h:J8 R S x y):J8 R S (.iface t x) (.iface t y)
inductive K2(R:Rn)(S:Nat->Prop):List AV->List AV->Prop
 | nil:K2 R S [] []
 | cons (x y:AV) (l r:List AV) (h:J8 R S x y) (hl:K2 R S l r):K2 R S (x::l) (y::r)
end
theorem K2.get{R:Rn}{S:Nat->Prop}:∀{l r:List AV},K2 R S l r->l.length=r.length/\∀(i:Nat) y,r[i]?=some y->∃x,l[i]?=some x/\J8 R S x y
 | [],[],_=>⟨rfl,fun i y hy=>by simp at hy⟩
 | x::l,y::r,h=>by
  cases h with|cons _ _ _ _ h hl =>
  obtain⟨h1,h2⟩:=hl.get;refine⟨by simp[h1],fun i z hz=>?_⟩;cases i with
  | zero=>simp at hz; subst hz; exact⟨x,rfl,h⟩
  | succ i=>obtain⟨q,q1,q2⟩:=h2 i z (by simpa using hz); exact⟨q,by simpa using q1,q2⟩
 | [],_::_,h=>by cases h
 | _::_,[],h=>by cases h
theorem K2.same{R:Rn}{S:Nat->Prop}:∀{l:List AV},D9 (R.fix S) l->K2 R S l l
 | [],_=>.nil
 | x::r,h=>.cons x x r r (.same x h.1) (K2.same h.2)
mutual
theorem RV.ren{R:Rn}{S:Nat->Prop}{G:Gh}{w:World}:∀{x y:AV} {v:Value},J8 R S x y->RV G w x v->RV (G.ren R S) w y v
 | _,_,v,.same x hf,h=>h.fix hf
 | _,_,v,.ptr a b i o hr,h=>by
  cases h with|ptr _ _ _ _ ho hu hb=>exact .ptr b i o _ ho (.inl ⟨a,hr,hu⟩) fun blk s hbs=>hb blk s (by simpa [Gh.ren,hr] using hbs)
 | _,_,v,.bsl a b o l hr,h=>by
  cases h with|bsl _ _ _ _ ho hu hb hn =>
  exact .bsl b o l _ ho (.inl ⟨a,hr,hu⟩) (fun blk s hbs=>hb blk s (by simpa [Gh.ren,hr] using hbs)) fun⟨x,hx,hnl⟩=>hn (by rw[hr] at hx; injection hx with hx; subst hx; exact hnl)
 | _,_,v,.nils,h=>by
  cases h
  exact .sl [] none 0 0 (fun _ _=>undef) (yg _) (by simp[maxLen]) (fun _=>⟨rfl,rfl⟩) (fun i x hi=>by simp at hi) (fun a i x j y _ hi=>by simp at hi) (fun a i x j y _ hi=>by simp at hi) (fun i x j y hi=>by simp at hi)
 | _,_,v,.agg cs ds hr,h=>by
  cases h with|agg _ vs hl hh =>
  exact .agg ds vs (hr.get.1.symm.trans hl) (RV.renL hr (fun i=>vs.getD i undef) hh)
 | _,_,v,.tup cs ds hr,h=>by
  cases h with|tup _ vs hl hh =>
  exact .tup ds vs (hr.get.1.symm.trans hl) (RV.renL hr (fun i=>vs.getD i undef) hh)
 | _,_,v,.fn f cs ds hr,h=>by
  cases h with|fn _ _ vs hl hh =>
  exact .fn f ds vs (hr.get.1.symm.trans hl) (RV.renL hr (fun i=>vs.getD i undef) hh)
 | _,_,v,.fnb f cs ds hr,h=>by
  cases h with|fnb _ _ vs hl hh =>
  exact .fnb f ds vs (hr.get.1.symm.trans hl) (RV.renL hr (fun i=>vs.getD i undef) hh)
 | _,_,v,.iface t x y hr,h=>by
  cases h with|iface _ _ u hu=>exact .iface t y u (RV.ren hr hu)
theorem RV.renL{R:Rn}{S:Nat->Prop}{G:Gh}{w:World}:∀{l r:List AV},K2 R S l r->∀u:Nat->Value,(∀(i:Nat) x,l[i]?=some x->RV G w x (u i))->∀(i:Nat) y,r[i]?=some y->RV (G.ren R S) w y (u i)
 | _,_,.nil,u,_,i,y,hy=>by simp at hy
 | _,_,.cons x y l r h hl,u,hu,i,z,hz=>by
  cases i with
  | zero=>simp at hz; subst hz; exact RV.ren h (hu 0 x rfl)
  | succ i=>exact RV.renL hl (fun i=>u (i+1)) (fun i x hx=>hu (i+1) x (by simpa using hx)) i z (by simpa using hz)
end
theorem A4T{S:Nat->Prop}{x:AV}(h:A4 S x):D9 S x.cells:=by
 cases x<;>first|exact⟨h,trivial⟩|exact h
theorem J8.cells{R:Rn}{S:Nat->Prop}{x y:AV}(h:J8 R S x y):K2 R S x.cells y.cells:=by
 cases h with
 | same v h=>exact K2.same (A4T h)
 | ptr a b i o h=>exact .cons _ _ _ _ (.ptr a b i o h) .nil
 | bsl a b o l h=>exact .cons _ _ _ _ (.bsl a b o l h) .nil
 | nils=>exact .cons _ _ _ _ .nils .nil
 | agg cs ds h=>exact h
 | tup cs ds h=>exact .cons _ _ _ _ (.tup cs ds h) .nil
 | fn f cs ds h=>exact .cons _ _ _ _ (.fn f cs ds h) .nil
 | fnb f cs ds h=>exact .cons _ _ _ _ (.fnb f cs ds h) .nil
 | iface t x y h=>exact .cons _ _ _ _ (.iface t x y h) .nil
structure BxR(R:Rn)(S:Nat->Prop)(b b':Bx):Prop where
 xs:K2 R S b.xs b'.xs
 sz:b.sz=b'.sz
 ro:b.ro=b'.ro
 frz:b.frz=b'.frz
section
variable {P:Program} {C:Cx P} {G:Gh} {B B':Nat->Option Bx} {w:World} {R:Rn} {S:Nat->Prop}
theorem RS.ren(h:RS C G B w)(hB:∀y b',B' y=some b'->∃x b,R.ρ y=some x/\B x=some b/\BxR R S b b'):RS C (G.ren R S) B' w:=by
 have hnl:∀{y x},R.ρ y=some x->(G.ren R S).nl y->G.nl x:=fun {y x} hr ⟨x',hx,hn⟩=>by rw[hr] at hx; injection hx with hx; subst hx; exact hn
 refine⟨h.below,h.size,h.fzok,h.fzold,fun y b' hy hn=>?_,fun y b' hy hn=>?_,fun y hn=>?_,fun y b s hb=>?_,fun y y' b s s' h1 h2=>?_,fun y b s hb=>?_⟩
 ·obtain⟨x,b,hr,hb,⟨r1,r2,r3,r4⟩⟩:=hB y b' hy;obtain⟨blk,s,cur,e,h1,h2,h3,⟨h4,h5⟩,h6,h7,h8⟩:=h.box x b hb fun hx=>hn ⟨x,hr,hx⟩;obtain⟨l1,l2⟩:=r1.get;refine⟨blk,s,cur,e,by simpa [Gh.ren,hr] using h1,h2,fun hro=>h3 (r3.trans hro),⟨r2.symm.trans h4,by rw[←l1]; exact h5⟩,fun i v' hv'=>?_,fun hf=>h7 (r4.trans hf),by rw[←l1]; exact h8⟩;obtain⟨v,hv,hvr⟩:=l2 i v' hv';obtain⟨k1,k2⟩:=h6 i v hv;obtain⟨c1,c2⟩:=hvr.cells.get;refine⟨c1.symm.trans k1,fun j z hz=>?_⟩;obtain⟨z0,hz0,hzr⟩:=c2 j z hz;obtain⟨u,hu,hrv⟩:=k2 j z0 hz0;exact⟨u,hu,hrv.ren hzr⟩
 ·obtain⟨x,b,hr,hb,⟨r1,r2,r3,r4⟩⟩:=hB y b' hy;obtain⟨k1,k2⟩:=h.nil x b hb (hnl hr hn);refine⟨?_,r3.symm.trans k2⟩;have:=r1.get.1;rw[k1] at this;exact xz this.symm
 ·obtain⟨x,hr,hx⟩:=hn;exact⟨.inl ⟨x,hr,(h.nlu x hx).1⟩,by simp[Gh.ren,hr,(h.nlu x hx).2]⟩
 ·simp only[Gh.ren,wo] at hb;obtain⟨x,hr,hx⟩:=hb;exact .inl ⟨x,hr,h.used x b s hx⟩
 ·simp only[Gh.ren,wo] at h1 h2;obtain⟨x,hr,hx⟩:=h1;obtain⟨x',hr',hx'⟩:=h2;have:=h.inj x x' b s s' hx hx';subst this;exact R.inj y y' x hr hr'
 ·simp only[Gh.ren,wo] at hb;obtain⟨x,hr,hx⟩:=hb;exact h.rows x b s hx
theorem I9.ren{G0:Gh}{w0:World}(e:I9 G0 w0 G w)(hf:∀x,G0.used x->R.ρ x=some x\/R.ρ x=none):I9 G0 w0 (G.ren R G0.used) w:=by
 refine⟨e.fz,e.cell,fun x hx=>.inr hx,fun x hx=>?_,fun x hx ⟨x',hr,hn⟩=>?_,fun x b s hx hb=>?_⟩
 ·rcases hf x hx with h|h
  ·simp only[Gh.ren,h,ua];exact e.bm x hx
  ·exact .inr (by simp only[Gh.ren,h,Option.bind_none])
 ·rcases hf x hx with h|h
  ·rw[h] at hr; injection hr with hr; subst hr; exact e.nl x hx hn
  ·rw[h] at hr; cases hr
 ·rcases hf x hx with h|h
  ·simp only[Gh.ren,h,ua] at hb;exact e.row x b s hx hb
  ·simp only[Gh.ren,h,Option.bind_none] at hb; cases hb
def Y3:List (Nat×Nat)->Nat->Option Nat
 | [],_=>none
 | (a,b)::l,y=>if y=a then some b else Y3 l y
def M6:List (Nat×Nat)->Nat->Bool
 | [],_=>false
 | (_,b)::l,y=>if y=b then true else M6 l y
def I0:List (Nat×Nat)->Prop
 | []=>True
 | (_,b)::l=>M6 l b=false/\I0 l
def z6(n0:Nat)(l:List (Nat×Nat))(y:Nat):Option Nat:=match Y3 l y with
 | some x=>some x
 | none=>if y<n0 then (if M6 l y=true then none else some y) else none
theorem Z4:∀{l:List (Nat×Nat)} {a b:Nat},Y3 l a=some b->(a,b)∈l
 | [],_,_,h=>by cases h
 | (c,d)::l,a,b,h=>by
  simp only[Y3] at h;split at h
  ·rename_i e; injection h with h; subst e h; simp
  ·exact za _ (Z4 h)
theorem A0o:∀{l:List (Nat×Nat)} {b:Nat},M6 l b=true↔∃a,(a,b)∈l
 | [],b=>by simp[M6]
 | (c,d)::l,b=>by
  simp only[M6];split
  ·rename_i e; subst e; simp
  ·rename_i e;rw[A0o (l:=l)];constructor
   ·rintro⟨a,h⟩; exact⟨a,za _ h⟩
   ·rintro⟨a,h⟩;rcases zi.1 h with h|h
    ·injection h with _ h; exact (e h).elim
    ·exact⟨a,h⟩
theorem A78:∀{l:List (Nat×Nat)},I0 l->∀a a' b,Y3 l a=some b->Y3 l a'=some b->a=a'
 | [],_,a,a',b,h,_=>by cases h
 | (c,d)::l,hl,a,a',b,h,h'=>by
  have one:∀x,Y3 ((c,d)::l) x=some b->(x=c/\b=d)\/(x≠c/\Y3 l x=some b):=fun x hx=>by
   simp only[Y3] at hx;split at hx
   ·rename_i e; injection hx with hx; exact .inl ⟨e,hx.symm⟩
   ·rename_i e; exact .inr ⟨e,hx⟩
  have out:∀x,Y3 l x=some d->False:=fun x hx=>by
   have:=A0o.2 ⟨x,Z4 hx⟩;rw[hl.1] at this; cases this
  rcases one a h with⟨rfl,rfl⟩|⟨_,q⟩<;>rcases one a' h' with⟨rfl,e⟩|⟨_,q'⟩
  ·rfl
  ·exact (out a' q').elim
  ·exact (out a (e▸q)).elim
  ·exact A78 hl.2 a a' b q q'
def L9(n0:Nat)(l:List (Nat×Nat))(h:I0 l):Rn:=⟨z6 n0 l,fun y y' x h1 h2=>by
 unfold z6 at h1 h2;cases e1:Y3 l y with
 | some a =>
  rw[e1] at h1;injection h1 with h1
  subst h1;cases e2:Y3 l y' with
  | some b=>rw[e2] at h2; injection h2 with h2; subst h2; exact A78 h y y' _ e1 e2
  | none =>
   rw[e2] at h2;simp only at h2;split at h2
   ·split at h2
    ·cases h2
    ·rename_i hg; injection h2 with h2; subst h2; exact (hg (A0o.2 ⟨y,Z4 e1⟩)).elim
   ·cases h2
 | none =>
  rw[e1] at h1;simp only at h1;split at h1
  ·split at h1
   ·cases h1
   ·rename_i hg;injection h1 with h1
    subst h1;cases e2:Y3 l y' with
    | some b=>rw[e2] at h2; injection h2 with h2; subst h2; exact (hg (A0o.2 ⟨y',Z4 e2⟩)).elim
    | none =>
     rw[e2] at h2;simp only at h2;split at h2
     ·split at h2
      ·cases h2
      ·injection h2 with h2; exact h2.symm
     ·cases h2
  ·cases h1⟩
theorem A0p{n0:Nat}{l:List (Nat×Nat)}{y:Nat}(h:Y3 l y=none):z6 n0 l y=none\/z6 n0 l y=some y:=by
 unfold z6;rw[h];simp only;split
 ·split
  ·exact .inl rfl
  ·exact .inr rfl
 ·exact .inl rfl
end
inductive CC where
 | skip
 | reg (draw:Bool) (crs:List CR) (ps:List (Nat×Nat))
 | seq (a b:CC)
 | cond (c:G7) (a b:CC)
 | block (id:Nat) (c:CC)
 | loop (c:CC)
 | exit (id:Nat)
 | ret
 | bad
 deriving Inhabited
def X0(P:Program)(N:Nat)(ops:Array Oper)(draw:Bool):CC:=match A76 P N ops ops.toList with
 | none=>.bad
 | some crs=>match draw with
  | false=>.reg false crs []
  | true=>if A8H ops crs (A0n (A77 ops.toList []) ops.size)&&P.follows .mixedOrders then .reg true crs (B1K crs (A0n (A77 ops.toList []) ops.size)) else .bad
def D4(P:Program)(N:Nat):Code->CC
 | .skip=>.skip
 | .label _=>.skip
 | .region _ ops draw=>X0 P N ops draw
 | .seq a b=>.seq (D4 P N a) (D4 P N b)
 | .cond c a b=>match opd c with
  | some c=>.cond c (D4 P N a) (D4 P N b)
  | none=>.bad
 | .block id c=>.block id (D4 P N c)
 | .loop c=>.loop (D4 P N c)
 | .exit id=>.exit id
 | .ret=>.ret
 | _=>.bad
structure St where
 fr:List (Nat×Bool×AV)
 bx:List (Nat×Option Bx)
 k:Nat
def lk:List (Nat×Bool×AV)->Nat->Option (Bool×AV)
 | [],_=>none
 | (m,e)::r,n=>if n=m then some e else lk r n
def bk:List (Nat×Option Bx)->Nat->Option Bx
 | [],_=>none
 | (m,b)::r,n=>if n=m then b else bk r n
def ov(β:Nat->Option Bx):List (Nat×Option Bx)->Nat->Option Bx
 | []=>β
 | (m,b)::r=>P9 (ov β r) m b
def f8(l:List (Nat×Option Bx)):List (Nat×Option Bx)->List (Nat×Option Bx)
 | []=>l
 | q::r=>f8 (q::l) r
def B3O(fr:List (Nat×Bool×AV))(dst:Option Nat)(c:Bool)(v:AV):List (Nat×Bool×AV):=match dst with
 | some d=>(d,c,v)::fr
 | none=>fr
def St.app(σ:St)(dst:Option Nat)(r:RR):St:=⟨B3O σ.fr dst r.c r.v,f8 σ.bx r.wr,σ.k⟩
def St.apps:List CR->List RR->St->St
 | cr::l,r::rs,σ=>St.apps l rs (σ.app cr.dst r)
 | _,_,σ=>σ
def St.bump(σ:St)(n:Nat):St:=⟨σ.fr,σ.bx,σ.k+n⟩
structure R9 where
 P:Program
 C:Cx P
 β:Nat->Option Bx
 N:Nat
 n0:Nat
 G0:Gh
 w0:World
 own:∀id,n0<=id->β id=none
 old:∀id,G0.used id->id<n0
 rs0:RS C G0 β w0
 D:List Deferred
 Rt:St->Prop
 Pn:AV->St->Prop
def Y4(E:R9)(σ:St)(G:Gh)(a:Act)(w:World):Prop:=E0 E.C E.N E.D E.n0 E.G0 E.w0 (lk σ.fr) (ov E.β σ.bx) (· < E.n0+σ.k) G a w
def A55(P:Program)(base:Nat):Nat->List CR->St->List RR->Prop
 | _,[],_,[]=>True
 | j,cr::l,σ,r::rs=>OpR P cr (base+1024*j) (lk σ.fr) (bk σ.bx) r/\A55 P base (j+1) l (σ.app cr.dst r) rs
 | _,_,_,_=>False
def APn(P:Program)(base:Nat)(pv:AV)(r:RR):Nat->List CR->St->List RR->Prop
 | j,cr::_,σ,[]=>OpP P cr (base+1024*j) (lk σ.fr) (bk σ.bx) pv r
 | j,cr::l,σ,r0::rs=>OpR P cr (base+1024*j) (lk σ.fr) (bk σ.bx) r0/\APn P base pv r (j+1) l (σ.app cr.dst r0) rs
 | _,[],_,_=>False
def A3d(rs:List RR)(p:Nat):List (Nat×Nat)->Prop
 | []=>True
 | q::l=>(if q.2<=p then f7 (A10 rs q.1) (A10 rs q.2) else q.1≠p)/\A3d rs p l
theorem A3e{rs:List RR}{p:Nat}:∀{ps:List (Nat×Nat)},A3d rs p ps->∀q∈ps,(q.2<=p->f7 (A10 rs q.1) (A10 rs q.2))/\(p<q.2->q.1≠p)
 | [],_,q,hq=>by cases hq
 | x::l,h,q,hq=>by
  rcases zi.1 hq with rfl|hq
  ·have h1:=h.1;split at h1
   ·exact⟨fun _=>h1,fun h=>by omega⟩
   ·exact⟨fun h=>by omega,fun _=>h1⟩
  ·exact A3e h.2 q hq
def B4R(β:Nat->Option Bx)(l:List (Nat×Option Bx))(B:Nat->Option Bx):Prop:=∀y,B y=β y\/(y,B y)∈l
inductive Itm where
 | code (c:CC)
 | blk (id:Nat)
 | post (p:St->Prop)
 | ops (crs:List CR) (j:Nat) (acc:List RR) (ps:List (Nat×Nat))
def A62(E:R9)(K:St->Prop)(X:Nat->St->Prop):Exit->Act->World->Prop
 | .normal,a,w=>∃σ G,Y4 E σ G a w/\K σ
 | .exit id,a,w=>∃σ G,Y4 E σ G a w/\X id σ
 | .ret,a,w=>∃σ G,Y4 E σ G a w/\E.Rt σ
 | .panic chain,a,w=>∃pv u σ F B U G,chain=[{ v:=u,recovered:=false }]/\E0 E.C E.N E.D E.n0 E.G0 E.w0 F B U G a w/\B4R E.β σ.bx B/\RV G w pv u/\E.Pn pv σ
 | _,_,_=>False
def WW(E:R9):List Itm->(St->Prop)×(Nat->St->Prop)
 | []=>(E.Rt,fun _ _=>False)
 | .blk id::k=>((WW E k).1,fun id' σ=>if id'=id then (WW E k).1 σ else (WW E k).2 id' σ)
 | .post p::k=>(p,(WW E k).2)
 | .code cc::k=>(fun σ=>∀c,D4 E.P E.N c=cc->∀G a w,Y4 E σ G a w->c.wp E.P (A62 E (WW E k).1 (WW E k).2) a w,(WW E k).2)
 | .ops crs j acc ps::k=>(fun σ=>(∃rs,A55 E.P (E.n0+σ.k) j crs σ rs/\A3a (acc.reverse++rs) ps/\(WW E k).1 ((σ.apps crs rs).bump (1024*(j+crs.length))))\/∃rs pv r,APn E.P (E.n0+σ.k) pv r j crs σ rs/\A3d (acc.reverse++rs++[r]) (j+rs.length) ps/\E.Pn pv ((σ.apps crs rs).app none r),(WW E k).2)
def Wk(E:R9)(k:List Itm)(σ:St):Prop:=(WW E k).1 σ
def Wx(E:R9)(id:Nat)(k:List Itm)(σ:St):Prop:=(WW E k).2 id σ
section
variable {E:R9} {σ:St} {k:List Itm}
theorem A8I(fr:List (Nat×Bool×AV))(dst:Option Nat)(r:RR):lk (B3O fr dst r.c r.v)=z8 (lk fr) dst r:=by
 cases dst with
 | none=>rfl
 | some d=>funext n; simp only[B3O,lk,z8,P9]
theorem A1b(β:Nat->Option Bx):∀(wr l:List (Nat×Option Bx)),ov β (f8 l wr)=D8 (ov β l) wr
 | [],_=>rfl
 | (i,b)::r,l=>A1b β r ((i,b)::l)
theorem U1(β:Nat->Option Bx):∀{l:List (Nat×Option Bx)} {n:Nat} {b:Bx},bk l n=some b->ov β l n=some b
 | [],n,b,h=>by cases h
 | (m,x)::r,n,b,h=>by
  simp only[bk] at h;by_cases hn:n=m
  ·subst hn;rw[zk rfl] at h;simp only[ov,B5]; exact h
  ·rw[zh hn] at h;simp only[ov,A7 _ _ _ hn]; exact U1 β h
theorem G8.ov{l:List (Nat×Option Bx)}{rd:List (Nat×Bx)}(h:G8 (bk l) rd)(β:Nat->Option Bx):G8 (Am.ov β l) rd:=fun q hq=>U1 β (h q hq)
theorem OpR.ov{P:Program}{cr:CR}{id:Nat}{F:Fr}{l:List (Nat×Option Bx)}{r:RR}(h:OpR P cr id F (bk l) r)(β:Nat->Option Bx):OpR P cr id F (Am.ov β l) r :=
 h.local (fun _ _=>rfl) (fun _ _=>rfl) (fun _ _ _=>rfl) fun hc=>((h.2.2.1 hc).has).ov β
theorem A55.runs{P:Program}{base:Nat}(β:Nat->Option Bx):∀{l:List CR} {j:Nat} {σ:St} {rs:List RR},A55 P base j l σ rs->A2w P base j l (lk σ.fr) (ov β σ.bx) rs/\runF l rs (lk σ.fr)=lk (σ.apps l rs).fr/\j9 rs (ov β σ.bx)=ov β (σ.apps l rs).bx/\(σ.apps l rs).k=σ.k
 | [],_,_,[],_=>⟨trivial,rfl,rfl,rfl⟩
 | [],_,_,_::_,h=>h.elim
 | _::_,_,_,[],h=>h.elim
 | cr::l,j,σ,r::rs,h=>by
  obtain⟨h1,h2⟩:=h;obtain⟨k1,k2,k3,k4⟩:=A55.runs β h2;simp only[St.app,A8I,A1b] at k1 k2 k3;exact⟨⟨h1.ov β,k1⟩,k2,k3,k4⟩
theorem OpP.ov{P:Program}{cr:CR}{id:Nat}{F:Fr}{l:List (Nat×Option Bx)}{pv:AV}{r:RR}(h:OpP P cr id F (bk l) pv r)(β:Nat->Option Bx):OpP P cr id F (Am.ov β l) pv r :=
 h.local (fun _ _=>rfl) (fun _ _=>rfl) (fun _ _ _=>rfl) (h.has.ov β)
theorem OpP.mayW{P:Program}{cr:CR}{id:Nat}{F:Fr}{B:Nat->Option Bx}{pv:AV}{r:RR}(h:OpP P cr id F B pv r):cr.op.mayW=true:=by
 obtain⟨dst,g,us,op⟩:=cr;cases h.2.2<;>rfl
theorem APn.runs{P:Program}{base:Nat}(β:Nat->Option Bx){pv:AV}{r:RR}:∀{rs:List RR} {l:List CR} {j:Nat} {σ:St},APn P base pv r j l σ rs->A98 P base pv r j l (lk σ.fr) (ov β σ.bx) rs/\A2w P base j (l.take rs.length) (lk σ.fr) (ov β σ.bx) rs /\
  j9 rs (ov β σ.bx)=ov β (σ.apps l rs).bx/\∃cr,l[rs.length]?=some cr/\OpP P cr (base+1024*(j+rs.length)) (runF (l.take rs.length) rs (lk σ.fr)) (j9 rs (ov β σ.bx)) pv r
 | [],[],_,_,h=>h.elim
 | _::_,[],_,_,h=>h.elim
 | [],cr::l,j,σ,h=>⟨OpP.ov h β,trivial,rfl,cr,rfl,OpP.ov h β⟩
 | r0::rs,cr::l,j,σ,h=>by
  obtain⟨h1,h2⟩:=h;obtain⟨k1,k2,k3,c,k4,k5⟩:=APn.runs β h2;simp only[St.app,A8I,A1b] at k1 k2 k3 k5;refine⟨⟨h1.ov β,k1⟩,⟨h1.ov β,k2⟩,k3,c,by simpa using k4,?_⟩;simp only[yz,wn,runF,j9];rw[show j+(rs.length+1)=j+1+rs.length by omega];exact k5
theorem A0S{q:Nat×Option Bx}:∀{r l:List (Nat×Option Bx)},q∈f8 l r↔q∈l\/q∈r
 | [],l=>by simp[f8]
 | x::r,l=>by
  simp only[f8];rw[A0S,zi,zi];constructor
  ·rintro ((h|h)|h)
   ·exact .inr (.inl h)
   ·exact .inl h
   ·exact .inr (.inr h)
  ·rintro (h|h|h)
   ·exact .inl (.inr h)
   ·exact .inl (.inl h)
   ·exact .inr h
theorem A3f{q:Nat×Option Bx}:∀{rs:List RR} {l:List CR} {σ:St},rs.length<=l.length->(q∈σ.bx\/∃r∈rs,q∈r.wr)->q∈(σ.apps l rs).bx
 | [],[],σ,_,h=>by rcases h with h|⟨r,hr,_⟩; exact h; cases hr
 | [],_::_,σ,_,h=>by rcases h with h|⟨r,hr,_⟩; exact h; cases hr
 | _::_,[],_,hl,_=>by simp at hl
 | r0::rs,cr::l,σ,hl,h=>by
  refine A3f (l:=l) (σ:=σ.app cr.dst r0) (by simpa using hl) ?_;rcases h with h|⟨r,hr,h⟩
  ·exact .inl (A0S.2 (.inl h))
  ·rcases zi.1 hr with rfl|hr
   ·exact .inl (A0S.2 (.inr h))
   ·exact .inr ⟨r,hr,h⟩
theorem A63{β:Nat->Option Bx}(y:Nat):∀(l:List (Nat×Option Bx)),ov β l y=β y\/(y,ov β l y)∈l
 | []=>.inl rfl
 | (m,b)::l=>by
  by_cases h:y=m
  ·subst h; right; simp only[ov,B5]; exact zb
  ·simp only[ov,A7 _ _ _ h];exact (A63 y l).imp id fun h=>za _ h
theorem A2d{ops:Array Oper}{crs:List CR}{ps:List (Nat×Nat)}(h:A8H ops crs ps=true):
  (∀(j:Nat) o,ops[j]?=some o->∀e∈o.after,Region.binds .any e=true->e.on<j)/\∀i j,(i,j)∈ps->∀x y,crs[i]?=some x->crs[j]?=some y->O3 x y=true:=by
 simp only[A8H,yh] at h;obtain⟨h1,h2⟩:=h;refine⟨fun j o ho e he hb=>?_,fun i j hp x y hx hy=>?_⟩
 ·have:=yq.1 h1 (o,j) (by
   rw[List.mem_zipIdx_iff_getElem?];simpa using ho)
  have:=yq.1 this e.on (A2b.2 ⟨e,he,hb,rfl⟩);simpa using this
 ·have:=yq.1 h2 (i,j) hp;simpa only[hx,hy] using this
theorem A9x{id:Nat}{ops:Array Oper}{draw:Bool}{crs:List CR}{ps:List (Nat×Nat)}(hc:X0 E.P E.N ops draw = .reg draw crs ps){rs:List RR}(hr:A55 E.P (E.n0+σ.k) 0 crs σ rs)(hd:A3a rs ps)
  {K:St->Prop} {X:Nat->St->Prop} (hK:K ((σ.apps crs rs).bump (1024*crs.length))) {G:Gh} {a:Act} {w:World} (hD:Y4 E σ G a w):(Code.region id ops draw).wp E.P (A62 E K X) a w:=by
 unfold X0 at hc;split at hc
 ·cases hc
 ·rename_i cs hcs;obtain⟨hlen,hget⟩:=v6 hcs;have hlen':cs.length=ops.size:=by simpa using hlen
  have hcr:∀(i:Nat) o,ops[i]?=some o->∃c,cs[i]?=some c/\l9 E.P E.N ops o=some c:=fun i o ho=>hget i o (by simpa using ho);obtain⟨q1,q2,q3,q4⟩:=hr.runs E.β;have fin:crs=cs->∀G a w,E0 E.C E.N E.D E.n0 E.G0 E.w0 (runF crs rs (lk σ.fr)) (j9 rs (ov E.β σ.bx)) (· < E.n0+σ.k+1024*ops.size) G a w->A62 E K X .normal a w:=fun hcc G a w h=>by
   refine⟨_,G,?_,hK⟩;rw[q2,q3] at h;subst hcc;simp only[Y4,St.bump,q4];exact h.weak fun id hid=>by rw[hlen']; omega
  cases draw with
  | false =>
   simp only[CC.reg.injEq,true_and] at hc;obtain⟨rfl,rfl⟩:=hc;refine wp_region ?_;rw[wb];refine B1J hlen' hcr (base:=E.n0+σ.k) (by omega) (Q:=A62 E K X) (fin rfl) ops.size 0 rs _ _ G a w (by omega) ?_ ?_ rfl (hD.weak fun id hid=>by omega)
   ·exact q1
   ·rfl
  | true =>
   simp only at hc;split at hc
   ·rename_i hs;rw[yh] at hs;simp only[CC.reg.injEq,true_and] at hc;obtain⟨rfl,rfl⟩:=hc;obtain⟨s1,s2⟩:=A2d hs.1;refine wp_region_any hs.2 ?_;obtain⟨r1,r2⟩:=hD.rs.drew;have hD':E0 E.C E.N E.D E.n0 E.G0 E.w0 (lk σ.fr) (ov E.β σ.bx) (· < E.n0+σ.k) G a w.drew:=E0.step hD r1 r2 (fun id h=>hD.used id h) fun id _ h=>h;have anc:=A60 (ops:=ops) (l:=ops.toList) (acc:=[]) (fun i o ho=>by simpa using ho) fun j i hi=>by simp at hi
    have e1:∀(D:Nat->Bool),(∀i,D i=false)->∀{β:Type} (st:Nat->(Nat->β)->Nat->β) (f:Nat->β),E5 st D (List.range ops.size) f=f:=fun D hD β st f=>n8 fun i _=>hD i;have none:∀i,(Array.replicate ops.size false).getD i false=false:=fun i=>by simp[zl,ul]; split<;>rfl
    have q0:rs.length=cs.length:=(A2w.len q1).symm;have hcf:∀(i j:Nat) x y r s,i<j->cs[i]?=some x->cs[j]?=some y->rs[i]?=some r->rs[j]?=some s->Q9 ops i j\/(O3 x y=true/\f7 r s):=fun i j x y r s hij hx hy hr' hs'=>by
     by_cases hb:i∈(A77 ops.toList []).getD j []
     ·exact .inl (anc j i hb)
     ·refine .inr ?_;have hj:j<ops.size:=(by rw[←hlen']; exact (ze.1 hy).1);have hm:=s0.2 ⟨hj,hij,hb⟩;refine⟨s2 i j hm x y hx hy,?_⟩;cases hw:x.op.mayW||y.op.mayW with
      | true =>
       have:=A52 hd (i,j) (ue.2 ⟨hm,by simp only[hx,hy,hw]⟩);simpa only[c4 hr',c4 hs'] using this
      | false =>
       simp only[wy] at hw;have pure:∀(m:Nat) z t,cs[m]?=some z->rs[m]?=some t->z.op.mayW=false->t.wr=[]:=fun m z t hz ht hzw=>by
        obtain⟨_,_,g3,g4⟩:=q1.get m z t hz ht;cases hc:t.c with
        | false=>exact g4 hc
        | true=>exact A3b (g3 hc) hzw
       simp[f7,pure i x r hx hr' hw.1,pure j y s hy hs' hw.2,K8,R0]
    have t1:cs.take ops.size=cs:=zn (by omega);have t2:rs.take ops.size=rs:=zn (by omega);refine B1L (n0:=E.n0) (F0:=lk σ.fr) (B0:=ov E.β σ.bx) (base:=E.n0+σ.k) (p:=ops.size) (crs:=cs) (rs:=rs) (by omega) q0.symm (by omega) (yg _) (fun i o c ho hc=>by obtain⟨c',h1,h2⟩:=hcr i o ho; rw[hc] at h1; injection h1 with h1; rw[h1]; exact h2) (by rw[t1,t2]; exact q1) s1 hcf (fun _=>by rw[t1,t2]; exact fin rfl) (fun h=>by omega) ops.size _ G a w.drew (by simp) (fun j o ho hj=>by simp only[none] at hj; cases hj) (fun i _=>none i) ?_ ?_
    ·refine uh ux (by simp)
    ·rw[e1 _ none,e1 _ none];exact hD'.weak fun id hid=>.inl hid
   ·cases hc
theorem A9y{id:Nat}{ops:Array Oper}{draw:Bool}{crs:List CR}{ps:List (Nat×Nat)}(hc:X0 E.P E.N ops draw = .reg draw crs ps){rs:List RR}{pv:AV}{r:RR}(hr:APn E.P (E.n0+σ.k) pv r 0 crs σ rs)(hd:A3d (rs++[r]) rs.length ps)
  {K:St->Prop} {X:Nat->St->Prop} (hK:E.Pn pv ((σ.apps crs rs).app .none r)) {G:Gh} {a:Act} {w:World} (hD:Y4 E σ G a w):(Code.region id ops draw).wp E.P (A62 E K X) a w:=by
 unfold X0 at hc;split at hc
 ·cases hc
 ·rename_i cs hcs;obtain⟨hlen,hget⟩:=v6 hcs;have hlen':cs.length=ops.size:=by simpa using hlen
  have hcr:∀(i:Nat) o,ops[i]?=some o->∃c,cs[i]?=some c/\l9 E.P E.N ops o=some c:=fun i o ho=>hget i o (by simpa using ho);obtain⟨q1,q2,q3,cp,q4,q5⟩:=hr.runs E.β;have hpl:rs.length<crs.length:=(ze.1 q4).1;have inA:∀q,q∈(σ.apps crs rs).bx->q∈((σ.apps crs rs).app .none r).bx:=fun q hq=>A0S.2 (.inl hq);have inR:∀q,q∈r.wr->q∈((σ.apps crs rs).app .none r).bx:=fun q hq=>A0S.2 (.inr hq);cases draw with
  | false =>
   simp only[CC.reg.injEq,true_and] at hc;obtain⟨rfl,rfl⟩:=hc;refine wp_region ?_;rw[wb];refine B4t hlen' hcr (base:=E.n0+σ.k) (by omega) (Q:=A62 E K X) (pv:=pv) (r:=r) (B':=j9 rs (ov E.β σ.bx)) (fun G a w u F U h hv=>⟨pv,u,_,F,_,U,G,rfl,h,fun y=>?_,hv,hK⟩) rs ops.size 0 _ _ G a w (by omega) q1 rfl (hD.weak fun id hid=>by omega);by_cases hy:y∈K8 r.wr
   ·exact .inr (inR _ (A1a hy))
   ·rw[K9 hy,q3];exact (A63 y _).imp _root_.id (inA _)
  | true =>
   simp only at hc;split at hc
   ·rename_i hs;rw[yh] at hs;simp only[CC.reg.injEq,true_and] at hc;obtain⟨rfl,rfl⟩:=hc;obtain⟨s1,s2⟩:=A2d hs.1;refine wp_region_any hs.2 ?_;obtain⟨r1,r2⟩:=hD.rs.drew;have hD':E0 E.C E.N E.D E.n0 E.G0 E.w0 (lk σ.fr) (ov E.β σ.bx) (· < E.n0+σ.k) G a w.drew:=E0.step hD r1 r2 (fun id h=>hD.used id h) fun id _ h=>h;have anc:=A60 (ops:=ops) (l:=ops.toList) (acc:=[]) (fun i o ho=>by simpa using ho) fun j i hi=>by simp at hi
    have e1:∀(D:Nat->Bool),(∀i,D i=false)->∀{β:Type} (st:Nat->(Nat->β)->Nat->β) (f:Nat->β) (n:Nat),E5 st D (List.range n) f=f:=fun D hD β st f n=>n8 fun i _=>hD i;have none:∀i,(Array.replicate ops.size false).getD i false=false:=fun i=>by simp[zl,ul]; split<;>rfl
    have hlt:(cs.take (rs.length+1)).length=rs.length+1:=(by rw[zu]; omega);have g1:∀(i:Nat) c,(cs.take (rs.length+1))[i]?=some c->i<rs.length+1/\cs[i]?=some c:=fun i c h=>by
     have hi:i<rs.length+1:=(by have:=(ze.1 h).1; omega);rw[xy hi] at h;exact⟨hi,h⟩
    have t1:(cs.take (rs.length+1)).take rs.length=cs.take rs.length:=(by rw[vt,wu (by omega)]);have t2:(rs++[r]).take rs.length=rs:=List.take_left' rfl;have hcf:∀(i j:Nat) x y r0 s,i<j->(cs.take (rs.length+1))[i]?=some x->(cs.take (rs.length+1))[j]?=some y->(rs++[r])[i]?=some r0->(rs++[r])[j]?=some s->Q9 ops i j\/(O3 x y=true/\f7 r0 s):=fun i j x y r0 s hij hx hy hr' hs'=>by
     obtain⟨hi1,hx⟩:=g1 i x hx;obtain⟨hj1,hy⟩:=g1 j y hy;by_cases hb:i∈(A77 ops.toList []).getD j []
     ·exact .inl (anc j i hb)
     ·refine .inr ?_;have hj:j<ops.size:=(by rw[←hlen']; exact (ze.1 hy).1);have hm:=s0.2 ⟨hj,hij,hb⟩;refine⟨s2 i j hm x y hx hy,?_⟩;cases hw:x.op.mayW||y.op.mayW with
      | true =>
       have:=(A3e hd (i,j) (ue.2 ⟨hm,by simp only[hx,hy,hw]⟩)).1 (by omega);simpa only[c4 hr',c4 hs'] using this
      | false =>
       simp only[wy] at hw;have hjp:j<rs.length:=by
        rcases yt j rs.length with h|h
        ·exact h
        ·have:j=rs.length:=by omega
         subst this;rw[q4] at hy; injection hy with hy; subst hy
         rw[q5.mayW] at hw; cases hw.2
       have pure:∀(m:Nat) z t,m<rs.length->cs[m]?=some z->(rs++[r])[m]?=some t->z.op.mayW=false->t.wr=[]:=fun m z t hm hz ht hzw=>by
        rw[zz hm] at ht;obtain⟨_,_,g3,g4⟩:=q2.get m z t (by rw[xy hm]; exact hz) ht;cases hc:t.c with
        | false=>exact g4 hc
        | true=>exact A3b (g3 hc) hzw
       simp[f7,pure i x r0 (by omega) hx hr' hw.1,pure j y s hjp hy hs' hw.2,K8,R0]
    refine B1L (C:=E.C) (D:=E.D) (G0:=E.G0) (w0:=E.w0) (n0:=E.n0) (base:=E.n0+σ.k) (p:=rs.length) (crs:=cs.take (rs.length+1)) (rs:=rs++[r]) (F0:=lk σ.fr) (B0:=ov E.β σ.bx) (by omega) (by rw[hlt]; simp) (by omega) (by omega) (fun i o c ho hc=>by obtain⟨c',h1,h2⟩:=hcr i o ho; rw[(g1 i c hc).2] at h1; injection h1 with h1; rw[h1]; exact h2) (by rw[t1,t2]; exact q2) s1 hcf (fun h=>by omega) (fun _=>⟨⟨by omega,fun i hpi hi=>?_⟩,pv,fun c r' hc' hr'=>?_⟩) ops.size _ G a w.drew (by simp) (fun j o ho hj=>by simp only[none] at hj; cases hj) (fun i _=>none i) ?_ ?_
    ·by_cases hb:rs.length∈(A77 ops.toList []).getD i []
     ·exact anc i _ hb
     ·exfalso;have hm:=s0.2 ⟨hi,hpi,hb⟩;obtain⟨y,hy⟩:∃y,cs[i]?=some y:=⟨_,zd (by omega)⟩;exact (A3e hd (rs.length,i) (ue.2 ⟨hm,by simp only[q4,hy,q5.mayW,Bool.true_or]⟩)).2 hpi rfl
    ·have e2:=(g1 _ c hc').2;rw[q4] at e2; injection e2 with e2; subst e2
     have e3:r'=r:=(by simpa using hr'.symm);subst e3;rw[yu] at q5;rw[t1,t2];refine⟨q5,fun L G a w u F U h hv=>⟨pv,u,_,F,_,U,G,rfl,h,fun y=>?_,hv,hK⟩⟩;by_cases hy:y∈K8 r'.wr
     ·exact .inr (inR _ (A1a hy))
     ·rw[K9 hy];rcases A3c (rs:=rs++[r']) (L:=L) y (l:=List.range rs.length) (B:=ov E.β σ.bx) with h|⟨r0,h1,h2⟩
      ·rw[h];exact (A63 y _).imp _root_.id fun h=>inA _ (A3f (by omega) (.inl h))
      ·refine .inr ?_;rcases zo.1 h1 with h1|h1
       ·exact inA _ (A3f (by omega) (.inr ⟨r0,h1,h2⟩))
       ·rw[xm] at h1; subst h1; exact inR _ h2
    ·refine uh ux (by simp)
    ·rw[e1 _ none,e1 _ none];exact hD'.weak fun id hid=>.inl hid
   ·cases hc
end
section
variable {E:R9} {σ:St} {k:List Itm}
theorem g9{P:Program}{N:Nat}{c:Code}{a b:CC}(h:D4 P N c = .seq a b):∃x y,c = .seq x y/\D4 P N x=a/\D4 P N y=b:=by
 cases c
 case seq x y=>simp only[D4,CC.seq.injEq] at h; exact⟨x,y,rfl,h⟩
 case region=>simp only[D4,X0] at h; split at h; cases h; split at h; cases h; split at h<;>cases h
 case cond=>simp only[D4] at h; split at h<;>cases h
 all_goals cases h
theorem A56{P:Program}{N:Nat}{c:Code}{o:G7}{a b:CC}(h:D4 P N c = .cond o a b):∃X x y,c = .cond X x y/\opd X=some o/\D4 P N x=a/\D4 P N y=b:=by
 cases c
 case cond X x y =>
  simp only[D4] at h;split at h
  ·rename_i o' ho;simp only[CC.cond.injEq] at h;obtain⟨rfl,h1,h2⟩:=h;exact⟨X,x,y,rfl,ho,h1,h2⟩
  ·cases h
 case region=>simp only[D4,X0] at h; split at h; cases h; split at h; cases h; split at h<;>cases h
 all_goals cases h
theorem A8J{P:Program}{N:Nat}{c:Code}{id:Nat}{a:CC}(h:D4 P N c = .block id a):∃x,c = .block id x/\D4 P N x=a:=by
 cases c
 case block i x=>simp only[D4,CC.block.injEq] at h; obtain⟨rfl,h⟩:=h; exact⟨x,rfl,h⟩
 case region=>simp only[D4,X0] at h; split at h; cases h; split at h; cases h; split at h<;>cases h
 case cond=>simp only[D4] at h; split at h<;>cases h
 all_goals cases h
theorem A9z{P:Program}{N:Nat}{c:Code}{a:CC}(h:D4 P N c = .loop a):∃x,c = .loop x/\D4 P N x=a:=by
 cases c
 case loop x=>simp only[D4,CC.loop.injEq] at h; exact⟨x,rfl,h⟩
 case region=>simp only[D4,X0] at h; split at h; cases h; split at h; cases h; split at h<;>cases h
 case cond=>simp only[D4] at h; split at h<;>cases h
 all_goals cases h
theorem B00{P:Program}{N:Nat}{c:Code}{id:Nat}(h:D4 P N c = .exit id):c = .exit id:=by
 cases c
 case exit i=>simp only[D4,CC.exit.injEq] at h; rw[h]
 case region=>simp only[D4,X0] at h; split at h; cases h; split at h; cases h; split at h<;>cases h
 case cond=>simp only[D4] at h; split at h<;>cases h
 all_goals cases h
theorem B1M{P:Program}{N:Nat}{c:Code}(h:D4 P N c = .ret):c = .ret:=by
 cases c
 case ret=>rfl
 case region=>simp only[D4,X0] at h; split at h; cases h; split at h; cases h; split at h<;>cases h
 case cond=>simp only[D4] at h; split at h<;>cases h
 all_goals cases h
theorem B01{P:Program}{N:Nat}{c:Code}(h:D4 P N c = .skip):c = .skip\/∃l,c = .label l:=by
 cases c
 case skip=>exact .inl rfl
 case label l=>exact .inr ⟨l,rfl⟩
 case region=>simp only[D4,X0] at h; split at h; cases h; split at h; cases h; split at h<;>cases h
 case cond=>simp only[D4] at h; split at h<;>cases h
 all_goals cases h
theorem A79{P:Program}{N:Nat}{c:Code}{d:Bool}{crs:List CR}{ps:List (Nat×Nat)}(h:D4 P N c = .reg d crs ps):∃id ops,c = .region id ops d/\X0 P N ops d = .reg d crs ps:=by
 cases c
 case region id ops draw =>
  have h':=h;simp only[D4,X0] at h';split at h'
  ·cases h'
  ·split at h'
   ·simp only[CC.reg.injEq] at h'; obtain⟨rfl,_⟩:=h'; exact⟨id,ops,rfl,h⟩
   ·split at h'
    ·simp only[CC.reg.injEq] at h'; obtain⟨rfl,_⟩:=h'; exact⟨id,ops,rfl,h⟩
    ·cases h'
 case cond=>simp only[D4] at h; split at h<;>cases h
 all_goals cases h
theorem B4u(h:Wk E k σ):Wk E (.code .skip::k) σ:=fun c hc G a w hD=>by
 rcases B01 hc with rfl|⟨l,rfl⟩
 ·exact wp_skip ⟨σ,G,hD,h⟩
 ·exact wp_label ⟨σ,G,hD,h⟩
theorem B4S{x y:CC}(h:Wk E (.code x::.code y::k) σ):Wk E (.code (.seq x y)::k) σ:=fun c hc G a w hD=>by
 obtain⟨cx,cy,rfl,hx,hy⟩:=g9 hc;refine wp_seq (wp_mono (h cx hx G a w hD) fun e a' w' hq=>?_);cases e with
 | normal=>obtain⟨σ',G',h1,h2⟩:=hq; exact h2 cy hy G' a' w' h1
 | _=>exact hq
theorem B4v{id:Nat}(h:Wx E id k σ):Wk E (.code (.exit id)::k) σ:=fun c hc G a w hD=>by
 rw[B00 hc]; exact wp_exit ⟨σ,G,hD,h⟩
theorem B5n(h:E.Rt σ):Wk E (.code .ret::k) σ:=fun c hc G a w hD=>by
 rw[B1M hc]; exact wp_ret ⟨σ,G,hD,h⟩
theorem B3P{id:Nat}{c:CC}(h:Wk E (.code c::.blk id::k) σ):Wk E (.code (.block id c)::k) σ:=fun c' hc G a w hD=>by
 obtain⟨x,rfl,hx⟩:=A8J hc;refine wp_block (wp_mono (h x hx G a w hD) fun e a' w' hq=>?_);cases e with
 | exit id' =>
  obtain⟨σ',G',h1,h2⟩:=hq;simp only[WW] at h2;simp only[Exit.inBlock];split at h2
  ·rename_i hid; rw[zk hid]; exact⟨σ',G',h1,h2⟩
  ·rename_i hid; rw[zh hid]; exact⟨σ',G',h1,h2⟩
 | _=>exact hq
theorem B4w{o:G7}{x y:CC}{b:Bool}(hc:ceO (lk σ.fr) o=true)(hv:H9 (lk σ.fr) o = .bool b)(h1:b=true->Wk E (.code x::k) σ)(h2:b=false->Wk E (.code y::k) σ):Wk E (.code (.cond o x y)::k) σ:=fun c hcc G a w hD=>by
 obtain⟨X,cx,cy,rfl,ho,hx,hy⟩:=A56 hcc;have hr:=E0.opd hD ho fun n hn=>by
  subst hn;simp only[Am.opd,zc] at ho;subst ho;exact hc
 rw[hv] at hr;have he:a.eval X = .bool b:=by generalize a.eval X=u at hr; cases hr; rfl
 refine wp_cond_split he (fun hb=>h1 hb cx hx G a w hD) fun hb=>h2 hb cy hy G a w hD
theorem B5o{d:Bool}{crs:List CR}{ps:List (Nat×Nat)}(h:Wk E (.ops crs 0 [] ps::k) σ):Wk E (.code (.reg d crs ps)::k) σ:=fun c hc G a w hD=>by
 obtain⟨id,ops,rfl,hg⟩:=A79 hc;rcases h with⟨rs,h1,h2,h3⟩|⟨rs,pv,r,h1,h2,h3⟩
 ·exact A9x hg h1 h2 (by simpa using h3) hD
 ·exact A9y hg h1 (by simpa using h2) h3 hD
theorem A2x{cr:CR}{l:List CR}{j:Nat}{acc:List RR}{ps:List (Nat×Nat)}{r:RR}(h1:OpR E.P cr (E.n0+σ.k+1024*j) (lk σ.fr) (bk σ.bx) r)(h:Wk E (.ops l (j+1) (r::acc) ps::k) (σ.app cr.dst r)):Wk E (.ops (cr::l) j acc ps::k) σ:=by
 rcases h with⟨rs,h2,h3,h4⟩|⟨rs,pv,r1,h2,h3,h4⟩
 ·refine .inl ⟨r::rs,⟨h1,h2⟩,by simpa using h3,?_⟩;simp only[St.apps,yz];rw[show j+(l.length+1)=j+1+l.length by omega];exact h4
 ·refine .inr ⟨r::rs,pv,r1,⟨h1,h2⟩,?_,h4⟩;rw[yz,show j+(rs.length+1)=j+1+rs.length by omega];simpa using h3
theorem B1N{cr:CR}{l:List CR}{j:Nat}{acc:List RR}{ps:List (Nat×Nat)}{pv:AV}{r:RR}(h1:OpP E.P cr (E.n0+σ.k+1024*j) (lk σ.fr) (bk σ.bx) pv r)(hd:A3d (r::acc).reverse j ps)(h:E.Pn pv (σ.app none r)):Wk E (.ops (cr::l) j acc ps::k) σ :=
 .inr ⟨[],pv,r,h1,by simpa using hd,h⟩
theorem B5p{j:Nat}{acc:List RR}{ps:List (Nat×Nat)}(h1:A3a acc.reverse ps)(h:Wk E k (σ.bump (1024*j))):Wk E (.ops [] j acc ps::k) σ :=
 .inl ⟨[],trivial,by simpa using h1,by simpa [St.apps,Wk] using h⟩
def H0(E:R9)(σ σ':St):Prop:=∀G a w,Y4 E σ G a w->∃G',Y4 E σ' G' a w
theorem H0.trans{σ1 σ2:St}(h:H0 E σ σ1)(h':H0 E σ1 σ2):H0 E σ σ2:=fun G a w hD=>let ⟨G1,h1⟩:=h G a w hD; h' G1 a w h1
theorem A23{cc:CC}{σ':St}(hc:H0 E σ σ')(h:Wk E (.code cc::k) σ'):Wk E (.code cc::k) σ:=fun c hcc G a w hD=>by
 obtain⟨G',hD'⟩:=hc G a w hD;exact h c hcc G' a w hD'
theorem C8{body:CC}{X:Type}(inv:X->St)(ok:X->Prop)(m:X->Nat)(x0:X)(h0:H0 E σ (inv x0))(hx0:ok x0)
  (step:∀x,ok x->∀p:St->Prop,(∀σ' x',ok x'->m x'<m x->H0 E σ' (inv x')->p σ')->Wk E (.code body::.post p::k) (inv x)):Wk E (.code (.loop body)::k) σ:=fun c hc G a w hD=>by
 obtain⟨cb,rfl,hb⟩:=A9z hc;obtain⟨G1,hD1⟩:=h0 G a w hD;refine wp_loop_ghost (fun n a w=>∃x G,ok x/\m x=n/\Y4 E (inv x) G a w) (m x0) ⟨x0,G1,hx0,rfl,hD1⟩ fun n a w hI=>?_;obtain⟨x,G2,hx,rfl,hD2⟩:=hI;refine wp_mono (step x hx (fun σ'=>∃x',ok x'/\m x'<m x/\H0 E σ' (inv x')) (fun σ' x' h1 h2 h3=>⟨x',h1,h2,h3⟩) cb hb G2 a w hD2) fun e a' w' hq=>?_;cases e with
 | normal =>
  obtain⟨σ',G',h1,x',h2,h3,h4⟩:=hq;obtain⟨G3,h5⟩:=h4 G' a' w' h1;exact⟨m x',h3,x',G3,h2,rfl,h5⟩
 | _=>exact hq
end
/-! ### Conversions -/
def A2e(a b:Nat):List (Nat×Nat)->Prop
 | []=>True
 | (y,_)::l=>(a<=y/\y<b)/\A2e a b l
theorem c5{a b:Nat}:∀{l:List (Nat×Nat)},A2e a b l->∀q∈l,a<=q.1/\q.1<b
 | [],_,q,hq=>by cases hq
 | (y,t)::l,h,q,hq=>by
  rcases zi.1 hq with rfl|hq
  ·exact h.1
  ·exact c5 h.2 q hq
def A7A(R:Rn)(S:Nat->Prop)(fr:List (Nat×Bool×AV)):List (Nat×Bool×AV)->Prop
 | []=>True
 | (n,c,v)::l=>(∃v0,lk fr n=some (c,v0)/\(c=true->J8 R S v0 v))/\A7A R S fr l
def A2y(R:Rn)(S:Nat->Prop)(bx:List (Nat×Option Bx)):List (Nat×Option Bx)->Prop
 | []=>True
 | (_,none)::l=>A2y R S bx l
 | (y,some b)::l=>(∃x b0,R.ρ y=some x/\bk bx x=some b0/\BxR R S b0 b)/\A2y R S bx l
def H5(y:Nat):List (Nat×Option Bx)->Prop
 | []=>False
 | (x,_)::l=>y=x\/H5 y l
def G6(n0:Nat)(bx':List (Nat×Option Bx)):List (Nat×Option Bx)->Prop
 | []=>True
 | (x,_)::l=>(n0<=x\/H5 x bx')/\G6 n0 bx' l
section
variable {E:R9} {σ:St}
theorem A7A.get{R:Rn}{S:Nat->Prop}{fr:List (Nat×Bool×AV)}:∀{l:List (Nat×Bool×AV)},A7A R S fr l->∀n c v,lk l n=some (c,v)->∃v0,lk fr n=some (c,v0)/\(c=true->J8 R S v0 v)
 | [],_,n,c,v,h=>by cases h
 | (m,c',v')::l,hs,n,c,v,h=>by
  simp only[lk] at h;split at h
  ·rename_i hn;simp only[zc,zg] at h;obtain⟨rfl,rfl⟩:=h;subst hn;exact hs.1
  ·exact A7A.get hs.2 n c v h
theorem G6.get{n0:Nat}{bx':List (Nat×Option Bx)}:∀{l:List (Nat×Option Bx)},G6 n0 bx' l->∀x,x<n0->¬H5 x bx'->∀β,ov β l x=β x
 | [],_,_,_,_,_=>rfl
 | (y,b)::l,h,x,hx,hk,β=>by
  have hne:x≠y:=fun e=>by
   subst e;rcases h.1 with h|h
   ·omega
   ·exact hk h
  simp only[ov,A7 _ _ _ hne];exact G6.get h.2 x hx hk β
theorem v7{β:Nat->Option Bx}{y:Nat}:∀{l:List (Nat×Option Bx)},¬H5 y l->ov β l y=β y
 | [],_=>rfl
 | (x,b)::l,h=>by
  simp only[H5,not_or] at h;simp only[ov,A7 _ _ _ h.1];exact v7 h.2
theorem A2y.get{R:Rn}{S:Nat->Prop}{bx:List (Nat×Option Bx)}{β:Nat->Option Bx}:∀{l:List (Nat×Option Bx)},A2y R S bx l->∀y b,ov β l y=some b->H5 y l->∃x b0,R.ρ y=some x/\bk bx x=some b0/\BxR R S b0 b
 | [],_,y,b,_,hk=>hk.elim
 | (z,none)::l,hs,y,b,h,hk=>by
  simp only[ov] at h;by_cases hz:y=z
  ·subst hz; rw[B5] at h; cases h
  ·rw[A7 _ _ _ hz] at h;exact A2y.get (l:=l) hs y b h (hk.resolve_left hz)
 | (z,some b')::l,hs,y,b,h,hk=>by
  simp only[ov] at h;by_cases hz:y=z
  ·subst hz;rw[B5] at h;injection h with h
   subst h;exact hs.1
  ·rw[A7 _ _ _ hz] at h;exact A2y.get (l:=l) hs.2 y b h (hk.resolve_left hz)
theorem BxR.same{R:Rn}{S:Nat->Prop}{b:Bx}(h:∀(i:Nat) x,b.xs[i]?=some x->A4 (R.fix S) x):BxR R S b b:=⟨K2.same (F3.2 h),rfl,rfl,rfl⟩
theorem RS.boxNames{P:Program}{C:Cx P}{G:Gh}{B:Nat->Option Bx}{w:World}(h:RS C G B w){id:Nat}{b:Bx}(hb:B id=some b):G.used id/\∀(i:Nat) x,b.xs[i]?=some x->A4 G.used x:=by
 by_cases hn:G.nl id
 ·refine⟨(h.nlu id hn).1,fun i x hx=>?_⟩;rw[(h.nil id b hb hn).1] at hx;simp at hx
 ·obtain⟨blk,s,cur,e,h1,h2,h3,h4,h5,h6⟩:=h.box id b hb hn;refine⟨h.used id blk s h1,fun i x hx=>?_⟩;obtain⟨hl,hc⟩:=h5 i x hx;have:D9 G.used x.cells:=F3.2 fun j z hz=>let ⟨u,_,hr⟩:=hc j z hz; hr.names;cases x<;>first|exact this|exact this.1
def A0T(n0:Nat)(bx':List (Nat×Option Bx)):List (Nat×Nat)->Prop
 | []=>True
 | (_,b)::l=>(n0<=b\/H5 b bx')/\A0T n0 bx' l
theorem A01{n0:Nat}{bx':List (Nat×Option Bx)}:∀{l:List (Nat×Nat)},A0T n0 bx' l->∀y,y<n0->¬H5 y bx'->M6 l y=false
 | [],_,_,_,_=>rfl
 | (a,b)::l,h,y,hy,hk=>by
  simp only[M6];split
  ·rename_i e;subst e;rcases h.1 with h|h
   ·omega
   ·exact (hk h).elim
  ·exact A01 h.2 y hy hk
theorem H0.sub(l:List (Nat×Nat))(hl:I0 l){σ':St}(hk:A2e E.n0 (E.n0+σ'.k) l)(h1:A7A (L9 E.n0 l hl) E.G0.used σ.fr σ'.fr)(h2:A2y (L9 E.n0 l hl) E.G0.used σ.bx σ'.bx)(h3:G6 E.n0 σ'.bx σ.bx)
  (h4:A0T E.n0 σ'.bx l):H0 E σ σ':=fun G a w hD=>by
 have hlow:∀x,x<E.n0->Y3 l x=none:=fun x hx=>by
  cases h:Y3 l x with
  | none=>rfl
  | some b=>have:=c5 hk _ (Z4 h); simp only at this; omega
 have hfix:∀x,E.G0.used x->(L9 E.n0 l hl).ρ x=some x\/(L9 E.n0 l hl).ρ x=none:=fun x hx=>(A0p (hlow x (E.old x hx))).symm;have hst:∀x,x<E.n0->M6 l x=false->(L9 E.n0 l hl).ρ x=some x:=fun x hx hg=>by
  show z6 E.n0 l x=some x;unfold z6;rw[hlow x hx];simp[hx,hg]
 refine⟨G.ren (L9 E.n0 l hl) E.G0.used,I9.ren hD.ev hfix,hD.rs.ren fun y b' hy=>?_,fun y hy=>?_,fun y hy hu=>?_,fun n c v hv=>?_,hD.size,hD.defers⟩
 ·by_cases hk:H5 y σ'.bx
  ·obtain⟨x,b0,q1,q2,q3⟩:=h2.get y b' hy hk;exact⟨x,b0,q1,U1 E.β q2,q3⟩
  ·rw[v7 hk] at hy;have hlt:y<E.n0:=by
    rcases yt y E.n0 with h|h
    ·exact h
    ·rw[E.own y h] at hy; cases hy
   refine⟨y,b',hst y hlt (A01 h4 y hlt hk),by rw[h3.get y hlt hk E.β]; exact hy,BxR.same fun i x hx=>?_⟩;exact G9 (fun z hz=>(hfix z hz).imp _root_.id fun h=>⟨h,hz⟩) x ((E.rs0.boxNames hy).2 i x hx)
 ·rcases hy with⟨x,hx,hu⟩|hy
  ·have hx':z6 E.n0 l y=some x:=hx;cases h:Y3 l y with
   | some b=>exact (c5 hk _ (Z4 h)).2
   | none =>
    unfold z6 at hx';rw[h] at hx';simp only at hx';split at hx'
    ·omega
    ·cases hx'
  ·have:=E.old y hy; omega
 ·rcases hu with⟨x,hx,hu⟩|hu
  ·rcases A0p (n0:=E.n0) (hlow y hy) with h|h
   ·have hx':z6 E.n0 l y=some x:=hx;rw[h] at hx'; cases hx'
   ·have hx':z6 E.n0 l y=some x:=hx;rw[h] at hx';injection hx' with hx'
    subst hx';exact hD.old _ hy hu
  ·exact hu
 ·obtain⟨v0,q1,q2⟩:=h1.get n c v hv;obtain⟨r1,r2⟩:=hD.fr n c v0 q1;exact⟨fun hc=>(r1 hc).ren (q2 hc),r2⟩
/-! ### A slice that is nil,as an empty one of the call's own -/
inductive A2f(id:Nat):AV->AV->Prop
 | nils:A2f id .nils (.bsl id 0 0)
 | agg (cs ds:List AV) (h:cs.length=ds.length) (hh:∀(i:Nat) x y,cs[i]?=some x->ds[i]?=some y->x=y\/(x = .nils/\y = .bsl id 0 0)):A2f id (.agg cs) (.agg ds)
theorem A2f.rv{id:Nat}{G:Gh}{w:World}{x y:AV}{v:Value}(h:A2f id x y)(hv:RV G w x v)(hn:RV G w (.bsl id 0 0) (.slice none 0 0)):RV G w y v:=by
 cases h with
 | nils=>cases hv; exact hn
 | agg cs ds hl hh =>
  cases hv with|agg _ vs hs hx =>
  refine .agg ds vs (hl.symm.trans hs) fun i y hy=>?_;obtain⟨x,hx'⟩:∃x,cs[i]?=some x:=⟨_,zd (by rw[hl]; exact (ze.1 hy).1)⟩;rcases hh i x y hx' hy with rfl|⟨rfl,rfl⟩
  ·exact hx i x hx'
  ·have:=hx i _ hx';generalize vs.getD i undef=u at this;cases this
   exact hn
theorem H0.voidSlot(n:Nat){x y:AV}(hx:lk σ.fr n=some (true,x))(hv:A2f (E.n0+σ.k) x y)(d:AV):H0 E σ ⟨(n,true,y)::σ.fr,(E.n0+σ.k,some ⟨[],d,false,false⟩)::σ.bx,σ.k+1⟩:=fun G a w hD=>by
 have hu:¬G.used (E.n0+σ.k):=fun h=>absurd (hD.used _ h) (wx _);obtain⟨r1,r2,r3⟩:=hD.rs.void hu d false;refine⟨_,hD.ev.trans r2,r1,fun id h=>?_,fun id hid h=>?_,fun m c v hm=>?_,hD.size,hD.defers⟩
 ·show id<E.n0+(σ.k+1);rcases h with h|h
  ·omega
  ·have:=hD.used _ h; omega
 ·rcases h with h|h
  ·omega
  ·exact hD.old id hid h
 ·simp only[lk] at hm;split at hm
  ·rename_i he;subst he;simp only[zc,zg] at hm;obtain⟨rfl,rfl⟩:=hm;exact⟨fun _=>hv.rv (((hD.fr m true x hx).1 rfl).mono r2) r3,fun h=>by cases h⟩
  ·exact⟨fun hc=>((hD.fr m c v hm).1 hc).mono r2,(hD.fr m c v hm).2⟩
theorem A2f.cells{id:Nat}{x y:AV}(h:A2f id x y):x.cells.length=y.cells.length/\∀(j:Nat) z z',x.cells[j]?=some z->y.cells[j]?=some z'->z=z'\/(z = .nils/\z' = .bsl id 0 0):=by
 cases h with
 | nils =>
  refine⟨rfl,fun j z z' h1 h2=>?_⟩;cases j with
  | zero=>simp[AV.cells] at h1 h2; exact .inr ⟨h1.symm,h2.symm⟩
  | succ j=>simp[AV.cells] at h1
 | agg cs ds hl hh=>exact⟨hl,hh⟩
theorem H0.voidBox(j:Nat){b:Bx}{x y:AV}(hb:bk σ.bx j=some b)(hx:b.xs=[x])(hv:A2f (E.n0+σ.k) x y)(d:AV):
  H0 E σ ⟨σ.fr,(j,some { b with xs:=[y] })::(E.n0+σ.k,some ⟨[],d,false,false⟩)::σ.bx,σ.k+1⟩:=fun G a w hD=>by
 have hu:¬G.used (E.n0+σ.k):=fun h=>absurd (hD.used _ h) (wx _);obtain⟨r1,r2,r3⟩:=hD.rs.void hu d false;have hbj:=U1 E.β hb;have hne:j≠E.n0+σ.k:=fun e=>hu (e▸(hD.rs.boxNames hbj).1);have hbj':ov E.β ((E.n0+σ.k,some ⟨[],d,false,false⟩)::σ.bx) j=some b:=by simp only[ov,A7 _ _ _ hne]; exact hbj
 have r4:RS E.C (G.void (E.n0+σ.k)) (ov E.β ((j,some { b with xs:=[y] })::(E.n0+σ.k,some ⟨[],d,false,false⟩)::σ.bx)) w:=by
  have r1':RS E.C (G.void (E.n0+σ.k)) (ov E.β ((E.n0+σ.k,some ⟨[],d,false,false⟩)::σ.bx)) w:=r1;refine⟨r1'.below,r1'.size,r1'.fzok,r1'.fzold,fun i b' hi hn=>?_,fun i b' hi hn=>?_,r1'.nlu,r1'.used,r1'.inj,r1'.rows⟩
  ·by_cases hij:i=j
   ·subst hij;simp only[ov,B5,zc] at hi;subst hi;obtain⟨blk,s,cur,e,k1,k2,k3,k4,k5,k6,k7⟩:=r1'.box i b hbj' hn;have hlen:b.xs.length=1:=(by rw[hx]; rfl);refine⟨blk,s,cur,e,k1,k2,k3,⟨k4.1,by have:=k4.2; rw[hlen] at this; exact this⟩,fun i' y' hy'=>?_,k6,by have:=k7; rw[hlen] at this; exact this⟩;cases i' with
    | succ i'=>simp at hy'
    | zero =>
     simp only[yb,zc] at hy';subst hy';obtain⟨c1,c2⟩:=hv.cells;obtain⟨d1,d2⟩:=k5 0 x (by rw[hx]; rfl);refine⟨c1.symm.trans d1,fun m z hz=>?_⟩;obtain⟨z0,hz0⟩:∃z0,x.cells[m]?=some z0:=⟨_,zd (by rw[c1]; exact (ze.1 hz).1)⟩;obtain⟨u,hu1,hu2⟩:=d2 m z0 hz0;refine⟨u,hu1,?_⟩;rcases c2 m z0 z hz0 hz with rfl|⟨rfl,rfl⟩
     ·exact hu2
     ·cases hu2; exact r3
   ·simp only[ov,A7 _ _ _ hij] at hi;exact r1'.box i b' hi hn
  ·by_cases hij:i=j
   ·subst hij;exfalso;have:=(r1'.nil i b hbj' hn).1;rw[hx] at this; cases this
   ·simp only[ov,A7 _ _ _ hij] at hi;exact r1'.nil i b' hi hn
 refine⟨_,hD.ev.trans r2,r4,fun id h=>?_,fun id hid h=>?_,fun m c v hm=>⟨fun hc=>((hD.fr m c v hm).1 hc).mono r2,(hD.fr m c v hm).2⟩,hD.size,hD.defers⟩
 ·show id<E.n0+(σ.k+1);rcases h with h|h
  ·omega
  ·have:=hD.used _ h; omega
 ·rcases h with h|h
  ·omega
  ·exact hD.old id hid h
end
end Go.Am
