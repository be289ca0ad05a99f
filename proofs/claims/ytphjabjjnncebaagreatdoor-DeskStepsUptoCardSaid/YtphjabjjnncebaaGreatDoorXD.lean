/- Parts of the proof: an abstract machine for Go functions, and what functions of the program give back (Am29, Am30, Am31, Am32, Am33, Am34). No condition. -/
import Derived.Test.YtphjabjjnncebaaGreatDoorXC
set_option maxRecDepth 100000
set_option linter.all false
namespace Go.Am
open Go Go.RowKit
/-! ### Folds over those that were done -/
section
variable {α β:Type} (st:Nat->(α->β)->α->β) (K:Nat->α->Prop)
def D3(D:Nat->Bool):List Nat->(α->β)->α->β
 | [],f=>f
 | i::l,f=>D3 D l (if D i then st i f else f)
variable {st K} (h1:∀i f x,¬K i x->st i f x=f x) (h2:∀i f g x,K i x->st i f x=st i g x)
include h1 h2
theorem q8{D D':Nat->Bool}{x:α}:∀{l:List Nat} {f g:α->β},(∀i∈l,K i x->D i=D' i)->f x=g x->D3 st D l f x=D3 st D' l g x
 | [],f,g,_,h=>h
 | i::l,f,g,hD,h=>by
  simp only[D3];refine q8 (λk hk=>hD k (t_ hk)) ?_;by_cases hK:K i x
  ·rw[hD i s_ hK];split
   ·exact h2 i f g x hK
   ·exact h
  ·have e1:(if D i=true then st i f else f) x=f x:=(by split; exact h1 i f x hK; rfl);have e2:(if D' i=true then st i g else g) x=g x:=(by split; exact h1 i g x hK; rfl);rw[e1,e2,h]
omit h2 in
theorem A8I{D:Nat->Bool}{x:α}:∀{l:List Nat} {f:α->β},(∀i∈l,D i=true->¬K i x)->D3 st D l f x=f x
 | [],f,_=>rfl
 | i::l,f,hD=>by
  simp only[D3];rw[A8I (λk hk=>hD k (t_ hk))];split
  ·rename_i h; exact h1 i f x (hD i s_ h)
  ·rfl
omit h1 h2 in
theorem u9{D:Nat->Bool}:∀{l l':List Nat} {f:α->β},D3 st D (l++l') f=D3 st D l' (D3 st D l f)
 | [],_,_=>rfl
 | i::l,l',f=>by simp only[yw,D3,u9]
theorem A47{D D':Nat->Bool}{l1 l2:List Nat}{j:Nat}{f:α->β}(hj':D' j=true)(hD:∀i,i≠j->D i=D' i)(hl:j∉l2)
  (hc:∀i∈l2,D i=true->∀x,K j x->¬K i x):st j (D3 st D (l1++j::l2) f)=D3 st D' (l1++j::l2) f:=by
 funext x
 by_cases hK:K j x
 ·have:D3 st D' (l1++j::l2) f x=st j (D3 st D' l1 f) x:=by
   rw[u9];simp only[D3,hj',if_true];refine A8I h1 λi hi hd=>?_;have hij:i≠j:=λh=>hl (h▸hi);exact hc i hi (by rw[hD i hij]; exact hd) x hK
  rw[this];exact h2 j _ _ x hK
 ·rw[h1 j _ x hK];refine q8 h1 h2 (λi _ hi=>hD i λh=>hK (h▸hi)) rfl
end
def A0U(j n:Nat)(h:j<n):List.range n=List.range j++j::List.range' (j+1) (n - j - 1):=by
 rw[wv,wv,←vi,show n - j - 1+1=n - j by omega];have:=sq (s:=0) (m:=j) (n:=n - j);rw[yy,show j+(n - j)=n by omega] at this;exact this.symm
/-! ### What a region's operations make,one behind the other -/
def U7(l:List (Nat×Bx)):List Nat:=l.map (·.1)
def O7(l:List (Nat×Option Bx)):List Nat:=l.map (·.1)
def A7T(P:Program)(base:Nat):Nat->List CR->Fr->(Nat->Option Bx)->List RR->Prop
 | _,[],_,_,[]=>True
 | j,cr::l,F,B,r::rs=>OpR P cr (base+1024*j) F B r/\A7T P base (j+1) l (A24 F cr.dst r) (F6 B r.wr) rs
 | _,_,_,_,_=>False
def B6W(P:Program)(base:Nat)(pv:AV)(r:RR):Nat->List CR->Fr->(Nat->Option Bx)->List RR->Prop
 | j,cr::_,F,B,[]=>OpP P cr (base+1024*j) F B pv r
 | j,cr::l,F,B,r0::rs=>OpR P cr (base+1024*j) F B r0/\B6W P base pv r (j+1) l (A24 F cr.dst r0) (F6 B r0.wr) rs
 | _,[],_,_,_=>False
def runF:List CR->List RR->Fr->Fr
 | cr::l,r::rs,F=>runF l rs (A24 F cr.dst r)
 | _,_,F=>F
def A0V:List RR->(Nat->Option Bx)->Nat->Option Bx
 | r::rs,B=>A0V rs (F6 B r.wr)
 | [],B=>B
def B3H(P:Program)(N:Nat)(ops:Array Oper):List Oper->Option (List CR)
 | []=>some []
 | o::l=>match A0n P N ops o,B3H P N ops l with
  | some c,some cs=>some (c::cs)
  | _,_=>none
def A1E{P:Program}{N:Nat}{ops:Array Oper}:∀{l:List Oper} {cs:List CR},B3H P N ops l=some cs->cs.length=l.length/\∀(i:Nat) o,l[i]?=some o->∃c,cs[i]?=some c/\A0n P N ops o=some c
 | [],cs,h=>by simp[B3H] at h; subst h; exact⟨rfl,λi o h=>by simp at h⟩
 | o::l,cs,h=>by
  simp only[B3H] at h;split at h
  ·rename_i c cs' hc hl;injection h with h
   subst h;obtain⟨k1,k2⟩:=A1E hl;refine⟨t_ k1,λi o' ho=>?_⟩;cases i with
   | zero=>simp at ho; subst ho; exact⟨c,rfl,hc⟩
   | succ i=>simpa using k2 i o' (v_ ho)
  ·cases h
section
variable {P:Program} {C:Cx P} {N:Nat} {D:List Deferred} {n0:Nat} {G0:Gh} {w0:World} {G:Gh} {a:Act} {w:World} {ops:Array Oper} {Q:Exit->Act->World->Prop}
theorem C0C{crs:List CR}(hlen:crs.length=ops.size)(hcr:∀(i:Nat) o,ops[i]?=some o->∃c,crs[i]?=some c/\A0n P N ops o=some c){base:Nat}(hn:n0<=base){F':Fr}{B':Nat->Option Bx}
  (hK:∀G a w,F9 C N D n0 G0 w0 F' B' (· < base+1024*ops.size) G a w->Q .normal a w) :
  ∀(m j:Nat) (rs:List RR) (F:Fr) (B:Nat->Option Bx) (G:Gh) (a:Act) (w:World),j+m=ops.size->A7T P base j (crs.drop j) F B rs->runF (crs.drop j) rs F=F'->A0V rs B=B'->F9 C N D n0 G0 w0 F B (· < base+1024*j) G a w ->
   wpOps P ops Q (List.range' j m) a w:=by
 intro m;induction m with
 | zero =>
  intro j rs F B G a w hj hr hF hB hd;have hj':j=ops.size:=by omega
  subst hj';rw[zp o_] at hr hF;cases rs with
  | cons=>exact hr.elim
  | nil =>
   simp only[runF] at hF;simp only[A0V] at hB;subst hF hB;exact hK G a w hd
 | succ m ih =>
  intro j rs F B G a w hj hr hF hB hd;have hjn:j<ops.size:=by omega
  obtain⟨o,ho⟩:∃o,ops[j]?=some o:=⟨_,yb hjn⟩;obtain⟨cr,hc1,hc2⟩:=hcr j o ho;have hdrop:crs.drop j=cr::crs.drop (j+1):=by
   rw[xg o_];rw[zc o_] at hc1;injection hc1 with hc1
   rw[hc1]
  rw[hdrop] at hr hF;cases rs with
  | nil=>exact hr.elim
  | cons r rs =>
   obtain⟨hr1,hr2⟩:=hr;rw[vi,wpOps_cons];refine B03 hd ho hc2 hr1 (λx hx _ h=>absurd (hd.used _ h) o_) o_ (nb:=base+1024*j) (λx hx h=>absurd (hd.used _ h) o_) λG' u w' hd'=>?_;exact ih (j+1) rs _ _ G' _ w' o_ hr2 hF hB (hd'.weak λid h=>h.elim (λh=>by have:=hd.used _ h; omega) λh=>o_)
theorem C69{crs:List CR}(hlen:crs.length=ops.size)(hcr:∀(i:Nat) o,ops[i]?=some o->∃c,crs[i]?=some c/\A0n P N ops o=some c){base:Nat}(hn:n0<=base){pv:AV}{r:RR}{B':Nat->Option Bx}
  (hK:∀G a w u F U,F9 C N D n0 G0 w0 F (F6 B' r.wr) U G a w->RV G w pv u->Q (.panic [{ v:=u,recovered:=false }]) a w) :
  ∀(rs:List RR) (m j:Nat) (F:Fr) (B:Nat->Option Bx) (G:Gh) (a:Act) (w:World),j+m=ops.size->B6W P base pv r j (crs.drop j) F B rs->A0V rs B=B'->F9 C N D n0 G0 w0 F B (· < base+1024*j) G a w ->
   wpOps P ops Q (List.range' j m) a w:=by
 intro rs;induction rs with
 | nil =>
  intro m j F B G a w hj hr hB hd;simp only[A0V] at hB;subst hB;have hjn:j<ops.size:=by
   rcases yd j ops.size with h|h
   ·exact h
   ·rw[zp o_] at hr; exact hr.elim
  obtain⟨o,ho⟩:∃o,ops[j]?=some o:=⟨_,yb hjn⟩;obtain⟨cr,hc1,hc2⟩:=hcr j o ho;have hdrop:crs.drop j=cr::crs.drop (j+1):=by
   rw[xg o_];rw[zc o_] at hc1;injection hc1 with hc1
   rw[hc1]
  rw[hdrop] at hr;obtain⟨m,rfl⟩:∃k,m=k+1:=⟨m - 1,o_⟩;rw[vi,wpOps_cons];exact B6V hd ho hc2 hr (λx hx _ h=>absurd (hd.used _ h) o_) o_ (nb:=base+1024*j) (λx hx h=>absurd (hd.used _ h) o_) λG' u w' hd' hv=>hK G' a w' u _ _ hd' hv
 | cons r0 rs ih =>
  intro m j F B G a w hj hr hB hd;have hjn:j<ops.size:=by
   rcases yd j ops.size with h|h
   ·exact h
   ·rw[zp o_] at hr; exact hr.elim
  obtain⟨o,ho⟩:∃o,ops[j]?=some o:=⟨_,yb hjn⟩;obtain⟨cr,hc1,hc2⟩:=hcr j o ho;have hdrop:crs.drop j=cr::crs.drop (j+1):=by
   rw[xg o_];rw[zc o_] at hc1;injection hc1 with hc1
   rw[hc1]
  rw[hdrop] at hr;obtain⟨hr1,hr2⟩:=hr;obtain⟨m,rfl⟩:∃k,m=k+1:=⟨m - 1,o_⟩;rw[vi,wpOps_cons];refine B03 hd ho hc2 hr1 (λx hx _ h=>absurd (hd.used _ h) o_) o_ (nb:=base+1024*j) (λx hx h=>absurd (hd.used _ h) o_) λG' u w' hd'=>?_;exact ih m (j+1) _ _ G' _ w' o_ hr2 hB (hd'.weak λid h=>h.elim (λh=>by have:=hd.used _ h; omega) λh=>o_)
end
inductive S8(ops:Array Oper):Nat->Nat->Prop
 | one (i j:Nat) (o:Oper) (e:Edge) (ho:ops[j]?=some o) (he:e∈o.after) (hb:Region.binds .any e=true) (hi:e.on=i):S8 ops i j
 | more (i k j:Nat) (h1:S8 ops i k) (h2:S8 ops k j):S8 ops i j
def A8J(ops:Array Oper)(D:Nat->Bool):Prop:=∀(j:Nat) o,ops[j]?=some o->D j=true->∀e∈o.after,Region.binds .any e=true->D e.on=true
def A8J.before{ops:Array Oper}{D:Nat->Bool}(h:A8J ops D){i j:Nat}(hb:S8 ops i j):D j=true->D i=true:=by
 induction hb with
 | one i j o e ho he hb hi=>intro hj; subst hi; exact h j o ho hj e he hb
 | more i k j _ _ ih1 ih2=>exactλhj=>ih1 (ih2 hj)
def A5L{ops:Array Oper}{D:Nat->Bool}(h:A8J ops D){i j:Nat}(hb:S8 ops i j):(∀o,ops[j]?=some o->∀e∈o.after,Region.binds .any e=true->D e.on=true)->D i=true:=by
 induction hb with
 | one i j o e ho he hb hi=>intro hj; subst hi; exact hj o ho e he hb
 | more i k j h1 _ ih1 ih2=>exactλhj=>h.before h1 (ih2 hj)
def A7h(o:Oper):List Nat:=(o.after.toList.filter λe=>Region.binds .any e).map (·.on)
def A75{o:Oper}{i:Nat}:i∈A7h o↔∃e∈o.after,Region.binds .any e=true/\e.on=i:=by
 simp[A7h,and_assoc]
def B04(l:List Nat):List Nat:=l.foldr (λx r=>if r.contains x then r else x::r) []
def A6H{x:Nat}:∀{l:List Nat},x∈B04 l->x∈l
 | [],h=>h
 | y::l,h=>by
  have e:B04 (y::l)=if (B04 l).contains y then B04 l else y::B04 l:=rfl
  rw[e] at h;split at h
  ·exact zb _ (A6H h)
  ·rcases zi.1 h with rfl|h
   ·simp
   ·exact zb _ (A6H h)
def A9d:List Oper->List (List Nat)->List (List Nat)
 | [],acc=>acc
 | o::l,acc=>A9d l (acc++[B04 ((A7h o).flatMap λi=>i::acc.getD i [])])
def A7i{ops:Array Oper}:∀{l:List Oper} {acc:List (List Nat)},(∀(i:Nat) o,l[i]?=some o->ops[acc.length+i]?=some o)->(∀(j i:Nat),i∈acc.getD j []->S8 ops i j) ->
  ∀(j i:Nat),i∈(A9d l acc).getD j []->S8 ops i j
 | [],acc,_,h=>h
 | o::l,acc,hl,h=>by
  simp only[A9d];refine A7i (λi o' ho'=>?_) λj i hi=>?_
  ·have:=hl (i+1) o' (v_ ho');simpa [yv,qq 1 i] using this
  ·rw[xv] at hi;by_cases hj:j<acc.length
   ·rw[yh hj] at hi;exact h j i (by rw[xv]; exact hi)
   ·rw[yl o_] at hi;by_cases hj':j=acc.length
    ·subst hj';simp only[qr,yn,vh] at hi;have hi:=A6H hi;simp only[xz,A75,zi] at hi;obtain⟨k,⟨e,he,hb,rfl⟩,hi⟩:=hi;have h0:=hl 0 o rfl;have h1:S8 ops e.on acc.length:=.one _ _ o e h0 he hb rfl;rcases hi with rfl|hi
     ·exact h1
     ·exact .more _ _ _ (h _ _ hi) h1
    ·have:j - acc.length≠0:=by omega
     obtain⟨m,hm⟩:=ws this;rw[hm] at hi;simp at hi
def COp.mayW:COp->Bool
 | .mv _ | .pick _ _ _ | .build _ _ | .ld _ _ _ | .chk _ | .bin _ _ _ _ | .mm _ _ _ | .un _ _ | .conv _ _ | .mkf _ _ | .slis _ _ _ | .fa _ _ | .ia _ _ _ _ | .ix _ _ | .ext _ _ | .len _ _ | .aa _ _ _ _=>false
 | _=>true
def CR.looks(c:CR):List Nat:=c.op.slots++(c.us++match c.g with|some (s,_)=>[s]|none=>[])
def M7(x y:CR):Bool :=
 (match x.dst with
  | some d=>!(y.looks).contains d&&y.dst != some d
  | none=>true) &&
 (match y.dst with
  | some d=>!(x.looks).contains d
  | none=>true)
def A48(an:List (List Nat))(n:Nat):List (Nat×Nat):=(List.range n).flatMap λj=>((List.range j).filter λi=>!(an.getD j []).contains i).map λi=>(i,j)
def l9{an:List (List Nat)}{n i j:Nat}:(i,j)∈A48 an n↔j<n/\i<j/\¬i∈an.getD j []:=by
 simp[A48];constructor
 ·rintro⟨a,h1,b,⟨h2,h3⟩,rfl,rfl⟩; exact⟨h1,h2,h3⟩
 ·rintro⟨h1,h2,h3⟩; exact⟨j,h1,i,⟨h2,h3⟩,rfl,rfl⟩
def B59(ops:Array Oper)(crs:List CR)(ps:List (Nat×Nat)):Bool :=
 (ops.toList.zipIdx.all λq=>(A7h q.1).all (decide<|· < q.2))&&ps.all λq=>match crs[q.1]?,crs[q.2]? with
  | some x,some y=>M7 x y
  | _,_=>false
def C0D(crs:List CR)(ps:List (Nat×Nat)):List (Nat×Nat):=ps.filter λq=>match crs[q.1]?,crs[q.2]? with
 | some x,some y=>x.op.mayW||y.op.mayW
 | _,_=>false
def B05(x:Nat):List Nat->Prop
 | []=>True
 | y::l=>x≠y/\B05 x l
def p6:List Nat->List Nat->Prop
 | [],_=>True
 | x::l,r=>B05 x r/\p6 l r
def B06{x:Nat}:∀{l:List Nat},B05 x l↔x∉l
 | []=>by simp[B05]
 | y::l=>by simp[B05,B06 (l:=l)]
def U2:∀{l r:List Nat},p6 l r↔∀x∈l,x∉r
 | [],r=>by simp[p6]
 | x::l,r=>by simp[p6,B06,U2 (l:=l)]
def V7(x y:RR):Prop:=p6 (O7 x.wr) (U7 y.rd)/\p6 (O7 x.wr) (O7 y.wr)/\p6 (O7 y.wr) (U7 x.rd)
def A1f:List RR->Nat->RR
 | [],_=>⟨false,.nili,[],[]⟩
 | r::_,0=>r
 | _::l,n+1=>A1f l n
def A8K(rs:List RR):List (Nat×Nat)->Prop
 | []=>True
 | q::l=>V7 (A1f rs q.1) (A1f rs q.2)/\A8K rs l
def q9{rs:List RR}:∀{i:Nat} {r:RR},rs[i]?=some r->A1f rs i=r:=by
 induction rs with
 | nil=>intro i r h; simp at h
 | cons x l ih =>
  intro i r h;cases i with
  | zero=>simpa [A1f] using h
  | succ i=>exact ih (v_ h)
def B07{rs:List RR}:∀{ps:List (Nat×Nat)},A8K rs ps->∀q∈ps,V7 (A1f rs q.1) (A1f rs q.2)
 | [],_,q,hq=>by cases hq
 | p::l,h,q,hq=>by
  rcases zi.1 hq with rfl|hq
  ·exact h.1
  ·exact B07 h.2 q hq
def A4l{P:Program}{us:List Nat}{id:Nat}{F:Fr}{B:Nat->Option Bx}{op:COp}{r:RR}(h:ExR P us id F B op r)(hm:op.mayW=false):r.wr=[]:=by
 cases h with
 | pick=>rfl
 | call=>cases hm
 | callv=>cases hm
 | callb=>cases hm
 | keep=>cases hm
 | inv=>cases hm
 | raw op r hk hu hraw hB=>cases op<;>first|(cases hk; done)|(cases hm; done)
 | sem k op p v rd wr hu h hp =>
  cases op<;>simp only[COp.mayW,Bool.true_eq_false] at hm<;>simp only[sem,ldT,B2v,X4] at h
  all_goals repeat' split at h
  all_goals first|(cases h; done)|(cases h; rfl)
section
variable {α β:Type} {st:Nat->(α->β)->α->β}
theorem X8{D D':Nat->Bool}:∀{l:List Nat} {f:α->β},(∀i∈l,D i=D' i)->D3 st D l f=D3 st D' l f
 | [],_,_=>rfl
 | i::l,f,h=>by
  simp only[D3,h i s_];exact X8 λk hk=>h k (t_ hk)
theorem r8{D:Nat->Bool}:∀{l:List Nat} {f:α->β},(∀i∈l,D i=false)->D3 st D l f=f
 | [],_,_=>rfl
 | i::l,f,h=>by
  simp only[D3,h i s_,xm,if_false];exact r8 λk hk=>h k (t_ hk)
theorem A3Q{n j:Nat}(h:j<=n)(f:α->β):D3 st (λi=>decide (i<j)) (List.range n) f=D3 st (λ_=>true) (List.range' 0 j) f:=by
 have e:List.range n=List.range' 0 j++List.range' j (n - j):=by
  rw[wv];have:=sq (s:=0) (m:=j) (n:=n - j);rw[yy,show j+(n - j)=n by omega] at this;exact this.symm
 rw[e,u9,X8 (D':=λ_=>true) (l:=List.range' 0 j) λi hi=>by simp[xw] at hi; simpa using hi];exact r8 λi hi=>by simp[xw] at hi; simp; exact hi.1
end
def stF(crs:List CR)(rs:List RR)(i:Nat)(F:Fr):Fr:=match crs[i]?,rs[i]? with
 | some c,some r=>A24 F c.dst r
 | _,_=>F
def stB(rs:List RR)(i:Nat)(B:Nat->Option Bx):Nat->Option Bx:=match rs[i]? with
 | some r=>F6 B r.wr
 | none=>B
def KF(crs:List CR)(i:Nat)(x:Nat):Prop:=∃c,crs[i]?=some c/\c.dst=some x
def KB(rs:List RR)(i:Nat)(x:Nat):Prop:=∃r,rs[i]?=some r/\x∈O7 r.wr
def Q0{x:Nat}:∀{l:List (Nat×Option Bx)} {B:Nat->Option Bx},x∉O7 l->F6 B l x=B x
 | [],_,_=>rfl
 | (i,b)::l,B,h=>by
  simp only[O7,yg,zi,not_or] at h;simp only[F6];rw[Q0 (l:=l) h.2,B6 _ _ _ h.1]
def B1M{x:Nat}:∀{l:List (Nat×Option Bx)} {B B':Nat->Option Bx},x∈O7 l->F6 B l x=F6 B' l x
 | (i,b)::l,B,B',h=>by
  simp only[F6];by_cases hx:x∈O7 l
  ·exact B1M hx
  ·rw[Q0 hx,Q0 hx];simp only[O7,yg,zi] at h;rcases h with rfl|h
   ·rw[C7,C7]
   ·exact (hx h).elim
def A3R{y:Nat}:∀{l:List (Nat×Option Bx)} {B:Nat->Option Bx},y∈O7 l->(y,F6 B l y)∈l
 | (i,b)::l,B,h=>by
  simp only[F6];by_cases hx:y∈O7 l
  ·exact zb _ (A3R hx)
  ·rw[Q0 hx];simp only[O7,yg,zi] at h;rcases h with rfl|h
   ·rw[C7]; exact za
   ·exact (hx h).elim
def C0E{crs:List CR}{rs:List RR}(i:Nat)(F:Fr)(x:Nat)(h:¬KF crs i x):stF crs rs i F x=F x:=by
 unfold stF;cases hc:crs[i]? with
 | none=>rfl
 | some c =>
  cases hr:rs[i]? with
  | none=>rfl
  | some r =>
   simp only[A24];cases hd:c.dst with
   | none=>rfl
   | some d=>exact B6 _ _ _ λe=>h ⟨c,hc,by rw[hd,e]⟩
def C3f{crs:List CR}{rs:List RR}(hl:crs.length=rs.length)(i:Nat)(F F':Fr)(x:Nat)(h:KF crs i x):stF crs rs i F x=stF crs rs i F' x:=by
 obtain⟨c,hc,hd⟩:=h;have hi:i<rs.length:=by rw[←hl]; exact (ze.1 hc).1
 unfold stF;simp only[hc,zc hi,A24,hd,C7]
def C3g{rs:List RR}(i:Nat)(B:Nat->Option Bx)(x:Nat)(h:¬KB rs i x):stB rs i B x=B x:=by
 unfold stB;cases hr:rs[i]? with
 | none=>rfl
 | some r=>exact Q0 λhx=>h ⟨r,hr,hx⟩
def C3h{rs:List RR}(i:Nat)(B B':Nat->Option Bx)(x:Nat)(h:KB rs i x):stB rs i B x=stB rs i B' x:=by
 obtain⟨r,hr,hx⟩:=h;unfold stB;simp only[hr];exact B1M hx
section
variable {P:Program} {base:Nat}
theorem A7T.len:∀{l:List CR} {rs:List RR} {j:Nat} {F:Fr} {B:Nat->Option Bx},A7T P base j l F B rs->l.length=rs.length
 | [],[],_,_,_,_=>rfl
 | [],_::_,_,_,_,h=>h.elim
 | _::_,[],_,_,_,h=>h.elim
 | _::_,_::_,_,_,_,h=>by simp[A7T.len h.2]
theorem A7T.get:∀{l:List CR} {rs:List RR} {j:Nat} {F:Fr} {B:Nat->Option Bx},A7T P base j l F B rs->∀(i:Nat) cr r,l[i]?=some cr->rs[i]?=some r->OpR P cr (base+1024*(j+i)) (runF (l.take i) (rs.take i) F) (A0V (rs.take i) B) r
 | [],_,_,_,_,_,i,cr,r,h,_=>by simp at h
 | _::_,[],_,_,_,h,_,_,_,_,_=>h.elim
 | c::l,r0::rs,j,F,B,h,i,cr,r,h1,h2=>by
  cases i with
  | zero =>
   simp at h1 h2;subst h1 h2;exact h.1
  | succ i =>
   have:=A7T.get h.2 i cr r (v_ h1) (v_ h2);simp only[tf,runF,A0V]
   rwa [show j+(i+1)=j+1+i by omega]
end
def A2J{crs:List CR}{rs:List RR}(hl:crs.length=rs.length):∀(m j:Nat) (F:Fr),j+m<=crs.length->runF ((crs.drop j).take m) ((rs.drop j).take m) F=D3 (stF crs rs) (λ_=>true) (List.range' j m) F
 | 0,_,_,_=>rfl
 | m+1,j,F,h=>by
  have e1:crs.drop j=crs[j]::crs.drop (j+1):=xg o_;have e2:rs.drop j=rs[j]::rs.drop (j+1):=xg o_;rw[e1,e2];simp only[tf,runF,vi,D3,if_true];rw[A2J hl m (j+1) _ o_];simp only[stF,zc (show j<crs.length by omega),zc (show j<rs.length by omega)]
def A2K{rs:List RR}:∀(m j:Nat) (B:Nat->Option Bx),j+m<=rs.length->A0V ((rs.drop j).take m) B=D3 (stB rs) (λ_=>true) (List.range' j m) B
 | 0,_,_,_=>rfl
 | m+1,j,B,h=>by
  have e2:rs.drop j=rs[j]::rs.drop (j+1):=xg o_;rw[e2];simp only[tf,A0V,vi,D3,if_true];rw[A2K m (j+1) _ o_];simp only[stB,zc (show j<rs.length by omega)]
section
variable {P:Program} {C:Cx P} {N:Nat} {D:List Deferred} {n0:Nat} {G0:Gh} {w0:World} {ops:Array Oper} {Q:Exit->Act->World->Prop}
theorem C0F{crs:List CR}{rs:List RR}{base p:Nat}{F0:Fr}{B0:Nat->Option Bx}(hn:n0<=base)(hl2:crs.length=rs.length)(hpl:p<=crs.length)(hps:p<=ops.size)(hcr:∀(i:Nat) o c,ops[i]?=some o->crs[i]?=some c->A0n P N ops o=some c)
  (hr:A7T P base 0 (crs.take p) F0 B0 (rs.take p)) (hac:∀(j:Nat) o,ops[j]?=some o->∀e∈o.after,Region.binds .any e=true->e.on<j)
  (hcf:∀(i j:Nat) x y r s,i<j->crs[i]?=some x->crs[j]?=some y->rs[i]?=some r->rs[j]?=some s->S8 ops i j\/(M7 x y=true/\V7 r s))
  (hK:p=ops.size->∀G a w,F9 C N D n0 G0 w0 (runF (crs.take p) (rs.take p) F0) (A0V (rs.take p) B0) (· < base+1024*ops.size) G a w->Q .normal a w)
  (hP:p<ops.size->(p<crs.length/\∀i,p<i->i<ops.size->S8 ops p i)/\∃pv,∀cr r,crs[p]?=some cr->rs[p]?=some r->OpP P cr (base+1024*p) (runF (crs.take p) (rs.take p) F0) (A0V (rs.take p) B0) pv r /\
   ∀L G a w u F U,F9 C N D n0 G0 w0 F (F6 (D3 (stB rs) L (List.range p) B0) r.wr) U G a w->RV G w pv u->Q (.panic [{ v:=u,recovered:=false }]) a w) :
  ∀(fuel:Nat) (listed:Array Bool) (G:Gh) (a:Act) (w:World),listed.size=ops.size->A8J ops (λi=>listed.getD i false)->(∀i,p<=i->listed.getD i false=false)->(List.range ops.size).countP (λi=>!listed.getD i false)<=fuel ->
   F9 C N D n0 G0 w0 (D3 (stF crs rs) (λi=>listed.getD i false) (List.range p) F0) (D3 (stB rs) (λi=>listed.getD i false) (List.range p) B0) (λid=>id<base\/∃i,listed.getD i false=true/\base+1024*i<=id/\id<base+1024*i+1024) G a w ->
   wpAny P .any ops Q fuel listed a w:=by
 have rF:∀j,j<=p->runF (crs.take j) (rs.take j) F0=D3 (stF crs rs) (λi=>decide (i<j)) (List.range p) F0:=λj hj=>by
  rw[A3Q hj];have:=A2J hl2 j 0 F0 o_;simpa using this
 have rB:∀j,j<=p->A0V (rs.take j) B0=D3 (stB rs) (λi=>decide (i<j)) (List.range p) B0:=λj hj=>by
  rw[A3Q hj];have:=A2K (rs:=rs) j 0 B0 o_;simpa using this
 have done:∀(listed:Array Bool) (G:Gh) (a:Act) (w:World),listed.size=ops.size->(∀i,p<=i->listed.getD i false=false)->Region.ready .any ops listed=[] ->
   F9 C N D n0 G0 w0 (D3 (stF crs rs) (λi=>listed.getD i false) (List.range p) F0) (D3 (stB rs) (λi=>listed.getD i false) (List.range p) B0) (λid=>id<base\/∃i,listed.getD i false=true/\base+1024*i<=id/\id<base+1024*i+1024) G a w->Q .normal a w:=by
  intro listed G a w hsz hlow hrd hd;have all:∀j,j<ops.size->listed.getD j false=true:=λj=>by
   induction j using Nat.strongRecOn with
   | _ j ih =>
    intro hj;cases hlj:listed.getD j false with
    | true=>rfl
    | false =>
     obtain⟨o,ho⟩:∃o,ops[j]?=some o:=⟨_,yb hj⟩;have:j∈Region.ready .any ops listed:=mem_ready.2 ⟨by
      rw[zl,yb o_] at hlj ⊢;exact hlj,o,ho,λe he hb=>ih e.on (hac j o ho e he hb) (Nat.lt_trans (hac j o ho e he hb) hj)⟩
     rw[hrd] at this; cases this
  have hpe:p=ops.size:=by
   rcases yd p ops.size with h|h
   ·have:=all p h; rw[hlow p (zx _)] at this; cases this
   ·omega
  refine hK hpe G a w ?_;have cg:∀i∈List.range p,listed.getD i false=decide (i<p):=λi hi=>by
   rw[all i (ui (v_ hi) hps)]; symm; simpa using hi
  rw[X8 cg,X8 cg,←rF p (zx _),←rB p (zx _)] at hd;refine hd.weak λid h=>?_;rcases h with h|⟨i,hi,h1,h2⟩
  ·omega
  ·have:i<ops.size:=by
    rw[←hsz];rcases yd i listed.size with h|h
    ·exact h
    ·rw[zl,wx h] at hi; cases hi
   omega
 intro fuel;induction fuel with
 | zero =>
  intro listed G a w hsz hcl hlow hct hd;have hrd:Region.ready .any ops listed=[]:=by
   cases hrd:Region.ready .any ops listed with
   | nil=>rfl
   | cons j l =>
    obtain⟨h0,o,ho,_⟩:=mem_ready.1 (show j∈Region.ready .any ops listed by rw[hrd]; simp);have hj:j<ops.size:=(xj.1 ho).1;have h1:listed.getD j false=false:=by
     rw[zl,yb o_] at h0 ⊢;exact h0
    have:0<(List.range ops.size).countP (λi=>!listed.getD i false):=List.countP_pos_iff.2 ⟨j,v_ hj,by rw[h1]; rfl⟩;omega
  exact⟨hrd,done listed G a w hsz hlow hrd hd⟩
 | succ fuel ih =>
  intro listed G a w hsz hcl hlow hct hd;refine⟨λhrd=>done listed G a w hsz hlow hrd hd,λj hj=>?_⟩;obtain⟨h0,o,ho,hed⟩:=mem_ready.1 hj;have hjn:j<ops.size:=(xj.1 ho).1;have hDj:listed.getD j false=false:=by
   rw[zl,yb o_] at h0 ⊢;exact h0
  have ahead:∀i,S8 ops i j->listed.getD i false=true:=λi hb=>A5L hcl hb λo' ho' e he hbd=>by
   rw[ho] at ho'; injection ho' with ho'; subst ho'; exact hed e he hbd
  have behind:∀i,S8 ops j i->listed.getD i false=false:=λi hb=>by
   cases h:listed.getD i false with
   | false=>rfl
   | true=>have:=hcl.before hb h; rw[hDj] at this; cases this
  have hjp:j<=p:=by
   rcases yd p j with h|h
   ·have:=ahead p ((hP o_).1.2 j h hjn);rw[hlow p (zx _)] at this; cases this
   ·exact h
  have hjl:j<crs.length:=by
   rcases yd j p with h|h
   ·omega
   ·have:=(hP o_).1.1; omega
  obtain⟨cr,hc1⟩:∃c,crs[j]?=some c:=⟨_,zc hjl⟩;have hc2:=hcr j o cr ho hc1;have hrj:rs[j]?=some rs[j]:=zc o_;generalize rs[j]=r at hrj;have slots:∀x∈cr.looks,D3 (stF crs rs) (λi=>decide (i<j)) (List.range p) F0 x=D3 (stF crs rs) (λi=>listed.getD i false) (List.range p) F0 x:=λx hx =>
   q8 C0E (C3f hl2) (λi hi ⟨c,hc,hdst⟩=>by
    have hin:i<p:=(v_ hi);rcases ut i j with h|h|h
    ·rcases hcf i j c cr _ r h hc hc1 (zc o_) hrj with hb|⟨hs,_⟩
     ·rw[ahead i hb]; simpa using h
     ·simp only[M7,hdst,yk,wy,ux,decide_eq_false_iff_not] at hs;exact (hs.1.1 hx).elim
    ·subst h; rw[hDj]; simp
    ·rcases hcf j i cr c r _ h hc1 hc hrj (zc o_) with hb|⟨hs,_⟩
     ·rw[behind i hb]; simp; omega
     ·simp only[M7,hdst,yk,wy,ux,decide_eq_false_iff_not] at hs;exact (hs.2 hx).elim) rfl
  have boxes:K8 (D3 (stB rs) (λi=>decide (i<j)) (List.range p) B0) r.rd->K8 (D3 (stB rs) (λi=>listed.getD i false) (List.range p) B0) r.rd:=λhh q hq=>by
   rw[←hh q hq];refine (q8 C3g C3h (λi hi ⟨s,hs,hx⟩=>?_) rfl).symm;have hin:i<p:=(v_ hi);have hqr:q.1∈U7 r.rd:=zw.2 ⟨q,hq,rfl⟩;rcases ut i j with h|h|h
   ·rcases hcf i j _ cr s r h (zc o_) hc1 hs hrj with hb|⟨_,ha⟩
    ·rw[ahead i hb]; simpa using h
    ·exact (U2.1 ha.1 _ hx hqr).elim
   ·subst h; rw[hDj]; simp
   ·rcases hcf j i cr _ r s h hc1 (zc o_) hrj hs with hb|⟨_,ha⟩
    ·rw[behind i hb]; simp; omega
    ·exact (U2.1 ha.2.2 _ hx hqr).elim
  have hU:∀x,base+1024*j<=x->x<base+1024*j+1024->¬G.used x:=λx hx1 hx2 h=>by
   rcases hd.used _ h with h|⟨i,hi,h,h'⟩
   ·omega
   ·have:i=j:=by omega
    subst this; rw[hDj] at hi; cases hi
  have hnb:∀x,base+1024*ops.size<=x->¬G.used x:=λx hx h=>by
   rcases hd.used _ h with h|⟨i,hi,h,h'⟩
   ·omega
   ·have:i<ops.size:=by
     rw[←hsz];rcases yd i listed.size with h|h
     ·exact h
     ·rw[zl,wx h] at hi; cases hi
    omega
  rcases yd j p with hlt|hge
  case inr =>
   have hje:j=p:=o_;subst hje;obtain⟨_,pv,hpv⟩:=hP hjn;obtain⟨hop,hQ⟩:=hpv cr r hc1 hrj;rw[rF j (zx _),rB j (zx _)] at hop;have hop':=hop.local (λn hn=>slots n (by simp[CR.looks,hn])) (λn hn=>slots n (by simp[CR.looks,hn])) (λs want hg=>slots s (by simp[CR.looks,hg])) (boxes hop.has);exact B6V hd ho hc2 hop' hU o_ hnb λG' u w' hd' hv=>hQ _ G' a w' u _ _ hd' hv
  case inl =>
  have hop:=hr.get j cr r (by rw[vg hlt]; exact hc1) (by rw[vg hlt]; exact hrj);rw[yy,sb,sb,uk o_,rF j o_,rB j o_] at hop;have hop':=hop.local (λn hn=>slots n (by simp[CR.looks,hn])) (λn hn=>slots n (by simp[CR.looks,hn])) (λs want hg=>slots s (by simp[CR.looks,hg])) λhrc=>boxes (hop.2.2.1 hrc).has;refine B03 hd ho hc2 hop' hU o_ hnb λG' u w' hd'=>?_;have hget:∀i,(listed.setIfInBounds j true).getD i false=(if i=j then true else listed.getD i false):=λi=>by
   rw[zl,vj];by_cases hij:j=i
   ·subst hij; simp[show j<listed.size by omega]
   ·rw[zf hij,zf (λh=>hij h.symm),zl]
  have hsp:=A0U j p hlt;have hnl:j∉List.range' (j+1) (p - j - 1):=λh=>by rw[xw] at h; omega
  have eF:A24 (D3 (stF crs rs) (λi=>listed.getD i false) (List.range p) F0) cr.dst r=D3 (stF crs rs) (λi=>(listed.setIfInBounds j true).getD i false) (List.range p) F0:=by
   have:A24 (D3 (stF crs rs) (λi=>listed.getD i false) (List.range p) F0) cr.dst r=stF crs rs j (D3 (stF crs rs) (λi=>listed.getD i false) (List.range p) F0):=by
    simp only[stF,hc1,hrj]
   rw[this,hsp];refine A47 C0E (C3f hl2) (by rw[hget,zj rfl]) (λi hi=>by simp only[hget,zf hi]) hnl λi hi hD x ⟨c,hc,hx⟩ ⟨c',hc',hx'⟩=>?_;rw[xw] at hi;rw[hc1] at hc; injection hc with hc; subst hc
   rcases hcf j i cr c' r _ o_ hc1 hc' hrj (zc (by have:=(ze.1 hc').1; omega)) with hb|⟨hs,_⟩
   ·rw[behind i hb] at hD; cases hD
   ·simp[M7,hx,hx'] at hs
  have eB:F6 (D3 (stB rs) (λi=>listed.getD i false) (List.range p) B0) r.wr=D3 (stB rs) (λi=>(listed.setIfInBounds j true).getD i false) (List.range p) B0:=by
   have:F6 (D3 (stB rs) (λi=>listed.getD i false) (List.range p) B0) r.wr=stB rs j (D3 (stB rs) (λi=>listed.getD i false) (List.range p) B0):=by
    simp only[stB,hrj]
   rw[this,hsp];refine A47 C3g C3h (by rw[hget,zj rfl]) (λi hi=>by simp only[hget,zf hi]) hnl λi hi hD x ⟨s,hs,hx⟩ ⟨s',hs',hx'⟩=>?_;rw[xw] at hi;rw[hrj] at hs; injection hs with hs; subst hs
   rcases hcf j i cr _ r s' o_ hc1 (zc (by have:=(ze.1 hs').1; omega)) hrj hs' with hb|⟨_,ha⟩
   ·rw[behind i hb] at hD; cases hD
   ·exact U2.1 ha.2.1 _ hx hx'
  rw[eF,eB] at hd';refine ih (listed.setIfInBounds j true) G' _ w' (t_ hsz) (λk ok hk hDk e he hb=>?_) (λi hi=>by rw[hget,zf o_]; exact hlow i hi) ?_ (hd'.weak λid h=>?_)
  ·simp only[hget] at hDk ⊢;by_cases hkj:k=j
   ·subst hkj;rw[ho] at hk; injection hk with hk; subst hk
    split
    ·rfl
    ·exact hed e he hb
   ·rw[zf hkj] at hDk;split
    ·rfl
    ·exact hcl k ok hk hDk e he hb
  ·rw[A0U j ops.size hjn] at hct ⊢;simp only[tu,sm,hDj,qk,if_true] at hct;have hnl:j∉List.range' (j+1) (ops.size - j - 1):=λh=>by rw[xw] at h; omega
   have c1:∀l:List Nat,j∉l->l.countP (λi=>!(listed.setIfInBounds j true).getD i false)=l.countP (λi=>!listed.getD i false):=λl hl=>List.countP_congr λi hi=>by
    have hij:i≠j:=λh=>hl (h▸hi);rw[hget,zf hij]
   simp only[tu,sm,hget j,if_true,qm,xm,if_false];rw[c1 _ s_,c1 _ hnl];omega
  ·rcases h with h|h
   ·rcases hd.used _ h with h|⟨i,hi,h⟩
    ·exact .inl h
    ·exact .inr ⟨i,by rw[hget]; split; rfl; exact hi,h⟩
   ·exact .inr ⟨j,by rw[hget,zj rfl],h⟩
theorem A4m{rs:List RR}{L:Nat->Bool}(y:Nat):∀{l:List Nat} {B:Nat->Option Bx},D3 (stB rs) L l B y=B y\/∃r∈rs,(y,D3 (stB rs) L l B y)∈r.wr
 | [],B=>.inl rfl
 | i::l,B=>by
  simp only[D3];rcases A4m y (l:=l) (B:=if L i=true then stB rs i B else B) with h|h
  ·rw[h];split
   ·unfold stB;cases hr:rs[i]? with
    | none=>exact .inl rfl
    | some r =>
     simp only;by_cases hk:y∈O7 r.wr
     ·exact .inr ⟨r,zg hr,A3R hk⟩
     ·exact .inl (Q0 hk)
   ·exact .inl rfl
  ·exact .inr h
end
mutual
def B2(S:Nat->Prop):AV->Prop
 | .ptr id _ _=>S id
 | .bsl id _ _=>S id
 | .cptr cs=>F4 S cs
 | .sl xs=>F4 S xs
 | .agg cs=>F4 S cs
 | .tup vs=>F4 S vs
 | .fn _ caps=>F4 S caps
 | .fnb _ caps=>F4 S caps
 | .iface _ v=>B2 S v
 | _=>True
def F4(S:Nat->Prop):List AV->Prop
 | []=>True
 | x::r=>B2 S x/\F4 S r
end
def K5{S:Nat->Prop}:∀{l:List AV},F4 S l↔∀(i:Nat) x,l[i]?=some x->B2 S x
 | []=>by simp[F4]
 | x::r=>by
  simp only[F4,K5 (l:=r)];constructor
  ·rintro⟨h1,h2⟩ i y hy;cases i with
   | zero=>simp at hy; subst hy; exact h1
   | succ i=>exact h2 i y (v_ hy)
  ·exactλh=>⟨h 0 x rfl,λi y hy=>h (i+1) y (v_ hy)⟩
mutual
def H7{S:Nat->Prop}:∀(x:AV),x.pureB=true->B2 S x
 | .ptr _ _ _,h=>by simp[AV.pureB] at h
 | .bsl _ _ _,h=>by simp[AV.pureB] at h
 | .cptr cs,h=>A4 cs (by simpa [AV.pureB] using h)
 | .sl xs,h=>A4 xs (by simpa [AV.pureB] using h)
 | .agg cs,h=>A4 cs (by simpa [AV.pureB] using h)
 | .tup vs,h=>A4 vs (by simpa [AV.pureB] using h)
 | .fn _ caps,h=>A4 caps (by simpa [AV.pureB] using h)
 | .fnb _ caps,h=>A4 caps (by simpa [AV.pureB] using h)
 | .iface _ v,h=>H7 v (by simpa [AV.pureB] using h)
 | .int _ _,_ | .bool _,_ | .str _,_ | .nilp,_ | .nils,_ | .nilf,_ | .nili,_=>trivial
def A4{S:Nat->Prop}:∀(l:List AV),F8 l=true->F4 S l
 | [],_=>trivial
 | x::r,h=>by
  simp only[F8,yk] at h;exact⟨H7 x h.1,A4 r h.2⟩
end
def RV.names{G:Gh}{w:World}{x:AV}{v:Value}(h:RV G w x v):B2 G.used x:=by
 induction h with
 | ptr id i off v ho hu hb=>exact hu
 | bsl id off len v ho hu hb hn=>exact hu
 | cptr cs a u h1 h2 h3 ih=>exact K5.2 ih
 | sl xs A c s u hc hm hn hs h1 h2 h3 ih =>
  refine K5.2 λi x hx=>?_;cases x with
  | agg cs=>exact K5.2 λj y hy=>ih i _ j y hx hy
  | _=>exact ih i _ 0 _ hx rfl
 | fn f caps vs hl h ih=>exact K5.2 ih
 | fnb f caps vs hl h ih=>exact K5.2 ih
 | iface t x v h ih=>exact ih
 | agg cs vs hl h ih=>exact K5.2 ih
 | tup cs vs hl h ih=>exact K5.2 ih
 | _=>trivial
mutual
def L7{S S':Nat->Prop}(hS:∀i,S i->S' i):∀(x:AV),B2 S x->B2 S' x
 | .ptr id _ _,h=>hS id h
 | .bsl id _ _,h=>hS id h
 | .cptr cs,h=>X9 hS cs h
 | .sl xs,h=>X9 hS xs h
 | .agg cs,h=>X9 hS cs h
 | .tup vs,h=>X9 hS vs h
 | .fn _ caps,h=>X9 hS caps h
 | .fnb _ caps,h=>X9 hS caps h
 | .iface _ v,h=>L7 hS v h
 | .int _ _,_ | .bool _,_ | .str _,_ | .nilp,_ | .nils,_ | .nilf,_ | .nili,_=>trivial
def X9{S S':Nat->Prop}(hS:∀i,S i->S' i):∀(l:List AV),F4 S l->F4 S' l
 | [],_=>trivial
 | x::r,h=>⟨L7 hS x h.1,X9 hS r h.2⟩
end
structure Rn where
 ρ:Nat->Option Nat
 inj:∀y y' x,ρ y=some x->ρ y'=some x->y=y'
def Rn.fix(R:Rn)(S:Nat->Prop)(x:Nat):Prop:=R.ρ x=some x\/(R.ρ x=none/\S x)
def Gh.ren(G:Gh)(R:Rn)(S:Nat->Prop):Gh:={ fz:=G.fz,used:=λy=>(∃x,R.ρ y=some x/\G.used x)\/S y,bm:=λy=>(R.ρ y).bind G.bm,nl:=λy=>∃x,R.ρ y=some x/\G.nl x }
def RV.fix{R:Rn}{S:Nat->Prop}{G:Gh}{w:World}{x:AV}{v:Value}(h:RV G w x v):B2 (R.fix S) x->RV (G.ren R S) w x v:=by
 induction h with
 | int k n=>intro _; exact .int k n
 | bool b=>intro _; exact .bool b
 | str s=>intro _; exact .str s
 | nilp=>intro _; exact .nilp
 | ptr id i off v ho hu hb =>
  intro hf;rcases (show R.fix S id from hf) with hf'|⟨hf',hS⟩
  ·exact .ptr id i off v ho (.inl ⟨id,hf',hu⟩) λb s hbs=>hb b s (by simpa [Gh.ren,hf'] using hbs)
  ·exact .ptr id i off v ho (.inr hS) λb s hbs=>by simp[Gh.ren,hf'] at hbs
 | cptr cs a u h1 h2 h3 ih=>intro hf; exact .cptr cs a u h1 h2 λj y hj=>ih j y hj (K5.1 hf j y hj)
 | nils=>intro _; exact .nils
 | sl xs A c s u hc hm hn hs h1 h2 h3 ih =>
  intro hf;refine .sl xs A c s u hc hm hn hs h1 h2 λi x j y hx hy=>ih i x j y hx hy ?_;have hx':=K5.1 hf i x hx;cases x with
  | agg cs=>exact K5.1 hx' j y hy
  | _ =>
   cases j with
   | zero=>simp[AV.cells] at hy; subst hy; exact hx'
   | succ j=>simp[AV.cells] at hy
 | bsl id off len v ho hu hb hn =>
  intro hf;rcases (show R.fix S id from hf) with hf'|⟨hf',hS⟩
  ·exact .bsl id off len v ho (.inl ⟨id,hf',hu⟩) (λb s hbs=>hb b s (by simpa [Gh.ren,hf'] using hbs)) λ⟨x,hx,hnl⟩=>hn (by rw[hf'] at hx; injection hx with hx; subst hx; exact hnl)
  ·exact .bsl id off len v ho (.inr hS) (λb s hbs=>by simp[Gh.ren,hf'] at hbs) λ⟨x,hx,hnl⟩=>by rw[hf'] at hx; cases hx
 | fn f caps vs hl h ih=>intro hf; exact .fn f caps vs hl λi y hy=>ih i y hy (K5.1 hf i y hy)
 | fnb f caps vs hl h ih=>intro hf; exact .fnb f caps vs hl λi y hy=>ih i y hy (K5.1 hf i y hy)
 | nilf=>intro _; exact .nilf
 | iface t x v h ih=>intro hf; exact .iface t x v (ih hf)
 | nili=>intro _; exact .nili
 | agg cs vs hl h ih=>intro hf; exact .agg cs vs hl λi y hy=>ih i y hy (K5.1 hf i y hy)
 | tup cs vs hl h ih=>intro hf; exact .tup cs vs hl λi y hy=>ih i y hy (K5.1 hf i y hy)
mutual
inductive O3(R:Rn)(S:Nat->Prop):AV->AV->Prop
 | same (v:AV) (h:B2 (R.fix S) v):O3 R S v v
 | ptr (a b i o:Nat) (h:R.ρ b=some a):O3 R S (.ptr a i o) (.ptr b i o)
 | bsl (a b o l:Nat) (h:R.ρ b=some a):O3 R S (.bsl a o l) (.bsl b o l)
 | nils:O3 R S .nils (.sl [])
 | agg (cs ds:List AV) (h:N8 R S cs ds):O3 R S (.agg cs) (.agg ds)
 | tup (cs ds:List AV) (h:N8 R S cs ds):O3 R S (.tup cs) (.tup ds)
 | fn (f:Nat) (cs ds:List AV) (h:N8 R S cs ds):O3 R S (.fn f cs) (.fn f ds)
 | fnb (f:Nat) (cs ds:List AV) (h:N8 R S cs ds):O3 R S (.fnb f cs) (.fnb f ds)
 | iface (t:Nat) (x y:AV) (h:O3 R S x y):O3 R S (.iface t x) (.iface t y)
inductive N8(R:Rn)(S:Nat->Prop):List AV->List AV->Prop
 | nil:N8 R S [] []
 | cons (x y:AV) (l r:List AV) (h:O3 R S x y) (hl:N8 R S l r):N8 R S (x::l) (y::r)
end
def N8.get{R:Rn}{S:Nat->Prop}:∀{l r:List AV},N8 R S l r->l.length=r.length/\∀(i:Nat) y,r[i]?=some y->∃x,l[i]?=some x/\O3 R S x y
 | [],[],_=>⟨rfl,λi y hy=>by simp at hy⟩
 | x::l,y::r,h=>by
  cases h with|cons _ _ _ _ h hl =>
  obtain⟨h1,h2⟩:=hl.get;refine⟨t_ h1,λi z hz=>?_⟩;cases i with
  | zero=>simp at hz; subst hz; exact⟨x,rfl,h⟩
  | succ i=>obtain⟨q,q1,q2⟩:=h2 i z (v_ hz); exact⟨q,v_ q1,q2⟩
 | [],_::_,h=>by cases h
 | _::_,[],h=>by cases h
def N8.same{R:Rn}{S:Nat->Prop}:∀{l:List AV},F4 (R.fix S) l->N8 R S l l
 | [],_=>.nil
 | x::r,h=>.cons x x r r (.same x h.1) (N8.same h.2)
mutual
def RV.ren{R:Rn}{S:Nat->Prop}{G:Gh}{w:World}:∀{x y:AV} {v:Value},O3 R S x y->RV G w x v->RV (G.ren R S) w y v
 | _,_,v,.same x hf,h=>h.fix hf
 | _,_,v,.ptr a b i o hr,h=>by
  cases h with|ptr _ _ _ _ ho hu hb=>exact .ptr b i o _ ho (.inl ⟨a,hr,hu⟩) λblk s hbs=>hb blk s (by simpa [Gh.ren,hr] using hbs)
 | _,_,v,.bsl a b o l hr,h=>by
  cases h with|bsl _ _ _ _ ho hu hb hn =>
  exact .bsl b o l _ ho (.inl ⟨a,hr,hu⟩) (λblk s hbs=>hb blk s (by simpa [Gh.ren,hr] using hbs)) λ⟨x,hx,hnl⟩=>hn (by rw[hr] at hx; injection hx with hx; subst hx; exact hnl)
 | _,_,v,.nils,h=>by
  cases h
  exact .sl [] none 0 0 (λ_ _=>undef) (zx _) (by simp[maxLen]) (λ_=>⟨rfl,rfl⟩) (λi x hi=>by simp at hi) (λa i x j y _ hi=>by simp at hi) (λa i x j y _ hi=>by simp at hi) (λi x j y hi=>by simp at hi)
 | _,_,v,.agg cs ds hr,h=>by
  cases h with|agg _ vs hl hh =>
  exact .agg ds vs (hr.get.1.symm.trans hl) (RV.renL hr (λi=>vs.getD i undef) hh)
 | _,_,v,.tup cs ds hr,h=>by
  cases h with|tup _ vs hl hh =>
  exact .tup ds vs (hr.get.1.symm.trans hl) (RV.renL hr (λi=>vs.getD i undef) hh)
 | _,_,v,.fn f cs ds hr,h=>by
  cases h with|fn _ _ vs hl hh =>
  exact .fn f ds vs (hr.get.1.symm.trans hl) (RV.renL hr (λi=>vs.getD i undef) hh)
 | _,_,v,.fnb f cs ds hr,h=>by
  cases h with|fnb _ _ vs hl hh =>
  exact .fnb f ds vs (hr.get.1.symm.trans hl) (RV.renL hr (λi=>vs.getD i undef) hh)
 | _,_,v,.iface t x y hr,h=>by
  cases h with|iface _ _ u hu=>exact .iface t y u (RV.ren hr hu)
def RV.renL{R:Rn}{S:Nat->Prop}{G:Gh}{w:World}:∀{l r:List AV},N8 R S l r->∀u:Nat->Value,(∀(i:Nat) x,l[i]?=some x->RV G w x (u i))->∀(i:Nat) y,r[i]?=some y->RV (G.ren R S) w y (u i)
 | _,_,.nil,u,_,i,y,hy=>by simp at hy
 | _,_,.cons x y l r h hl,u,hu,i,z,hz=>by
  cases i with
  | zero=>simp at hz; subst hz; exact RV.ren h (hu 0 x rfl)
  | succ i=>exact RV.renL hl (λi=>u (i+1)) (λi x hx=>hu (i+1) x (v_ hx)) i z (v_ hz)
end
def A9e{S:Nat->Prop}{x:AV}(h:B2 S x):F4 S x.cells:=by
 cases x<;>first|exact⟨h,trivial⟩|exact h
def O3.cells{R:Rn}{S:Nat->Prop}{x y:AV}(h:O3 R S x y):N8 R S x.cells y.cells:=by
 cases h with
 | same v h=>exact N8.same (A9e h)
 | ptr a b i o h=>exact .cons _ _ _ _ (.ptr a b i o h) .nil
 | bsl a b o l h=>exact .cons _ _ _ _ (.bsl a b o l h) .nil
 | nils=>exact .cons _ _ _ _ .nils .nil
 | agg cs ds h=>exact h
 | tup cs ds h=>exact .cons _ _ _ _ (.tup cs ds h) .nil
 | fn f cs ds h=>exact .cons _ _ _ _ (.fn f cs ds h) .nil
 | fnb f cs ds h=>exact .cons _ _ _ _ (.fnb f cs ds h) .nil
 | iface t x y h=>exact .cons _ _ _ _ (.iface t x y h) .nil
structure BxR(R:Rn)(S:Nat->Prop)(b b':Bx):Prop where
 xs:N8 R S b.xs b'.xs
 sz:b.sz=b'.sz
 ro:b.ro=b'.ro
 frz:b.frz=b'.frz
section
variable {P:Program} {C:Cx P} {G:Gh} {B B':Nat->Option Bx} {w:World} {R:Rn} {S:Nat->Prop}
theorem RS.ren(h:RS C G B w)(hB:∀y b',B' y=some b'->∃x b,R.ρ y=some x/\B x=some b/\BxR R S b b'):RS C (G.ren R S) B' w:=by
 have hnl:∀{y x},R.ρ y=some x->(G.ren R S).nl y->G.nl x:=λ{y x} hr ⟨x',hx,hn⟩=>by rw[hr] at hx; injection hx with hx; subst hx; exact hn
 refine⟨h.below,h.size,h.fzok,h.fzold,λy b' hy hn=>?_,λy b' hy hn=>?_,λy hn=>?_,λy b s hb=>?_,λy y' b s s' h1 h2=>?_,λy b s hb=>?_⟩
 ·obtain⟨x,b,hr,hb,⟨r1,r2,r3,r4⟩⟩:=hB y b' hy;obtain⟨blk,s,cur,e,h1,h2,h3,⟨h4,h5⟩,h6,h7,h8⟩:=h.box x b hb λhx=>hn ⟨x,hr,hx⟩;obtain⟨l1,l2⟩:=r1.get;refine⟨blk,s,cur,e,by simpa [Gh.ren,hr] using h1,h2,λhro=>h3 (r3.trans hro),⟨r2.symm.trans h4,by rw[←l1]; exact h5⟩,λi v' hv'=>?_,λhf=>h7 (r4.trans hf),by rw[←l1]; exact h8⟩;obtain⟨v,hv,hvr⟩:=l2 i v' hv';obtain⟨k1,k2⟩:=h6 i v hv;obtain⟨c1,c2⟩:=hvr.cells.get;refine⟨c1.symm.trans k1,λj z hz=>?_⟩;obtain⟨z0,hz0,hzr⟩:=c2 j z hz;obtain⟨u,hu,hrv⟩:=k2 j z0 hz0;exact⟨u,hu,hrv.ren hzr⟩
 ·obtain⟨x,b,hr,hb,⟨r1,r2,r3,r4⟩⟩:=hB y b' hy;obtain⟨k1,k2⟩:=h.nil x b hb (hnl hr hn);refine⟨?_,r3.symm.trans k2⟩;have:=r1.get.1;rw[k1] at this;exact wq this.symm
 ·obtain⟨x,hr,hx⟩:=hn;exact⟨.inl ⟨x,hr,(h.nlu x hx).1⟩,by simp[Gh.ren,hr,(h.nlu x hx).2]⟩
 ·simp only[Gh.ren,uf] at hb;obtain⟨x,hr,hx⟩:=hb;exact .inl ⟨x,hr,h.used x b s hx⟩
 ·simp only[Gh.ren,uf] at h1 h2;obtain⟨x,hr,hx⟩:=h1;obtain⟨x',hr',hx'⟩:=h2;have:=h.inj x x' b s s' hx hx';subst this;exact R.inj y y' x hr hr'
 ·simp only[Gh.ren,uf] at hb;obtain⟨x,hr,hx⟩:=hb;exact h.rows x b s hx
theorem L4.ren{G0:Gh}{w0:World}(e:L4 G0 w0 G w)(hf:∀x,G0.used x->R.ρ x=some x\/R.ρ x=none):L4 G0 w0 (G.ren R G0.used) w:=by
 refine⟨e.fz,e.cell,λx hx=>.inr hx,λx hx=>?_,λx hx ⟨x',hr,hn⟩=>?_,λx b s hx hb=>?_⟩
 ·rcases hf x hx with h|h
  ·simp only[Gh.ren,h,td];exact e.bm x hx
  ·exact .inr (by simp only[Gh.ren,h,Option.bind_none])
 ·rcases hf x hx with h|h
  ·rw[h] at hr; injection hr with hr; subst hr; exact e.nl x hx hn
  ·rw[h] at hr; cases hr
 ·rcases hf x hx with h|h
  ·simp only[Gh.ren,h,td] at hb;exact e.row x b s hx hb
  ·simp only[Gh.ren,h,Option.bind_none] at hb; cases hb
def lkN:List (Nat×Nat)->Nat->Option Nat
 | [],_=>none
 | (a,b)::l,y=>if y=a then some b else lkN l y
def T7:List (Nat×Nat)->Nat->Bool
 | [],_=>false
 | (_,b)::l,y=>if y=b then true else T7 l y
def F7:List (Nat×Nat)->Prop
 | []=>True
 | (_,b)::l=>T7 l b=false/\F7 l
def rnF(n0:Nat)(l:List (Nat×Nat))(y:Nat):Option Nat:=match lkN l y with
 | some x=>some x
 | none=>if y<n0 then (if T7 l y=true then none else some y) else none
theorem A0y:∀{l:List (Nat×Nat)} {a b:Nat},lkN l a=some b->(a,b)∈l
 | [],_,_,h=>by cases h
 | (c,d)::l,a,b,h=>by
  simp only[lkN] at h;split at h
  ·rename_i e; injection h with h; subst e h; simp
  ·exact zb _ (A0y h)
theorem A49:∀{l:List (Nat×Nat)} {b:Nat},T7 l b=true↔∃a,(a,b)∈l
 | [],b=>by simp[T7]
 | (c,d)::l,b=>by
  simp only[T7];split
  ·rename_i e; subst e; simp
  ·rename_i e;rw[A49 (l:=l)];constructor
   ·rintro⟨a,h⟩; exact⟨a,zb _ h⟩
   ·rintro⟨a,h⟩;rcases zi.1 h with h|h
    ·injection h with _ h; exact (e h).elim
    ·exact⟨a,h⟩
theorem B3I:∀{l:List (Nat×Nat)},F7 l->∀a a' b,lkN l a=some b->lkN l a'=some b->a=a'
 | [],_,a,a',b,h,_=>by cases h
 | (c,d)::l,hl,a,a',b,h,h'=>by
  have one:∀x,lkN ((c,d)::l) x=some b->(x=c/\b=d)\/(x≠c/\lkN l x=some b):=λx hx=>by
   simp only[lkN] at hx;split at hx
   ·rename_i e; injection hx with hx; exact .inl ⟨e,hx.symm⟩
   ·rename_i e; exact .inr ⟨e,hx⟩
  have out:∀x,lkN l x=some d->False:=λx hx=>by
   have:=A49.2 ⟨x,A0y hx⟩;rw[hl.1] at this; cases this
  rcases one a h with⟨rfl,rfl⟩|⟨_,q⟩<;>rcases one a' h' with⟨rfl,e⟩|⟨_,q'⟩
  ·rfl
  ·exact (out a' q').elim
  ·exact (out a (e▸q)).elim
  ·exact B3I hl.2 a a' b q q'
def P2(n0:Nat)(l:List (Nat×Nat))(h:F7 l):Rn:=⟨rnF n0 l,λy y' x h1 h2=>by
 unfold rnF at h1 h2;cases e1:lkN l y with
 | some a =>
  rw[e1] at h1;injection h1 with h1
  subst h1;cases e2:lkN l y' with
  | some b=>rw[e2] at h2; injection h2 with h2; subst h2; exact B3I h y y' _ e1 e2
  | none =>
   rw[e2] at h2;simp only at h2;split at h2
   ·split at h2
    ·cases h2
    ·rename_i hg; injection h2 with h2; subst h2; exact (hg (A49.2 ⟨y,A0y e1⟩)).elim
   ·cases h2
 | none =>
  rw[e1] at h1;simp only at h1;split at h1
  ·split at h1
   ·cases h1
   ·rename_i hg;injection h1 with h1
    subst h1;cases e2:lkN l y' with
    | some b=>rw[e2] at h2; injection h2 with h2; subst h2; exact (hg (A49.2 ⟨y',A0y e2⟩)).elim
    | none =>
     rw[e2] at h2;simp only at h2;split at h2
     ·split at h2
      ·cases h2
      ·injection h2 with h2; exact h2.symm
     ·cases h2
  ·cases h1⟩
theorem A4A{n0:Nat}{l:List (Nat×Nat)}{y:Nat}(h:lkN l y=none):rnF n0 l y=none\/rnF n0 l y=some y:=by
 unfold rnF;rw[h];simp only;split
 ·split
  ·exact .inl rfl
  ·exact .inr rfl
 ·exact .inl rfl
end
inductive CC where
 | skip
 | reg (draw:Bool) (crs:List CR) (ps:List (Nat×Nat))
 | seq (a b:CC)
 | cond (c:L5) (a b:CC)
 | block (id:Nat) (c:CC)
 | loop (c:CC)
 | exit (id:Nat)
 | ret
 | bad
 deriving Inhabited
def r9(P:Program)(N:Nat)(ops:Array Oper)(draw:Bool):CC:=match B3H P N ops ops.toList with
 | none=>.bad
 | some crs=>match draw with
  | false=>.reg false crs []
  | true=>if B59 ops crs (A48 (A9d ops.toList []) ops.size)&&P.follows .mixedOrders then .reg true crs (C0D crs (A48 (A9d ops.toList []) ops.size)) else .bad
def C9(P:Program)(N:Nat):Code->CC
 | .skip=>.skip
 | .label _=>.skip
 | .region _ ops draw=>r9 P N ops draw
 | .seq a b=>.seq (C9 P N a) (C9 P N b)
 | .cond c a b=>match opd c with
  | some c=>.cond c (C9 P N a) (C9 P N b)
  | none=>.bad
 | .block id c=>.block id (C9 P N c)
 | .loop c=>.loop (C9 P N c)
 | .exit id=>.exit id
 | .ret=>.ret
 | _=>.bad
structure St where
 fr:List (Nat×Bool×AV)
 bx:List (Nat×Option Bx)
 k:Nat
def lk:List (Nat×Bool×AV)->Nat->Option (Bool×AV)
 | [],_=>none
 | (m,e)::r,n=>if n=m then some e else lk r n
def bk:List (Nat×Option Bx)->Nat->Option Bx
 | [],_=>none
 | (m,b)::r,n=>if n=m then b else bk r n
def ov(β:Nat->Option Bx):List (Nat×Option Bx)->Nat->Option Bx
 | []=>β
 | (m,b)::r=>T6 (ov β r) m b
def t7(l:List (Nat×Option Bx)):List (Nat×Option Bx)->List (Nat×Option Bx)
 | []=>l
 | q::r=>t7 (q::l) r
def B1N(fr:List (Nat×Bool×AV))(dst:Option Nat)(c:Bool)(v:AV):List (Nat×Bool×AV):=match dst with
 | some d=>(d,c,v)::fr
 | none=>fr
def St.app(σ:St)(dst:Option Nat)(r:RR):St:=⟨B1N σ.fr dst r.c r.v,t7 σ.bx r.wr,σ.k⟩
def St.apps:List CR->List RR->St->St
 | cr::l,r::rs,σ=>St.apps l rs (σ.app cr.dst r)
 | _,_,σ=>σ
def St.bump(σ:St)(n:Nat):St:=⟨σ.fr,σ.bx,σ.k+n⟩
structure O8 where
 P:Program
 C:Cx P
 β:Nat->Option Bx
 N:Nat
 n0:Nat
 G0:Gh
 w0:World
 own:∀id,n0<=id->β id=none
 old:∀id,G0.used id->id<n0
 rs0:RS C G0 β w0
 D:List Deferred
 Rt:St->Prop
 Pn:AV->St->Prop
def Q5(E:O8)(σ:St)(G:Gh)(a:Act)(w:World):Prop:=F9 E.C E.N E.D E.n0 E.G0 E.w0 (lk σ.fr) (ov E.β σ.bx) (· < E.n0+σ.k) G a w
def A06(P:Program)(base:Nat):Nat->List CR->St->List RR->Prop
 | _,[],_,[]=>True
 | j,cr::l,σ,r::rs=>OpR P cr (base+1024*j) (lk σ.fr) (bk σ.bx) r/\A06 P base (j+1) l (σ.app cr.dst r) rs
 | _,_,_,_=>False
def APn(P:Program)(base:Nat)(pv:AV)(r:RR):Nat->List CR->St->List RR->Prop
 | j,cr::_,σ,[]=>OpP P cr (base+1024*j) (lk σ.fr) (bk σ.bx) pv r
 | j,cr::l,σ,r0::rs=>OpR P cr (base+1024*j) (lk σ.fr) (bk σ.bx) r0/\APn P base pv r (j+1) l (σ.app cr.dst r0) rs
 | _,[],_,_=>False
def A8L(rs:List RR)(p:Nat):List (Nat×Nat)->Prop
 | []=>True
 | q::l=>(if q.2<=p then V7 (A1f rs q.1) (A1f rs q.2) else q.1≠p)/\A8L rs p l
def A8M{rs:List RR}{p:Nat}:∀{ps:List (Nat×Nat)},A8L rs p ps->∀q∈ps,(q.2<=p->V7 (A1f rs q.1) (A1f rs q.2))/\(p<q.2->q.1≠p)
 | [],_,q,hq=>by cases hq
 | x::l,h,q,hq=>by
  rcases zi.1 hq with rfl|hq
  ·have h1:=h.1;split at h1
   ·exact⟨λ_=>h1,λh=>o_⟩
   ·exact⟨λh=>o_,λ_=>h1⟩
  ·exact A8M h.2 q hq
def B6X(β:Nat->Option Bx)(l:List (Nat×Option Bx))(B:Nat->Option Bx):Prop:=∀y,B y=β y\/(y,B y)∈l
inductive Itm where
 | code (c:CC)
 | blk (id:Nat)
 | post (p:St->Prop)
 | ops (crs:List CR) (j:Nat) (acc:List RR) (ps:List (Nat×Nat))
def A9f(E:O8)(K:St->Prop)(X:Nat->St->Prop):Exit->Act->World->Prop
 | .normal,a,w=>∃σ G,Q5 E σ G a w/\K σ
 | .exit id,a,w=>∃σ G,Q5 E σ G a w/\X id σ
 | .ret,a,w=>∃σ G,Q5 E σ G a w/\E.Rt σ
 | .panic chain,a,w=>∃pv u σ F B U G,chain=[{ v:=u,recovered:=false }]/\F9 E.C E.N E.D E.n0 E.G0 E.w0 F B U G a w/\B6X E.β σ.bx B/\RV G w pv u/\E.Pn pv σ
 | _,_,_=>False
def WW(E:O8):List Itm->(St->Prop)×(Nat->St->Prop)
 | []=>(E.Rt,λ_ _=>False)
 | .blk id::k=>((WW E k).1,λid' σ=>if id'=id then (WW E k).1 σ else (WW E k).2 id' σ)
 | .post p::k=>(p,(WW E k).2)
 | .code cc::k=>(λσ=>∀c,C9 E.P E.N c=cc->∀G a w,Q5 E σ G a w->c.wp E.P (A9f E (WW E k).1 (WW E k).2) a w,(WW E k).2)
 | .ops crs j acc ps::k=>(λσ=>(∃rs,A06 E.P (E.n0+σ.k) j crs σ rs/\A8K (acc.reverse++rs) ps/\(WW E k).1 ((σ.apps crs rs).bump (1024*(j+crs.length))))\/∃rs pv r,APn E.P (E.n0+σ.k) pv r j crs σ rs/\A8L (acc.reverse++rs++[r]) (j+rs.length) ps/\E.Pn pv ((σ.apps crs rs).app none r),(WW E k).2)
def Wk(E:O8)(k:List Itm)(σ:St):Prop:=(WW E k).1 σ
def Wx(E:O8)(id:Nat)(k:List Itm)(σ:St):Prop:=(WW E k).2 id σ
section
variable {E:O8} {σ:St} {k:List Itm}
theorem B5A(fr:List (Nat×Bool×AV))(dst:Option Nat)(r:RR):lk (B1N fr dst r.c r.v)=A24 (lk fr) dst r:=by
 cases dst with
 | none=>rfl
 | some d=>funext n; simp only[B1N,lk,A24,T6]
theorem A4B(β:Nat->Option Bx):∀(wr l:List (Nat×Option Bx)),ov β (t7 l wr)=F6 (ov β l) wr
 | [],_=>rfl
 | (i,b)::r,l=>A4B β r ((i,b)::l)
theorem P5(β:Nat->Option Bx):∀{l:List (Nat×Option Bx)} {n:Nat} {b:Bx},bk l n=some b->ov β l n=some b
 | [],n,b,h=>by cases h
 | (m,x)::r,n,b,h=>by
  simp only[bk] at h;by_cases hn:n=m
  ·subst hn;rw[zj rfl] at h;simp only[ov,C7]; exact h
  ·rw[zf hn] at h;simp only[ov,B6 _ _ _ hn]; exact P5 β h
theorem K8.ov{l:List (Nat×Option Bx)}{rd:List (Nat×Bx)}(h:K8 (bk l) rd)(β:Nat->Option Bx):K8 (Am.ov β l) rd:=λq hq=>P5 β (h q hq)
theorem OpR.ov{P:Program}{cr:CR}{id:Nat}{F:Fr}{l:List (Nat×Option Bx)}{r:RR}(h:OpR P cr id F (bk l) r)(β:Nat->Option Bx):OpR P cr id F (Am.ov β l) r :=
 h.local (λ_ _=>rfl) (λ_ _=>rfl) (λ_ _ _=>rfl) λhc=>((h.2.2.1 hc).has).ov β
theorem A06.runs{P:Program}{base:Nat}(β:Nat->Option Bx):∀{l:List CR} {j:Nat} {σ:St} {rs:List RR},A06 P base j l σ rs->A7T P base j l (lk σ.fr) (ov β σ.bx) rs/\runF l rs (lk σ.fr)=lk (σ.apps l rs).fr/\A0V rs (ov β σ.bx)=ov β (σ.apps l rs).bx/\(σ.apps l rs).k=σ.k
 | [],_,_,[],_=>⟨trivial,rfl,rfl,rfl⟩
 | [],_,_,_::_,h=>h.elim
 | _::_,_,_,[],h=>h.elim
 | cr::l,j,σ,r::rs,h=>by
  obtain⟨h1,h2⟩:=h;obtain⟨k1,k2,k3,k4⟩:=A06.runs β h2;simp only[St.app,B5A,A4B] at k1 k2 k3;exact⟨⟨h1.ov β,k1⟩,k2,k3,k4⟩
theorem OpP.ov{P:Program}{cr:CR}{id:Nat}{F:Fr}{l:List (Nat×Option Bx)}{pv:AV}{r:RR}(h:OpP P cr id F (bk l) pv r)(β:Nat->Option Bx):OpP P cr id F (Am.ov β l) pv r :=
 h.local (λ_ _=>rfl) (λ_ _=>rfl) (λ_ _ _=>rfl) (h.has.ov β)
theorem OpP.mayW{P:Program}{cr:CR}{id:Nat}{F:Fr}{B:Nat->Option Bx}{pv:AV}{r:RR}(h:OpP P cr id F B pv r):cr.op.mayW=true:=by
 obtain⟨dst,g,us,op⟩:=cr;cases h.2.2<;>rfl
theorem APn.runs{P:Program}{base:Nat}(β:Nat->Option Bx){pv:AV}{r:RR}:∀{rs:List RR} {l:List CR} {j:Nat} {σ:St},APn P base pv r j l σ rs->B6W P base pv r j l (lk σ.fr) (ov β σ.bx) rs/\A7T P base j (l.take rs.length) (lk σ.fr) (ov β σ.bx) rs /\
  A0V rs (ov β σ.bx)=ov β (σ.apps l rs).bx/\∃cr,l[rs.length]?=some cr/\OpP P cr (base+1024*(j+rs.length)) (runF (l.take rs.length) rs (lk σ.fr)) (A0V rs (ov β σ.bx)) pv r
 | [],[],_,_,h=>h.elim
 | _::_,[],_,_,h=>h.elim
 | [],cr::l,j,σ,h=>⟨OpP.ov h β,trivial,rfl,cr,rfl,OpP.ov h β⟩
 | r0::rs,cr::l,j,σ,h=>by
  obtain⟨h1,h2⟩:=h;obtain⟨k1,k2,k3,c,k4,k5⟩:=APn.runs β h2;simp only[St.app,B5A,A4B] at k1 k2 k3 k5;refine⟨⟨h1.ov β,k1⟩,⟨h1.ov β,k2⟩,k3,c,v_ k4,?_⟩;simp only[zt,tf,runF,A0V];rw[show j+(rs.length+1)=j+1+rs.length by omega];exact k5
theorem A1Q{q:Nat×Option Bx}:∀{r l:List (Nat×Option Bx)},q∈t7 l r↔q∈l\/q∈r
 | [],l=>by simp[t7]
 | x::r,l=>by
  simp only[t7];rw[A1Q,zi,zi];constructor
  ·rintro ((h|h)|h)
   ·exact .inr (.inl h)
   ·exact .inl h
   ·exact .inr (.inr h)
  ·rintro (h|h|h)
   ·exact .inl (.inr h)
   ·exact .inl (.inl h)
   ·exact .inr h
theorem A0W{q:Nat×Option Bx}:∀{rs:List RR} {l:List CR} {σ:St},rs.length<=l.length->(q∈σ.bx\/∃r∈rs,q∈r.wr)->q∈(σ.apps l rs).bx
 | [],[],σ,_,h=>by rcases h with h|⟨r,hr,_⟩; exact h; cases hr
 | [],_::_,σ,_,h=>by rcases h with h|⟨r,hr,_⟩; exact h; cases hr
 | _::_,[],_,hl,_=>by simp at hl
 | r0::rs,cr::l,σ,hl,h=>by
  refine A0W (l:=l) (σ:=σ.app cr.dst r0) (v_ hl) ?_;rcases h with h|⟨r,hr,h⟩
  ·exact .inl (A1Q.2 (.inl h))
  ·rcases zi.1 hr with rfl|hr
   ·exact .inl (A1Q.2 (.inr h))
   ·exact .inr ⟨r,hr,h⟩
theorem A7j{β:Nat->Option Bx}(y:Nat):∀(l:List (Nat×Option Bx)),ov β l y=β y\/(y,ov β l y)∈l
 | []=>.inl rfl
 | (m,b)::l=>by
  by_cases h:y=m
  ·subst h; right; simp only[ov,C7]; exact za
  ·simp only[ov,B6 _ _ _ h];exact (A7j y l).imp id λh=>zb _ h
theorem A3S{ops:Array Oper}{crs:List CR}{ps:List (Nat×Nat)}(h:B59 ops crs ps=true):
  (∀(j:Nat) o,ops[j]?=some o->∀e∈o.after,Region.binds .any e=true->e.on<j)/\∀i j,(i,j)∈ps->∀x y,crs[i]?=some x->crs[j]?=some y->M7 x y=true:=by
 simp only[B59,yk] at h;obtain⟨h1,h2⟩:=h;refine⟨λj o ho e he hb=>?_,λi j hp x y hx hy=>?_⟩
 ·have:=xe.1 h1 (o,j) (by
   rw[List.mem_zipIdx_iff_getElem?];simpa using ho)
  have:=xe.1 this e.on (A75.2 ⟨e,he,hb,rfl⟩);simpa using this
 ·have:=xe.1 h2 (i,j) hp;simpa only[hx,hy] using this
theorem B89{id:Nat}{ops:Array Oper}{draw:Bool}{crs:List CR}{ps:List (Nat×Nat)}(hc:r9 E.P E.N ops draw = .reg draw crs ps){rs:List RR}(hr:A06 E.P (E.n0+σ.k) 0 crs σ rs)(hd:A8K rs ps)
  {K:St->Prop} {X:Nat->St->Prop} (hK:K ((σ.apps crs rs).bump (1024*crs.length))) {G:Gh} {a:Act} {w:World} (hD:Q5 E σ G a w):(Code.region id ops draw).wp E.P (A9f E K X) a w:=by
 unfold r9 at hc;split at hc
 ·cases hc
 ·rename_i cs hcs;obtain⟨hlen,hget⟩:=A1E hcs;have hlen':cs.length=ops.size:=by simpa using hlen
  have hcr:∀(i:Nat) o,ops[i]?=some o->∃c,cs[i]?=some c/\A0n E.P E.N ops o=some c:=λi o ho=>hget i o (v_ ho);obtain⟨q1,q2,q3,q4⟩:=hr.runs E.β;have fin:crs=cs->∀G a w,F9 E.C E.N E.D E.n0 E.G0 E.w0 (runF crs rs (lk σ.fr)) (A0V rs (ov E.β σ.bx)) (· < E.n0+σ.k+1024*ops.size) G a w->A9f E K X .normal a w:=λhcc G a w h=>by
   refine⟨_,G,?_,hK⟩;rw[q2,q3] at h;subst hcc;simp only[Q5,St.bump,q4];exact h.weak λid hid=>by rw[hlen']; omega
  cases draw with
  | false =>
   simp only[CC.reg.injEq,true_and] at hc;obtain⟨rfl,rfl⟩:=hc;refine wp_region ?_;rw[wv];refine C0C hlen' hcr (base:=E.n0+σ.k) o_ (Q:=A9f E K X) (fin rfl) ops.size 0 rs _ _ G a w o_ ?_ ?_ rfl (hD.weak λid hid=>o_)
   ·exact q1
   ·rfl
  | true =>
   simp only at hc;split at hc
   ·rename_i hs;rw[yk] at hs;simp only[CC.reg.injEq,true_and] at hc;obtain⟨rfl,rfl⟩:=hc;obtain⟨s1,s2⟩:=A3S hs.1;refine wp_region_any hs.2 ?_;obtain⟨r1,r2⟩:=hD.rs.drew;have hD':F9 E.C E.N E.D E.n0 E.G0 E.w0 (lk σ.fr) (ov E.β σ.bx) (· < E.n0+σ.k) G a w.drew:=F9.step hD r1 r2 (λid h=>hD.used id h) λid _ h=>h;have anc:=A7i (ops:=ops) (l:=ops.toList) (acc:=[]) (λi o ho=>v_ ho) λj i hi=>by simp at hi
    have e1:∀(D:Nat->Bool),(∀i,D i=false)->∀{β:Type} (st:Nat->(Nat->β)->Nat->β) (f:Nat->β),D3 st D (List.range ops.size) f=f:=λD hD β st f=>r8 λi _=>hD i;have none:∀i,(Array.replicate ops.size false).getD i false=false:=λi=>by simp[zl,tn]; split<;>rfl
    have q0:rs.length=cs.length:=(A7T.len q1).symm;have hcf:∀(i j:Nat) x y r s,i<j->cs[i]?=some x->cs[j]?=some y->rs[i]?=some r->rs[j]?=some s->S8 ops i j\/(M7 x y=true/\V7 r s):=λi j x y r s hij hx hy hr' hs'=>by
     by_cases hb:i∈(A9d ops.toList []).getD j []
     ·exact .inl (anc j i hb)
     ·refine .inr ?_;have hj:j<ops.size:=(by rw[←hlen']; exact (ze.1 hy).1);have hm:=l9.2 ⟨hj,hij,hb⟩;refine⟨s2 i j hm x y hx hy,?_⟩;cases hw:x.op.mayW||y.op.mayW with
      | true =>
       have:=B07 hd (i,j) (tv.2 ⟨hm,by simp only[hx,hy,hw]⟩);simpa only[q9 hr',q9 hs'] using this
      | false =>
       simp only[wm] at hw;have pure:∀(m:Nat) z t,cs[m]?=some z->rs[m]?=some t->z.op.mayW=false->t.wr=[]:=λm z t hz ht hzw=>by
        obtain⟨_,_,g3,g4⟩:=q1.get m z t hz ht;cases hc:t.c with
        | false=>exact g4 hc
        | true=>exact A4l (g3 hc) hzw
       simp[V7,pure i x r hx hr' hw.1,pure j y s hy hs' hw.2,O7,p6]
    have t1:cs.take ops.size=cs:=zm o_;have t2:rs.take ops.size=rs:=zm o_;refine C0F (n0:=E.n0) (F0:=lk σ.fr) (B0:=ov E.β σ.bx) (base:=E.n0+σ.k) (p:=ops.size) (crs:=cs) (rs:=rs) o_ q0.symm o_ (zx _) (λi o c ho hc=>by obtain⟨c',h1,h2⟩:=hcr i o ho; rw[hc] at h1; injection h1 with h1; rw[h1]; exact h2) (by rw[t1,t2]; exact q1) s1 hcf (λ_=>by rw[t1,t2]; exact fin rfl) (λh=>o_) ops.size _ G a w.drew s_ (λj o ho hj=>by simp only[none] at hj; cases hj) (λi _=>none i) ?_ ?_
    ·refine tk sf s_
    ·rw[e1 _ none,e1 _ none];exact hD'.weak λid hid=>.inl hid
   ·cases hc
theorem B8A{id:Nat}{ops:Array Oper}{draw:Bool}{crs:List CR}{ps:List (Nat×Nat)}(hc:r9 E.P E.N ops draw = .reg draw crs ps){rs:List RR}{pv:AV}{r:RR}(hr:APn E.P (E.n0+σ.k) pv r 0 crs σ rs)(hd:A8L (rs++[r]) rs.length ps)
  {K:St->Prop} {X:Nat->St->Prop} (hK:E.Pn pv ((σ.apps crs rs).app .none r)) {G:Gh} {a:Act} {w:World} (hD:Q5 E σ G a w):(Code.region id ops draw).wp E.P (A9f E K X) a w:=by
 unfold r9 at hc;split at hc
 ·cases hc
 ·rename_i cs hcs;obtain⟨hlen,hget⟩:=A1E hcs;have hlen':cs.length=ops.size:=by simpa using hlen
  have hcr:∀(i:Nat) o,ops[i]?=some o->∃c,cs[i]?=some c/\A0n E.P E.N ops o=some c:=λi o ho=>hget i o (v_ ho);obtain⟨q1,q2,q3,cp,q4,q5⟩:=hr.runs E.β;have hpl:rs.length<crs.length:=(ze.1 q4).1;have inA:∀q,q∈(σ.apps crs rs).bx->q∈((σ.apps crs rs).app .none r).bx:=λq hq=>A1Q.2 (.inl hq);have inR:∀q,q∈r.wr->q∈((σ.apps crs rs).app .none r).bx:=λq hq=>A1Q.2 (.inr hq);cases draw with
  | false =>
   simp only[CC.reg.injEq,true_and] at hc;obtain⟨rfl,rfl⟩:=hc;refine wp_region ?_;rw[wv];refine C69 hlen' hcr (base:=E.n0+σ.k) o_ (Q:=A9f E K X) (pv:=pv) (r:=r) (B':=A0V rs (ov E.β σ.bx)) (λG a w u F U h hv=>⟨pv,u,_,F,_,U,G,rfl,h,λy=>?_,hv,hK⟩) rs ops.size 0 _ _ G a w o_ q1 rfl (hD.weak λid hid=>o_);by_cases hy:y∈O7 r.wr
   ·exact .inr (inR _ (A3R hy))
   ·rw[Q0 hy,q3];exact (A7j y _).imp _root_.id (inA _)
  | true =>
   simp only at hc;split at hc
   ·rename_i hs;rw[yk] at hs;simp only[CC.reg.injEq,true_and] at hc;obtain⟨rfl,rfl⟩:=hc;obtain⟨s1,s2⟩:=A3S hs.1;refine wp_region_any hs.2 ?_;obtain⟨r1,r2⟩:=hD.rs.drew;have hD':F9 E.C E.N E.D E.n0 E.G0 E.w0 (lk σ.fr) (ov E.β σ.bx) (· < E.n0+σ.k) G a w.drew:=F9.step hD r1 r2 (λid h=>hD.used id h) λid _ h=>h;have anc:=A7i (ops:=ops) (l:=ops.toList) (acc:=[]) (λi o ho=>v_ ho) λj i hi=>by simp at hi
    have e1:∀(D:Nat->Bool),(∀i,D i=false)->∀{β:Type} (st:Nat->(Nat->β)->Nat->β) (f:Nat->β) (n:Nat),D3 st D (List.range n) f=f:=λD hD β st f n=>r8 λi _=>hD i;have none:∀i,(Array.replicate ops.size false).getD i false=false:=λi=>by simp[zl,tn]; split<;>rfl
    have hlt:(cs.take (rs.length+1)).length=rs.length+1:=(by rw[zy]; omega);have g1:∀(i:Nat) c,(cs.take (rs.length+1))[i]?=some c->i<rs.length+1/\cs[i]?=some c:=λi c h=>by
     have hi:i<rs.length+1:=(by have:=(ze.1 h).1; omega);rw[vg hi] at h;exact⟨hi,h⟩
    have t1:(cs.take (rs.length+1)).take rs.length=cs.take rs.length:=(by rw[sb,uk o_]);have t2:(rs++[r]).take rs.length=rs:=List.take_left' rfl;have hcf:∀(i j:Nat) x y r0 s,i<j->(cs.take (rs.length+1))[i]?=some x->(cs.take (rs.length+1))[j]?=some y->(rs++[r])[i]?=some r0->(rs++[r])[j]?=some s->S8 ops i j\/(M7 x y=true/\V7 r0 s):=λi j x y r0 s hij hx hy hr' hs'=>by
     obtain⟨hi1,hx⟩:=g1 i x hx;obtain⟨hj1,hy⟩:=g1 j y hy;by_cases hb:i∈(A9d ops.toList []).getD j []
     ·exact .inl (anc j i hb)
     ·refine .inr ?_;have hj:j<ops.size:=(by rw[←hlen']; exact (ze.1 hy).1);have hm:=l9.2 ⟨hj,hij,hb⟩;refine⟨s2 i j hm x y hx hy,?_⟩;cases hw:x.op.mayW||y.op.mayW with
      | true =>
       have:=(A8M hd (i,j) (tv.2 ⟨hm,by simp only[hx,hy,hw]⟩)).1 o_;simpa only[q9 hr',q9 hs'] using this
      | false =>
       simp only[wm] at hw;have hjp:j<rs.length:=by
        rcases yd j rs.length with h|h
        ·exact h
        ·have:j=rs.length:=by omega
         subst this;rw[q4] at hy; injection hy with hy; subst hy
         rw[q5.mayW] at hw; cases hw.2
       have pure:∀(m:Nat) z t,m<rs.length->cs[m]?=some z->(rs++[r])[m]?=some t->z.op.mayW=false->t.wr=[]:=λm z t hm hz ht hzw=>by
        rw[yh hm] at ht;obtain⟨_,_,g3,g4⟩:=q2.get m z t (by rw[vg hm]; exact hz) ht;cases hc:t.c with
        | false=>exact g4 hc
        | true=>exact A4l (g3 hc) hzw
       simp[V7,pure i x r0 o_ hx hr' hw.1,pure j y s hjp hy hs' hw.2,O7,p6]
    refine C0F (C:=E.C) (D:=E.D) (G0:=E.G0) (w0:=E.w0) (n0:=E.n0) (base:=E.n0+σ.k) (p:=rs.length) (crs:=cs.take (rs.length+1)) (rs:=rs++[r]) (F0:=lk σ.fr) (B0:=ov E.β σ.bx) o_ (by rw[hlt]; simp) o_ o_ (λi o c ho hc=>by obtain⟨c',h1,h2⟩:=hcr i o ho; rw[(g1 i c hc).2] at h1; injection h1 with h1; rw[h1]; exact h2) (by rw[t1,t2]; exact q2) s1 hcf (λh=>o_) (λ_=>⟨⟨o_,λi hpi hi=>?_⟩,pv,λc r' hc' hr'=>?_⟩) ops.size _ G a w.drew s_ (λj o ho hj=>by simp only[none] at hj; cases hj) (λi _=>none i) ?_ ?_
    ·by_cases hb:rs.length∈(A9d ops.toList []).getD i []
     ·exact anc i _ hb
     ·exfalso;have hm:=l9.2 ⟨hi,hpi,hb⟩;obtain⟨y,hy⟩:∃y,cs[i]?=some y:=⟨_,zc o_⟩;exact (A8M hd (rs.length,i) (tv.2 ⟨hm,by simp only[q4,hy,q5.mayW,qt]⟩)).2 hpi rfl
    ·have e2:=(g1 _ c hc').2;rw[q4] at e2; injection e2 with e2; subst e2
     have e3:r'=r:=(v_ hr'.symm);subst e3;rw[yy] at q5;rw[t1,t2];refine⟨q5,λL G a w u F U h hv=>⟨pv,u,_,F,_,U,G,rfl,h,λy=>?_,hv,hK⟩⟩;by_cases hy:y∈O7 r'.wr
     ·exact .inr (inR _ (A3R hy))
     ·rw[Q0 hy];rcases A4m (rs:=rs++[r']) (L:=L) y (l:=List.range rs.length) (B:=ov E.β σ.bx) with h|⟨r0,h1,h2⟩
      ·rw[h];exact (A7j y _).imp _root_.id λh=>inA _ (A0W o_ (.inl h))
      ·refine .inr ?_;rcases zr.1 h1 with h1|h1
       ·exact inA _ (A0W o_ (.inr ⟨r0,h1,h2⟩))
       ·rw[wj] at h1; subst h1; exact inR _ h2
    ·refine tk sf s_
    ·rw[e1 _ none,e1 _ none];exact hD'.weak λid hid=>.inl hid
   ·cases hc
end
section
variable {E:O8} {σ:St} {k:List Itm}
theorem H2{P:Program}{N:Nat}{c:Code}{a b:CC}(h:C9 P N c = .seq a b):∃x y,c = .seq x y/\C9 P N x=a/\C9 P N y=b:=by
 cases c
 case seq x y=>simp only[C9,CC.seq.injEq] at h; exact⟨x,y,rfl,h⟩
 case region=>simp only[C9,r9] at h; split at h; cases h; split at h; cases h; split at h<;>cases h
 case cond=>simp only[C9] at h; split at h<;>cases h
 all_goals cases h
theorem A1F{P:Program}{N:Nat}{c:Code}{o:L5}{a b:CC}(h:C9 P N c = .cond o a b):∃X x y,c = .cond X x y/\opd X=some o/\C9 P N x=a/\C9 P N y=b:=by
 cases c
 case cond X x y =>
  simp only[C9] at h;split at h
  ·rename_i o' ho;simp only[CC.cond.injEq] at h;obtain⟨rfl,h1,h2⟩:=h;exact⟨X,x,y,rfl,ho,h1,h2⟩
  ·cases h
 case region=>simp only[C9,r9] at h; split at h; cases h; split at h; cases h; split at h<;>cases h
 all_goals cases h
theorem A4n{P:Program}{N:Nat}{c:Code}{id:Nat}{a:CC}(h:C9 P N c = .block id a):∃x,c = .block id x/\C9 P N x=a:=by
 cases c
 case block i x=>simp only[C9,CC.block.injEq] at h; obtain⟨rfl,h⟩:=h; exact⟨x,rfl,h⟩
 case region=>simp only[C9,r9] at h; split at h; cases h; split at h; cases h; split at h<;>cases h
 case cond=>simp only[C9] at h; split at h<;>cases h
 all_goals cases h
theorem A6I{P:Program}{N:Nat}{c:Code}{a:CC}(h:C9 P N c = .loop a):∃x,c = .loop x/\C9 P N x=a:=by
 cases c
 case loop x=>simp only[C9,CC.loop.injEq] at h; exact⟨x,rfl,h⟩
 case region=>simp only[C9,r9] at h; split at h; cases h; split at h; cases h; split at h<;>cases h
 case cond=>simp only[C9] at h; split at h<;>cases h
 all_goals cases h
theorem B8B{P:Program}{N:Nat}{c:Code}{id:Nat}(h:C9 P N c = .exit id):c = .exit id:=by
 cases c
 case exit i=>simp only[C9,CC.exit.injEq] at h; rw[h]
 case region=>simp only[C9,r9] at h; split at h; cases h; split at h; cases h; split at h<;>cases h
 case cond=>simp only[C9] at h; split at h<;>cases h
 all_goals cases h
theorem C0G{P:Program}{N:Nat}{c:Code}(h:C9 P N c = .ret):c = .ret:=by
 cases c
 case ret=>rfl
 case region=>simp only[C9,r9] at h; split at h; cases h; split at h; cases h; split at h<;>cases h
 case cond=>simp only[C9] at h; split at h<;>cases h
 all_goals cases h
theorem B8C{P:Program}{N:Nat}{c:Code}(h:C9 P N c = .skip):c = .skip\/∃l,c = .label l:=by
 cases c
 case skip=>exact .inl rfl
 case label l=>exact .inr ⟨l,rfl⟩
 case region=>simp only[C9,r9] at h; split at h; cases h; split at h; cases h; split at h<;>cases h
 case cond=>simp only[C9] at h; split at h<;>cases h
 all_goals cases h
theorem A5M{P:Program}{N:Nat}{c:Code}{d:Bool}{crs:List CR}{ps:List (Nat×Nat)}(h:C9 P N c = .reg d crs ps):∃id ops,c = .region id ops d/\r9 P N ops d = .reg d crs ps:=by
 cases c
 case region id ops draw =>
  have h':=h;simp only[C9,r9] at h';split at h'
  ·cases h'
  ·split at h'
   ·simp only[CC.reg.injEq] at h'; obtain⟨rfl,_⟩:=h'; exact⟨id,ops,rfl,h⟩
   ·split at h'
    ·simp only[CC.reg.injEq] at h'; obtain⟨rfl,_⟩:=h'; exact⟨id,ops,rfl,h⟩
    ·cases h'
 case cond=>simp only[C9] at h; split at h<;>cases h
 all_goals cases h
theorem C6A(h:Wk E k σ):Wk E (.code .skip::k) σ:=λc hc G a w hD=>by
 rcases B8C hc with rfl|⟨l,rfl⟩
 ·exact wp_skip ⟨σ,G,hD,h⟩
 ·exact wp_label ⟨σ,G,hD,h⟩
theorem A3D{x y:CC}(h:Wk E (.code x::.code y::k) σ):Wk E (.code (.seq x y)::k) σ:=λc hc G a w hD=>by
 obtain⟨cx,cy,rfl,hx,hy⟩:=H2 hc;refine wp_seq (wp_mono (h cx hx G a w hD) λe a' w' hq=>?_);cases e with
 | normal=>obtain⟨σ',G',h1,h2⟩:=hq; exact h2 cy hy G' a' w' h1
 | _=>exact hq
theorem C6B{id:Nat}(h:Wx E id k σ):Wk E (.code (.exit id)::k) σ:=λc hc G a w hD=>by
 rw[B8B hc]; exact wp_exit ⟨σ,G,hD,h⟩
theorem C7l(h:E.Rt σ):Wk E (.code .ret::k) σ:=λc hc G a w hD=>by
 rw[C0G hc]; exact wp_ret ⟨σ,G,hD,h⟩
theorem B6Y{id:Nat}{c:CC}(h:Wk E (.code c::.blk id::k) σ):Wk E (.code (.block id c)::k) σ:=λc' hc G a w hD=>by
 obtain⟨x,rfl,hx⟩:=A4n hc;refine wp_block (wp_mono (h x hx G a w hD) λe a' w' hq=>?_);cases e with
 | exit id' =>
  obtain⟨σ',G',h1,h2⟩:=hq;simp only[WW] at h2;simp only[Exit.inBlock];split at h2
  ·rename_i hid; rw[zj hid]; exact⟨σ',G',h1,h2⟩
  ·rename_i hid; rw[zf hid]; exact⟨σ',G',h1,h2⟩
 | _=>exact hq
theorem C0H{o:L5}{x y:CC}{b:Bool}(hc:ceO (lk σ.fr) o=true)(hv:M2 (lk σ.fr) o = .bool b)(h1:b=true->Wk E (.code x::k) σ)(h2:b=false->Wk E (.code y::k) σ):Wk E (.code (.cond o x y)::k) σ:=λc hcc G a w hD=>by
 obtain⟨X,cx,cy,rfl,ho,hx,hy⟩:=A1F hcc;have hr:=F9.opd hD ho λn hn=>by
  subst hn;simp only[Am.opd,zd] at ho;subst ho;exact hc
 rw[hv] at hr;have he:a.eval X = .bool b:=by generalize a.eval X=u at hr; cases hr; rfl
 refine wp_cond_split he (λhb=>h1 hb cx hx G a w hD) λhb=>h2 hb cy hy G a w hD
theorem C7m{d:Bool}{crs:List CR}{ps:List (Nat×Nat)}(h:Wk E (.ops crs 0 [] ps::k) σ):Wk E (.code (.reg d crs ps)::k) σ:=λc hc G a w hD=>by
 obtain⟨id,ops,rfl,hg⟩:=A5M hc;rcases h with⟨rs,h1,h2,h3⟩|⟨rs,pv,r,h1,h2,h3⟩
 ·exact B89 hg h1 h2 (v_ h3) hD
 ·exact B8A hg h1 (v_ h2) h3 hD
theorem A7U{cr:CR}{l:List CR}{j:Nat}{acc:List RR}{ps:List (Nat×Nat)}{r:RR}(h1:OpR E.P cr (E.n0+σ.k+1024*j) (lk σ.fr) (bk σ.bx) r)(h:Wk E (.ops l (j+1) (r::acc) ps::k) (σ.app cr.dst r)):Wk E (.ops (cr::l) j acc ps::k) σ:=by
 rcases h with⟨rs,h2,h3,h4⟩|⟨rs,pv,r1,h2,h3,h4⟩
 ·refine .inl ⟨r::rs,⟨h1,h2⟩,v_ h3,?_⟩;simp only[St.apps,zt];rw[show j+(l.length+1)=j+1+l.length by omega];exact h4
 ·refine .inr ⟨r::rs,pv,r1,⟨h1,h2⟩,?_,h4⟩;rw[zt,show j+(rs.length+1)=j+1+rs.length by omega];simpa using h3
theorem C0I{cr:CR}{l:List CR}{j:Nat}{acc:List RR}{ps:List (Nat×Nat)}{pv:AV}{r:RR}(h1:OpP E.P cr (E.n0+σ.k+1024*j) (lk σ.fr) (bk σ.bx) pv r)(hd:A8L (r::acc).reverse j ps)(h:E.Pn pv (σ.app none r)):Wk E (.ops (cr::l) j acc ps::k) σ :=
 .inr ⟨[],pv,r,h1,v_ hd,h⟩
theorem C7n{j:Nat}{acc:List RR}{ps:List (Nat×Nat)}(h1:A8K acc.reverse ps)(h:Wk E k (σ.bump (1024*j))):Wk E (.ops [] j acc ps::k) σ :=
 .inl ⟨[],trivial,v_ h1,by simpa [St.apps,Wk] using h⟩
def D9(E:O8)(σ σ':St):Prop:=∀G a w,Q5 E σ G a w->∃G',Q5 E σ' G' a w
theorem D9.trans{σ1 σ2:St}(h:D9 E σ σ1)(h':D9 E σ1 σ2):D9 E σ σ2:=λG a w hD=>let ⟨G1,h1⟩:=h G a w hD; h' G1 a w h1
theorem A6J{cc:CC}{σ':St}(hc:D9 E σ σ')(h:Wk E (.code cc::k) σ'):Wk E (.code cc::k) σ:=λc hcc G a w hD=>by
 obtain⟨G',hD'⟩:=hc G a w hD;exact h c hcc G' a w hD'
theorem B9{body:CC}{X:Type}(inv:X->St)(ok:X->Prop)(m:X->Nat)(x0:X)(h0:D9 E σ (inv x0))(hx0:ok x0)
  (step:∀x,ok x->∀p:St->Prop,(∀σ' x',ok x'->m x'<m x->D9 E σ' (inv x')->p σ')->Wk E (.code body::.post p::k) (inv x)):Wk E (.code (.loop body)::k) σ:=λc hc G a w hD=>by
 obtain⟨cb,rfl,hb⟩:=A6I hc;obtain⟨G1,hD1⟩:=h0 G a w hD;refine wp_loop_ghost (λn a w=>∃x G,ok x/\m x=n/\Q5 E (inv x) G a w) (m x0) ⟨x0,G1,hx0,rfl,hD1⟩ λn a w hI=>?_;obtain⟨x,G2,hx,rfl,hD2⟩:=hI;refine wp_mono (step x hx (λσ'=>∃x',ok x'/\m x'<m x/\D9 E σ' (inv x')) (λσ' x' h1 h2 h3=>⟨x',h1,h2,h3⟩) cb hb G2 a w hD2) λe a' w' hq=>?_;cases e with
 | normal =>
  obtain⟨σ',G',h1,x',h2,h3,h4⟩:=hq;obtain⟨G3,h5⟩:=h4 G' a' w' h1;exact⟨m x',h3,x',G3,h2,rfl,h5⟩
 | _=>exact hq
theorem B08{cc:CC}{X:Type}(inv:X->St)(ok:X->Prop)(h:∀p:St->Prop,(∀σ' x,ok x->D9 E σ' (inv x)->p σ')->Wk E (.code cc::.post p::k) σ)(hk:∀x,ok x->Wk E k (inv x)):Wk E (.code cc::k) σ:=λc hc G a w hD=>by
 refine wp_mono (h (λσ'=>∃x,ok x/\D9 E σ' (inv x)) (λσ' x h1 h2=>⟨x,h1,h2⟩) c hc G a w hD) λe a' w' hq=>?_;cases e with
 | normal =>
  obtain⟨σ',G',h1,x,h2,h3⟩:=hq;obtain⟨G2,h4⟩:=h3 G' a' w' h1;exact⟨inv x,G2,h4,hk x h2⟩
 | _=>exact hq
end
/-! ### Conversions -/
def A4a(a b:Nat):List (Nat×Nat)->Prop
 | []=>True
 | (y,_)::l=>(a<=y/\y<b)/\A4a a b l
def A1G{a b:Nat}:∀{l:List (Nat×Nat)},A4a a b l->∀q∈l,a<=q.1/\q.1<b
 | [],_,q,hq=>by cases hq
 | (y,t)::l,h,q,hq=>by
  rcases zi.1 hq with rfl|hq
  ·exact h.1
  ·exact A1G h.2 q hq
def B1O(R:Rn)(S:Nat->Prop)(fr:List (Nat×Bool×AV)):List (Nat×Bool×AV)->Prop
 | []=>True
 | (n,c,v)::l=>(∃v0,lk fr n=some (c,v0)/\(c=true->O3 R S v0 v))/\B1O R S fr l
def A6K(R:Rn)(S:Nat->Prop)(bx:List (Nat×Option Bx)):List (Nat×Option Bx)->Prop
 | []=>True
 | (_,none)::l=>A6K R S bx l
 | (y,some b)::l=>(∃x b0,R.ρ y=some x/\bk bx x=some b0/\BxR R S b0 b)/\A6K R S bx l
def K6(y:Nat):List (Nat×Option Bx)->Prop
 | []=>False
 | (x,_)::l=>y=x\/K6 y l
def I8(n0:Nat)(bx':List (Nat×Option Bx)):List (Nat×Option Bx)->Prop
 | []=>True
 | (x,_)::l=>(n0<=x\/K6 x bx')/\I8 n0 bx' l
section
variable {E:O8} {σ:St}
theorem B1O.get{R:Rn}{S:Nat->Prop}{fr:List (Nat×Bool×AV)}:∀{l:List (Nat×Bool×AV)},B1O R S fr l->∀n c v,lk l n=some (c,v)->∃v0,lk fr n=some (c,v0)/\(c=true->O3 R S v0 v)
 | [],_,n,c,v,h=>by cases h
 | (m,c',v')::l,hs,n,c,v,h=>by
  simp only[lk] at h;split at h
  ·rename_i hn;simp only[zd,zh] at h;obtain⟨rfl,rfl⟩:=h;subst hn;exact hs.1
  ·exact B1O.get hs.2 n c v h
theorem I8.get{n0:Nat}{bx':List (Nat×Option Bx)}:∀{l:List (Nat×Option Bx)},I8 n0 bx' l->∀x,x<n0->¬K6 x bx'->∀β,ov β l x=β x
 | [],_,_,_,_,_=>rfl
 | (y,b)::l,h,x,hx,hk,β=>by
  have hne:x≠y:=λe=>by
   subst e;rcases h.1 with h|h
   ·omega
   ·exact hk h
  simp only[ov,B6 _ _ _ hne];exact I8.get h.2 x hx hk β
theorem A3T{β:Nat->Option Bx}{y:Nat}:∀{l:List (Nat×Option Bx)},¬K6 y l->ov β l y=β y
 | [],_=>rfl
 | (x,b)::l,h=>by
  simp only[K6,not_or] at h;simp only[ov,B6 _ _ _ h.1];exact A3T h.2
theorem A6K.get{R:Rn}{S:Nat->Prop}{bx:List (Nat×Option Bx)}{β:Nat->Option Bx}:∀{l:List (Nat×Option Bx)},A6K R S bx l->∀y b,ov β l y=some b->K6 y l->∃x b0,R.ρ y=some x/\bk bx x=some b0/\BxR R S b0 b
 | [],_,y,b,_,hk=>hk.elim
 | (z,none)::l,hs,y,b,h,hk=>by
  simp only[ov] at h;by_cases hz:y=z
  ·subst hz; rw[C7] at h; cases h
  ·rw[B6 _ _ _ hz] at h;exact A6K.get (l:=l) hs y b h (hk.resolve_left hz)
 | (z,some b')::l,hs,y,b,h,hk=>by
  simp only[ov] at h;by_cases hz:y=z
  ·subst hz;rw[C7] at h;injection h with h
   subst h;exact hs.1
  ·rw[B6 _ _ _ hz] at h;exact A6K.get (l:=l) hs.2 y b h (hk.resolve_left hz)
theorem BxR.same{R:Rn}{S:Nat->Prop}{b:Bx}(h:∀(i:Nat) x,b.xs[i]?=some x->B2 (R.fix S) x):BxR R S b b:=⟨N8.same (K5.2 h),rfl,rfl,rfl⟩
theorem RS.boxNames{P:Program}{C:Cx P}{G:Gh}{B:Nat->Option Bx}{w:World}(h:RS C G B w){id:Nat}{b:Bx}(hb:B id=some b):G.used id/\∀(i:Nat) x,b.xs[i]?=some x->B2 G.used x:=by
 by_cases hn:G.nl id
 ·refine⟨(h.nlu id hn).1,λi x hx=>?_⟩;rw[(h.nil id b hb hn).1] at hx;simp at hx
 ·obtain⟨blk,s,cur,e,h1,h2,h3,h4,h5,h6⟩:=h.box id b hb hn;refine⟨h.used id blk s h1,λi x hx=>?_⟩;obtain⟨hl,hc⟩:=h5 i x hx;have:F4 G.used x.cells:=K5.2 λj z hz=>let ⟨u,_,hr⟩:=hc j z hz; hr.names;cases x<;>first|exact this|exact this.1
def A25(n0:Nat)(bx':List (Nat×Option Bx)):List (Nat×Nat)->Prop
 | []=>True
 | (_,b)::l=>(n0<=b\/K6 b bx')/\A25 n0 bx' l
theorem A2l{n0:Nat}{bx':List (Nat×Option Bx)}:∀{l:List (Nat×Nat)},A25 n0 bx' l->∀y,y<n0->¬K6 y bx'->T7 l y=false
 | [],_,_,_,_=>rfl
 | (a,b)::l,h,y,hy,hk=>by
  simp only[T7];split
  ·rename_i e;subst e;rcases h.1 with h|h
   ·omega
   ·exact (hk h).elim
  ·exact A2l h.2 y hy hk
theorem D9.sub(l:List (Nat×Nat))(hl:F7 l){σ':St}(hk:A4a E.n0 (E.n0+σ'.k) l)(h1:B1O (P2 E.n0 l hl) E.G0.used σ.fr σ'.fr)(h2:A6K (P2 E.n0 l hl) E.G0.used σ.bx σ'.bx)(h3:I8 E.n0 σ'.bx σ.bx)
  (h4:A25 E.n0 σ'.bx l):D9 E σ σ':=λG a w hD=>by
 have hlow:∀x,x<E.n0->lkN l x=none:=λx hx=>by
  cases h:lkN l x with
  | none=>rfl
  | some b=>have:=A1G hk _ (A0y h); simp only at this; omega
 have hfix:∀x,E.G0.used x->(P2 E.n0 l hl).ρ x=some x\/(P2 E.n0 l hl).ρ x=none:=λx hx=>(A4A (hlow x (E.old x hx))).symm;have hst:∀x,x<E.n0->T7 l x=false->(P2 E.n0 l hl).ρ x=some x:=λx hx hg=>by
  show rnF E.n0 l x=some x;unfold rnF;rw[hlow x hx];simp[hx,hg]
 refine⟨G.ren (P2 E.n0 l hl) E.G0.used,L4.ren hD.ev hfix,hD.rs.ren λy b' hy=>?_,λy hy=>?_,λy hy hu=>?_,λn c v hv=>?_,hD.size,hD.defers⟩
 ·by_cases hk:K6 y σ'.bx
  ·obtain⟨x,b0,q1,q2,q3⟩:=h2.get y b' hy hk;exact⟨x,b0,q1,P5 E.β q2,q3⟩
  ·rw[A3T hk] at hy;have hlt:y<E.n0:=by
    rcases yd y E.n0 with h|h
    ·exact h
    ·rw[E.own y h] at hy; cases hy
   refine⟨y,b',hst y hlt (A2l h4 y hlt hk),by rw[h3.get y hlt hk E.β]; exact hy,BxR.same λi x hx=>?_⟩;exact L7 (λz hz=>(hfix z hz).imp _root_.id λh=>⟨h,hz⟩) x ((E.rs0.boxNames hy).2 i x hx)
 ·rcases hy with⟨x,hx,hu⟩|hy
  ·have hx':rnF E.n0 l y=some x:=hx;cases h:lkN l y with
   | some b=>exact (A1G hk _ (A0y h)).2
   | none =>
    unfold rnF at hx';rw[h] at hx';simp only at hx';split at hx'
    ·omega
    ·cases hx'
  ·have:=E.old y hy; omega
 ·rcases hu with⟨x,hx,hu⟩|hu
  ·rcases A4A (n0:=E.n0) (hlow y hy) with h|h
   ·have hx':rnF E.n0 l y=some x:=hx;rw[h] at hx'; cases hx'
   ·have hx':rnF E.n0 l y=some x:=hx;rw[h] at hx';injection hx' with hx'
    subst hx';exact hD.old _ hy hu
  ·exact hu
 ·obtain⟨v0,q1,q2⟩:=h1.get n c v hv;obtain⟨r1,r2⟩:=hD.fr n c v0 q1;exact⟨λhc=>(r1 hc).ren (q2 hc),r2⟩
/-! ### A slice that is nil,as an empty one of the call's own -/
inductive A5N(id:Nat):AV->AV->Prop
 | nils:A5N id .nils (.bsl id 0 0)
 | agg (cs ds:List AV) (h:cs.length=ds.length) (hh:∀(i:Nat) x y,cs[i]?=some x->ds[i]?=some y->x=y\/(x = .nils/\y = .bsl id 0 0)):A5N id (.agg cs) (.agg ds)
theorem A5N.rv{id:Nat}{G:Gh}{w:World}{x y:AV}{v:Value}(h:A5N id x y)(hv:RV G w x v)(hn:RV G w (.bsl id 0 0) (.slice none 0 0)):RV G w y v:=by
 cases h with
 | nils=>cases hv; exact hn
 | agg cs ds hl hh =>
  cases hv with|agg _ vs hs hx =>
  refine .agg ds vs (hl.symm.trans hs) λi y hy=>?_;obtain⟨x,hx'⟩:∃x,cs[i]?=some x:=⟨_,zc (by rw[hl]; exact (ze.1 hy).1)⟩;rcases hh i x y hx' hy with rfl|⟨rfl,rfl⟩
  ·exact hx i x hx'
  ·have:=hx i _ hx';generalize vs.getD i undef=u at this;cases this
   exact hn
theorem D9.voidSlot(n:Nat){x y:AV}(hx:lk σ.fr n=some (true,x))(hv:A5N (E.n0+σ.k) x y)(d:AV):D9 E σ ⟨(n,true,y)::σ.fr,(E.n0+σ.k,some ⟨[],d,false,false⟩)::σ.bx,σ.k+1⟩:=λG a w hD=>by
 have hu:¬G.used (E.n0+σ.k):=λh=>absurd (hD.used _ h) (up _);obtain⟨r1,r2,r3⟩:=hD.rs.void hu d false;refine⟨_,hD.ev.trans r2,r1,λid h=>?_,λid hid h=>?_,λm c v hm=>?_,hD.size,hD.defers⟩
 ·show id<E.n0+(σ.k+1);rcases h with h|h
  ·omega
  ·have:=hD.used _ h; omega
 ·rcases h with h|h
  ·omega
  ·exact hD.old id hid h
 ·simp only[lk] at hm;split at hm
  ·rename_i he;subst he;simp only[zd,zh] at hm;obtain⟨rfl,rfl⟩:=hm;exact⟨λ_=>hv.rv (((hD.fr m true x hx).1 rfl).mono r2) r3,λh=>by cases h⟩
  ·exact⟨λhc=>((hD.fr m c v hm).1 hc).mono r2,(hD.fr m c v hm).2⟩
theorem A5N.cells{id:Nat}{x y:AV}(h:A5N id x y):x.cells.length=y.cells.length/\∀(j:Nat) z z',x.cells[j]?=some z->y.cells[j]?=some z'->z=z'\/(z = .nils/\z' = .bsl id 0 0):=by
 cases h with
 | nils =>
  refine⟨rfl,λj z z' h1 h2=>?_⟩;cases j with
  | zero=>simp[AV.cells] at h1 h2; exact .inr ⟨h1.symm,h2.symm⟩
  | succ j=>simp[AV.cells] at h1
 | agg cs ds hl hh=>exact⟨hl,hh⟩
theorem D9.voidBox(j:Nat){b:Bx}{x y:AV}(hb:bk σ.bx j=some b)(hx:b.xs=[x])(hv:A5N (E.n0+σ.k) x y)(d:AV):
  D9 E σ ⟨σ.fr,(j,some { b with xs:=[y] })::(E.n0+σ.k,some ⟨[],d,false,false⟩)::σ.bx,σ.k+1⟩:=λG a w hD=>by
 have hu:¬G.used (E.n0+σ.k):=λh=>absurd (hD.used _ h) (up _);obtain⟨r1,r2,r3⟩:=hD.rs.void hu d false;have hbj:=P5 E.β hb;have hne:j≠E.n0+σ.k:=λe=>hu (e▸(hD.rs.boxNames hbj).1);have hbj':ov E.β ((E.n0+σ.k,some ⟨[],d,false,false⟩)::σ.bx) j=some b:=by simp only[ov,B6 _ _ _ hne]; exact hbj
 have r4:RS E.C (G.void (E.n0+σ.k)) (ov E.β ((j,some { b with xs:=[y] })::(E.n0+σ.k,some ⟨[],d,false,false⟩)::σ.bx)) w:=by
  have r1':RS E.C (G.void (E.n0+σ.k)) (ov E.β ((E.n0+σ.k,some ⟨[],d,false,false⟩)::σ.bx)) w:=r1;refine⟨r1'.below,r1'.size,r1'.fzok,r1'.fzold,λi b' hi hn=>?_,λi b' hi hn=>?_,r1'.nlu,r1'.used,r1'.inj,r1'.rows⟩
  ·by_cases hij:i=j
   ·subst hij;simp only[ov,C7,zd] at hi;subst hi;obtain⟨blk,s,cur,e,k1,k2,k3,k4,k5,k6,k7⟩:=r1'.box i b hbj' hn;have hlen:b.xs.length=1:=(by rw[hx]; rfl);refine⟨blk,s,cur,e,k1,k2,k3,⟨k4.1,by have:=k4.2; rw[hlen] at this; exact this⟩,λi' y' hy'=>?_,k6,by have:=k7; rw[hlen] at this; exact this⟩;cases i' with
    | succ i'=>simp at hy'
    | zero =>
     simp only[yn,zd] at hy';subst hy';obtain⟨c1,c2⟩:=hv.cells;obtain⟨d1,d2⟩:=k5 0 x (by rw[hx]; rfl);refine⟨c1.symm.trans d1,λm z hz=>?_⟩;obtain⟨z0,hz0⟩:∃z0,x.cells[m]?=some z0:=⟨_,zc (by rw[c1]; exact (ze.1 hz).1)⟩;obtain⟨u,hu1,hu2⟩:=d2 m z0 hz0;refine⟨u,hu1,?_⟩;rcases c2 m z0 z hz0 hz with rfl|⟨rfl,rfl⟩
     ·exact hu2
     ·cases hu2; exact r3
   ·simp only[ov,B6 _ _ _ hij] at hi;exact r1'.box i b' hi hn
  ·by_cases hij:i=j
   ·subst hij;exfalso;have:=(r1'.nil i b hbj' hn).1;rw[hx] at this; cases this
   ·simp only[ov,B6 _ _ _ hij] at hi;exact r1'.nil i b' hi hn
 refine⟨_,hD.ev.trans r2,r4,λid h=>?_,λid hid h=>?_,λm c v hm=>⟨λhc=>((hD.fr m c v hm).1 hc).mono r2,(hD.fr m c v hm).2⟩,hD.size,hD.defers⟩
 ·show id<E.n0+(σ.k+1);rcases h with h|h
  ·omega
  ·have:=hD.used _ h; omega
 ·rcases h with h|h
  ·omega
  ·exact hD.old id hid h
end
end Go.Am
