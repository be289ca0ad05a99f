/- Parts of the proof: an abstract machine for Go functions, and what functions of the program give back (Ja1, Ja2). No condition. -/
import Derived.Test.YthghjjancoopoaaDoorYJ
import Derived.Test.YthghjjancoopoaaDoorYM
namespace Go.Am
set_option linter.all false
open Go Go.RowKit Go.Proofs
set_option maxRecDepth 100000
set_option linter.all false
def dgB(c:UInt8):Bool:=48≤c.toNat&&c.toNat≤57
def valD(l:List UInt8):Nat:=l.foldl (fun a c=>10*a+(c.toNat - 48)) 0
theorem toNat_u8(n:Nat):(UInt8.ofNat n).toNat=n % 256:=by simp
theorem decD_dg(u:Nat):∀c∈Lib.decDigits u,dgB c=true:=by
 induction u using Nat.strongRecOn with
 | _ u ih =>
  rw[Lib.decDigits]
  split
  ·rename_i h
   intro c hc
   obtain rfl:=List.mem_singleton.1 hc
   simp only[dgB,toNat_u8,Bool.and_eq_true,decide_eq_true_eq]
   omega
  ·rename_i h
   intro c hc
   rcases List.mem_append.1 hc with hc|hc
   ·exact ih (u / 10) (by omega) c hc
   ·obtain rfl:=List.mem_singleton.1 hc
    simp only[dgB,toNat_u8,Bool.and_eq_true,decide_eq_true_eq]
    omega
theorem decD_val(u:Nat):valD (Lib.decDigits u)=u:=by
 induction u using Nat.strongRecOn with
 | _ u ih =>
  rw[Lib.decDigits]
  split
  ·rename_i h
   simp only[valD,List.foldl_cons,List.foldl_nil,toNat_u8]
   omega
  ·rename_i h
   have:=ih (u / 10) (by omega)
   unfold valD at this ⊢
   rw[List.foldl_append,this]
   simp only[List.foldl_cons,List.foldl_nil,toNat_u8]
   omega
def noDg(x:List UInt8):Prop:=∀c r,x=c::r→dgB c=false
theorem dg_cut{a b x y:List UInt8}(ha:∀c∈a,dgB c=true)(hb:∀c∈b,dgB c=true)(hx:noDg x)(hy:noDg y)(h:a++x=b++y):a=b∧x=y:=by
 have key:∀{a x:List UInt8},(∀c∈a,dgB c=true)→noDg x→(a++x).takeWhile dgB=a:=fun {a x} ha hx=>by
  rw[List.takeWhile_append_of_pos ha]
  cases x with
  | nil=>simp
  | cons c r=>rw[List.takeWhile_cons_of_neg (by simp[hx c r rfl])]; simp
 have e:a=b:=by rw[←key ha hx,h,key hb hy]
 subst e
 exact⟨rfl,List.append_cancel_left h⟩
theorem itoa_cut{n m:Int}{x y:List UInt8}(hx:noDg x)(hy:noDg y)(h:Lib.itoa n++x=Lib.itoa m++y):n=m∧x=y:=by
 have ne:∀(u:Nat) (l z:List UInt8),45::l=Lib.decDigits u++z→False:=fun u l z h=>by
  cases hd:Lib.decDigits u with
  | nil =>
   have:=congrArg List.length hd
   rw[Lib.decDigits] at this
   split at this<;>simp at this
  | cons c r =>
   rw[hd] at h
   have:=decD_dg u c (by rw[hd]; exact List.mem_cons_self ..)
   simp at h
   rw[←h.1] at this
   revert this
   decide
 unfold Lib.itoa at h
 split at h<;>split at h
 ·simp only[List.cons_append,List.cons.injEq,true_and] at h
  obtain⟨h1,h2⟩:=dg_cut (decD_dg _) (decD_dg _) hx hy h
  have:=congrArg valD h1
  rw[decD_val,decD_val] at this
  exact⟨by omega,h2⟩
 ·exact (ne _ _ _ h).elim
 ·exact (ne _ _ _ h.symm).elim
 ·obtain⟨h1,h2⟩:=dg_cut (decD_dg _) (decD_dg _) hx hy h
  have:=congrArg valD h1
  rw[decD_val,decD_val] at this
  exact⟨by omega,h2⟩
theorem itoa_head(n:Int):∃c r,Lib.itoa n=c::r∧(dgB c=true∨c=45):=by
 have nn:∀u:Nat,∃c r,Lib.decDigits u=c::r∧dgB c=true:=fun u=>by
  cases hd:Lib.decDigits u with
  | nil =>
   have:=congrArg List.length hd
   rw[Lib.decDigits] at this
   split at this<;>simp at this
  | cons c r=>exact⟨c,r,rfl,decD_dg u c (by rw[hd]; exact List.mem_cons_self ..)⟩
 unfold Lib.itoa
 split
 ·exact⟨45,_,rfl,.inr rfl⟩
 ·obtain⟨c,r,h1,h2⟩:=nn n.toNat
  exact⟨c,r,h1,.inl h2⟩
def hexV(c:UInt8):Nat:=if c.toNat<58 then c.toNat - 48 else c.toNat - 87
theorem hexV_d:∀n:Fin 16,hexV (hexD n.val)=n.val:=by decide
def unB:List UInt8→UInt8×List UInt8
 | 92::110::r=>(10,r)
 | 92::117::_::_::a::b::r=>(UInt8.ofNat (16*hexV a+hexV b),r)
 | 92::c::r=>(c,r)
 | c::r=>(c,r)
 | []=>(0,[])
theorem unB_plain{c:UInt8}{r:List UInt8}(h:c≠92):unB (c::r)=(c,r):=by
 unfold unB
 split<;>simp_all
theorem unB_q(c:UInt8)(r:List UInt8):unB (qB c++r)=(c,r):=by
 unfold qB
 split
 ·rename_i h
  rcases h with rfl|rfl<;>rfl
 split
 ·rename_i h; subst h; rfl
 split
 ·rename_i h
  show (UInt8.ofNat (16*hexV (hexD (c.toNat / 16))+hexV (hexD (c.toNat % 16))),r)=(c,r)
  rw[hexV_d ⟨c.toNat / 16,by omega⟩,hexV_d ⟨c.toNat % 16,by omega⟩]
  have:16*(c.toNat / 16)+c.toNat % 16=c.toNat:=by omega
  simp only[this]
  simp
 ·rename_i h1 h2 h3
  exact unB_plain fun h=>h1 (.inr h)
theorem qB_head(c:UInt8):∃d r,qB c=d::r∧d≠34:=by
 unfold qB
 split
 ·exact⟨92,_,rfl,by decide⟩
 split
 ·exact⟨92,_,rfl,by decide⟩
 split
 ·exact⟨92,_,rfl,by decide⟩
 ·rename_i h1 h2 h3
  exact⟨c,_,rfl,fun h=>h1 (.inl h)⟩
theorem qL_cut:∀{s t x y:List UInt8},qL s++34::x=qL t++34::y→s=t∧x=y
 | [],[],x,y,h=>by simpa [qL] using h
 | [],d::t,x,y,h=>by
  obtain⟨e,r,h1,h2⟩:=qB_head d
  simp only[qL,List.flatMap_nil,List.flatMap_cons,List.nil_append,h1,List.cons_append,List.cons.injEq] at h
  exact (h2 h.1.symm).elim
 | c::s,[],x,y,h=>by
  obtain⟨e,r,h1,h2⟩:=qB_head c
  simp only[qL,List.flatMap_nil,List.flatMap_cons,List.nil_append,h1,List.cons_append,List.cons.injEq] at h
  exact (h2 h.1).elim
 | c::s,d::t,x,y,h=>by
  have h0:qB c++(qL s++34::x)=qB d++(qL t++34::y):=by simpa [qL] using h
  have h1:=congrArg unB h0
  rw[unB_q,unB_q] at h1
  simp only[Prod.mk.injEq] at h1
  obtain⟨h2,h3⟩:=qL_cut h1.2
  exact⟨by rw[h1.1,h2],h3⟩
theorem quoted_cut{s t x y:List UInt8}(h:quoted s++x=quoted t++y):s=t∧x=y:=by
 unfold quoted at h
 refine qL_cut ?_
 simpa using h
theorem join_cons(a:List UInt8)(l:List (List UInt8)):Lib.join (a::l) [44]=a++l.flatMap fun x=>44::x:=by
 induction l generalizing a with
 | nil=>simp[Lib.join]
 | cons b r ih =>
  have:=ih b
  simp[Lib.join] at this ⊢
  try rw[this]
theorem jS_head{o:Out}(h:fChkO o=0):∃c r,jS o=c::r∧c≠93∧c≠125∧c≠44:=by
 have hk:=(chkO_zero h).1.k1
 rw[jS_eq]
 split
 ·obtain⟨c,r,h1,h2⟩:=itoa_head o.n
  refine⟨c,r,h1,?_,?_,?_⟩<;>rintro rfl<;>revert h2<;>decide
 split
 ·exact⟨34,_,rfl,by decide⟩
 split
 ·exact⟨110,_,rfl,by decide⟩
 split
 ·exact⟨123,_,rfl,by decide⟩
 ·exact⟨91,_,rfl,by decide⟩
end Go.Am
namespace Go.Am
set_option linter.all false
open Go Go.RowKit Go.Proofs
set_option maxRecDepth 100000
set_option linter.all false
theorem noDg_cons{c:UInt8}{r:List UInt8}(h:dgB c=false):noDg (c::r):=fun d s e=>by
 simp only[List.cons.injEq] at e
 rw[←e.1]; exact h
def tail44{α:Type}(f:α→List UInt8)(l:List α):List UInt8:=l.flatMap fun x=>44::f x
theorem tail_noDg{α:Type}(f:α→List UInt8)(l:List α){e:UInt8}{x:List UInt8}(he:dgB e=false):noDg (tail44 f l++e::x):=by
 cases l with
 | nil=>exact noDg_cons he
 | cons a r=>exact noDg_cons (by decide)
theorem tail_cut{α:Type}(f:α→List UInt8)(S:α→Prop){e:UInt8}(he:dgB e=false)(h44:e≠44):∀(l l':List α) (x y:List UInt8),
  (∀a∈l,∀b,S b→∀x y,noDg x→noDg y→f a++x=f b++y→a=b∧x=y)→(∀b∈l',S b)→tail44 f l++e::x=tail44 f l'++e::y→l=l'∧x=y
 | [],[],x,y,_,_,h=>by simpa [tail44] using h
 | [],b::r,x,y,_,_,h=>by
  simp only[tail44,List.flatMap_nil,List.flatMap_cons,List.nil_append,List.cons_append,List.cons.injEq] at h
  exact (h44 h.1).elim
 | a::r,[],x,y,_,_,h=>by
  simp only[tail44,List.flatMap_nil,List.flatMap_cons,List.nil_append,List.cons_append,List.cons.injEq] at h
  exact (h44 h.1.symm).elim
 | a::r,b::s,x,y,hl,hs,h=>by
  have h0:f a++(tail44 f r++e::x)=f b++(tail44 f s++e::y):=by simpa [tail44] using h
  obtain⟨e1,e2⟩:=hl a (List.mem_cons_self ..) b (hs b (List.mem_cons_self ..)) _ _ (tail_noDg f r he) (tail_noDg f s he) h0
  obtain⟨e3,e4⟩:=tail_cut f S he h44 r s x y (fun a ha=>hl a (List.mem_cons_of_mem _ ha)) (fun b hb=>hs b (List.mem_cons_of_mem _ hb)) e2
  exact⟨by rw[e1,e3],e4⟩
theorem join_tail{α:Type}(f:α→List UInt8)(a:α)(r:List α):Lib.join ((a::r).map f) [44]=f a++tail44 f r:=by
 rw[List.map_cons,join_cons]
 simp[tail44,List.flatMap_map]
theorem parts_cut{α:Type}(f:α→List UInt8)(S:α→Prop){e:UInt8}(he:dgB e=false)(h44:e≠44)(hh:∀a,S a→∃c r,f a=c::r∧c≠e)(l l':List α)(x y:List UInt8)
  (hl:∀a∈l,∀b,S b→∀x y,noDg x→noDg y→f a++x=f b++y→a=b∧x=y) (hs0:∀a∈l,S a) (hs:∀b∈l',S b) (h:Lib.join (l.map f) [44]++e::x=Lib.join (l'.map f) [44]++e::y):l=l'∧x=y:=by
 cases l with
 | nil=>cases l' with
  | nil=>simpa [Lib.join] using h
  | cons b s =>
   rw[join_tail] at h
   obtain⟨c,r,h1,h2⟩:=hh b (hs b (List.mem_cons_self ..))
   rw[h1] at h
   simp[Lib.join] at h
   exact (h2 h.1.symm).elim
 | cons a r=>cases l' with
  | nil =>
   rw[join_tail] at h
   obtain⟨c,r,h1,h2⟩:=hh a (hs0 a (List.mem_cons_self ..))
   rw[h1] at h
   simp[Lib.join] at h
   exact (h2 h.1).elim
  | cons b s =>
   rw[join_tail,join_tail] at h
   refine tail_cut f S he h44 (a::r) (b::s) x y hl hs ?_
   simpa [tail44] using h
def jPair(p:List UInt8×Out):List UInt8:=quoted p.1++[58]++jS p.2
theorem jM_zip:∀(l:List Out) (ks:List (List UInt8)),ks.length=l.length→jM ks l=(ks.zip l).map jPair
 | [],[],_=>rfl
 | [],_::_,h=>by simp at h
 | o::r,[],h=>by simp at h
 | o::r,k::ks,h=>by
  simp only[jM,List.headD_cons,List.tail_cons,List.zip_cons_cons,List.map_cons,jPair]
  rw[jM_zip r ks (by simpa using h)]
theorem zip_inj{α β:Type}:∀{a a':List α} {b b':List β},a.length=b.length→a'.length=b'.length→a.zip b=a'.zip b'→a=a'∧b=b'
 | a,a',b,b',h,h',e=>by
  have e1:=congrArg (List.map Prod.fst) e
  have e2:=congrArg (List.map Prod.snd) e
  rw[List.map_fst_zip (by omega),List.map_fst_zip (by omega)] at e1
  rw[List.map_snd_zip (by omega),List.map_snd_zip (by omega)] at e2
  exact⟨e1,e2⟩
theorem Out.ext'{a b:Out}(h1:a.kind=b.kind)(h2:a.n=b.n)(h3:a.text=b.text)(h4:a.keys=b.keys)(h5:a.kids=b.kids):a=b:=by
 cases a; cases b
 simp only[Out.kind,Out.n,Out.text,Out.keys,Out.kids] at *
 subst h1 h2 h3 h4 h5
 rfl
theorem jS_first(o:Out)(h:fChkO o=0):(o.kind=1∧jS o=[110,117,108,108])∨(o.kind=2∧jS o=Lib.itoa o.n)∨(o.kind=3∧jS o=quoted o.text)∨(o.kind=4∧jS o=91::(Lib.join (o.kids.map jS) [44]++[93]))∨(o.kind=5∧jS o=123::(Lib.join ((o.keys.zip o.kids).map jPair) [44]++[125])):=by
 have h1:=(chkO_zero h).1
 have hk:=h1.k1
 rw[jS_eq]
 by_cases k2:o.kind=2
 ·rw[if_pos k2]; exact .inr (.inl ⟨k2,rfl⟩)
 rw[if_neg k2]
 by_cases k3:o.kind=3
 ·rw[if_pos k3]; exact .inr (.inr (.inl ⟨k3,rfl⟩))
 rw[if_neg k3]
 by_cases k1:o.kind=1
 ·rw[if_pos k1]; exact .inl ⟨k1,rfl⟩
 rw[if_neg k1]
 by_cases k5:o.kind=5
 ·rw[if_pos k5,jM_zip _ _ (h1.ml k5)]; exact .inr (.inr (.inr (.inr ⟨k5,by simp⟩)))
 ·rw[if_neg k5,jL_map]; exact .inr (.inr (.inr (.inl ⟨by omega,by simp⟩)))
theorem fst_kind(o:Out)(h:fChkO o=0)(x:List UInt8):∃c r,jS o++x=c::r∧o.kind=(if c=110 then 1 else if c=34 then 3 else if c=91 then 4 else if c=123 then 5 else 2):=by
 rcases jS_first o h with⟨k,e⟩|⟨k,e⟩|⟨k,e⟩|⟨k,e⟩|⟨k,e⟩<;>rw[e,k]
 ·exact⟨110,_,rfl,rfl⟩
 ·obtain⟨c,r,h1,h2⟩:=itoa_head o.n
  rw[h1]
  refine⟨c,_,rfl,?_⟩
  have:∀d:UInt8,dgB d=false→d≠45→c≠d:=fun d h3 h4 h5=>by
   subst h5
   rcases h2 with h2|h2
   ·rw[h3] at h2; cases h2
   ·exact h4 h2
  rw[if_neg (this 110 (by decide) (by decide)),if_neg (this 34 (by decide) (by decide)),if_neg (this 91 (by decide) (by decide)),if_neg (this 123 (by decide) (by decide))]
 ·exact⟨34,_,rfl,rfl⟩
 ·exact⟨91,_,rfl,rfl⟩
 ·exact⟨123,_,rfl,rfl⟩
theorem jS_cut:∀(m:Nat) (a b:Out) (x y:List UInt8),a.sz<m→fChkO a=0→fChkO b=0→noDg x→noDg y→jS a++x=jS b++y→a=b∧x=y
 | 0,a,b,x,y,h,_,_,_,_,_=>by omega
 | m+1,a,b,x,y,hm,ha,hb,hx,hy,h=>by
  have hz:=szO_eq a
  obtain⟨a1,a2⟩:=chkO_zero ha
  obtain⟨b1,b2⟩:=chkO_zero hb
  have hkind:a.kind=b.kind:=by
   obtain⟨c,r,e1,e2⟩:=fst_kind a ha x
   obtain⟨c',r',e1',e2'⟩:=fst_kind b hb y
   rw[h,e1'] at e1
   simp only[List.cons.injEq] at e1
   rw[e2,e2',e1.1]
  have hkid:∀z∈a.kids,∀b,fChkO b=0→∀x y,noDg x→noDg y→jS z++x=jS b++y→z=b∧x=y:=fun z hz' b hb x y hx hy h=>jS_cut m z b x y (by have:=szOL_mem hz'; omega) (a2 z hz') hb hx hy h
  rcases jS_first a ha with⟨k,e⟩|⟨k,e⟩|⟨k,e⟩|⟨k,e⟩|⟨k,e⟩<;>rcases jS_first b hb with⟨k',e'⟩|⟨k',e'⟩|⟨k',e'⟩|⟨k',e'⟩|⟨k',e'⟩<;>first|(exfalso; omega)|skip
  ·rw[e,e'] at h
   exact⟨Out.ext' hkind (by rw[a1.n0 (by omega),b1.n0 (by omega)]) (by rw[a1.t0 (by omega),b1.t0 (by omega)]) (by rw[a1.m0 (by omega),b1.m0 (by omega)]) (by rw[a1.l0 (by omega),b1.l0 (by omega)]),List.append_cancel_left h⟩
  ·rw[e,e'] at h
   obtain⟨h1,h2⟩:=itoa_cut hx hy h
   exact⟨Out.ext' hkind h1 (by rw[a1.t0 (by omega),b1.t0 (by omega)]) (by rw[a1.m0 (by omega),b1.m0 (by omega)]) (by rw[a1.l0 (by omega),b1.l0 (by omega)]),h2⟩
  ·rw[e,e'] at h
   obtain⟨h1,h2⟩:=quoted_cut h
   exact⟨Out.ext' hkind (by rw[a1.n0 (by omega),b1.n0 (by omega)]) h1 (by rw[a1.m0 (by omega),b1.m0 (by omega)]) (by rw[a1.l0 (by omega),b1.l0 (by omega)]),h2⟩
  ·rw[e,e'] at h
   simp only[List.cons_append,List.append_assoc,List.nil_append,List.cons.injEq,true_and] at h
   obtain⟨h1,h2⟩:=parts_cut jS (fun o=>fChkO o=0) (by decide) (by decide) (fun o ho=>by obtain⟨c,r,h1,h2,_⟩:=jS_head ho; exact⟨c,r,h1,h2⟩) a.kids b.kids x y hkid a2 b2 h
   exact⟨Out.ext' hkind (by rw[a1.n0 (by omega),b1.n0 (by omega)]) (by rw[a1.t0 (by omega),b1.t0 (by omega)]) (by rw[a1.m0 (by omega),b1.m0 (by omega)]) h1,h2⟩
  ·rw[e,e'] at h
   simp only[List.cons_append,List.append_assoc,List.nil_append,List.cons.injEq,true_and] at h
   obtain⟨h1,h2⟩:=parts_cut jPair (fun p=>fChkO p.2=0) (by decide) (by decide) (fun p _=>⟨34,_,rfl,by decide⟩) (a.keys.zip a.kids) (b.keys.zip b.kids) x y (fun p hp q hq x y hx hy h=>by
    obtain⟨k,z⟩:=p
    obtain⟨k',z'⟩:=q
    unfold jPair at h
    simp only[List.append_assoc] at h
    obtain⟨h1,h2⟩:=quoted_cut h
    simp only[List.cons_append,List.nil_append,List.cons.injEq,true_and] at h2
    obtain⟨h3,h4⟩:=hkid z (List.of_mem_zip hp).2 z' hq x y hx hy h2
    exact⟨by rw[h1,h3],h4⟩) (fun p hp=>a2 _ (List.of_mem_zip hp).2) (fun p hp=>b2 _ (List.of_mem_zip hp).2) h
   obtain⟨h3,h4⟩:=zip_inj (a1.ml k) (b1.ml k') h1
   exact⟨Out.ext' hkind (by rw[a1.n0 (by omega),b1.n0 (by omega)]) (by rw[a1.t0 (by omega),b1.t0 (by omega)]) h3 h4,h2⟩
theorem jS_inj{a b:Out}(ha:fChkO a=0)(hb:fChkO b=0):jS a=jS b↔a=b:=by
 refine⟨fun h=>(jS_cut (a.sz+1) a b [] [] (by omega) ha hb (fun c r e=>by cases e) (fun c r e=>by cases e) (by rw[h])).1,fun h=>by rw[h]⟩
theorem jS_two(a b:Out):jS (oList [a,b])=[91]++jS a++[44]++jS b++[93]:=by
 rw[jS_eq]
 simp[oList,Out.kind,Out.kids,jL,Lib.join]
theorem deepO_Ho:∀(m:Nat) (l:List Out),deepO m l≤m→HoL m l
 | 0,l,h=>by
  simp only[deepO] at h
  exact List.length_eq_zero_iff.1 (by omega)
 | m+1,l,h=>by
  simp only[deepO] at h
  intro x hx
  exact deepO_Ho m _ (by have:=((foldl_max_le _ _ _ _).1 h).2 x hx; omega)
theorem many_more:∀(k:Nat) (l:List Out),HoL k l→manyO (k+1) l=manyO k l
 | 0,l,h=>by
  simp only[HoL] at h
  subst h
  rfl
 | k+1,l,h=>by
  have:(l.map fun s=>manyO (k+1) s.kids)=l.map fun s=>manyO k s.kids:=List.map_congr_left fun x hx=>many_more k x.kids (h x hx)
  show l.length+_=l.length+_
  rw[this]
theorem fOut_two{a b:Out}(h:fOut (oList [a,b])=0):fOut a=0∧fOut b=0:=by
 unfold fOut at h
 split at h
 ·cases h
 rename_i h0
 have hc:=(chkO_zero h).2
 have hd:deepO 11 [oList [a,b]]≤11:=by omega
 have hm:manyO 11 [oList [a,b]]≤2000:=by omega
 have hH:=deepO_Ho 11 _ hd
 have hH2:HoL 10 [a,b]:=hH _ (List.mem_cons_self ..)
 have e1:manyO 11 [oList [a,b]]=1+(2+(manyO 9 a.kids+manyO 9 b.kids)):=by
  show manyO (9+1+1) _=_
  simp[manyO,oList,Out.kids]
 have one:∀o∈[a,b],manyO 9 o.kids≤1000+900∨True→manyO 9 o.kids+3≤2000→fOut o=0:=fun o ho _ h3=>by
  have h1:HoL 9 o.kids:=hH2 o ho
  have h2:HoL 10 [o]:=fun z hz=>by obtain rfl:=List.mem_singleton.1 hz; exact h1
  have d1:=Ho_deep 10 11 [o] h2
  have m1:manyO 11 [o]=1+manyO 10 o.kids:=by show manyO (10+1) _=_; simp[manyO]
  rw[many_more 9 _ h1] at m1
  unfold fOut
  rw[if_neg (by omega)]
  exact hc o ho
 exact⟨one a (by simp) (.inr trivial) (by omega),one b (by simp) (.inr trivial) (by omega)⟩
end Go.Am
