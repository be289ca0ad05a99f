/- Parts of the proof: an abstract machine for Go functions, and what functions of the program give back (Ex6, Ex7, Ex8, Ex9, Ex10, Ex11, Ex12, Ex13, Ex14, Ex15, Ex20, Vl7, Vl8). No condition. -/
import Derived.Test.YtphjabjjnncebaaGreatDoorXQ
import Derived.Test.YtphjabjjnncebaaGreatDoorXF
import Derived.Recover
import Derived.Test.YtphjabjjnncebaaGreatDoorXJ
import Derived.Test.YtphjabjjnncebaaGreatDoorXE
set_option maxRecDepth 100000
set_option linter.all false
set_option maxHeartbeats 4000000
namespace Go.Am
open Go Go.Proofs Go.RowKit Go.Proofs.Tryz
def B7U(x:C5)(id:Nat):A2 prog 187 [C6 x] [] id (.tup [.int .i64 (match x.args with|[]=>0|a::_=>a.n),.bool (!x.args.isEmpty)]) []:=by
 rw[H0];cases h:x.args with
 | nil =>
  refine w187.e.1 λE hP hR hl hid=>?_;simp[w187];exact yP hR
 | cons a r =>
  refine w187.e.1 λE hP hR hl hid=>?_;simp[w187];refine A0 m_ ?_;simp[U3 a];exact yP hR
def B7V(s:H6)(x:C5)(t:Tg):wS s x t=if x.name=tId then 1 else match A5s s t x.name with
  | none=>1
  | some (f,c)=>if f.kind=1\/f.kind=2 then 1
   else if f.kind=4 then 1+((A1z x.args c.ids).map (thW s (wL s x.kids) (B8 s.types f.of))).sum
   else match c.ids with
    | []=>1
    | y::_=>thW s (wL s x.kids) (B8 s.types f.of) y:=by cases x; rfl
def C5i(s:H6)(x:C5)(t:Tg):oS s x t=if x.name=tId then j9 t.id else match A5s s t x.name with
  | none=>Y5
  | some (f,c)=>if f.kind=1 then j9 c.n else if f.kind=2 then Y6 c.text
   else if f.kind=4 then N7 ((A1z x.args c.ids).map (thO s (x.kids.map C8) (oL s x.kids) (B8 s.types f.of)))
   else match c.ids with
    | []=>Y5
    | y::_=>thO s (x.kids.map C8) (oL s x.kids) (B8 s.types f.of) y:=by cases x; rfl
theorem C2E(n:Int):eO (j9 n)=(AV.agg [.int .i64 2,.int .i64 n,.str [],.nils,.nils]).nrm:=rfl
theorem C4f(t:List UInt8):eO (Y6 t)=(AV.agg [.int .i64 3,.int .i64 0,.str t,.nils,.nils]).nrm:=rfl
def C2F{s:H6}{t:Tg}{x:C5}{J m:Nat}(id:Nat)(hm:m<=2000)(hn:x.name=tId):
  Z0 prog 256 [.ptr J 0 0,Q9 t,C6 x] [(J,bR s m)] id (rnR s J m (wS s x t) (eO (oS s x t))):=by
 rw[B7V,C5i,zj hn,zj hn,C2E];refine Z0.nrm ?_;have hTt:Q9 t = .agg [.int .i64 t.type,.int .i64 t.id,.sl (t.cells.map eCl)]:=rfl;rw[hTt,H0,hn];unfold tId;refine w256.x.1 λE hP hR hPn hl hid hB hu=>?_;simp[w256];have hJ:=hl (J,_) (za ..);simp only at hJ;have J1:=lf hJ;by_cases h1:m+1<=2000
 rotate_left
 ·refine D6 hP rfl (A36 2 t.id [] _ hm h1) s_ (by simp[J1]<;>rfl) (λpv hpv=>⟨s_,by injection hpv with hpv; subst hpv; exact hPn _ _ (K7 h1) rfl (t_ J1)⟩) (λv wr h=>by cases h)
 (refine E5 hP rfl (A0L 2 t.id [] _ h1) s_ (by simp[J1]<;>rfl) ?_; refine A3 4000 ?_; simp[J1]);have hrn:F7 []:=by simp
 refine hR _ _ _ (L6 h1) ?_;refine F5 f_ [] hrn ⟨?_,?_,?_,?_,?_,?_⟩<;>(try simp[bR,J1])
def C2G{s:H6}{t:Tg}{x:C5}{J m q k:Nat}{ty:Ty}{f:Fd}{c:Cl}(id:Nat)(hm:m<=2000)(hne:x.name≠tId)(hq:t.type=q)(hty:s.types[q]?=some ty)(hl8:s.types.length<=1000)(hf8:ty.fields.length<=1000)
  (hk:E0 (λg=>g.name==x.name) ty.fields 0=(k:Int)) (hf:ty.fields[k]?=some f) (hc:t.cells[k]?=some c) (hkd:1<=f.kind/\f.kind<=4) (hi8:c.ids.length<=1000000) (ha:∀a r,x.args=a::r->0<=a.n/\a.n<=999999999)
  (hT:∀y∈c.ids,∀m id,m<=2000->Z0 prog 188 [.ptr J 0 0,.int .i64 (B8 s.types f.of),.int .i64 y,.sl (x.kids.map C6)] [(J,bR s m)] id (rnR s J m (thW s (wL s x.kids) (B8 s.types f.of) y) (eO (thO s (x.kids.map C8) (oL s x.kids) (B8 s.types f.of) y)))) :
  Z0 prog 256 [.ptr J 0 0,Q9 t,C6 x] [(J,bR s m)] id (rnR s J m (wS s x t) (eO (oS s x t))):=by
 have hfl:D5 s.types t.type=ty.fields:=by unfold D5; rw[hq]; simp[hty]
 have hfc:A5s s t x.name=some (f,c):=by
  unfold A5s;rw[hfl,hk];simp[hf,hc]
 have hw:=B7V s x t;have ho:=C5i s x t;rw[zf hne,hfc] at hw ho;simp only at hw ho;have hFo:=λid=>A1V ty.fields ty.name x.name id o_;rw[hk] at hFo;have hFn:=λid=>o8 s.types f.of id o_;rw[show E0 (λz:Ty=>z.name==f.of) s.types 0=B8 s.types f.of from rfl] at hFn;have hVa:=λid=>B7U x id;have hTt:Q9 t = .agg [.int .i64 t.type,.int .i64 t.id,.sl (t.cells.map eCl)]:=rfl;have hTy:I9 ty = .agg [.str ty.name,.sl (ty.fields.map U8)]:=rfl;have hFd:U8 f = .agg [.str f.name,.int .i64 f.kind,.str f.of]:=rfl;have hCl:eCl c = .agg [.int .i64 c.n,.str c.text,.sl (c.ids.map eI)]:=rfl;have hql:=(ze.1 hty).1;have hkl:=(ze.1 hf).1;have hcl:=(ze.1 hc).1;rw[H0] at hVa;obtain⟨V,hV0,hV1,hV2,hV3⟩:∃V:AV,V.nrm=eO (oS s x t)/\(f.kind=1->V = .agg [.int .i64 2,.int .i64 c.n,.str [],.nils,.nils])/\(f.kind=2->V = .agg [.int .i64 3,.int .i64 0,.str c.text,.nils,.nils])/\(f.kind≠1->f.kind≠2->V=eO (oS s x t)):=by
  by_cases k1:f.kind=1
  ·exact⟨_,by rw[ho,zj k1,C2E],λ_=>rfl,λk2=>o_,λk=>(k k1).elim⟩
  ·by_cases k2:f.kind=2
   ·exact⟨_,by rw[ho,zf k1,zj k2,C4f],λk=>(k1 k).elim,λ_=>rfl,λ_ k=>(k k2).elim⟩
   ·exact⟨_,B5x _,λk=>(k1 k).elim,λk=>(k2 k).elim,λ_ _=>rfl⟩
 rw[←hV0];refine Z0.nrm ?_;rw[hTt,H0,hq];have hnb:(x.name==[105,100])=false:=by simpa [tId] using hne
 rw[z8];refine w256.x.1 λE hP hR hPn hl hid hB hu=>?_;simp[w256];have hJ:=hl (J,_) (za ..);simp only at hJ;have J1:=lf hJ;refine A0 hnb ?_;simp[J1,hty,hTy];refine⟨hql,?_⟩;(refine yC rfl (hFo _) ?_; simp[J1,hty,hTy,hf,hc,hFd,hCl]);refine⟨hql,hkl,hcl,?_⟩;(refine yC rfl (hFn _) ?_; simp);refine D0 (λh3=>?_) (λh3=>?_)<;>simp
 ·have h3:f.kind=1:=by simpa using h3
  have hw1:wS s x t=1:=by rw[hw,zj (.inl h3)]
  simp only[hw1,hV1 h3] at hR hPn;by_cases h1:m+1<=2000
  rotate_left
  ·have hO:=λid=>A36 (s:=s) (J:=J) (m:=m) 2 c.n [] id hm h1;rw[z8] at hO;refine D6 hP rfl (hO _) s_ (by simp[J1]<;>rfl) (λpv hpv=>⟨s_,by injection hpv with hpv; subst hpv; exact hPn _ _ (K7 h1) rfl (t_ J1)⟩) (λv wr h=>by cases h)
  have hO:=λid=>A0L (s:=s) (J:=J) (m:=m) 2 c.n [] id h1;rw[z8 s m] at hO;(refine yC rfl (hO _) ?_; simp[J1]);have hrn:F7 []:=by simp
  refine hR _ _ _ (L6 h1) ?_;refine F5 f_ [] hrn ⟨?_,?_,?_,?_,?_,?_⟩<;>(try simp[bR,J1])
 refine D0 (λh4=>?_) (λh4=>?_)<;>simp
 ·have h4:f.kind=2:=by simpa using h4
  have hw1:wS s x t=1:=by rw[hw,zj (.inr h4)]
  simp only[hw1,hV2 h4] at hR hPn;by_cases h1:m+1<=2000
  rotate_left
  ·have hO:=λid=>A36 (s:=s) (J:=J) (m:=m) 3 0 c.text id hm h1;rw[z8] at hO;refine D6 hP rfl (hO _) s_ (by simp[J1]<;>rfl) (λpv hpv=>⟨s_,by injection hpv with hpv; subst hpv; exact hPn _ _ (K7 h1) rfl (t_ J1)⟩) (λv wr h=>by cases h)
  have hO:=λid=>A0L (s:=s) (J:=J) (m:=m) 3 0 c.text id h1;rw[z8 s m] at hO;(refine yC rfl (hO _) ?_; simp[J1]);have hrn:F7 []:=by simp
  refine hR _ _ _ (L6 h1) ?_;refine F5 f_ [] hrn ⟨?_,?_,?_,?_,?_,?_⟩<;>(try simp[bR,J1])
 have h3:f.kind≠1:=by simpa using h3
 have h4:f.kind≠2:=by simpa using h4
 rw[zf o_] at hw;rw[zf h3,zf h4] at ho;simp only[hV3 h3 h4] at hR hPn;obtain⟨ok,on,ot,oks,ols,hoe⟩:∃(a b:Int) (c:List UInt8) (d:List (List UInt8)) (e:List D8),eO (oS s x t) = .agg [.int .i64 a,.int .i64 b,.str c,.sl (d.map .str),.sl (e.map eO)]:=by
  cases oS s x t with|mk a b c d e=>exact⟨a,b,c,d,e,A0q a b c d e⟩
 rw[hoe] at hR;refine D0 (λh5=>?_) (λh5=>?_)<;>simp
 ·have h5:f.kind=4:=by simpa using h5
  rw[zj h5] at hw ho;have hL:=λid=>B7T (s:=s) (kids:=x.kids) (ids:=A1z x.args c.ids) (J:=J) (kd:=B8 s.types f.of) (W:=thW s (wL s x.kids) (B8 s.types f.of)) (O:=thO s (x.kids.map C8) (oL s x.kids) (B8 s.types f.of)) id hm (by unfold A1z; split<;>(try simp only[zy])<;>omega) (λy hy=>hT y (by
   unfold A1z at hy;split at hy
   ·exact hy
   ·exact xn hy))
  rw[←hw,←ho,hoe] at hL;cases hx:x.args with
  | nil =>
   rw[hx] at hVa hL;simp only[A1z] at hL;(refine yC rfl (hVa _) ?_; simp);by_cases h1:m+wS s x t<=2000
   rotate_left
   ·simp only[K7 h1] at hL;rw[z8] at hL;refine D6 hP rfl (hL _) s_ (by simp[J1]<;>rfl) (λpv hpv=>⟨s_,by injection hpv with hpv; subst hpv; exact hPn _ _ (K7 h1) rfl (t_ J1)⟩) (λv wr h=>by cases h)
   have hL1:∀id,A2 prog 189 _ _ id _ _:=λid=>by
    have:=hL id;rw[L6 h1] at this; exact this
   rw[z8 s m] at hL1;(refine yC rfl (hL1 _) ?_; simp[J1]);have hrn:F7 []:=s_;refine hR _ _ _ (L6 h1) ?_;refine F5 f_ [] hrn ⟨?_,?_,?_,?_,?_,?_⟩<;>(try simp[bR,J1])
  | cons a r =>
   obtain⟨ha0,ha1⟩:=ha a r hx;rw[hx] at hVa hL;simp only[A1z] at hL;(refine yC rfl (hVa _) ?_; simp);refine⟨⟨λ_ _=>rfl,o_,o_⟩,?_⟩;have htk:List.take (min a.n (c.ids.length:Int)).toNat (c.ids.map eI)=(c.ids.take a.n.toNat).map eI:=by
    rw[yt];rcases Int.le_total a.n c.ids.length with g|g
    ·rw[Int.min_eq_left g]
    ·rw[Int.min_eq_right g,zm s_,zm m_]
   rw[htk];by_cases h1:m+wS s x t<=2000
   rotate_left
   ·simp only[K7 h1] at hL;rw[z8] at hL;refine D6 hP rfl (hL _) s_ (by simp[J1]<;>rfl) (λpv hpv=>⟨s_,by injection hpv with hpv; subst hpv; exact hPn _ _ (K7 h1) rfl (t_ J1)⟩) (λv wr h=>by cases h)
   have hL1:∀id,A2 prog 189 _ _ id _ _:=λid=>by
    have:=hL id;rw[L6 h1] at this; exact this
   rw[z8 s m] at hL1;(refine yC rfl (hL1 _) ?_; simp[J1]);have hrn:F7 []:=s_;refine hR _ _ _ (L6 h1) ?_;refine F5 f_ [] hrn ⟨?_,?_,?_,?_,?_,?_⟩<;>(try simp[bR,J1])
 ·have h5:f.kind≠4:=by simpa using h5
  rw[zf h5] at hw ho;cases hi:c.ids with
  | nil =>
   rw[hi] at hw ho;simp only at hw ho;have hN:=λid=>B4O s J m id hm;rw[←ho,←hw,hoe] at hN;refine A7 (by rfl) ?_;simp;by_cases h1:m+wS s x t<=2000
   rotate_left
   ·simp only[K7 h1] at hN;rw[z8] at hN;refine D6 hP rfl (hN _) s_ (by simp[J1]<;>rfl) (λpv hpv=>⟨s_,by injection hpv with hpv; subst hpv; exact hPn _ _ (K7 h1) rfl (t_ J1)⟩) (λv wr h=>by cases h)
   have hN1:∀id,A2 prog 254 _ _ id _ _:=λid=>by
    have:=hN id;rw[L6 h1] at this; exact this
   rw[z8 s m] at hN1;(refine yC rfl (hN1 _) ?_; simp[J1]);have hrn:F7 []:=s_;refine hR _ _ _ (L6 h1) ?_;refine F5 f_ [] hrn ⟨?_,?_,?_,?_,?_,?_⟩<;>(try simp[bR,J1])
  | cons y r =>
   rw[hi] at hw ho;simp only at hw ho;have hTy:=λid=>hT y (by rw[hi]; simp) m id hm;rw[←hw,←ho,hoe] at hTy;refine A0 m_ ?_;simp[eI];by_cases h1:m+wS s x t<=2000
   rotate_left
   ·simp only[K7 h1] at hTy;rw[z8] at hTy;refine D6 hP rfl (hTy _) s_ (by simp[J1]<;>rfl) (λpv hpv=>⟨s_,by injection hpv with hpv; subst hpv; exact hPn _ _ (K7 h1) rfl (t_ J1)⟩) (λv wr h=>by cases h)
   have hT1:∀id,A2 prog 188 _ _ id _ _:=λid=>by
    have:=hTy id;rw[L6 h1] at this; exact this
   rw[z8 s m] at hT1;(refine yC rfl (hT1 _) ?_; simp[J1]);have hrn:F7 []:=s_;refine hR _ _ _ (L6 h1) ?_;refine F5 f_ [] hrn ⟨?_,?_,?_,?_,?_,?_⟩<;>(try simp[bR,J1])
structure RtS(s:H6):Prop where
 sch:A7F s.types
 len:s.things.length<=12
 tg:∀t∈s.things,A4w s t
def B2E{s:H6}(h:fSt s=0):RtS s:=by
 unfold fSt at h;split at h
 ·exact (by assumption:H9 s.types≠0) h |>.elim
 rename_i h1;split at h
 ·omega
 rename_i h2;split at h
 ·exact (by assumption:D2 _ _ _≠0) h |>.elim
 rename_i h3;refine⟨A5W (zk h1),o_,λt ht=>?_⟩;obtain⟨i,hi⟩:=yi.1 ht;have h0:=R5 _ _ _ (zk h3) i t hi;unfold A1X at h0;refine C6a (zk λhn=>?_);rw[zj hn] at h0;exact hn h0
def B2F{s:H6}{kd id:Int}{u:Tg}(hs:RtS s)(hk : -1<=kd/\kd<=5)(h:thA s kd id=some u):u∈s.things/\u.type=kd:=by
 unfold thA at h;split at h
 ·rename_i hb;have hm:=zg h;refine⟨hm,?_⟩;unfold F2 at hb;simp only[yk,decide_eq_true_eq] at hb;have h2:=hb.2;have ht:=hs.tg u hm;have a1:=ht.ty0;have a2:=ht.ty1;have a3:=hs.sch.len;unfold J7 at h2;rw[h] at h2;simp only[A0Z] at h2;split at h2
  ·rw[wrap64 o_] at h2; omega
  ·omega
 ·cases h
def A1L(l:List Ty)(n:List UInt8)(h:l.length<=5): -1<=B8 l n/\B8 l n<=5:=by
 unfold B8;rcases S3 (λt=>t.name==n) l 0 with⟨q1,q2⟩|⟨j,t',q1,q2,q3⟩
 ·omega
 ·have:=(ze.1 q1).1; omega
def A6r{l:List Ty}{t:Ty}:∀{q:List C5},A2T l t q=0->∀x∈q,B8d l t x=0
 | [],_,x,hx=>by cases hx
 | a::r,h,x,hx=>by
  simp only[A2T] at h;split at h
  ·rename_i h0; exact (h0 h).elim
  ·rename_i h0;rcases zi.1 hx with rfl|hx
   ·exact zk h0
   ·exact A6r h x hx
def A9H{name:List UInt8}{may:Bool}{a b:Int}{x:Ag}{r:List Ag}(h:V8 (x::r) name may a b=0):a<=x.n/\x.n<=b:=by
 unfold V8 S2 at h;split at h
 ·rename_i h0; exact (h0 h).elim
 ·rename_i h0;have h0:=zk h0;unfold A4c at h0;repeat' split at h0
  all_goals first|(exfalso; omega)|omega
def B0w{s:H6}(hs:RtS s):∀(n:Nat) (x:C5) (u:Tg) (ty:Ty) (J m id:Nat),x.sz<n->x.sz<=1000000->A4w s u->s.types[u.type.toNat]?=some ty->B8d s.types ty x=0->m<=2000 ->
  Z0 prog 256 [.ptr J 0 0,Q9 u,C6 x] [(J,bR s m)] id (rnR s J m (wS s x u) (eO (oS s x u)))
 | 0,x,u,ty,J,m,id,hn,_,_,_,_,_=>by omega
 | n+1,x,u,ty,J,m,id,hn,h8,hu,hty,hk,hm=>by
  by_cases hid:x.name=tId
  ·exact C2F id hm hid
  rw[A7p] at hk;unfold fieldAt at hk;rw[zf hid] at hk;have hsz:=A2R x;have hkl:=o9 x.kids;have hl5:=hs.sch.len;have hf6:=hs.sch.fields ty (zg hty);have hfl:D5 s.types u.type=ty.fields:=by unfold D5; rw[hty]; rfl
  rcases S3 (λg=>g.name==x.name) ty.fields 0 with⟨r1,r2⟩|⟨k,f,r1,r2,r3⟩
  ·rw[r1] at hk; simp at hk
  rw[r3] at hk;simp only at hk;rw[yy] at r2;have hkd:=hs.sch.kinds ty (zg hty) f (zg r1);have hlen:=hu.len;rw[hfl] at hlen;have hk6:=(ze.1 r1).1;obtain⟨c,hc⟩:∃c,u.cells[k]?=some c:=⟨_,zc o_⟩;obtain⟨f',hf',hcl⟩:=hu.cellOk hc;rw[hfl,r1] at hf';obtain rfl:f=f':=by simpa using hf'
  split at hk
  ·rename_i h0; exact (h0 hk).elim
  rename_i hA;have hA:=zk hA;split at hk
  ·simp at hk
  have hi6:=hcl.i1;refine C2G id hm hid (q:=u.type.toNat) (by have:=hu.ty0; omega) hty o_ o_ r2 r1 hc hkd o_ (λa r e=>A9H (by rw[e] at hA; exact hA)) λy hy m id hm=>?_;have hk34:f.kind=3\/f.kind=4:=by
   refine zk λhn=>?_;have:c.ids=[]:=hcl.i0 (by unfold j0; simp; omega);rw[this] at hy; cases hy
  rw[zf m_] at hk;refine B4P id hm (by have:=hs.len; omega) o_ λv hv z hz m id hm=>?_;obtain⟨hv1,hv2⟩:=B2F hs (A1L _ _ hl5) hv;have hz1:=x4 hz;have hv4:=hs.tg v hv1;have htyp:∃ty',s.types[v.type.toNat]?=some ty'/\A2y s.types f.of=some ty':=by
   rcases S3 (λt=>t.name==f.of) s.types 0 with⟨q1,q2⟩|⟨j,t',q1,q2,q3⟩
   ·have:=hv4.ty0;rw[hv2] at this;unfold B8 at this;omega
   ·refine⟨t',?_,q3⟩;rw[hv2];unfold B8;rw[q2];simpa using q1
  obtain⟨ty',ht1,ht2⟩:=htyp;rw[ht2] at hk;exact B0w hs n z v ty' J m id o_ o_ hv4 ht1 (A6r hk z hz) hm
def t6(s:H6)(kd:Int)(l:List Tg):List Int:=(l.filter λt=>t.type==kd).map Tg.id
def rtW(s:H6)(x:C5):Nat:=match x.args with
 | []=>1+((t6 s (B8 s.types x.name) s.things).map (thW s (wL s x.kids) (B8 s.types x.name))).sum
 | a::_=>thW s (wL s x.kids) (B8 s.types x.name) a.n
def rtO(s:H6)(x:C5):D8:=match x.args with
 | []=>N7 ((t6 s (B8 s.types x.name) s.things).map (thO s (x.kids.map C8) (oL s x.kids) (B8 s.types x.name)))
 | a::_=>thO s (x.kids.map C8) (oL s x.kids) (B8 s.types x.name) a.n
def B0x(s:H6)(kd:Int)(l:List Tg):(t6 s kd l).length<=l.length:=by
 unfold t6; rw[xf]; exact List.length_filter_le ..
theorem C8P(t:Tg):Q9 t = .agg [.int .i64 t.type,.int .i64 t.id,.sl (t.cells.map eCl)]:=rfl
def C4g{s:H6}{x:C5}{J m:Nat}(id:Nat)(hm:m<=2000)(hl8:s.types.length<=1000)(h12:s.things.length<=1000)
  (hT:∀y m id,m<=2000->Z0 prog 188 [.ptr J 0 0,.int .i64 (B8 s.types x.name),.int .i64 y,.sl (x.kids.map C6)] [(J,bR s m)] id (rnR s J m (thW s (wL s x.kids) (B8 s.types x.name) y) (eO (thO s (x.kids.map C8) (oL s x.kids) (B8 s.types x.name) y)))) :
  Z0 prog 122 [.ptr J 0 0,C6 x] [(J,bR s m)] id (rnR s J m (rtW s x) (eO (rtO s x))):=by
 have hFn:=λid=>o8 s.types x.name id o_;rw[show E0 (λz:Ty=>z.name==x.name) s.types 0=B8 s.types x.name from rfl] at hFn;have hVa:=λid=>B7U x id;rw[H0] at hVa;obtain⟨ok,on,ot,oks,ols,hoe⟩:∃(a b:Int) (c:List UInt8) (d:List (List UInt8)) (e:List D8),eO (rtO s x) = .agg [.int .i64 a,.int .i64 b,.str c,.sl (d.map .str),.sl (e.map eO)]:=by
  cases rtO s x with|mk a b c d e=>exact⟨a,b,c,d,e,A0q a b c d e⟩
 rw[H0,z8];cases hx:x.args with
 | cons a r =>
  have hw:rtW s x=thW s (wL s x.kids) (B8 s.types x.name) a.n:=by unfold rtW; rw[hx]
  have ho:rtO s x=thO s (x.kids.map C8) (oL s x.kids) (B8 s.types x.name) a.n:=by unfold rtO; rw[hx]
  have hTy:=λid=>hT a.n m id hm;rw[←hw,←ho,hoe] at hTy;rw[hx] at hVa;rw[hoe];refine w122.x.1 λE hP hR hPn hl hid hB hu=>?_;simp[w122];have hJ:=hl (J,_) (za ..);simp only at hJ;have J1:=lf hJ;simp[J1];(refine yC rfl (hFn _) ?_; simp);(refine yC rfl (hVa _) ?_; simp);by_cases h1:m+rtW s x<=2000
  rotate_left
  ·simp only[K7 h1] at hTy;rw[z8] at hTy;refine D6 hP rfl (hTy _) s_ (by simp[J1]<;>rfl) (λpv hpv=>⟨s_,by injection hpv with hpv; subst hpv; exact hPn _ _ (K7 h1) rfl (t_ J1)⟩) (λv wr h=>by cases h)
  have hT1:∀id,A2 prog 188 _ _ id _ _:=λid=>by
   have:=hTy id;rw[L6 h1] at this; exact this
  rw[z8 s m] at hT1;(refine yC rfl (hT1 _) ?_; simp[J1]);have hrn:F7 []:=by simp
  refine hR _ _ _ (L6 h1) ?_;refine F5 f_ [] hrn ⟨?_,?_,?_,?_,?_,?_⟩<;>(try simp[bR,J1])
 | nil =>
  have hw:rtW s x=1+((t6 s (B8 s.types x.name) s.things).map (thW s (wL s x.kids) (B8 s.types x.name))).sum:=by unfold rtW; rw[hx]
  have ho:rtO s x=N7 ((t6 s (B8 s.types x.name) s.things).map (thO s (x.kids.map C8) (oL s x.kids) (B8 s.types x.name))):=by unfold rtO; rw[hx]
  have hil:=B0x s (B8 s.types x.name) s.things;have hL:=λid=>B7T (s:=s) (kids:=x.kids) (ids:=t6 s (B8 s.types x.name) s.things) (J:=J) (kd:=B8 s.types x.name) (W:=thW s (wL s x.kids) (B8 s.types x.name)) (O:=thO s (x.kids.map C8) (oL s x.kids) (B8 s.types x.name)) id hm o_ (λy _=>hT y);rw[←hw,←ho,hoe] at hL;rw[hx] at hVa;rw[hoe];generalize hkd:B8 s.types x.name=kd at *;refine w122.x.1 λE hP hR hPn hl hid hB hu=>?_;simp[w122];have hJ:=hl (J,_) (za ..);simp only at hJ;have J1:=lf hJ;simp[J1];(refine yC rfl (hFn _) ?_; simp);(refine yC rfl (hVa _) ?_; simp[J1]);refine B9 (X:=Nat) (λi=>⟨[(0,true,.ptr J 0 0),(3,true,.ptr E.n0 0 0),(4,true,.ptr (E.n0+1) 0 0),(5,true,.int .i64 kd),(8,true,.bsl (E.n0+2) 0 (t6 s kd (s.things.take i)).length),(35,true,.sl (s.things.map Q9)),(36,true,.int .i64 s.things.length),(37,true,.int .i64 i)],
   [(J,some (bR s m)),(E.n0,some ⟨[.agg [.str x.alias,.str x.name,.sl [],.sl (x.kids.map C6)]],.agg [.str x.alias,.str x.name,.sl [],.sl (x.kids.map C6)],false,false⟩),(E.n0+1,some ⟨[.agg [.int .i64 0,.int .i64 0,.str [],.nils,.nils]],.agg [.int .i64 0,.int .i64 0,.str [],.nils,.nils],false,false⟩),(E.n0+2,some ⟨(t6 s kd (s.things.take i)).map eI,.int .i64 0,false,false⟩)],3⟩)
   (λi=>i<=s.things.length) (λi=>s.things.length - i) 0 ?_ o_ ?_
  ·refine D9.trans (D9.voidSlot 8 (x:=.nils) (y:=.bsl (E.n0+27648) 0 0) s_ .nils (.int .i64 0)) ?_;have hi0:t6 s kd []=[]:=rfl;refine yV [(E.n0,E.n0),(E.n0+1,E.n0+1024),(E.n0+2,E.n0+27648)] s_ λhrn=>⟨?_,?_,?_,?_,?_⟩<;>(try simp[hi0,bR,J1])
  ·rintro i hi p hp;refine A3 4000 ?_;simp;refine D0 (λh=>?_) (λh=>?_)
   ·have h:=zq h;obtain⟨t,ht⟩:∃t,s.things[i]?=some t:=⟨_,zc h⟩;have hi1:IntKind.i64.wrap ((i:Int)+1)=((i+1:Nat):Int):=wrap64 o_;have hfl:=B0x s kd (s.things.take i);rw[zy] at hfl;simp[ht,C8P t];refine⟨h,?_⟩;refine D0 (λg=>?_) (λg=>?_)
    ·have g:t.type=kd:=(v_ g);have hts:t6 s kd (s.things.take (i+1))=t6 s kd (s.things.take i)++[t.id]:=(by unfold t6; rw[wi,ht]; simp[g]);simp[J1];refine⟨⟨o_,o_⟩,?_⟩;refine hp _ (i+1) o_ o_ ?_;refine yV [(E.n0,E.n0),(E.n0+1,E.n0+1),(E.n0+2,E.n0+13315)] s_ λhrn=>⟨?_,?_,?_,?_,?_⟩<;>(try simp[hi1,hts,bR,J1]);exact B4 rfl (B3 (A1J _) rfl)
    ·have g:¬t.type=kd:=(v_ g);have hts:t6 s kd (s.things.take (i+1))=t6 s kd (s.things.take i):=(by unfold t6; rw[wi,ht]; simp[g]);simp;refine hp _ (i+1) o_ o_ ?_;refine yV [(E.n0,E.n0),(E.n0+1,E.n0+1),(E.n0+2,E.n0+2)] s_ λhrn=>⟨?_,?_,?_,?_,?_⟩<;>(try simp[hi1,hts,bR,J1])
   ·have h:=zo h;have hall:s.things.take i=s.things:=zm o_;rw[hall];simp[J1];by_cases h1:m+rtW s x<=2000
    rotate_left
    ·simp only[K7 h1] at hL;refine A8Q hP rfl (hL _) (by simp[bR,J1]<;>rfl) s_ (by simp[bR]<;>rfl) (by simp[bR,J1]) (λpv hpv=>⟨s_,by injection hpv with hpv; subst hpv; exact hPn _ _ (K7 h1) rfl (by simp[bR,J1])⟩) (λv wr h=>by cases h)
    have hL1:∀id,A2 prog 189 _ _ id _ _:=λid=>by
     have:=hL id;rw[L6 h1] at this; exact this
    (refine A0z hP rfl (hL1 _) (by simp[bR,J1]<;>rfl) s_ (by simp[bR]<;>rfl) (by simp[bR,J1]) ?_; refine A3 4000 ?_; simp[bR,J1]);have hrn:F7 []:=s_;refine hR _ _ _ (L6 h1) ?_;refine F5 f_ [] hrn ⟨?_,?_,?_,?_,?_,?_⟩<;>(try simp[bR,J1])
def B5y(s:H6)(l:List C5):Nat:=(l.map λx=>rtW s x).sum
def B9C(s:H6)(l:List C5)(J m:Nat)(id:Nat)(hm:m<=2000)(hl8:l.length<=1000000)
  (hdo:∀x∈l,∀m id,m<=2000->Z0 prog 122 [.ptr J 0 0,C6 x] [(J,bR s m)] id (rnR s J m (rtW s x) (eO (rtO s x)))) :
  Z0 prog 121 [.ptr J 0 0,.sl (l.map C6),.fnb 122 [.ptr J 0 0]] [(J,bR s m)] id (rnR s J m (1+B5y s l) (eO (W5 (l.map C8) (l.map (rtO s))))):=by
 have hsum:B5y s l=(l.map λx=>rtW s x).sum:=rfl;refine w121.x.1 λE hP hR hPn hl hid hB hu=>?_;simp[w121];have hJ:=hl (J,_) (za ..);simp only at hJ;have J1:=lf hJ;by_cases h1:m+1<=2000
 rotate_left
 ·refine D6 hP rfl (A36 5 0 [] _ hm h1) s_ (by simp[J1]<;>rfl) (λpv hpv=>⟨s_,by injection hpv with hpv; subst hpv; exact hPn _ _ (K7 o_) rfl (t_ J1)⟩) (λv wr h=>by cases h)
 (refine E5 hP rfl (A0L 5 0 [] _ h1) s_ (by simp[J1]<;>rfl) ?_; refine A3 4000 ?_; simp);refine B9 (X:=Nat) (λi=>⟨[(2,true,.fnb 122 [.ptr J 0 0]),(6,true,.ptr E.n0 0 0),(7,true,.ptr (E.n0+1) 0 0),(13,true,.sl (l.map C6)),(14,true,.int .i64 l.length),(15,true,.int .i64 i)],
   [(J,some (bR s (m+1+((l.take i).map λx=>rtW s x).sum))),(E.n0,some ⟨[.agg [.int .i64 0,.int .i64 0,.str [],.nils,.nils]],.agg [.int .i64 0,.int .i64 0,.str [],.nils,.nils],false,false⟩),(E.n0+1,some ⟨[.agg [.int .i64 5,.int .i64 0,.str [],.bsl (E.n0+2) 0 i,.bsl (E.n0+3) 0 i]],.agg [.int .i64 0,.int .i64 0,.str [],.nils,.nils],false,false⟩),(E.n0+2,some ⟨((l.map C8).map .str).take i,.str [],false,false⟩),(E.n0+3,some ⟨((l.map (rtO s)).map eO).take i,.agg [.int .i64 0,.int .i64 0,.str [],.nils,.nils],false,false⟩)],4⟩)
  (λi=>i<=l.length/\m+1+((l.take i).map λx=>rtW s x).sum<=2000) (λi=>l.length - i) 0 ?_ ⟨o_,m_⟩ ?_
 ·refine D9.trans (D9.voidBox (E.n0+4096) (by simp; rfl) rfl (.agg [.int .i64 5,.int .i64 0,.str [],.nils,.nils] [.int .i64 5,.int .i64 0,.str [],.bsl (E.n0+9216) 0 0,.nils] rfl (λm x y h1 h2=>?_)) (.str [])) (D9.trans (D9.voidBox (E.n0+4096) (by simp; rfl) rfl (.agg [.int .i64 5,.int .i64 0,.str [],.bsl (E.n0+9216) 0 0,.nils] [.int .i64 5,.int .i64 0,.str [],.bsl (E.n0+9216) 0 0,.bsl (E.n0+9217) 0 0] rfl (λm x y h1 h2=>?_)) (.agg [.int .i64 0,.int .i64 0,.str [],.nils,.nils])) ?_)
  ·match m,h1,h2 with
   | 0,h1,h2|1,h1,h2|2,h1,h2|4,h1,h2=>simp at h1 h2; exact .inl (h1.symm.trans h2)
   | 3,h1,h2=>simp at h1 h2; exact .inr ⟨h1.symm,h2.symm⟩
   | m+5,h1,h2=>simp at h1
  ·match m,h1,h2 with
   | 0,h1,h2|1,h1,h2|2,h1,h2|3,h1,h2=>simp at h1 h2; exact .inl (h1.symm.trans h2)
   | 4,h1,h2=>simp at h1 h2; exact .inr ⟨h1.symm,h2.symm⟩
   | m+5,h1,h2=>simp at h1
  ·refine yV [(E.n0,E.n0),(E.n0+1,E.n0+4096),(E.n0+2,E.n0+9216),(E.n0+3,E.n0+9217)] s_ λhrn=>⟨?_,?_,?_,?_,?_⟩<;>(try simp[bR,J1])
 ·rintro i ⟨hi,hm2⟩ p hp;refine A3 4000 ?_;simp;refine D0 (λh=>?_) (λh=>?_)
  ·have h:=zq h;obtain⟨x,hx,hd⟩:=A5 h;have hi1:IntKind.i64.wrap ((i:Int)+1)=((i+1:Nat):Int):=wrap64 o_;have hxm:=zg hx;have hst:=A2C (λx=>rtW s x) hx;have hCa:=A4M x;rw[H0] at hCa;have hdx:=hdo x hxm;have hk1:((l.map C8).map AV.str).take (i+1)=((l.map C8).map AV.str).take i++[.str (C8 x)]:=L0 (t_ hx);have ho1:((l.map (rtO s)).map eO).take (i+1)=((l.map (rtO s)).map eO).take i++[eO (rtO s x)]:=L0 (t_ hx);have hlo:(l.map (rtO s)).length=l.length:=s_;obtain⟨ok,on,ot,oks,ols,hoe⟩:∃(a b:Int) (c:List UInt8) (d:List (List UInt8)) (e:List D8),eO (rtO s x) = .agg [.int .i64 a,.int .i64 b,.str c,.sl (d.map .str),.sl (e.map eO)]:=by
    cases rtO s x with|mk a b c d e=>exact⟨a,b,c,d,e,A0q a b c d e⟩
   rw[hoe,H0] at hdx;rw[hoe] at ho1;simp only[vm] at *;simp[hx,H0 x,J1];refine⟨h,?_⟩;(refine yC rfl (hCa _) ?_; simp[J1]);refine⟨⟨o_,o_,o_⟩,?_⟩;have hsl:=A6q (l:=l) (i:=i+1) (λx=>rtW s x);by_cases h2:m+1+((l.take i).map λx=>rtW s x).sum+rtW s x<=2000
   ·have hd2:∀id,A2 prog 122 _ _ id _ _:=λid=>by
     have:=hdx (m+1+((l.take i).map λx=>rtW s x).sum) id hm2;rw[L6 h2] at this; exact this
    simp only[yt] at *;refine B6a hP rfl rfl (hd2 _) s_ (by simp[J1]<;>rfl) ?_;refine A3 4000 ?_;simp[J1];refine⟨⟨o_,o_,o_⟩,?_⟩;have hst2:(List.take (i+1) (List.map (λx=>rtW s x) l)).sum=(List.take i (List.map (λx=>rtW s x) l)).sum+rtW s x:=(by simpa only[yt] using hst);refine hp _ (i+1) ⟨h,o_⟩ o_ ?_;refine yV [(E.n0,E.n0),(E.n0+1,E.n0+1),(E.n0+2,E.n0+10244),(E.n0+3,E.n0+19460)] s_ λhrn=>⟨?_,?_,?_,?_,?_⟩<;>(try simp[hi1,bR,hst2,hk1,ho1,J1]);refine⟨o_,B4 rfl (B3 (by rw[←yt]; exact E9 (λ_=>rfl) _) rfl),B4 rfl (B3 (by rw[←yt]; exact E9 (λ_=>A4R _) _) (by simp[Y4,A0K]))⟩
   ·have hd2:∀id,Z0 prog 122 _ _ id _:=λid=>by
     have:=hdx (m+1+((l.take i).map λx=>rtW s x).sum) id hm2;rw[K7 h2] at this; exact this
    simp only[yt] at *;refine C0a hP rfl rfl (hd2 _) s_ (by simp[J1]<;>rfl) (λpv hpv=>⟨t_ J1,by injection hpv with hpv; subst hpv; exact hPn _ _ (K7 o_) rfl (t_ J1)⟩) (λv wr h=>by cases h)
  ·have h:¬i<l.length:=zo h;have hil:i=l.length:=o_;subst hil;simp[J1];have hlo:(l.map (rtO s)).length=l.length:=s_;have hsa:(List.take l.length (List.map (λx=>rtW s x) l)).sum=B5y s l:=(by rw[hsum,zm s_]);have hka:List.take l.length (List.map (AV.str∘C8) l)=List.map (AV.str∘C8) l:=zm s_;have hoa:List.take l.length (List.map (eO∘rtO s) l)=List.map (eO∘rtO s) l:=zm s_;simp only[yt] at hm2;rw[hsa] at hm2;unfold W5 at hR;rw[A0q,vm,vm] at hR;have hrn:F7 []:=s_;refine hR _ _ _ (L6 o_) ?_;refine J0 f_ (by simp[hka,hoa,J1]<;>exact⟨rfl,rfl⟩) [] hrn ⟨?_,?_,?_,?_,?_,?_⟩<;>(try simp[bR,hsa,J1])
   ·exact A4 _ (E9 (λ_=>A4R _) _)
   ·omega
def qO(s:H6)(q:List C5):D8:=W5 (q.map C8) (q.map (rtO s))
def qW(s:H6)(q:List C5):Nat:=1+B5y s q
def B5z{l:List Ty}{x:C5}(h:B0V l x=0):∃t,A2y l x.name=some t/\A2T l t x.kids=0/\∀a r,x.args=a::r->1<=a.n/\a.n<=999:=by
 unfold B0V at h;split at h
 ·cases h
 rename_i t ht;split at h
 ·rename_i h0; exact (h0 h).elim
 rename_i h0;have h0:=zk h0;split at h
 ·cases h
 exact⟨t,ht,h,λa r e=>A9H (by rw[e] at h0; exact h0)⟩
def C4h{s:H6}(hs:RtS s)(q:List C5)(hf:A08 s.types q=0)(hq8:p7 q<=1000000)(J m:Nat)(id:Nat)(hm:m<=2000):
  Z0 prog 121 [.ptr J 0 0,.sl (q.map C6),.fnb 122 [.ptr J 0 0]] [(J,bR s m)] id (rnR s J m (qW s q) (eO (qO s q))):=by
 have hl5:=hs.sch.len;have hlen:=o9 q;refine B9C s q J m id hm o_ λx hx m id hm=>C4g id hm o_ (by have:=hs.len; omega) λy m id hm=>?_;obtain⟨t,h1,h2,h3⟩:=B5z (A1n.1 hf x hx);have hsx:=x4 hx;have hsz:=A2R x;have hkl:=o9 x.kids;refine B4P id hm (by have:=hs.len; omega) o_ λu hu z hz m id hm=>?_;obtain⟨u1,u2⟩:=B2F hs (A1L _ _ hl5) hu;have hu4:=hs.tg u u1;have hz1:=x4 hz;have hty:s.types[u.type.toNat]?=some t:=by
  rcases S3 (λt=>t.name==x.name) s.types 0 with⟨q1,q2⟩|⟨j,t',q1,q2,q3⟩
  ·have:=hu4.ty0;rw[u2] at this;unfold B8 at this;omega
  ·rw[u2];unfold B8;rw[q2];unfold A2y at h1;rw[h1] at q3;obtain rfl:t=t':=by simpa using q3
   simpa using q1
 exact B0w hs _ z u t J m id (xx _) o_ hu4 hty (A6r h2 z hz) hm
def zOut:AV:=.agg [.int .i64 0,.int .i64 0,.str [],.nils,.nils]
def bO(v:AV):Bx:=⟨[v],zOut,false,false⟩
def bB(b:Bool):Bx:=⟨[.bool b],.bool false,false,false⟩
def C2H(E:O8)(J4 J5:Nat)(h4:J4<E.n0)(h5:J5<E.n0)(d:J4≠J5)(hR:∀fr bx k,bk bx J4=some (bO zOut)->bk bx J5=some (bB false)->(∀q∈bx,q.1=J4\/q.1=J5\/E.n0<=q.1)->E.Rt ⟨fr,bx,k⟩):
  Wk E [.code B28] ⟨[(0,true,.ptr J4 0 0),(1,true,.ptr J5 0 0),(2,true,tm)],[(J4,some (bO zOut)),(J5,some (bB false))],0⟩:=by
 unfold tm bO bB zOut;have e4:∀t,(J4=E.n0+t)=False:=λt=>by simp; omega
 have e5:∀t,(J5=E.n0+t)=False:=λt=>by simp; omega
 refine A3 4000 ?_;simp[B28,e4,e5,yc d];refine hR _ _ _ ?_ ?_ ?_
 ·simp[d,bO,zOut]
 ·simp[bB]
 ·simp
def C8Q{x x' z:Code}{X:Operand}{Y:Code}(h:f120.body=some (.seq x (.seq x' (.cond X Y z)))):C9 prog f120.ntmps Y=B28:=by
 have h0:=C6v;rw[h] at h0;simp only[vd,zd,C5f] at h0;obtain⟨_,_,e1,_,h1⟩:=H2 h0;injection e1 with _ e1
 subst e1;obtain⟨_,_,e2,_,h2⟩:=H2 h1;injection e2 with _ e2
 subst e2;obtain⟨_,_,_,e3,_,h3,_⟩:=A1F h2;injection e3 with _ e3 _
 subst e3;exact h3
def C2I(C:Cx prog)(G:Gh)(B:Nat->Option Bx)(w:World)(n0 J4 J5:Nat)(v4 v5 u:Value)(hs:RS C G B w)(hv4:RV G w (.ptr J4 0 0) v4)(hv5:RV G w (.ptr J5 0 0) v5)(hu:RV G w tm u)
  (h4:B J4=some (bO zOut)) (h5:B J5=some (bB false)) (d:J4≠J5) (hold:∀x,G.used x->x<n0) (how:∀x,n0<=x->B x=none) :
  CallsD prog 120 #[v4,v5] (.panicking [{ v:=u,recovered:=false }]) w λe u' w'=>u' = .panicking [{ v:=u,recovered:=true }]/\(∃v,e = .returned v) /\
   ∃G' l k,RS C G' (ov B l) w'/\L4 G w G' w'/\bk l J4=some (bO zOut)/\bk l J5=some (bB false)/\(∀q∈l,q.1=J4\/q.1=J5\/n0<=q.1)/\(∀x,x<n0->G'.used x->G.used x)/\∀x,G'.used x->x<n0+k:=by
 obtain⟨y,rfl⟩:∃y,u = .iface 173 y:=by
  unfold tm at hu;cases hu with|iface _ _ y h=>exact⟨y,rfl⟩
 refine callsD_of_wpS func120 rfl λc₀ cs hm=>?_;apply wpS_seq;apply wpS_region;simp[wpOpsS,go_sem,recoverD,hm,ntmps120,Exit.thenS];apply wpS_seq;apply wpS_region;simp[wpOpsS,go_sem,Exit.thenS];refine wpS_cond (t:=true) (by simp[Act.eval,Array.replicate]) ?_;apply wpS_of_wp;simp only[if_true];let E:O8:=⟨prog,C,B,f120.ntmps,n0,G,w,how,hold,hs,[],λσ=>bk σ.bx J4=some (bO zOut)/\bk σ.bx J5=some (bB false)/\∀q∈σ.bx,q.1=J4\/q.1=J5\/n0<=q.1,λ_ _=>False⟩
 have l4:=hold J4 (hs.boxNames h4).1;have l5:=hold J5 (hs.boxNames h5).1;have hW:=C2H E J4 J5 l4 l5 d λfr bx k h1 h2 h3=>⟨h1,h2,h3⟩;refine wp_mono (hW _ (C8Q rfl) G _ w ?_) λe a w' hq=>?_
 ·refine⟨L4.refl G w,?_,λi hi=>by have:=hold i hi; show i<n0+0; omega,λi _ hi=>hi,λn c v hl=>?_,?_,rfl⟩
  ·have hh:K8 B [(J4,bO zOut),(J5,bB false)]:=λq hq=>by
    simp at hq;rcases hq with rfl|rfl
    ·exact h4
    ·exact h5
   have:=A2M hh;simp only[D4] at this;show RS C G (ov B _) w;rw[this]; exact hs
  ·simp only[lk] at hl;repeat' split at hl
   all_goals first|cases hl|skip
   all_goals rename_i hn<;>subst hn<;>refine⟨λ_=>?_,λh=>by cases h⟩
   ·simpa [zl] using hv4
   ·simpa [zl] using hv5
   ·simpa [zl] using hu
  ·simp[E,ntmps120]
 ·have fin:∀σ G',Q5 E σ G' a w'->E.Rt σ->∀(cs':List Frame),a.defers=[]/\(∃v,(results f120 a.tmps).run prog w' = .ok v w')/\∃G' l k,RS C G' (ov B l) w'/\L4 G w G' w'/\bk l J4=some (bO zOut)/\bk l J5=some (bB false)/\(∀q∈l,q.1=J4\/q.1=J5\/n0<=q.1)/\(∀x,x<n0->G'.used x->G.used x)/\∀x,G'.used x->x<n0+k:=λσ G' hD hR _=>by
   refine⟨hD.defers,⟨_,by simp[results]; rfl⟩,G',σ.bx,σ.k,hD.rs,hD.ev,hR.1,hR.2.1,hR.2.2,hD.old,hD.used⟩
  cases e with
  | normal =>
   obtain⟨σ,G',h1,h2⟩:=hq;obtain⟨f1,⟨v,f2⟩,f3⟩:=fin σ G' h1 h2 cs;exact⟨f1,_,rfl,v,f2,rfl,⟨v,rfl⟩,by obtain⟨g1,g2,g3,d1,d2,d3,d4,d5,d6,d7⟩:=f3; exact⟨g1,g2,d1,d2,d3,d4,λx y h=>d5 (x,y) h,d6,g3,d7⟩⟩
  | ret =>
   obtain⟨σ,G',h1,h2⟩:=hq;obtain⟨f1,⟨v,f2⟩,f3⟩:=fin σ G' h1 h2 cs;exact⟨f1,_,rfl,v,f2,rfl,⟨v,rfl⟩,by obtain⟨g1,g2,g3,d1,d2,d3,d4,d5,d6,d7⟩:=f3; exact⟨g1,g2,d1,d2,d3,d4,λx y h=>d5 (x,y) h,d6,g3,d7⟩⟩
  | exit id=>obtain⟨σ,G',h1,h2⟩:=hq; exact h2.elim
  | panic chain =>
   obtain⟨pv,u,σ,F,B,U,G',rfl,h1,h2,h3,h4⟩:=hq;exact h4.elim
  | _=>exact hq.elim
def C2J(v1 v2:Value)(w:World):CallsD prog 120 #[v1,v2] .returning w λe u' w'=>u' = .returning/\(∃v,e = .returned v)/\w'=w:=by
 refine callsD_of_wpS func120 rfl λc₀ cs hu=>?_;apply wpS_seq;apply wpS_region;simp[wpOpsS,go_sem,recoverD,hu,ntmps120,Exit.thenS];apply wpS_seq;apply wpS_region;simp[wpOpsS,go_sem,Exit.thenS];refine wpS_cond (t:=false) (by simp[Act.eval,Array.replicate]) ?_;simp only[xm,if_false];apply wpS_of_wp;refine wp_skip ?_;exact⟨rfl,_,by rw[←hu],_,by simp[results]; rfl,rfl,⟨_,rfl⟩,rfl⟩
def C9R{x m y z r:Code}(h:f60.body=some (.seq x (.seq m (.seq y (.seq z r))))):C9 prog f60.ntmps x=B7P/\C9 prog f60.ntmps y=B7Q/\C9 prog f60.ntmps z=B0v:=by
 have h0:=C8N;rw[h] at h0;simp only[vd,zd,C8K] at h0;obtain⟨_,_,e1,k1,h1⟩:=H2 h0;injection e1 with e1 e1'
 subst e1 e1';obtain⟨_,_,e2,_,h2⟩:=H2 h1;injection e2 with _ e2
 subst e2;obtain⟨_,_,e3,k3,h3⟩:=H2 h2;injection e3 with e3 e3'
 subst e3 e3';obtain⟨_,_,e4,k4,h4⟩:=H2 h3;injection e4 with e4 e4'
 subst e4 e4';exact⟨k1,k3,k4⟩
def C70{x m r:Code}(h:f60.body=some (.seq x (.seq m r))){Q:Exit->Act->World->Prop}{t:Array Value}{w:World}(hsz:7<t.size)
  (hQ:Q .normal ⟨t.setIfInBounds 7 (.func (.func 120) #[] #[t[4]?.getD undef,t[5]?.getD undef]),[⟨.fn (.func 120) #[t[4]?.getD undef,t[5]?.getD undef],#[]⟩]⟩ w):m.wp prog Q ⟨t,[]⟩ w:=by
 have e:f60.body=some (.seq _ (.seq _ _)):=rfl;rw[e] at h;injection h with h
 injection h with _ h
 injection h with h _
 subst h;refine wp_region ?_;have hmf:∀(fn:Fn) (first cap:Array Value) (w:World),(Instr.makeFunc fn first cap).run prog w = .ok (.func fn first cap) w:=λ_ _ _ _=>rfl;simp[wpOps,go_sem,hsz];exact .inl (.inl hQ)
def I8.ofX{n0:Nat}{bx':List (Nat×Option Bx)}:∀{l:List (Nat×Option Bx)},(∀q∈l,n0<=q.1)->I8 n0 bx' l
 | [],_=>trivial
 | (i,b)::l,h=>⟨.inl (h (i,b) (za ..)),I8.ofX λq hq=>h q (zb _ hq)⟩
def Z5{f:Nat->Option Bx}{i:Nat}{b:Option Bx}(h:f i=b):T6 f i b=f:=by
 funext x
 unfold T6;split
 ·rename_i hx; subst hx; exact h.symm
 ·rfl
def C4i{C:Cx prog}{D:List Deferred}{G G':Gh}{w w':World}{bx:Nat->Option Bx}{n0 k id J4 J5:Nat}{F:Fr}{l:List (Nat×Option Bx)}{a:Act}{cs:List AV}{b:Bool}(own:∀i,n0<=i->bx i=none)(old:∀i,G.used i->i<n0)(hs:RS C G bx w)(hid:∀x,id<=x->x<id+1024->¬G.used x)
  (hD:F9 C f60.ntmps D n0 G w F (ov bx l) (· < n0+k) G' a w') (f4:F 4=some (true,.ptr J4 0 0)) (f5:F 5=some (true,.ptr J5 0 0)) (h4:ov bx l J4=some (bO (.agg cs))) (h5:ov bx l J5=some (bB b)) (hc:cs.length=5) (hp:F8 cs=true) (hl:∀q∈l,n0<=q.1) (d:J4≠J5) (j4:n0<=J4) (j5:n0<=J5) :
  ∃v,(results f60 a.tmps).run prog w' = .ok v w'/\∃G1,RS C G1 bx w'/\L4 G w G1 w'/\RV G1 w' (.tup [.agg cs,.bool b]) v/\∀x,G1.used x->G.used x\/(id<=x/\x<id+1024):=by
 let E:O8:=⟨prog,C,bx,f60.ntmps,n0,G,w,own,old,hs,D,λ_=>True,λ_ _=>False⟩
 have hD':Q5 E ⟨[(4,true,.ptr J4 0 0),(5,true,.ptr J5 0 0)],(J4,some (bO (.agg cs)))::(J5,some (bB b))::l,k⟩ G' a w':=by
  refine⟨hD.ev,?_,hD.used,hD.old,λn c v hl=>?_,hD.size,hD.defers⟩
  ·show RS C G' (ov bx _) w';simp only[ov];rw[Z5 (f:=ov bx l) h5,Z5 h4];exact hD.rs
  ·simp only[lk] at hl;repeat' split at hl
   all_goals first|cases hl|skip
   all_goals rename_i hn<;>subst hn
   ·exact hD.fr _ _ _ f4
   ·exact hD.fr _ _ _ f5
 have hh:K8 E.β []:=K8.nil;refine A6L (E:=E) (id:=id) (rd:=[]) (wr:=[]) (C8M) hh hid hD' ?_;simp only[C8L];have htk:cs.take 5=cs:=zm o_;refine F5 (by simp[bO,bB,yc d,hc,htk]<;>rfl) [] trivial (S9 s_ (t_ hp) ?_);exact I8.ofX λq hq=>by
  simp at hq;rcases hq with rfl|rfl|hq
  ·exact j4
  ·exact j5
  ·exact hl q hq
def B2G{n:Nat}{b:Bx}{r:List (Nat×Option Bx)}:∀{l:List (Nat×Option Bx)},bk l n=some b->bk (l++r) n=some b
 | [],h=>by cases h
 | (m,c)::l,h=>by
  simp only[bk,yw] at h ⊢;split
  ·rename_i hm; rw[zj hm] at h; exact h
  ·rename_i hm; rw[zf hm] at h; exact B2G h
def B2H:CC->List CR
 | .reg _ l _=>l
 | _=>[]
def A3u(s:H6)(q:List C5):AV:=if qW s q<=2000 then eO (qO s q) else zOut
def B7W(s:H6)(q:List C5):∃cs,A3u s q = .agg cs/\cs.length=5/\F8 cs=true:=by
 unfold A3u;split
 ·cases qO s q with|mk a b c d e =>
  rw[A0q];exact⟨_,rfl,rfl,s_⟩
 ·exact⟨_,rfl,rfl,rfl⟩
def C2K{s:H6}(hS:RtS s)(q:List C5)(hf:A08 s.types q=0)(hq8:p7 q<=1000000)(id:Nat):
  A2 prog 60 [H4 s,.sl (q.map C6)] [] id (.tup [A3u s q,.bool (decide (qW s q<=2000))]) []:=by
 refine⟨⟨_,func60,d_,rfl⟩,λC G bx w vs nb hs hv hh hnb hid=>calls_of_wp_defers func60 rfl ?_⟩;obtain⟨k1,k2,k3⟩:=C9R rfl;have own:∀i,max nb (id+1024)<=i->bx i=none:=λi hi=>by
  cases hbi:bx i with
  | none=>rfl
  | some b=>exact (hnb i o_ (hs.boxNames hbi).1).elim
 have old:∀i,G.used i->i<max nb (id+1024):=λi hi=>by
  rcases yd i nb with h|h
  ·omega
  ·exact (hnb i h hi).elim
 generalize max nb (id+1024)=n0 at own old;let E:O8:=⟨prog,C,bx,f60.ntmps,n0,G,w,own,old,hs,[],λ_=>False,λ_ _=>False⟩
 have hD:Q5 E ⟨A1g 0 [H4 s,.sl (q.map C6)],[],0⟩ G { tmps:=vs++Array.replicate (f60.ntmps - vs.size) undef,defers:=[] } w:=by
  refine⟨L4.refl G w,hs,λi hi=>by have:=old i hi; show i<n0+0; omega,λi _ hi=>hi,λn c v hl=>?_,?_,rfl⟩
  ·obtain⟨rfl,_,h3⟩:=A4C hl;simp only[ra] at h3;refine⟨λ_=>?_,λh=>by cases h⟩;have:=hv.2 n v h3;rw[zl] at this ⊢;rw[xu (by rw[←hv.1]; exact (ze.1 h3).1)];exact this
  ·have:=hv.1;simp[ntmps60] at this ⊢;show _=f60.ntmps;simp[ntmps60]; omega
 have hW:Wk E [.code B7P,.post (λσ=>σ=⟨[(5,true,.ptr (n0+2048) 0 0),(4,true,.ptr (n0+1024) 0 0),(2,true,.ptr n0 0 0),(0,true,H4 s),(1,true,.sl (q.map C6))],[(n0+2048,some (bB false)),(n0+1024,some (bO zOut)),(n0,some ⟨[H4 s],H4 s,false,false⟩)],3072⟩)] ⟨A1g 0 [H4 s,.sl (q.map C6)],[],0⟩:=by
  refine A3 4000 ?_;simp[B7P,E,bB,bO,zOut]
 refine wp_seq (wp_mono (hW _ k1 G _ w hD) λe a w1 hq=>?_);clear hW;cases e with
 | normal =>
  obtain⟨σ,G1,hD1,rfl⟩:=hq;obtain⟨at1,ad1⟩:=a;have hd0:ad1=[]:=hD1.defers;subst hd0;have hsz:7<at1.size:=by have:=hD1.size; simp only at this; rw[this]; show 7<f60.ntmps; simp[ntmps60]
  show (Code.seq _ _).wp _ _ _ _;refine wp_seq (C70 rfl hsz ?_);obtain⟨v4,hv4⟩:∃v4,at1[4]?.getD undef=v4:=⟨_,rfl⟩;obtain⟨v5,hv5⟩:∃v5,at1[5]?.getD undef=v5:=⟨_,rfl⟩;have g4:RV G1 w1 (.ptr (n0+1024) 0 0) v4:=by
   have:=(hD1.fr 4 true _ rfl).1 rfl;rw[zl] at this;rw[←hv4]; exact this
  have g5:RV G1 w1 (.ptr (n0+2048) 0 0) v5:=by
   have:=(hD1.fr 5 true _ rfl).1 rfl;rw[zl] at this;rw[←hv5]; exact this
  rw[hv4,hv5];have own1:∀i,n0+3072<=i->ov bx [(n0+2048,some (bB false)),(n0+1024,some (bO zOut)),(n0,some ⟨[H4 s],H4 s,false,false⟩)] i=none:=λi hi=>by
   simp only[ov,T6];rw[zf o_,zf o_,zf o_];exact own i o_
  have hev:L4 G w G1 w1:=hD1.ev;have hrs:RS C G1 (ov bx [(n0+2048,some (bB false)),(n0+1024,some (bO zOut)),(n0,some ⟨[H4 s],H4 s,false,false⟩)]) w1:=hD1.rs;have hus:∀i,G1.used i->i<n0+3072:=hD1.used;have hol:∀i,i<n0->G1.used i->G.used i:=hD1.old;let D:List Deferred:=[⟨.fn (.func 120) #[v4,v5],#[]⟩]
  let E1:O8:=⟨prog,C,ov bx [(n0+2048,some (bB false)),(n0+1024,some (bO zOut)),(n0,some ⟨[H4 s],H4 s,false,false⟩)],f60.ntmps,n0+3072,G1,w1,own1,hus,hrs,D,λ_=>False,
   λpv σ=>pv=tm/\¬qW s q<=2000/\bk σ.bx (n0+1024)=some (bO zOut)/\bk σ.bx (n0+2048)=some (bB false)/\lk σ.fr 4=some (true,.ptr (n0+1024) 0 0)/\lk σ.fr 5=some (true,.ptr (n0+2048) 0 0)/\∀x∈σ.bx,n0<=x.1⟩
  have hD2:Q5 E1 ⟨[(5,true,.ptr (n0+2048) 0 0),(4,true,.ptr (n0+1024) 0 0),(2,true,.ptr n0 0 0),(0,true,H4 s),(1,true,.sl (q.map C6))],[(n0+2048,some (bB false)),(n0+1024,some (bO zOut)),(n0,some ⟨[H4 s],H4 s,false,false⟩)],0⟩ G1 ⟨at1.setIfInBounds 7 (.func (.func 120) #[] #[v4,v5]),D⟩ w1:=by
   refine⟨L4.refl G1 w1,?_,λi hi=>by have:=hus i hi; show i<n0+3072+0; omega,λi _ hi=>hi,λn c v hl=>?_,?_,rfl⟩
   ·show RS C G1 (ov (ov bx _) _) w1;simp only[ov];rw[Z5 (f:=T6 (T6 (T6 bx n0 _) (n0+1024) _) (n0+2048) _) (i:=n0) (by simp[T6]),Z5 (i:=n0+1024) (by simp[T6]),Z5 (i:=n0+2048) (by simp[T6])];exact hrs
   ·have:=hD1.fr n c v hl;have hn:n≠7:=λh=>by subst h; simp at hl
    simp only[zl] at this ⊢;rw[wz (yc hn)];exact this
   ·have:=hD1.size;simp only[ua];exact this
  have hN:E1.n0=n0+3072:=rfl;let E2:O8:={ E1 with Pn:=λ_ _=>False }
  have hN2:E2.n0=n0+3072:=rfl;have hW2:Wk E2 [.code B7Q,.post (λσ=>σ=⟨[(6,true,.ptr (n0+5120) 0 0),(10,true,.ptr (n0+5120) 0 0),(9,true,.agg [.sl (s.types.map I9),.sl (s.things.map Q9),.int .i64 0]),(8,true,.agg [.sl (s.types.map I9),.sl (s.things.map Q9)]),(5,true,.ptr (n0+2048) 0 0),(4,true,.ptr (n0+1024) 0 0),(2,true,.ptr n0 0 0),(0,true,H4 s),(1,true,.sl (q.map C6))],
    [(n0+5120,some (bR s 0)),(n0+2048,some (bB false)),(n0+1024,some (bO zOut)),(n0,some ⟨[H4 s],H4 s,false,false⟩)],4096⟩)] ⟨[(5,true,.ptr (n0+2048) 0 0),(4,true,.ptr (n0+1024) 0 0),(2,true,.ptr n0 0 0),(0,true,H4 s),(1,true,.sl (q.map C6))],[(n0+2048,some (bB false)),(n0+1024,some (bO zOut)),(n0,some ⟨[H4 s],H4 s,false,false⟩)],0⟩:=by
   clear k1 k2 k3 hD hD1 hD2;refine A3 4000 ?_;simp[B7Q,hN2,H4,bR]
  show (Code.seq _ _).wp _ _ _ _;refine wp_seq (wp_mono (hW2 _ k2 G1 _ w1 hD2) λe a2 w2 hq=>?_);clear hW2;cases e with
  | normal =>
   obtain⟨σ,G2,hD3,rfl⟩:=hq;have hQ:=λid=>C4h hS q hf hq8 (n0+5120) 0 id o_;obtain⟨ok,on,ot,oks,ols,hoe⟩:∃(a b:Int) (c:List UInt8) (d:List (List UInt8)) (e:List D8),eO (qO s q) = .agg [.int .i64 a,.int .i64 b,.str c,.sl (d.map .str),.sl (e.map eO)]:=by
    cases qO s q with|mk a b c d e=>exact⟨a,b,c,d,e,A0q a b c d e⟩
   rw[hoe] at hQ;have hP:E1.P=prog:=rfl;have hW3:Wk E1 [.ops (B2H B0v) 0 [] [],.post (λσ=>qW s q<=2000/\bk σ.bx (n0+1024)=some (bO (eO (qO s q)))/\bk σ.bx (n0+2048)=some (bB true)/\lk σ.fr 4=some (true,.ptr (n0+1024) 0 0)/\lk σ.fr 5=some (true,.ptr (n0+2048) 0 0)/\∀x∈σ.bx,n0<=x.1)]
     ⟨[(6,true,.ptr (n0+5120) 0 0),(10,true,.ptr (n0+5120) 0 0),(9,true,.agg [.sl (s.types.map I9),.sl (s.things.map Q9),.int .i64 0]),(8,true,.agg [.sl (s.types.map I9),.sl (s.things.map Q9)]),(5,true,.ptr (n0+2048) 0 0),(4,true,.ptr (n0+1024) 0 0),(2,true,.ptr n0 0 0),(0,true,H4 s),(1,true,.sl (q.map C6))],
    [(n0+5120,some (bR s 0)),(n0+2048,some (bB false)),(n0+1024,some (bO zOut)),(n0,some ⟨[H4 s],H4 s,false,false⟩)],4096⟩:=by
    clear k1 k2 k3 hD hD1 hD2 hD3;rw[hoe];refine A3 4000 ?_;simp[B2H,B0v];by_cases h1:0+qW s q<=2000
    ·have hQ1:∀id,A2 prog 121 _ _ id _ _:=λid=>by
      have:=hQ id;rw[L6 h1] at this; exact this
     (refine yC rfl (hQ1 _) ?_; simp[bO,bB,bR,zOut]);refine⟨o_,λa b h=>?_⟩;rcases h with⟨h,_⟩|⟨h,_⟩|⟨h,_⟩|⟨h,_⟩|⟨h,_⟩|⟨h,_⟩|⟨h,_⟩<;>omega
    ·simp only[K7 h1] at hQ;refine D6 hP rfl (hQ _) s_ f_ (λpv hpv=>⟨s_,by injection hpv with hpv; subst hpv; exact⟨rfl,o_,by simp[bO,zOut],by simp[bB],rfl,rfl,s_⟩⟩) (λv wr h=>by cases h)
   have hinv:∀w3,(invoke (.fn (.func 120) #[v4,v5]) #[]).run prog w3 = .ok (.enter 120 #[v4,v5]) w3:=λw3=>by simp[go_sem]
   have fin:∀{F:Fr} {l:List (Nat×Option Bx)} {k:Nat} {G3:Gh} {a3:Act} {w3:World} {cs:List AV} {b:Bool},F9 C f60.ntmps D (n0+3072) G1 w1 F (ov (ov bx [(n0+2048,some (bB false)),(n0+1024,some (bO zOut)),(n0,some ⟨[H4 s],H4 s,false,false⟩)]) l) (· < n0+k) G3 a3 w3 ->
     F 4=some (true,.ptr (n0+1024) 0 0)->F 5=some (true,.ptr (n0+2048) 0 0)->bk l (n0+1024)=some (bO (.agg cs))->bk l (n0+2048)=some (bB b)->cs.length=5->F8 cs=true->(∀x∈l,n0<=x.1) ->
     ∃v,(results f60 a3.tmps).run prog w3 = .ok v w3/\∃G1,RS C G1 bx w3/\L4 G w G1 w3/\RV G1 w3 (.tup [.agg cs,.bool b]) v/\∀x,G1.used x->G.used x\/(id<=x/\x<id+1024):=λ{F l k G3 a3 w3 cs b} h f4 f5 b4 b5 hc hp hl=>by
    have h':=h.rebase (n0:=n0) o_ hev hol;have e4:=P5 (ov bx [(n0+2048,some (bB false)),(n0+1024,some (bO zOut)),(n0,some ⟨[H4 s],H4 s,false,false⟩)]) b4;have e5:=P5 (ov bx [(n0+2048,some (bB false)),(n0+1024,some (bO zOut)),(n0,some ⟨[H4 s],H4 s,false,false⟩)]) b5;rw[←V3] at h' e4 e5;exact C4i own old hs hid h' f4 f5 e4 e5 hc hp (λx hx=>by
     rcases zr.1 hx with hx|hx
     ·exact hl x hx
     ·simp at hx;rcases hx with rfl|rfl|rfl<;>simp) o_ o_ o_
   show (Code.seq _ _).wp _ _ _ _;refine wp_seq (B1X (E:=E1) (crs:=B2H B0v) (k3.trans rfl) hW3 hD3 (λσ G3 a3 w3 h1 h2=>?_) (λpv u σ G3 a3 w3 h1 h2 h3=>?_))
   ·obtain⟨q1,b4,b5,f4,f5,hl⟩:=h2;show Code.ret.wp _ _ _ _;refine wp_ret ?_;show Leaves _ _ _ _ a3.defers .returning w3;rw[show a3.defers=D from h1.defers];refine leaves_cons s_ (hinv w3) ((C2J v4 v5 w3).mono ?_);rintro e u' w' ⟨rfl,⟨v,rfl⟩,rfl⟩;obtain⟨cs,hcs,hc5,hcp⟩:=B7W s q;rw[show eO (qO s q) = .agg cs by rw[←hcs]; unfold A3u; rw[zj q1]] at b4;obtain⟨v,r1,G4,r2,r3,r4,r5⟩:=fin (h1.weak (U':=λx=>x<n0+(3072+σ.k)) (λx hx=>by have:x<n0+3072+σ.k:=hx; omega)) f4 f5 b4 b5 hc5 hcp hl;rw[hcs,se q1];exact⟨v,r1,v,G4,rfl,r2,r3,r4,r5⟩
   ·obtain⟨rfl,q1,b4,b5,f4,f5,hl⟩:=h3;show Leaves _ _ _ _ a3.defers (.panicking [{ v:=u,recovered:=false }]) w3;rw[show a3.defers=D from h1.defers];have hus3:=h1.used;have hrs3:=h1.rs;refine leaves_cons s_ (hinv w3) ((C2I C G3 _ w3 _ (n0+1024) (n0+2048) v4 v5 u hrs3 (g4.mono h1.ev) (g5.mono h1.ev) h2 (P5 _ b4) (P5 _ b5) o_ hus3 (λx hx=>?_)).mono ?_)
    ·cases hb:ov E1.β σ.bx x with
     | none=>rfl
     | some b=>have:=hus3 x (hrs3.boxNames hb).1; omega
    rintro e u' w' ⟨rfl,⟨v,rfl⟩,G4,l,k,r1,r2,r3,r4,r5,r6,r7⟩;have hx:=F9.step h1 r1 r2 (U':=λx=>x<n0+(3072+4096+1024*(B2H B0v).length+k)) (λx hx=>by have:=r7 x hx; simp only[E1] at this; omega) (λx hx hu=>r6 x (by simp only[E1] at hx ⊢; omega) hu);rw[←V3] at hx;obtain⟨cs,hcs,hc5,hcp⟩:=B7W s q;have hz:zOut = .agg cs:=(by rw[←hcs]; unfold A3u; rw[zf q1]);rw[hz] at r3;obtain⟨v,s1,G5,s2,s3,s4,s5⟩:=fin hx f4 f5 (B2G r3) (B2G r4) hc5 hcp (λx hx=>by
     rcases zr.1 hx with hx|hx
     ·rcases r5 x hx with h|h|h
      ·omega
      ·omega
      ·simp only[E1] at h; omega
     ·exact hl x hx)
    rw[hcs,uo q1];exact⟨v,s1,v,G5,rfl,s2,s3,s4,s5⟩
  | ret=>obtain⟨_,_,_,h2⟩:=hq; exact h2.elim
  | exit id=>obtain⟨_,_,_,h2⟩:=hq; exact h2.elim
  | panic chain =>
   obtain⟨pv,u,σ,F,B,U,G',rfl,h1,h2,h3,h4⟩:=hq;exact h4.elim
  | _=>exact hq.elim
 | ret=>obtain⟨_,_,_,h2⟩:=hq; exact h2.elim
 | exit id=>obtain⟨_,_,_,h2⟩:=hq; exact h2.elim
 | panic chain =>
  obtain⟨pv,u,σ,F,B,U,G',rfl,h1,h2,h3,h4⟩:=hq;exact h4.elim
 | _=>exact hq.elim
def C4j{s:C5}{r ah:List C5}(h:S4 (s::r) ah=0):s.args.length<=5/\S4 s.kids []=0/\S4 r (ah++[s])=0:=by
 simp only[S4] at h;split at h
 ·rename_i h0; exact (h0 h).elim
 rename_i h0;have h0:=zk h0;split at h
 ·rename_i h1; exact (h1 h).elim
 rename_i h1;have h1:=zk h1;rw[A8p] at h1;refine⟨?_,h1,h⟩;rw[A8o] at h0;split at h0
 ·rename_i h2; exact (h2 h0).elim
 split at h0
 ·rename_i h2; exact (h2 h0).elim
 rename_i h2;have h2:=zk h2;unfold Z8 at h2;split at h2
 ·cases h2
 ·omega
def B7X{m:Nat}:∀(l:List C5) (a:Nat),a<=l.foldl (λd s=>max d (deepL m s.kids+1)) a/\∀s∈l,deepL m s.kids+1<=l.foldl (λd s=>max d (deepL m s.kids+1)) a
 | [],a=>⟨zx _,λs hs=>by cases hs⟩
 | x::r,a=>by
  obtain⟨h1,h2⟩:=B7X (m:=m) r (max a (deepL m x.kids+1));simp only[wc];refine⟨o_,λs hs=>?_⟩;rcases zi.1 hs with rfl|hs
  ·omega
  ·exact h2 s hs
def B7Y:∀(m:Nat) (l ah:List C5),deepL m l<=m->S4 l ah=0->p7 l<=6*W8 m l
 | 0,l,ah,hd,hc=>by
  cases l with
  | nil=>simp[p7]
  | cons a r=>simp[deepL] at hd
 | m+1,l,ah,hd,hc=>by
  have hk:∀s∈l,deepL m s.kids<=m:=λs hs=>by
   have:=(B7X (m:=m) l (min l.length 1)).2 s hs;simp only[deepL] at hd;omega
  have key:∀(l ah:List C5),(∀s∈l,deepL m s.kids<=m)->S4 l ah=0->p7 l<=6*(l.length+(l.map λs=>W8 m s.kids).sum):=λl=>by
   induction l with
   | nil=>intro ah _ _; simp[p7]
   | cons a r ih =>
    intro ah hk hc;obtain⟨h1,h2,h3⟩:=C4j hc;have h4:=B7Y m a.kids [] (hk a (za ..)) h2;have h5:=ih _ (λs hs=>hk s (zb _ hs)) h3;have h6:=A2R a;simp only[p7,zt,yg,vq];omega
  exact key l ah hk hc
def C2L{q:List C5}(h:J6 q=0):p7 q<=240:=by
 unfold J6 at h;split at h
 ·cases h
 split at h
 ·cases h
 rename_i h1;have:=B7Y 5 q [] o_ h;omega
def S6(s:H6)(q:List C5):Int:=if fSt s≠0 then fSt s else if x5 s.types q≠0 then x5 s.types q else if qW s q<=2000 then 0 else 2
def A3v(s:H6)(q:List C5):AV:=if S6 s q=0 then eO (qO s q) else zOut.nrm
def A3w{l:List Ty}{q:List C5}(h:x5 l q=0):H9 l=0/\J6 q=0/\A08 l q=0:=by
 unfold x5 at h;split at h
 ·rename_i h0; exact (h0 h).elim
 rename_i h0;split at h
 ·rename_i h1; exact (h1 h).elim
 rename_i h1;exact⟨zk h0,zk h1,h⟩
def B4Q(s:H6)(q:List C5)(id:Nat)(hq8:p7 q<=1099511627776):A2 prog 21 [H4 s,.sl (q.map C6)] [] id (.tup [A3v s q,.int .i64 (S6 s q)]) []:=by
 have hSt:=λid=>A4x s id;have hVq:=λid=>B8e s.types q id hq8;have hRw:fSt s=0->x5 s.types q=0->∀id,A2 prog 60 [H4 s,.sl (q.map C6)] [] id (.tup [A3u s q,.bool (decide (qW s q<=2000))]) []:=λh1 h2 id=>C2K (B2E h1) q (A3w h2).2.2 (by have:=C2L (A3w h2).2.1; omega) id;obtain⟨V,hV0,hV1,hV2⟩:∃V:AV,V.nrm=A3v s q/\(S6 s q≠0->V = .agg [.int .i64 0,.int .i64 0,.str [],.nils,.nils])/\(S6 s q=0->V=A3u s q):=by
  by_cases h:S6 s q=0
  ·refine⟨A3u s q,?_,λk=>(k h).elim,λ_=>rfl⟩;have hw:qW s q<=2000:=by
    unfold S6 at h;split at h
    ·rename_i h0; exact (h0 h).elim
    split at h
    ·rename_i h0; exact (h0 h).elim
    split at h
    ·assumption
    ·cases h
   unfold A3u A3v;rw[zj hw,zj h,B5x]
  ·exact⟨_,by unfold A3v; rw[zf h]; rfl,λ_=>rfl,λk=>(h k).elim⟩
 have hn:(AV.tup [V,.int .i64 (S6 s q)]).nrm = .tup [A3v s q,.int .i64 (S6 s q)]:=by simp[AV.nrm,A3W,hV0]
 rw[←hn];refine A2.nrm ?_;have hs:H4 s = .agg [.sl (s.types.map I9),.sl (s.things.map Q9)]:=rfl;rw[hs] at *;refine w21.e.1 λE hP hR hl hid=>?_;simp[w21];(refine yH rfl (hSt _) ?_; simp);refine D0 (λh=>?_) (λh=>?_)<;>simp
 ·have h1:fSt s=0:=by simpa using h
  (refine yH rfl (hVq _) ?_; simp);refine D0 (λh=>?_) (λh=>?_)<;>simp
  ·have h2:x5 s.types q≠0:=(v_ h);have he:S6 s q=x5 s.types q:=(by unfold S6; rw[zf o_,zj h2]);rw[hV1 o_,he] at hR;exact yP hR
  ·have h2:x5 s.types q=0:=(v_ h);have hQ:=hRw h1 h2;by_cases h3:qW s q<=2000
   ·have he:S6 s q=0:=(by unfold S6; rw[zf o_,zf o_,zj h3]);obtain⟨ok,on,ot,oks,ols,hoe⟩:∃(a b:Int) (c:List UInt8) (d:List (List UInt8)) (e:List D8),A3u s q = .agg [.int .i64 a,.int .i64 b,.str c,.sl (d.map .str),.sl (e.map eO)]:=by
     unfold A3u;rw[zj h3];cases qO s q with|mk a b c d e=>exact⟨a,b,c,d,e,A0q a b c d e⟩
    rw[hV2 he,he,hoe] at hR;rw[hoe,se h3] at hQ;(refine yH rfl (hQ _) ?_; simp);exact yP hR
   ·have he:S6 s q=2:=(by unfold S6; rw[zf o_,zf o_,zf h3]);rw[hV1 o_,he] at hR;have hz:A3u s q = .agg [.int .i64 0,.int .i64 0,.str [],.nils,.nils]:=(by unfold A3u; rw[zf h3]; rfl);rw[hz,uo h3] at hQ;(refine yH rfl (hQ _) ?_; simp);exact yP hR
 ·have h1:fSt s≠0:=by simpa using h
  have he:S6 s q=fSt s:=by unfold S6; rw[zj h1]
  rw[hV1 o_,he] at hR;refine A7 (v_ h1) ?_;simp;exact yP hR
def D8.kind:D8->Int | .mk k _ _ _ _=>k
def D8.n:D8->Int | .mk _ n _ _ _=>n
def D8.text:D8->List UInt8 | .mk _ _ t _ _=>t
def D8.keys:D8->List (List UInt8) | .mk _ _ _ k _=>k
def D8.kids:D8->List D8 | .mk _ _ _ _ l=>l
def Z9(o:D8):eO o = .agg [.int .i64 o.kind,.int .i64 o.n,.str o.text,.sl (o.keys.map .str),.sl (o.kids.map eO)]:=by cases o; exact A0q ..
mutual
def D8.sz:D8->Nat
 | .mk _ _ _ ks l=>1+ks.length+o6 l
def o6:List D8->Nat
 | []=>0
 | s::r=>s.sz+o6 r
end
def A3x(s:D8):s.sz=1+s.keys.length+o6 s.kids:=by cases s; rfl
def A2b(l:List D8):l.length<=o6 l:=by
 induction l with
 | nil=>simp[o6]
 | cons s r ih=>have:=A3x s; simp only[o6,zt]; omega
def A1c{l:List D8}{s:D8}(h:s∈l):s.sz<=o6 l:=by
 induction l with
 | nil=>cases h
 | cons x r ih =>
  simp only[o6];rcases zi.1 h with rfl|h
  ·omega
  ·have:=ih h; omega
def B9D{l:List D8}{s:D8}(h:s∈l):o6 s.kids<o6 l:=by
 have h1:=A1c h;have h2:=A3x s;omega
def O9:Nat->List D8->Nat
 | 0,l=>l.length
 | m+1,l=>l.length+(l.map λs=>O9 m s.kids).sum
def A00:Nat->List D8->Nat
 | 0,l=>min l.length 1
 | m+1,l=>l.foldl (λd s=>max d (A00 m s.kids+1)) (min l.length 1)
def A3J(m:Nat)(l:List D8)(i:Nat):Nat:=l.length+((l.take i).map λs=>O9 m s.kids).sum
def A7M(m:Nat)(l:List D8)(i:Nat):Nat:=(l.take i).foldl (λd s=>max d (A00 m s.kids+1)) (min l.length 1)
def B60(m:Nat)(l:List D8):A3J m l 0=l.length:=by simp[A3J]
def B61(m:Nat)(l:List D8):A7M m l 0=min l.length 1:=by simp[A7M]
def B62{m:Nat}{l:List D8}{i:Nat}{x:D8}(hx:l[i]?=some x):A3J m l (i+1)=A3J m l i+O9 m x.kids:=by
 simp[A3J,L0 hx]; omega
def B63{m:Nat}{l:List D8}{i:Nat}{x:D8}(hx:l[i]?=some x):A7M m l (i+1)=max (A7M m l i) (A00 m x.kids+1):=by
 simp[A7M,L0 hx]
def B9E{m:Nat}{l:List D8}{i:Nat}(h:l.length<=i):A3J m l i=O9 (m+1) l:=by simp[A3J,O9,zm h]
def B9F{m:Nat}{l:List D8}{i:Nat}(h:l.length<=i):A7M m l i=A00 (m+1) l:=by simp[A7M,A00,zm h]
def A6s{m:Nat}(h:∀l,O9 m l<=o6 l):∀l:List D8,l.length+(l.map λs=>O9 m s.kids).sum<=o6 l
 | []=>by simp
 | s::r=>by
  have h1:=A6s h r;have h2:=h s.kids;have h3:=A3x s;simp only[o6,zt,yg,vq];omega
def B4R:∀(m:Nat) (l:List D8),O9 m l<=o6 l
 | 0,l=>A2b l
 | m+1,l=>A6s (B4R m) l
def C2M(m:Nat)(l:List D8)(i:Nat):A3J m l i<=o6 l:=by
 have h1:=A6s (B4R m) l;have h2:((l.take i).map λs=>O9 m s.kids).sum+((l.drop i).map λs=>O9 m s.kids).sum=(l.map λs=>O9 m s.kids).sum:=by
  rw[←qh,←vf,yu]
 unfold A3J;omega
def A9I{m k:Nat}(h:∀l,A00 m l<=k):∀(l:List D8) (a:Nat),a<=k+1->l.foldl (λd s=>max d (A00 m s.kids+1)) a<=k+1
 | [],a,ha=>ha
 | s::r,a,ha=>by
  simp only[wc];exact A9I h r _ (by have:=h s.kids; omega)
def B4S:∀(m:Nat) (l:List D8),A00 m l<=m+1
 | 0,l=>by simp only[A00]; omega
 | m+1,l=>A9I (B4S m) l _ o_
def B4T:∀(m:Nat) (l:List D8) (id:Nat),m<=1000->o6 l<=1099511627776->A2 prog 101 [.sl (l.map eO),.int .i64 m] [] id (.tup [.int .i64 (O9 m l),.int .i64 (A00 m l)]) []
 | 0,l,id,hm,hl=>by
  have hlen:=A2b l;refine w101.e.1 λE hP hR hl hid=>?_;simp[w101];refine B9 (X:=Unit) (λ_=>⟨[(0,true,.sl (l.map eO)),(1,true,.int .i64 0),(6,true,.int .i64 l.length),(7,true,.int .i64 (A00 0 l)),(17,true,.sl (l.map eO)),(18,true,.int .i64 l.length),(19,true,.int .i64 0)],[],0⟩) (λ_=>True) (λ_=>0) () ?_ trivial ?_
  ·refine yV [] s_ λhrn=>⟨?_,?_,?_,?_,?_⟩<;>(try simp[A00]);all_goals omega
  ·rintro i - p hp;refine A3 4000 ?_;simp;refine D0 (λh=>?_) (λh=>?_)
   ·have h:=zq h;obtain⟨x,hx,hd⟩:=A5 (l:=l) (i:=0) o_;simp[hx,Z9 x];refine⟨o_,?_⟩;exact yP hR (h1:=by simp; simp[O9])
   ·simp;exact yP hR (h1:=by simp; simp[O9])
 | m+1,l,id,hm,hl=>by
  have hlen:=A2b l;refine w101.e.1 λE hP hR hl hid=>?_;simp[w101];refine B9 (X:=Nat) (λi=>⟨[(0,true,.sl (l.map eO)),(1,true,.int .i64 (m+1)),(6,true,.int .i64 (A3J m l i)),(7,true,.int .i64 (A7M m l i)),(17,true,.sl (l.map eO)),(18,true,.int .i64 l.length),(19,true,.int .i64 i)],[],0⟩) (λi=>i<=l.length) (λi=>l.length - i) 0 ?_ o_ ?_
  ·refine yV [] s_ λhrn=>⟨?_,?_,?_,?_,?_⟩<;>(try simp[B60,B61]);all_goals omega
  ·rintro i hi p hp;refine A3 4000 ?_;simp;refine D0 (λh=>?_) (λh=>?_)
   ·have h:=zq h;obtain⟨x,hx,hd⟩:=A5 h;have hi1:IntKind.i64.wrap ((i:Int)+1)=((i+1:Nat):Int):=wrap64 o_;have hxm:x∈l:=zg hx;have ih:=B4T m x.kids;simp[hx,Z9 x];refine⟨h,A0 m_ ?_⟩;have hm1:IntKind.i64.wrap (m:Int)=(m:Int):=wrap64 o_;have hsz:=B9D hxm;have hs:=B62 (m:=m) hx;have hsd:=B63 (m:=m) hx;have hs1:IntKind.i64.wrap ((A3J m l i:Int)+O9 m x.kids)=((A3J m l (i+1):Nat):Int):=(by rw[hs,wrap64 (by have:=C2M m l (i+1); omega)]; omega);have hs2:IntKind.i64.wrap ((A00 m x.kids:Int)+1)=((A00 m x.kids+1:Nat):Int):=wrap64 (by have:=B4S m x.kids; omega);simp[hm1];(refine yC rfl (ih _ o_ o_) ?_; simp[hs1,hs2]);refine hp _ (i+1) o_ o_ ?_;refine yV [] s_ λhrn=>⟨?_,?_,?_,?_,?_⟩<;>(try simp[hi1,hsd]);all_goals omega
   ·have h:=zo h;simp;exact yP hR (h1:=by simp; rw[B9E o_,B9F o_]; exact⟨rfl,rfl⟩)
def B9G(e:Int)(b:Bool):Int:=if e≠0 then e else if b=true then 6 else 0
def A9n{α:Type}{p:α->Bool}{l:List α}{h:Nat}{x:α}(hx:l[h]?=some x):(l.take (h+1)).any p=((l.take h).any p||p x):=by rw[L0 hx]; simp
end Go.Am
