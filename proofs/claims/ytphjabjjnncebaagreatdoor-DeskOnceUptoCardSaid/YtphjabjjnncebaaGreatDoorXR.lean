/- Parts of the proof: an abstract machine for Go functions, and what functions of the program give back (Ex6, Ex7, Ex8, Ex9, Ex10, Ex11, Ex12, Ex13, Ex14, Ex15, Ex20, Vl7, Vl8). No condition. -/
import Derived.Test.YtphjabjjnncebaaGreatDoorXQ
import Derived.Test.YtphjabjjnncebaaGreatDoorXF
import Derived.Recover
import Derived.Test.YtphjabjjnncebaaGreatDoorXJ
import Derived.Test.YtphjabjjnncebaaGreatDoorXE
set_option maxRecDepth 100000
set_option linter.all false
set_option maxHeartbeats 4000000
namespace Go.Am
open Go Go.Proofs Go.RowKit
theorem B64(x:F6)(id:Nat):A2 Tryz.prog 187 [E0 x] [] id (.tup [.int .i64 (match x.args with|[]=>0|a::_=>a.n),.bool (!x.args.isEmpty)]) []:=by
 rw[H8];cases h:x.args with
 | nil =>
  refine w187.e.1 fun E hP hR hl hid=>?_;simp[w187];exact yP hR
 | cons a r =>
  refine w187.e.1 fun E hP hR hl hid=>?_;simp[w187];refine A0 (by simp; omega) ?_;simp[U5 a];exact yP hR
theorem C0I(s:H0)(x:F6)(t:Tg):wS s x t=if x.name=tId then 1 else match A8U s t x.name with
  | none=>1
  | some (f,c)=>if f.kind=1\/f.kind=2 then 1
   else if f.kind=4 then 1+((A3T x.args c.ids).map (thW s (wL s x.kids) (C3 s.types f.of))).sum
   else match c.ids with
    | []=>1
    | y::_=>thW s (wL s x.kids) (C3 s.types f.of) y:=by cases x; rfl
theorem C2z(s:H0)(x:F6)(t:Tg):oS s x t=if x.name=tId then A0z t.id else match A8U s t x.name with
  | none=>A1h
  | some (f,c)=>if f.kind=1 then A0z c.n else if f.kind=2 then p9 c.text
   else if f.kind=4 then V3 ((A3T x.args c.ids).map (thO s (x.kids.map D4) (oL s x.kids) (C3 s.types f.of)))
   else match c.ids with
    | []=>A1h
    | y::_=>thO s (x.kids.map D4) (oL s x.kids) (C3 s.types f.of) y:=by cases x; rfl
theorem C0J(n:Int):eO (A0z n)=(AV.agg [.int .i64 2,.int .i64 n,.str [],.nils,.nils]).nrm:=rfl
theorem C2N(t:List UInt8):eO (p9 t)=(AV.agg [.int .i64 3,.int .i64 0,.str t,.nils,.nils]).nrm:=rfl
theorem C0K{s:H0}{t:Tg}{x:F6}{J m:Nat}(id:Nat)(hm:m<=2000)(hn:x.name=tId):
  Y5 Tryz.prog 256 [.ptr J 0 0,T4 t,E0 x] [(J,bR s m)] id (rnR s J m (wS s x t) (eO (oS s x t))):=by
 rw[C0I,C2z,zj hn,zj hn,C0J];refine Y5.nrm ?_;have hTt:T4 t = .agg [.int .i64 t.type,.int .i64 t.id,.sl (t.cells.map eCl)]:=rfl;rw[hTt,H8,hn];unfold tId;refine w256.x.1 fun E hP hR hPn hl hid hB hu=>?_;simp[w256];have hJ:=hl (J,_) (za ..);simp only at hJ;have J1:=lf hJ;by_cases h1:m+1<=2000
 rotate_left
 ·refine D5 hP rfl (A2m 2 t.id [] _ hm h1) (by simp[J1]) (by simp[J1]<;>rfl) (fun pv hpv=>⟨by simp[J1],by injection hpv with hpv; subst hpv; exact hPn _ _ (K0 h1) rfl (by simp[J1])⟩) (fun v wr h=>by cases h)
 (refine D8 hP rfl (A0A 2 t.id [] _ h1) (by simp[J1]) (by simp[J1]<;>rfl) ?_; refine A3 4000 ?_; simp[J1]);have hrn:H5 []:=by simp[bR,J1,A4 hid]
 refine hR _ _ _ (L2 h1) ?_;refine E8 (by simp[bR,J1,A4 hid]<;>rfl) [] hrn ⟨?_,?_,?_,?_,?_,?_⟩<;>(try simp[bR,J1,A4 hid])
theorem C0L{s:H0}{t:Tg}{x:F6}{J m q k:Nat}{ty:Ty}{f:Fd}{c:Cl}(id:Nat)(hm:m<=2000)(hne:x.name≠tId)(hq:t.type=q)(hty:s.types[q]?=some ty)(hl8:s.types.length<=1000)(hf8:ty.fields.length<=1000)
  (hk:B8 (fun g=>g.name==x.name) ty.fields 0=(k:Int)) (hf:ty.fields[k]?=some f) (hc:t.cells[k]?=some c) (hkd:1<=f.kind/\f.kind<=4) (hi8:c.ids.length<=1000000) (ha:∀a r,x.args=a::r->0<=a.n/\a.n<=999999999)
  (hT:∀y∈c.ids,∀m id,m<=2000->Y5 Tryz.prog 188 [.ptr J 0 0,.int .i64 (C3 s.types f.of),.int .i64 y,.sl (x.kids.map E0)] [(J,bR s m)] id (rnR s J m (thW s (wL s x.kids) (C3 s.types f.of) y) (eO (thO s (x.kids.map D4) (oL s x.kids) (C3 s.types f.of) y)))) :
  Y5 Tryz.prog 256 [.ptr J 0 0,T4 t,E0 x] [(J,bR s m)] id (rnR s J m (wS s x t) (eO (oS s x t))):=by
 have hfl:C8 s.types t.type=ty.fields:=by unfold C8; rw[hq]; simp[hty]
 have hfc:A8U s t x.name=some (f,c):=by
  unfold A8U;rw[hfl,hk];simp[hf,hc]
 have hw:=C0I s x t;have ho:=C2z s x t;rw[zf hne,hfc] at hw ho;simp only at hw ho;have hFo:=fun id=>A1F ty.fields ty.name x.name id (by omega);rw[hk] at hFo;have hFn:=fun id=>j8 s.types f.of id (by omega);rw[show B8 (fun z:Ty=>z.name==f.of) s.types 0=C3 s.types f.of from rfl] at hFn;have hVa:=fun id=>B64 x id;have hTt:T4 t = .agg [.int .i64 t.type,.int .i64 t.id,.sl (t.cells.map eCl)]:=rfl;have hTy:I8 ty = .agg [.str ty.name,.sl (ty.fields.map T2)]:=rfl;have hFd:T2 f = .agg [.str f.name,.int .i64 f.kind,.str f.of]:=rfl;have hCl:eCl c = .agg [.int .i64 c.n,.str c.text,.sl (c.ids.map eI)]:=rfl;have hql:=(ze.1 hty).1;have hkl:=(ze.1 hf).1;have hcl:=(ze.1 hc).1;rw[H8] at hVa;obtain⟨V,hV0,hV1,hV2,hV3⟩:∃V:AV,V.nrm=eO (oS s x t)/\(f.kind=1->V = .agg [.int .i64 2,.int .i64 c.n,.str [],.nils,.nils])/\(f.kind=2->V = .agg [.int .i64 3,.int .i64 0,.str c.text,.nils,.nils])/\(f.kind≠1->f.kind≠2->V=eO (oS s x t)):=by
  by_cases k1:f.kind=1
  ·exact⟨_,by rw[ho,zj k1,C0J],fun _=>rfl,fun k2=>by omega,fun k=>(k k1).elim⟩
  ·by_cases k2:f.kind=2
   ·exact⟨_,by rw[ho,zf k1,zj k2,C2N],fun k=>(k1 k).elim,fun _=>rfl,fun _ k=>(k k2).elim⟩
   ·exact⟨_,C0H _,fun k=>(k1 k).elim,fun k=>(k2 k).elim,fun _ _=>rfl⟩
 rw[←hV0];refine Y5.nrm ?_;rw[hTt,H8,hq];have hnb:(x.name==[105,100])=false:=by simpa [tId] using hne
 rw[v6];refine w256.x.1 fun E hP hR hPn hl hid hB hu=>?_;simp[w256];have hJ:=hl (J,_) (za ..);simp only at hJ;have J1:=lf hJ;refine A0 hnb ?_;simp[J1,hty,hTy];refine⟨hql,?_⟩;(refine yC rfl (hFo _) ?_; simp[J1,hty,hTy,hf,hc,hFd,hCl]);refine⟨hql,hkl,hcl,?_⟩;(refine yC rfl (hFn _) ?_; simp[J1]);refine E5 (fun h3=>?_) (fun h3=>?_)<;>simp[J1]
 ·have h3:f.kind=1:=by simpa using h3
  have hw1:wS s x t=1:=by rw[hw,zj (.inl h3)]
  simp only[hw1,hV1 h3] at hR hPn;by_cases h1:m+1<=2000
  rotate_left
  ·have hO:=fun id=>A2m (s:=s) (J:=J) (m:=m) 2 c.n [] id hm h1;rw[v6] at hO;refine D5 hP rfl (hO _) (by simp[J1]) (by simp[J1]<;>rfl) (fun pv hpv=>⟨by simp[J1],by injection hpv with hpv; subst hpv; exact hPn _ _ (K0 h1) rfl (by simp[J1])⟩) (fun v wr h=>by cases h)
  have hO:=fun id=>A0A (s:=s) (J:=J) (m:=m) 2 c.n [] id h1;rw[v6 s m] at hO;(refine yC rfl (hO _) ?_; simp[J1]);have hrn:H5 []:=by simp[bR,J1,A4 hid]
  refine hR _ _ _ (L2 h1) ?_;refine E8 (by simp[bR,J1,A4 hid]<;>rfl) [] hrn ⟨?_,?_,?_,?_,?_,?_⟩<;>(try simp[bR,J1,A4 hid])
 refine E5 (fun h4=>?_) (fun h4=>?_)<;>simp[J1]
 ·have h4:f.kind=2:=by simpa using h4
  have hw1:wS s x t=1:=by rw[hw,zj (.inr h4)]
  simp only[hw1,hV2 h4] at hR hPn;by_cases h1:m+1<=2000
  rotate_left
  ·have hO:=fun id=>A2m (s:=s) (J:=J) (m:=m) 3 0 c.text id hm h1;rw[v6] at hO;refine D5 hP rfl (hO _) (by simp[J1]) (by simp[J1]<;>rfl) (fun pv hpv=>⟨by simp[J1],by injection hpv with hpv; subst hpv; exact hPn _ _ (K0 h1) rfl (by simp[J1])⟩) (fun v wr h=>by cases h)
  have hO:=fun id=>A0A (s:=s) (J:=J) (m:=m) 3 0 c.text id h1;rw[v6 s m] at hO;(refine yC rfl (hO _) ?_; simp[J1]);have hrn:H5 []:=by simp[bR,J1,A4 hid]
  refine hR _ _ _ (L2 h1) ?_;refine E8 (by simp[bR,J1,A4 hid]<;>rfl) [] hrn ⟨?_,?_,?_,?_,?_,?_⟩<;>(try simp[bR,J1,A4 hid])
 have h3:f.kind≠1:=by simpa using h3
 have h4:f.kind≠2:=by simpa using h4
 rw[zf (by omega)] at hw;rw[zf h3,zf h4] at ho;simp only[hV3 h3 h4] at hR hPn;obtain⟨ok,on,ot,oks,ols,hoe⟩:∃(a b:Int) (c:List UInt8) (d:List (List UInt8)) (e:List H6),eO (oS s x t) = .agg [.int .i64 a,.int .i64 b,.str c,.sl (d.map .str),.sl (e.map eO)]:=by
  cases oS s x t with|mk a b c d e=>exact⟨a,b,c,d,e,A1g a b c d e⟩
 rw[hoe] at hR;refine E5 (fun h5=>?_) (fun h5=>?_)<;>simp[J1]
 ·have h5:f.kind=4:=by simpa using h5
  rw[zj h5] at hw ho;have hL:=fun id=>B63 (s:=s) (kids:=x.kids) (ids:=A3T x.args c.ids) (J:=J) (kd:=C3 s.types f.of) (W:=thW s (wL s x.kids) (C3 s.types f.of)) (O:=thO s (x.kids.map D4) (oL s x.kids) (C3 s.types f.of)) id hm (by unfold A3T; split<;>(try simp only[zw])<;>omega) (fun y hy=>hT y (by
   unfold A3T at hy;split at hy
   ·exact hy
   ·exact xh hy))
  rw[←hw,←ho,hoe] at hL;cases hx:x.args with
  | nil =>
   rw[hx] at hVa hL;simp only[A3T] at hL;(refine yC rfl (hVa _) ?_; simp[J1]);by_cases h1:m+wS s x t<=2000
   rotate_left
   ·simp only[K0 h1] at hL;rw[v6] at hL;refine D5 hP rfl (hL _) (by simp[J1]) (by simp[J1]<;>rfl) (fun pv hpv=>⟨by simp[J1],by injection hpv with hpv; subst hpv; exact hPn _ _ (K0 h1) rfl (by simp[J1])⟩) (fun v wr h=>by cases h)
   have hL1:∀id,A2 Tryz.prog 189 _ _ id _ _:=fun id=>by
    have:=hL id;rw[L2 h1] at this; exact this
   rw[v6 s m] at hL1;(refine yC rfl (hL1 _) ?_; simp[J1]);have hrn:H5 []:=(by simp[bR,J1,A4 hid]);refine hR _ _ _ (L2 h1) ?_;refine E8 (by simp[bR,J1,A4 hid]<;>rfl) [] hrn ⟨?_,?_,?_,?_,?_,?_⟩<;>(try simp[bR,J1,A4 hid])
  | cons a r =>
   obtain⟨ha0,ha1⟩:=ha a r hx;rw[hx] at hVa hL;simp only[A3T] at hL;(refine yC rfl (hVa _) ?_; simp[J1]);refine⟨⟨fun _ _=>rfl,by omega,by omega⟩,?_⟩;have htk:List.take (min a.n (c.ids.length:Int)).toNat (c.ids.map eI)=(c.ids.take a.n.toNat).map eI:=by
    rw[yu];rcases Int.le_total a.n c.ids.length with g|g
    ·rw[Int.min_eq_left g]
    ·rw[Int.min_eq_right g,zq (by simp),zq (by simp; omega)]
   rw[htk];by_cases h1:m+wS s x t<=2000
   rotate_left
   ·simp only[K0 h1] at hL;rw[v6] at hL;refine D5 hP rfl (hL _) (by simp[J1]) (by simp[J1]<;>rfl) (fun pv hpv=>⟨by simp[J1],by injection hpv with hpv; subst hpv; exact hPn _ _ (K0 h1) rfl (by simp[J1])⟩) (fun v wr h=>by cases h)
   have hL1:∀id,A2 Tryz.prog 189 _ _ id _ _:=fun id=>by
    have:=hL id;rw[L2 h1] at this; exact this
   rw[v6 s m] at hL1;(refine yC rfl (hL1 _) ?_; simp[J1]);have hrn:H5 []:=(by simp[bR,J1,A4 hid]);refine hR _ _ _ (L2 h1) ?_;refine E8 (by simp[bR,J1,A4 hid]<;>rfl) [] hrn ⟨?_,?_,?_,?_,?_,?_⟩<;>(try simp[bR,J1,A4 hid])
 ·have h5:f.kind≠4:=by simpa using h5
  rw[zf h5] at hw ho;cases hi:c.ids with
  | nil =>
   rw[hi] at hw ho;simp only at hw ho;have hN:=fun id=>B3B s J m id hm;rw[←ho,←hw,hoe] at hN;refine A9 (by rfl) ?_;simp[J1];by_cases h1:m+wS s x t<=2000
   rotate_left
   ·simp only[K0 h1] at hN;rw[v6] at hN;refine D5 hP rfl (hN _) (by simp[J1]) (by simp[J1]<;>rfl) (fun pv hpv=>⟨by simp[J1],by injection hpv with hpv; subst hpv; exact hPn _ _ (K0 h1) rfl (by simp[J1])⟩) (fun v wr h=>by cases h)
   have hN1:∀id,A2 Tryz.prog 254 _ _ id _ _:=fun id=>by
    have:=hN id;rw[L2 h1] at this; exact this
   rw[v6 s m] at hN1;(refine yC rfl (hN1 _) ?_; simp[J1]);have hrn:H5 []:=(by simp[bR,J1,A4 hid]);refine hR _ _ _ (L2 h1) ?_;refine E8 (by simp[bR,J1,A4 hid]<;>rfl) [] hrn ⟨?_,?_,?_,?_,?_,?_⟩<;>(try simp[bR,J1,A4 hid])
  | cons y r =>
   rw[hi] at hw ho;simp only at hw ho;have hTy:=fun id=>hT y (by rw[hi]; simp) m id hm;rw[←hw,←ho,hoe] at hTy;refine A0 (by simp; omega) ?_;simp[J1,eI];by_cases h1:m+wS s x t<=2000
   rotate_left
   ·simp only[K0 h1] at hTy;rw[v6] at hTy;refine D5 hP rfl (hTy _) (by simp[J1]) (by simp[J1]<;>rfl) (fun pv hpv=>⟨by simp[J1],by injection hpv with hpv; subst hpv; exact hPn _ _ (K0 h1) rfl (by simp[J1])⟩) (fun v wr h=>by cases h)
   have hT1:∀id,A2 Tryz.prog 188 _ _ id _ _:=fun id=>by
    have:=hTy id;rw[L2 h1] at this; exact this
   rw[v6 s m] at hT1;(refine yC rfl (hT1 _) ?_; simp[J1]);have hrn:H5 []:=(by simp[bR,J1,A4 hid]);refine hR _ _ _ (L2 h1) ?_;refine E8 (by simp[bR,J1,A4 hid]<;>rfl) [] hrn ⟨?_,?_,?_,?_,?_,?_⟩<;>(try simp[bR,J1,A4 hid])
structure RtS(s:H0):Prop where
 sch:A6O s.types
 len:s.things.length<=12
 tg:∀t∈s.things,A4O s t
theorem C0M{s:H0}(h:fSt s=0):RtS s:=by
 unfold fSt at h;split at h
 ·exact (by assumption:J2 s.types≠0) h |>.elim
 rename_i h1;split at h
 ·omega
 rename_i h2;split at h
 ·exact (by assumption:D9 _ _ _≠0) h |>.elim
 rename_i h3;refine⟨A6P (zl h1),by omega,fun t ht=>?_⟩;obtain⟨i,hi⟩:=ye.1 ht;have h0:=Q8 _ _ _ (zl h3) i t hi;unfold A0v at h0;refine C3p (zl fun hn=>?_);rw[zj hn] at h0;exact hn h0
theorem B1O{s:H0}{kd id:Int}{u:Tg}(hs:RtS s)(hk : -1<=kd/\kd<=5)(h:thA s kd id=some u):u∈s.things/\u.type=kd:=by
 unfold thA at h;split at h
 ·rename_i hb;have hm:=zg h;refine⟨hm,?_⟩;unfold E9 at hb;simp only[yg,decide_eq_true_eq] at hb;have h2:=hb.2;have ht:=hs.tg u hm;have a1:=ht.ty0;have a2:=ht.ty1;have a3:=hs.sch.len;unfold I5 at h2;rw[h] at h2;simp only[x4] at h2;split at h2
  ·rw[A5 (by omega)] at h2; omega
  ·omega
 ·cases h
theorem A19(l:List Ty)(n:List UInt8)(h:l.length<=5): -1<=C3 l n/\C3 l n<=5:=by
 unfold C3;rcases R9 (fun t=>t.name==n) l 0 with⟨q1,q2⟩|⟨j,t',q1,q2,q3⟩
 ·omega
 ·have:=(ze.1 q1).1; omega
theorem A64{l:List Ty}{t:Ty}:∀{q:List F6},A1a l t q=0->∀x∈q,B70 l t x=0
 | [],_,x,hx=>by cases hx
 | a::r,h,x,hx=>by
  simp only[A1a] at h;split at h
  ·rename_i h0; exact (h0 h).elim
  ·rename_i h0;rcases zh.1 hx with rfl|hx
   ·exact zl h0
   ·exact A64 h x hx
theorem A8V{name:List UInt8}{may:Bool}{a b:Int}{x:Ag}{r:List Ag}(h:V9 (x::r) name may a b=0):a<=x.n/\x.n<=b:=by
 unfold V9 R7 at h;split at h
 ·rename_i h0; exact (h0 h).elim
 ·rename_i h0;have h0:=zl h0;unfold A47 at h0;repeat' split at h0
  all_goals first|(exfalso; omega)|omega
theorem B0C{s:H0}(hs:RtS s):∀(n:Nat) (x:F6) (u:Tg) (ty:Ty) (J m id:Nat),x.sz<n->x.sz<=1000000->A4O s u->s.types[u.type.toNat]?=some ty->B70 s.types ty x=0->m<=2000 ->
  Y5 Tryz.prog 256 [.ptr J 0 0,T4 u,E0 x] [(J,bR s m)] id (rnR s J m (wS s x u) (eO (oS s x u)))
 | 0,x,u,ty,J,m,id,hn,_,_,_,_,_=>by omega
 | n+1,x,u,ty,J,m,id,hn,h8,hu,hty,hk,hm=>by
  by_cases hid:x.name=tId
  ·exact C0K id hm hid
  rw[A6w] at hk;unfold fieldAt at hk;rw[zf hid] at hk;have hsz:=A4x x;have hkl:=A0u x.kids;have hl5:=hs.sch.len;have hf6:=hs.sch.fields ty (zg hty);have hfl:C8 s.types u.type=ty.fields:=by unfold C8; rw[hty]; rfl
  rcases R9 (fun g=>g.name==x.name) ty.fields 0 with⟨r1,r2⟩|⟨k,f,r1,r2,r3⟩
  ·rw[r1] at hk; simp at hk
  rw[r3] at hk;simp only at hk;rw[yy] at r2;have hkd:=hs.sch.kinds ty (zg hty) f (zg r1);have hlen:=hu.len;rw[hfl] at hlen;have hk6:=(ze.1 r1).1;obtain⟨c,hc⟩:∃c,u.cells[k]?=some c:=⟨_,zc (by omega)⟩;obtain⟨f',hf',hcl⟩:=hu.cellOk hc;rw[hfl,r1] at hf';obtain rfl:f=f':=by simpa using hf'
  split at hk
  ·rename_i h0; exact (h0 hk).elim
  rename_i hA;have hA:=zl hA;split at hk
  ·simp at hk
  have hi6:=hcl.i1;refine C0L id hm hid (q:=u.type.toNat) (by have:=hu.ty0; omega) hty (by omega) (by omega) r2 r1 hc hkd (by omega) (fun a r e=>A8V (by rw[e] at hA; exact hA)) fun y hy m id hm=>?_;have hk34:f.kind=3\/f.kind=4:=by
   refine zl fun hn=>?_;have:c.ids=[]:=hcl.i0 (by unfold R8; simp; omega);rw[this] at hy; cases hy
  rw[zf (by simp; omega)] at hk;refine B3C id hm (by have:=hs.len; omega) (by omega) fun v hv z hz m id hm=>?_;obtain⟨hv1,hv2⟩:=B1O hs (A19 _ _ hl5) hv;have hz1:=A1Z hz;have hv4:=hs.tg v hv1;have htyp:∃ty',s.types[v.type.toNat]?=some ty'/\A2e s.types f.of=some ty':=by
   rcases R9 (fun t=>t.name==f.of) s.types 0 with⟨q1,q2⟩|⟨j,t',q1,q2,q3⟩
   ·have:=hv4.ty0;rw[hv2] at this;unfold C3 at this;omega
   ·refine⟨t',?_,q3⟩;rw[hv2];unfold C3;rw[q2];simpa using q1
  obtain⟨ty',ht1,ht2⟩:=htyp;rw[ht2] at hk;exact B0C hs n z v ty' J m id (by omega) (by omega) hv4 ht1 (A64 hk z hz) hm
def A0R(s:H0)(kd:Int)(l:List Tg):List Int:=(l.filter fun t=>t.type==kd).map Tg.id
def rtW(s:H0)(x:F6):Nat:=match x.args with
 | []=>1+((A0R s (C3 s.types x.name) s.things).map (thW s (wL s x.kids) (C3 s.types x.name))).sum
 | a::_=>thW s (wL s x.kids) (C3 s.types x.name) a.n
def rtO(s:H0)(x:F6):H6:=match x.args with
 | []=>V3 ((A0R s (C3 s.types x.name) s.things).map (thO s (x.kids.map D4) (oL s x.kids) (C3 s.types x.name)))
 | a::_=>thO s (x.kids.map D4) (oL s x.kids) (C3 s.types x.name) a.n
theorem B0D(s:H0)(kd:Int)(l:List Tg):(A0R s kd l).length<=l.length:=by
 unfold A0R; rw[xg]; exact List.length_filter_le ..
theorem C5X(t:Tg):T4 t = .agg [.int .i64 t.type,.int .i64 t.id,.sl (t.cells.map eCl)]:=rfl
theorem C2O{s:H0}{x:F6}{J m:Nat}(id:Nat)(hm:m<=2000)(hl8:s.types.length<=1000)(h12:s.things.length<=1000)
  (hT:∀y m id,m<=2000->Y5 Tryz.prog 188 [.ptr J 0 0,.int .i64 (C3 s.types x.name),.int .i64 y,.sl (x.kids.map E0)] [(J,bR s m)] id (rnR s J m (thW s (wL s x.kids) (C3 s.types x.name) y) (eO (thO s (x.kids.map D4) (oL s x.kids) (C3 s.types x.name) y)))) :
  Y5 Tryz.prog 122 [.ptr J 0 0,E0 x] [(J,bR s m)] id (rnR s J m (rtW s x) (eO (rtO s x))):=by
 have hFn:=fun id=>j8 s.types x.name id (by omega);rw[show B8 (fun z:Ty=>z.name==x.name) s.types 0=C3 s.types x.name from rfl] at hFn;have hVa:=fun id=>B64 x id;rw[H8] at hVa;obtain⟨ok,on,ot,oks,ols,hoe⟩:∃(a b:Int) (c:List UInt8) (d:List (List UInt8)) (e:List H6),eO (rtO s x) = .agg [.int .i64 a,.int .i64 b,.str c,.sl (d.map .str),.sl (e.map eO)]:=by
  cases rtO s x with|mk a b c d e=>exact⟨a,b,c,d,e,A1g a b c d e⟩
 rw[H8,v6];cases hx:x.args with
 | cons a r =>
  have hw:rtW s x=thW s (wL s x.kids) (C3 s.types x.name) a.n:=by unfold rtW; rw[hx]
  have ho:rtO s x=thO s (x.kids.map D4) (oL s x.kids) (C3 s.types x.name) a.n:=by unfold rtO; rw[hx]
  have hTy:=fun id=>hT a.n m id hm;rw[←hw,←ho,hoe] at hTy;rw[hx] at hVa;rw[hoe];refine w122.x.1 fun E hP hR hPn hl hid hB hu=>?_;simp[w122];have hJ:=hl (J,_) (za ..);simp only at hJ;have J1:=lf hJ;simp[J1];(refine yC rfl (hFn _) ?_; simp[J1]);(refine yC rfl (hVa _) ?_; simp[J1]);by_cases h1:m+rtW s x<=2000
  rotate_left
  ·simp only[K0 h1] at hTy;rw[v6] at hTy;refine D5 hP rfl (hTy _) (by simp[J1]) (by simp[J1]<;>rfl) (fun pv hpv=>⟨by simp[J1],by injection hpv with hpv; subst hpv; exact hPn _ _ (K0 h1) rfl (by simp[J1])⟩) (fun v wr h=>by cases h)
  have hT1:∀id,A2 Tryz.prog 188 _ _ id _ _:=fun id=>by
   have:=hTy id;rw[L2 h1] at this; exact this
  rw[v6 s m] at hT1;(refine yC rfl (hT1 _) ?_; simp[J1]);have hrn:H5 []:=by simp[bR,J1,A4 hid]
  refine hR _ _ _ (L2 h1) ?_;refine E8 (by simp[bR,J1,A4 hid]<;>rfl) [] hrn ⟨?_,?_,?_,?_,?_,?_⟩<;>(try simp[bR,J1,A4 hid])
 | nil =>
  have hw:rtW s x=1+((A0R s (C3 s.types x.name) s.things).map (thW s (wL s x.kids) (C3 s.types x.name))).sum:=by unfold rtW; rw[hx]
  have ho:rtO s x=V3 ((A0R s (C3 s.types x.name) s.things).map (thO s (x.kids.map D4) (oL s x.kids) (C3 s.types x.name))):=by unfold rtO; rw[hx]
  have hil:=B0D s (C3 s.types x.name) s.things;have hL:=fun id=>B63 (s:=s) (kids:=x.kids) (ids:=A0R s (C3 s.types x.name) s.things) (J:=J) (kd:=C3 s.types x.name) (W:=thW s (wL s x.kids) (C3 s.types x.name)) (O:=thO s (x.kids.map D4) (oL s x.kids) (C3 s.types x.name)) id hm (by omega) (fun y _=>hT y);rw[←hw,←ho,hoe] at hL;rw[hx] at hVa;rw[hoe];generalize hkd:C3 s.types x.name=kd at *;refine w122.x.1 fun E hP hR hPn hl hid hB hu=>?_;simp[w122];have hJ:=hl (J,_) (za ..);simp only at hJ;have J1:=lf hJ;simp[J1];(refine yC rfl (hFn _) ?_; simp[J1]);(refine yC rfl (hVa _) ?_; simp[J1]);refine D0 (X:=Nat) (fun i=>⟨[(0,true,.ptr J 0 0),(3,true,.ptr E.n0 0 0),(4,true,.ptr (E.n0+1) 0 0),(5,true,.int .i64 kd),(8,true,.bsl (E.n0+2) 0 (A0R s kd (s.things.take i)).length),(35,true,.sl (s.things.map T4)),(36,true,.int .i64 s.things.length),(37,true,.int .i64 i)],
   [(J,some (bR s m)),(E.n0,some ⟨[.agg [.str x.alias,.str x.name,.sl [],.sl (x.kids.map E0)]],.agg [.str x.alias,.str x.name,.sl [],.sl (x.kids.map E0)],false,false⟩),(E.n0+1,some ⟨[.agg [.int .i64 0,.int .i64 0,.str [],.nils,.nils]],.agg [.int .i64 0,.int .i64 0,.str [],.nils,.nils],false,false⟩),(E.n0+2,some ⟨(A0R s kd (s.things.take i)).map eI,.int .i64 0,false,false⟩)],3⟩)
   (fun i=>i<=s.things.length) (fun i=>s.things.length - i) 0 ?_ (by omega) ?_
  ·refine E4.trans (E4.voidSlot 8 (x:=.nils) (y:=.bsl (E.n0+27648) 0 0) (by simp) .nils (.int .i64 0)) ?_;have hi0:A0R s kd []=[]:=rfl;refine yV [(E.n0,E.n0),(E.n0+1,E.n0+1024),(E.n0+2,E.n0+27648)] (by simp[hi0,bR,J1]) fun hrn=>⟨?_,?_,?_,?_,?_⟩<;>(try simp[hi0,bR,J1])
  ·rintro i hi p hp;refine A3 4000 ?_;simp;refine E5 (fun h=>?_) (fun h=>?_)
   ·have h:=zr h;obtain⟨t,ht⟩:∃t,s.things[i]?=some t:=⟨_,zc h⟩;have hi1:IntKind.i64.wrap ((i:Int)+1)=((i+1:Nat):Int):=A5 (by omega);have hfl:=B0D s kd (s.things.take i);rw[zw] at hfl;simp[ht,C5X t,J1];refine⟨h,?_⟩;refine E5 (fun g=>?_) (fun g=>?_)
    ·have g:t.type=kd:=(by simpa using g);have hts:A0R s kd (s.things.take (i+1))=A0R s kd (s.things.take i)++[t.id]:=(by unfold A0R; rw[vk,ht]; simp[g]);simp[J1];refine⟨⟨by omega,by omega⟩,?_⟩;refine hp _ (i+1) (by omega) (by omega) ?_;refine yV [(E.n0,E.n0),(E.n0+1,E.n0+1),(E.n0+2,E.n0+13315)] (by simp[hi1,hts,bR,J1]) fun hrn=>⟨?_,?_,?_,?_,?_⟩<;>(try simp[hi1,hts,bR,J1]);exact C2 rfl (C4 (A17 _) rfl)
    ·have g:¬t.type=kd:=(by simpa using g);have hts:A0R s kd (s.things.take (i+1))=A0R s kd (s.things.take i):=(by unfold A0R; rw[vk,ht]; simp[g]);simp[J1];refine hp _ (i+1) (by omega) (by omega) ?_;refine yV [(E.n0,E.n0),(E.n0+1,E.n0+1),(E.n0+2,E.n0+2)] (by simp[hi1,hts,bR,J1]) fun hrn=>⟨?_,?_,?_,?_,?_⟩<;>(try simp[hi1,hts,bR,J1])
   ·have h:=zp h;have hall:s.things.take i=s.things:=zq (by omega);rw[hall];simp[J1];by_cases h1:m+rtW s x<=2000
    rotate_left
    ·simp only[K0 h1] at hL;refine A7c hP rfl (hL _) (by simp[bR,J1]<;>rfl) (by simp[bR,J1]) (by simp[bR,J1]<;>rfl) (by simp[bR,J1]) (fun pv hpv=>⟨by simp[bR,J1],by injection hpv with hpv; subst hpv; exact hPn _ _ (K0 h1) rfl (by simp[bR,J1])⟩) (fun v wr h=>by cases h)
    have hL1:∀id,A2 Tryz.prog 189 _ _ id _ _:=fun id=>by
     have:=hL id;rw[L2 h1] at this; exact this
    (refine A2T hP rfl (hL1 _) (by simp[bR,J1]<;>rfl) (by simp[bR,J1]) (by simp[bR,J1]<;>rfl) (by simp[bR,J1]) ?_; refine A3 4000 ?_; simp[bR,J1]);have hrn:H5 []:=(by simp[bR,J1,A4 hid]);refine hR _ _ _ (L2 h1) ?_;refine E8 (by simp[bR,J1,A4 hid]<;>rfl) [] hrn ⟨?_,?_,?_,?_,?_,?_⟩<;>(try simp[bR,J1,A4 hid])
def C0N(s:H0)(l:List F6):Nat:=(l.map fun x=>rtW s x).sum
theorem B7Y(s:H0)(l:List F6)(J m:Nat)(id:Nat)(hm:m<=2000)(hl8:l.length<=1000000)
  (hdo:∀x∈l,∀m id,m<=2000->Y5 Tryz.prog 122 [.ptr J 0 0,E0 x] [(J,bR s m)] id (rnR s J m (rtW s x) (eO (rtO s x)))) :
  Y5 Tryz.prog 121 [.ptr J 0 0,.sl (l.map E0),.fnb 122 [.ptr J 0 0]] [(J,bR s m)] id (rnR s J m (1+C0N s l) (eO (A0a (l.map D4) (l.map (rtO s))))):=by
 have hsum:C0N s l=(l.map fun x=>rtW s x).sum:=rfl;refine w121.x.1 fun E hP hR hPn hl hid hB hu=>?_;simp[w121];have hJ:=hl (J,_) (za ..);simp only at hJ;have J1:=lf hJ;by_cases h1:m+1<=2000
 rotate_left
 ·refine D5 hP rfl (A2m 5 0 [] _ hm h1) (by simp[J1]) (by simp[J1]<;>rfl) (fun pv hpv=>⟨by simp[J1],by injection hpv with hpv; subst hpv; exact hPn _ _ (K0 (by omega)) rfl (by simp[J1])⟩) (fun v wr h=>by cases h)
 (refine D8 hP rfl (A0A 5 0 [] _ h1) (by simp[J1]) (by simp[J1]<;>rfl) ?_; refine A3 4000 ?_; simp[J1]);refine D0 (X:=Nat) (fun i=>⟨[(2,true,.fnb 122 [.ptr J 0 0]),(6,true,.ptr E.n0 0 0),(7,true,.ptr (E.n0+1) 0 0),(13,true,.sl (l.map E0)),(14,true,.int .i64 l.length),(15,true,.int .i64 i)],
   [(J,some (bR s (m+1+((l.take i).map fun x=>rtW s x).sum))),(E.n0,some ⟨[.agg [.int .i64 0,.int .i64 0,.str [],.nils,.nils]],.agg [.int .i64 0,.int .i64 0,.str [],.nils,.nils],false,false⟩),(E.n0+1,some ⟨[.agg [.int .i64 5,.int .i64 0,.str [],.bsl (E.n0+2) 0 i,.bsl (E.n0+3) 0 i]],.agg [.int .i64 0,.int .i64 0,.str [],.nils,.nils],false,false⟩),(E.n0+2,some ⟨((l.map D4).map .str).take i,.str [],false,false⟩),(E.n0+3,some ⟨((l.map (rtO s)).map eO).take i,.agg [.int .i64 0,.int .i64 0,.str [],.nils,.nils],false,false⟩)],4⟩)
  (fun i=>i<=l.length/\m+1+((l.take i).map fun x=>rtW s x).sum<=2000) (fun i=>l.length - i) 0 ?_ ⟨by omega,by simp; omega⟩ ?_
 ·refine E4.trans (E4.voidBox (E.n0+4096) (by simp; rfl) rfl (.agg [.int .i64 5,.int .i64 0,.str [],.nils,.nils] [.int .i64 5,.int .i64 0,.str [],.bsl (E.n0+9216) 0 0,.nils] rfl (fun m x y h1 h2=>?_)) (.str [])) (E4.trans (E4.voidBox (E.n0+4096) (by simp; rfl) rfl (.agg [.int .i64 5,.int .i64 0,.str [],.bsl (E.n0+9216) 0 0,.nils] [.int .i64 5,.int .i64 0,.str [],.bsl (E.n0+9216) 0 0,.bsl (E.n0+9217) 0 0] rfl (fun m x y h1 h2=>?_)) (.agg [.int .i64 0,.int .i64 0,.str [],.nils,.nils])) ?_)
  ·match m,h1,h2 with
   | 0,h1,h2|1,h1,h2|2,h1,h2|4,h1,h2=>simp at h1 h2; exact .inl (h1.symm.trans h2)
   | 3,h1,h2=>simp at h1 h2; exact .inr ⟨h1.symm,h2.symm⟩
   | m+5,h1,h2=>simp at h1
  ·match m,h1,h2 with
   | 0,h1,h2|1,h1,h2|2,h1,h2|3,h1,h2=>simp at h1 h2; exact .inl (h1.symm.trans h2)
   | 4,h1,h2=>simp at h1 h2; exact .inr ⟨h1.symm,h2.symm⟩
   | m+5,h1,h2=>simp at h1
  ·refine yV [(E.n0,E.n0),(E.n0+1,E.n0+4096),(E.n0+2,E.n0+9216),(E.n0+3,E.n0+9217)] (by simp[bR,J1]) fun hrn=>⟨?_,?_,?_,?_,?_⟩<;>(try simp[bR,J1])
 ·rintro i ⟨hi,hm2⟩ p hp;refine A3 4000 ?_;simp;refine E5 (fun h=>?_) (fun h=>?_)
  ·have h:=zr h;obtain⟨x,hx,hd⟩:=B2 h;have hi1:IntKind.i64.wrap ((i:Int)+1)=((i+1:Nat):Int):=A5 (by omega);have hxm:=zg hx;have hst:=A1v (fun x=>rtW s x) hx;have hCa:=A3u x;rw[H8] at hCa;have hdx:=hdo x hxm;have hk1:((l.map D4).map AV.str).take (i+1)=((l.map D4).map AV.str).take i++[.str (D4 x)]:=O2 (by simp[hx]);have ho1:((l.map (rtO s)).map eO).take (i+1)=((l.map (rtO s)).map eO).take i++[eO (rtO s x)]:=O2 (by simp[hx]);have hlo:(l.map (rtO s)).length=l.length:=(by simp);obtain⟨ok,on,ot,oks,ols,hoe⟩:∃(a b:Int) (c:List UInt8) (d:List (List UInt8)) (e:List H6),eO (rtO s x) = .agg [.int .i64 a,.int .i64 b,.str c,.sl (d.map .str),.sl (e.map eO)]:=by
    cases rtO s x with|mk a b c d e=>exact⟨a,b,c,d,e,A1g a b c d e⟩
   rw[hoe,H8] at hdx;rw[hoe] at ho1;simp only[va] at *;simp[hx,H8 x,J1];refine⟨h,?_⟩;(refine yC rfl (hCa _) ?_; simp[J1]);refine⟨⟨by omega,by omega,by omega⟩,?_⟩;have hsl:=A63 (l:=l) (i:=i+1) (fun x=>rtW s x);by_cases h2:m+1+((l.take i).map fun x=>rtW s x).sum+rtW s x<=2000
   ·have hd2:∀id,A2 Tryz.prog 122 _ _ id _ _:=fun id=>by
     have:=hdx (m+1+((l.take i).map fun x=>rtW s x).sum) id hm2;rw[L2 h2] at this; exact this
    simp only[yu] at *;refine B5C hP rfl rfl (hd2 _) (by simp) (by simp[J1]<;>rfl) ?_;refine A3 4000 ?_;simp[J1];refine⟨⟨by omega,by omega,by omega⟩,?_⟩;have hst2:(List.take (i+1) (List.map (fun x=>rtW s x) l)).sum=(List.take i (List.map (fun x=>rtW s x) l)).sum+rtW s x:=(by simpa only[yu] using hst);refine hp _ (i+1) ⟨h,by omega⟩ (by omega) ?_;refine yV [(E.n0,E.n0),(E.n0+1,E.n0+1),(E.n0+2,E.n0+10244),(E.n0+3,E.n0+19460)] (by simp[hi1,bR,hst2,hk1,ho1,J1]) fun hrn=>⟨?_,?_,?_,?_,?_⟩<;>(try simp[hi1,bR,hst2,hk1,ho1,J1]);refine⟨by omega,C2 rfl (C4 (by rw[←yu]; exact E7 (fun _=>rfl) _) rfl),C2 rfl (C4 (by rw[←yu]; exact E7 (fun _=>A3z _) _) (by simp[Y1,A09]))⟩
   ·have hd2:∀id,Y5 Tryz.prog 122 _ _ id _:=fun id=>by
     have:=hdx (m+1+((l.take i).map fun x=>rtW s x).sum) id hm2;rw[K0 h2] at this; exact this
    simp only[yu] at *;refine B8j hP rfl rfl (hd2 _) (by simp) (by simp[J1]<;>rfl) (fun pv hpv=>⟨by simp[J1],by injection hpv with hpv; subst hpv; exact hPn _ _ (K0 (by omega)) rfl (by simp[J1])⟩) (fun v wr h=>by cases h)
  ·have h:¬i<l.length:=zp h;have hil:i=l.length:=(by omega);subst hil;simp[J1];have hlo:(l.map (rtO s)).length=l.length:=(by simp);have hsa:(List.take l.length (List.map (fun x=>rtW s x) l)).sum=C0N s l:=(by rw[hsum,zq (by simp)]);have hka:List.take l.length (List.map (AV.str∘D4) l)=List.map (AV.str∘D4) l:=zq (by simp);have hoa:List.take l.length (List.map (eO∘rtO s) l)=List.map (eO∘rtO s) l:=zq (by simp);simp only[yu] at hm2;rw[hsa] at hm2;unfold A0a at hR;rw[A1g,va,va] at hR;have hrn:H5 []:=(by simp[bR,hsa,hka,hoa,hlo,J1,A4 hid]);refine hR _ _ _ (L2 (by omega)) ?_;refine L6 (by simp[bR,hsa,hka,hoa,hlo,J1,A4 hid]<;>rfl) (by simp[bR,hsa,hka,hoa,hlo,J1,A4 hid]<;>exact⟨rfl,rfl⟩) [] hrn ⟨?_,?_,?_,?_,?_,?_⟩<;>(try simp[bR,hsa,hka,hoa,hlo,J1,A4 hid])
   ·exact B3 _ (E7 (fun _=>A3z _) _)
   ·omega
def qO(s:H0)(q:List F6):H6:=A0a (q.map D4) (q.map (rtO s))
def qW(s:H0)(q:List F6):Nat:=1+C0N s q
theorem B4n{l:List Ty}{x:F6}(h:A9k l x=0):∃t,A2e l x.name=some t/\A1a l t x.kids=0/\∀a r,x.args=a::r->1<=a.n/\a.n<=999:=by
 unfold A9k at h;split at h
 ·cases h
 rename_i t ht;split at h
 ·rename_i h0; exact (h0 h).elim
 rename_i h0;have h0:=zl h0;split at h
 ·cases h
 exact⟨t,ht,h,fun a r e=>A8V (by rw[e] at h0; exact h0)⟩
theorem C2P{s:H0}(hs:RtS s)(q:List F6)(hf:A29 s.types q=0)(hq8:szL q<=1000000)(J m:Nat)(id:Nat)(hm:m<=2000):
  Y5 Tryz.prog 121 [.ptr J 0 0,.sl (q.map E0),.fnb 122 [.ptr J 0 0]] [(J,bR s m)] id (rnR s J m (qW s q) (eO (qO s q))):=by
 have hl5:=hs.sch.len;have hlen:=A0u q;refine B7Y s q J m id hm (by omega) fun x hx m id hm=>C2O id hm (by omega) (by have:=hs.len; omega) fun y m id hm=>?_;obtain⟨t,h1,h2,h3⟩:=B4n (A1T.1 hf x hx);have hsx:=A1Z hx;have hsz:=A4x x;have hkl:=A0u x.kids;refine B3C id hm (by have:=hs.len; omega) (by omega) fun u hu z hz m id hm=>?_;obtain⟨u1,u2⟩:=B1O hs (A19 _ _ hl5) hu;have hu4:=hs.tg u u1;have hz1:=A1Z hz;have hty:s.types[u.type.toNat]?=some t:=by
  rcases R9 (fun t=>t.name==x.name) s.types 0 with⟨q1,q2⟩|⟨j,t',q1,q2,q3⟩
  ·have:=hu4.ty0;rw[u2] at this;unfold C3 at this;omega
  ·rw[u2];unfold C3;rw[q2];unfold A2e at h1;rw[h1] at q3;obtain rfl:t=t':=by simpa using q3
   simpa using q1
 exact B0C hs _ z u t J m id (wk _) (by omega) hu4 hty (A64 h2 z hz) hm
def v7:AV:=.agg [.int .i64 0,.int .i64 0,.str [],.nils,.nils]
def bO(v:AV):Bx:=⟨[v],v7,false,false⟩
def bB(b:Bool):Bx:=⟨[.bool b],.bool false,false,false⟩
theorem C0O(E:R4)(J4 J5:Nat)(h4:J4<E.n0)(h5:J5<E.n0)(d:J4≠J5)(hR:∀fr bx k,bk bx J4=some (bO v7)->bk bx J5=some (bB false)->(∀q∈bx,q.1=J4\/q.1=J5\/E.n0<=q.1)->E.Rt ⟨fr,bx,k⟩):
  Wk E [.code B1H] ⟨[(0,true,.ptr J4 0 0),(1,true,.ptr J5 0 0),(2,true,tm)],[(J4,some (bO v7)),(J5,some (bB false))],0⟩:=by
 unfold tm bO bB v7;have e4:∀t,(J4=E.n0+t)=False:=fun t=>by simp; omega
 have e5:∀t,(J5=E.n0+t)=False:=fun t=>by simp; omega
 refine A3 4000 ?_;simp[B1H,e4,e5,d,zt d];refine hR _ _ _ ?_ ?_ ?_
 ·simp[e4,e5,d,zt d,bO,v7]
 ·simp[e4,e5,d,zt d,bB]
 ·simp
theorem C5Y{x x' z:Code}{X:Operand}{Y:Code}(h:Tryz.f120.body=some (.seq x (.seq x' (.cond X Y z)))):D3 Tryz.prog Tryz.f120.ntmps Y=B1H:=by
 have h0:=C44;rw[h] at h0;simp only[vf,zd,C2w] at h0;obtain⟨_,_,e1,_,h1⟩:=H4 h0;injection e1 with _ e1
 subst e1;obtain⟨_,_,e2,_,h2⟩:=H4 h1;injection e2 with _ e2
 subst e2;obtain⟨_,_,_,e3,_,h3,_⟩:=A13 h2;injection e3 with _ e3 _
 subst e3;exact h3
theorem C0P(C:Cx Tryz.prog)(G:Gh)(B:Nat->Option Bx)(w:World)(n0 J4 J5:Nat)(v4 v5 u:Value)(hs:RS C G B w)(hv4:RV G w (.ptr J4 0 0) v4)(hv5:RV G w (.ptr J5 0 0) v5)(hu:RV G w tm u)
  (h4:B J4=some (bO v7)) (h5:B J5=some (bB false)) (d:J4≠J5) (hold:∀x,G.used x->x<n0) (how:∀x,n0<=x->B x=none) :
  CallsD Tryz.prog 120 #[v4,v5] (.panicking [{ v:=u,recovered:=false }]) w fun e u' w'=>u' = .panicking [{ v:=u,recovered:=true }]/\(∃v,e = .returned v) /\
   ∃G' l k,RS C G' (ov B l) w'/\M0 G w G' w'/\bk l J4=some (bO v7)/\bk l J5=some (bB false)/\(∀q∈l,q.1=J4\/q.1=J5\/n0<=q.1)/\(∀x,x<n0->G'.used x->G.used x)/\∀x,G'.used x->x<n0+k:=by
 obtain⟨y,rfl⟩:∃y,u = .iface 173 y:=by
  unfold tm at hu;cases hu with|iface _ _ y h=>exact⟨y,rfl⟩
 refine callsD_of_wpS Tryz.func120 rfl fun c₀ cs hm=>?_;apply wpS_seq;apply wpS_region;simp[wpOpsS,go_sem,recoverD,hm,Tryz.ntmps120,Exit.thenS];apply wpS_seq;apply wpS_region;simp[wpOpsS,go_sem,Exit.thenS];refine wpS_cond (t:=true) (by simp[Act.eval,Array.replicate]) ?_;apply wpS_of_wp;simp only[if_true];let E:R4:=⟨Tryz.prog,C,B,Tryz.f120.ntmps,n0,G,w,how,hold,hs,[],fun σ=>bk σ.bx J4=some (bO v7)/\bk σ.bx J5=some (bB false)/\∀q∈σ.bx,q.1=J4\/q.1=J5\/n0<=q.1,fun _ _=>False⟩
 have l4:=hold J4 (hs.boxNames h4).1;have l5:=hold J5 (hs.boxNames h5).1;have hW:=C0O E J4 J5 l4 l5 d fun fr bx k h1 h2 h3=>⟨h1,h2,h3⟩;refine wp_mono (hW _ (C5Y rfl) G _ w ?_) fun e a w' hq=>?_
 ·refine⟨M0.refl G w,?_,fun i hi=>by have:=hold i hi; show i<n0+0; omega,fun i _ hi=>hi,fun n c v hl=>?_,?_,rfl⟩
  ·have hh:K5 B [(J4,bO v7),(J5,bB false)]:=fun q hq=>by
    simp at hq;rcases hq with rfl|rfl
    ·exact h4
    ·exact h5
   have:=A23 hh;simp only[C9] at this;show RS C G (ov B _) w;rw[this]; exact hs
  ·simp only[lk] at hl;repeat' split at hl
   all_goals first|cases hl|skip
   all_goals rename_i hn<;>subst hn<;>refine⟨fun _=>?_,fun h=>by cases h⟩
   ·simpa [zk] using hv4
   ·simpa [zk] using hv5
   ·simpa [zk] using hu
  ·simp[E,Tryz.ntmps120]
 ·have fin:∀σ G',S5 E σ G' a w'->E.Rt σ->∀(cs':List Frame),a.defers=[]/\(∃v,(results Tryz.f120 a.tmps).run Tryz.prog w' = .ok v w')/\∃G' l k,RS C G' (ov B l) w'/\M0 G w G' w'/\bk l J4=some (bO v7)/\bk l J5=some (bB false)/\(∀q∈l,q.1=J4\/q.1=J5\/n0<=q.1)/\(∀x,x<n0->G'.used x->G.used x)/\∀x,G'.used x->x<n0+k:=fun σ G' hD hR _=>by
   refine⟨hD.defers,⟨_,by simp[results,Tryz.results57]; rfl⟩,G',σ.bx,σ.k,hD.rs,hD.ev,hR.1,hR.2.1,hR.2.2,hD.old,hD.used⟩
  cases e with
  | normal =>
   obtain⟨σ,G',h1,h2⟩:=hq;obtain⟨f1,⟨v,f2⟩,f3⟩:=fin σ G' h1 h2 cs;exact⟨f1,_,rfl,v,f2,rfl,⟨v,rfl⟩,by obtain⟨g1,g2,g3,d1,d2,d3,d4,d5,d6,d7⟩:=f3; exact⟨g1,g2,d1,d2,d3,d4,fun x y h=>d5 (x,y) h,d6,g3,d7⟩⟩
  | ret =>
   obtain⟨σ,G',h1,h2⟩:=hq;obtain⟨f1,⟨v,f2⟩,f3⟩:=fin σ G' h1 h2 cs;exact⟨f1,_,rfl,v,f2,rfl,⟨v,rfl⟩,by obtain⟨g1,g2,g3,d1,d2,d3,d4,d5,d6,d7⟩:=f3; exact⟨g1,g2,d1,d2,d3,d4,fun x y h=>d5 (x,y) h,d6,g3,d7⟩⟩
  | exit id=>obtain⟨σ,G',h1,h2⟩:=hq; exact h2.elim
  | panic chain =>
   obtain⟨pv,u,σ,F,B,U,G',rfl,h1,h2,h3,h4⟩:=hq;exact h4.elim
  | _=>exact hq.elim
theorem C0Q(v1 v2:Value)(w:World):CallsD Tryz.prog 120 #[v1,v2] .returning w fun e u' w'=>u' = .returning/\(∃v,e = .returned v)/\w'=w:=by
 refine callsD_of_wpS Tryz.func120 rfl fun c₀ cs hu=>?_;apply wpS_seq;apply wpS_region;simp[wpOpsS,go_sem,recoverD,hu,Tryz.ntmps120,Exit.thenS];apply wpS_seq;apply wpS_region;simp[wpOpsS,go_sem,Exit.thenS];refine wpS_cond (t:=false) (by simp[Act.eval,Array.replicate]) ?_;simp only[xi,if_false];apply wpS_of_wp;refine wp_skip ?_;exact⟨rfl,_,by rw[←hu],_,by simp[results,Tryz.results57]; rfl,rfl,⟨_,rfl⟩,rfl⟩
theorem C6H{x m y z r:Code}(h:Tryz.f60.body=some (.seq x (.seq m (.seq y (.seq z r))))):D3 Tryz.prog Tryz.f60.ntmps x=B5z/\D3 Tryz.prog Tryz.f60.ntmps y=B60/\D3 Tryz.prog Tryz.f60.ntmps z=B0B:=by
 have h0:=C5V;rw[h] at h0;simp only[vf,zd,C5S] at h0;obtain⟨_,_,e1,k1,h1⟩:=H4 h0;injection e1 with e1 e1'
 subst e1 e1';obtain⟨_,_,e2,_,h2⟩:=H4 h1;injection e2 with _ e2
 subst e2;obtain⟨_,_,e3,k3,h3⟩:=H4 h2;injection e3 with e3 e3'
 subst e3 e3';obtain⟨_,_,e4,k4,h4⟩:=H4 h3;injection e4 with e4 e4'
 subst e4 e4';exact⟨k1,k3,k4⟩
theorem C49{x m r:Code}(h:Tryz.f60.body=some (.seq x (.seq m r))){Q:Exit->Act->World->Prop}{t:Array Value}{w:World}(hsz:7<t.size)
  (hQ:Q .normal ⟨t.setIfInBounds 7 (.func (.func 120) #[] #[t[4]?.getD undef,t[5]?.getD undef]),[⟨.fn (.func 120) #[t[4]?.getD undef,t[5]?.getD undef],#[]⟩]⟩ w):m.wp Tryz.prog Q ⟨t,[]⟩ w:=by
 have e:Tryz.f60.body=some (.seq _ (.seq _ _)):=rfl;rw[e] at h;injection h with h
 injection h with _ h
 injection h with h _
 subst h;refine wp_region ?_;have hmf:∀(fn:Fn) (first cap:Array Value) (w:World),(Instr.makeFunc fn first cap).run Tryz.prog w = .ok (.func fn first cap) w:=fun _ _ _ _=>rfl;simp[wpOps,wpOp,go_sem,hmf,Exit.then,hsz];exact .inl (.inl hQ)
theorem I9.ofX{n0:Nat}{bx':List (Nat×Option Bx)}:∀{l:List (Nat×Option Bx)},(∀q∈l,n0<=q.1)->I9 n0 bx' l
 | [],_=>trivial
 | (i,b)::l,h=>⟨.inl (h (i,b) (za ..)),I9.ofX fun q hq=>h q (zb _ hq)⟩
theorem A2H{f:Nat->Option Bx}{i:Nat}{b:Option Bx}(h:f i=b):U8 f i b=f:=by
 funext x
 unfold U8;split
 ·rename_i hx; subst hx; exact h.symm
 ·rfl
theorem C2Q{C:Cx Tryz.prog}{D:List Deferred}{G G':Gh}{w w':World}{bx:Nat->Option Bx}{n0 k id J4 J5:Nat}{F:Fr}{l:List (Nat×Option Bx)}{a:Act}{cs:List AV}{b:Bool}(own:∀i,n0<=i->bx i=none)(old:∀i,G.used i->i<n0)(hs:RS C G bx w)(hid:∀x,id<=x->x<id+1024->¬G.used x)
  (hD:F7 C Tryz.f60.ntmps D n0 G w F (ov bx l) (· < n0+k) G' a w') (f4:F 4=some (true,.ptr J4 0 0)) (f5:F 5=some (true,.ptr J5 0 0)) (h4:ov bx l J4=some (bO (.agg cs))) (h5:ov bx l J5=some (bB b)) (hc:cs.length=5) (hp:F9 cs=true) (hl:∀q∈l,n0<=q.1) (d:J4≠J5) (j4:n0<=J4) (j5:n0<=J5) :
  ∃v,(results Tryz.f60 a.tmps).run Tryz.prog w' = .ok v w'/\∃G1,RS C G1 bx w'/\M0 G w G1 w'/\RV G1 w' (.tup [.agg cs,.bool b]) v/\∀x,G1.used x->G.used x\/(id<=x/\x<id+1024):=by
 let E:R4:=⟨Tryz.prog,C,bx,Tryz.f60.ntmps,n0,G,w,own,old,hs,D,fun _=>True,fun _ _=>False⟩
 have hD':S5 E ⟨[(4,true,.ptr J4 0 0),(5,true,.ptr J5 0 0)],(J4,some (bO (.agg cs)))::(J5,some (bB b))::l,k⟩ G' a w':=by
  refine⟨hD.ev,?_,hD.used,hD.old,fun n c v hl=>?_,hD.size,hD.defers⟩
  ·show RS C G' (ov bx _) w';simp only[ov];rw[A2H (f:=ov bx l) h5,A2H h4];exact hD.rs
  ·simp only[lk] at hl;repeat' split at hl
   all_goals first|cases hl|skip
   all_goals rename_i hn<;>subst hn
   ·exact hD.fr _ _ _ f4
   ·exact hD.fr _ _ _ f5
 have hh:K5 E.β []:=K5.nil;refine A7Z (E:=E) (id:=id) (rd:=[]) (wr:=[]) (C5U) hh hid hD' ?_;simp only[C5T];have htk:cs.take 5=cs:=zq (by omega);refine E8 (by simp[bO,bB,d,zt d,hc,htk]<;>rfl) [] trivial (S6 (by simp) (by simp[hp]) ?_);exact I9.ofX fun q hq=>by
  simp at hq;rcases hq with rfl|rfl|hq
  ·exact j4
  ·exact j5
  ·exact hl q hq
theorem B1P{n:Nat}{b:Bx}{r:List (Nat×Option Bx)}:∀{l:List (Nat×Option Bx)},bk l n=some b->bk (l++r) n=some b
 | [],h=>by cases h
 | (m,c)::l,h=>by
  simp only[bk,yv] at h ⊢;split
  ·rename_i hm; rw[zj hm] at h; exact h
  ·rename_i hm; rw[zf hm] at h; exact B1P h
def B1Q:CC->List CR
 | .reg _ l _=>l
 | _=>[]
def B1R(s:H0)(q:List F6):AV:=if qW s q<=2000 then eO (qO s q) else v7
theorem B65(s:H0)(q:List F6):∃cs,B1R s q = .agg cs/\cs.length=5/\F9 cs=true:=by
 unfold B1R;split
 ·cases qO s q with|mk a b c d e =>
  rw[A1g];exact⟨_,rfl,rfl,by simp⟩
 ·exact⟨_,rfl,rfl,rfl⟩
theorem C4A{s:H0}(hS:RtS s)(q:List F6)(hf:A29 s.types q=0)(hq8:szL q<=1000000)(id:Nat):
  A2 Tryz.prog 60 [D7 s,.sl (q.map E0)] [] id (.tup [B1R s q,.bool (decide (qW s q<=2000))]) []:=by
 refine⟨⟨_,Tryz.func60,by decide,rfl⟩,fun C G bx w vs nb hs hv hh hnb hid=>calls_of_wp_defers Tryz.func60 rfl ?_⟩;obtain⟨k1,k2,k3⟩:=C6H rfl;have own:∀i,max nb (id+1024)<=i->bx i=none:=fun i hi=>by
  cases hbi:bx i with
  | none=>rfl
  | some b=>exact (hnb i (by omega) (hs.boxNames hbi).1).elim
 have old:∀i,G.used i->i<max nb (id+1024):=fun i hi=>by
  rcases yh i nb with h|h
  ·omega
  ·exact (hnb i h hi).elim
 generalize max nb (id+1024)=n0 at own old;let E:R4:=⟨Tryz.prog,C,bx,Tryz.f60.ntmps,n0,G,w,own,old,hs,[],fun _=>False,fun _ _=>False⟩
 have hD:S5 E ⟨A24 0 [D7 s,.sl (q.map E0)],[],0⟩ G { tmps:=vs++Array.replicate (Tryz.f60.ntmps - vs.size) undef,defers:=[] } w:=by
  refine⟨M0.refl G w,hs,fun i hi=>by have:=old i hi; show i<n0+0; omega,fun i _ hi=>hi,fun n c v hl=>?_,?_,rfl⟩
  ·obtain⟨rfl,_,h3⟩:=A4q hl;simp only[rf] at h3;refine⟨fun _=>?_,fun h=>by cases h⟩;have:=hv.2 n v h3;rw[zk] at this ⊢;rw[xv (by rw[←hv.1]; exact (ze.1 h3).1)];exact this
  ·have:=hv.1;simp[Tryz.ntmps60] at this ⊢;show _=Tryz.f60.ntmps;simp[Tryz.ntmps60]; omega
 have hW:Wk E [.code B5z,.post (fun σ=>σ=⟨[(5,true,.ptr (n0+2048) 0 0),(4,true,.ptr (n0+1024) 0 0),(2,true,.ptr n0 0 0),(0,true,D7 s),(1,true,.sl (q.map E0))],[(n0+2048,some (bB false)),(n0+1024,some (bO v7)),(n0,some ⟨[D7 s],D7 s,false,false⟩)],3072⟩)] ⟨A24 0 [D7 s,.sl (q.map E0)],[],0⟩:=by
  refine A3 4000 ?_;simp[B5z,E,bB,bO,v7]
 refine wp_seq (wp_mono (hW _ k1 G _ w hD) fun e a w1 hq=>?_);clear hW;cases e with
 | normal =>
  obtain⟨σ,G1,hD1,rfl⟩:=hq;obtain⟨at1,ad1⟩:=a;have hd0:ad1=[]:=hD1.defers;subst hd0;have hsz:7<at1.size:=by have:=hD1.size; simp only at this; rw[this]; show 7<Tryz.f60.ntmps; simp[Tryz.ntmps60]
  show (Code.seq _ _).wp _ _ _ _;refine wp_seq (C49 rfl hsz ?_);obtain⟨v4,hv4⟩:∃v4,at1[4]?.getD undef=v4:=⟨_,rfl⟩;obtain⟨v5,hv5⟩:∃v5,at1[5]?.getD undef=v5:=⟨_,rfl⟩;have g4:RV G1 w1 (.ptr (n0+1024) 0 0) v4:=by
   have:=(hD1.fr 4 true _ rfl).1 rfl;rw[zk] at this;rw[←hv4]; exact this
  have g5:RV G1 w1 (.ptr (n0+2048) 0 0) v5:=by
   have:=(hD1.fr 5 true _ rfl).1 rfl;rw[zk] at this;rw[←hv5]; exact this
  rw[hv4,hv5];have own1:∀i,n0+3072<=i->ov bx [(n0+2048,some (bB false)),(n0+1024,some (bO v7)),(n0,some ⟨[D7 s],D7 s,false,false⟩)] i=none:=fun i hi=>by
   simp only[ov,U8];rw[zf (by omega),zf (by omega),zf (by omega)];exact own i (by omega)
  have hev:M0 G w G1 w1:=hD1.ev;have hrs:RS C G1 (ov bx [(n0+2048,some (bB false)),(n0+1024,some (bO v7)),(n0,some ⟨[D7 s],D7 s,false,false⟩)]) w1:=hD1.rs;have hus:∀i,G1.used i->i<n0+3072:=hD1.used;have hol:∀i,i<n0->G1.used i->G.used i:=hD1.old;let D:List Deferred:=[⟨.fn (.func 120) #[v4,v5],#[]⟩]
  let E1:R4:=⟨Tryz.prog,C,ov bx [(n0+2048,some (bB false)),(n0+1024,some (bO v7)),(n0,some ⟨[D7 s],D7 s,false,false⟩)],Tryz.f60.ntmps,n0+3072,G1,w1,own1,hus,hrs,D,fun _=>False,
   fun pv σ=>pv=tm/\¬qW s q<=2000/\bk σ.bx (n0+1024)=some (bO v7)/\bk σ.bx (n0+2048)=some (bB false)/\lk σ.fr 4=some (true,.ptr (n0+1024) 0 0)/\lk σ.fr 5=some (true,.ptr (n0+2048) 0 0)/\∀x∈σ.bx,n0<=x.1⟩
  have hD2:S5 E1 ⟨[(5,true,.ptr (n0+2048) 0 0),(4,true,.ptr (n0+1024) 0 0),(2,true,.ptr n0 0 0),(0,true,D7 s),(1,true,.sl (q.map E0))],[(n0+2048,some (bB false)),(n0+1024,some (bO v7)),(n0,some ⟨[D7 s],D7 s,false,false⟩)],0⟩ G1 ⟨at1.setIfInBounds 7 (.func (.func 120) #[] #[v4,v5]),D⟩ w1:=by
   refine⟨M0.refl G1 w1,?_,fun i hi=>by have:=hus i hi; show i<n0+3072+0; omega,fun i _ hi=>hi,fun n c v hl=>?_,?_,rfl⟩
   ·show RS C G1 (ov (ov bx _) _) w1;simp only[ov];rw[A2H (f:=U8 (U8 (U8 bx n0 _) (n0+1024) _) (n0+2048) _) (i:=n0) (by simp[U8]),A2H (i:=n0+1024) (by simp[U8]),A2H (i:=n0+2048) (by simp[U8])];exact hrs
   ·have:=hD1.fr n c v hl;have hn:n≠7:=fun h=>by subst h; simp at hl
    simp only[zk] at this ⊢;rw[vp (zt hn)];exact this
   ·have:=hD1.size;simp only[uw];exact this
  have hN:E1.n0=n0+3072:=rfl;let E2:R4:={ E1 with Pn:=fun _ _=>False }
  have hN2:E2.n0=n0+3072:=rfl;have hW2:Wk E2 [.code B60,.post (fun σ=>σ=⟨[(6,true,.ptr (n0+5120) 0 0),(10,true,.ptr (n0+5120) 0 0),(9,true,.agg [.sl (s.types.map I8),.sl (s.things.map T4),.int .i64 0]),(8,true,.agg [.sl (s.types.map I8),.sl (s.things.map T4)]),(5,true,.ptr (n0+2048) 0 0),(4,true,.ptr (n0+1024) 0 0),(2,true,.ptr n0 0 0),(0,true,D7 s),(1,true,.sl (q.map E0))],
    [(n0+5120,some (bR s 0)),(n0+2048,some (bB false)),(n0+1024,some (bO v7)),(n0,some ⟨[D7 s],D7 s,false,false⟩)],4096⟩)] ⟨[(5,true,.ptr (n0+2048) 0 0),(4,true,.ptr (n0+1024) 0 0),(2,true,.ptr n0 0 0),(0,true,D7 s),(1,true,.sl (q.map E0))],[(n0+2048,some (bB false)),(n0+1024,some (bO v7)),(n0,some ⟨[D7 s],D7 s,false,false⟩)],0⟩:=by
   clear k1 k2 k3 hD hD1 hD2;refine A3 4000 ?_;simp[B60,hN2,D7,bR]
  show (Code.seq _ _).wp _ _ _ _;refine wp_seq (wp_mono (hW2 _ k2 G1 _ w1 hD2) fun e a2 w2 hq=>?_);clear hW2;cases e with
  | normal =>
   obtain⟨σ,G2,hD3,rfl⟩:=hq;have hQ:=fun id=>C2P hS q hf hq8 (n0+5120) 0 id (by omega);obtain⟨ok,on,ot,oks,ols,hoe⟩:∃(a b:Int) (c:List UInt8) (d:List (List UInt8)) (e:List H6),eO (qO s q) = .agg [.int .i64 a,.int .i64 b,.str c,.sl (d.map .str),.sl (e.map eO)]:=by
    cases qO s q with|mk a b c d e=>exact⟨a,b,c,d,e,A1g a b c d e⟩
   rw[hoe] at hQ;have hP:E1.P=Tryz.prog:=rfl;have hW3:Wk E1 [.ops (B1Q B0B) 0 [] [],.post (fun σ=>qW s q<=2000/\bk σ.bx (n0+1024)=some (bO (eO (qO s q)))/\bk σ.bx (n0+2048)=some (bB true)/\lk σ.fr 4=some (true,.ptr (n0+1024) 0 0)/\lk σ.fr 5=some (true,.ptr (n0+2048) 0 0)/\∀x∈σ.bx,n0<=x.1)]
     ⟨[(6,true,.ptr (n0+5120) 0 0),(10,true,.ptr (n0+5120) 0 0),(9,true,.agg [.sl (s.types.map I8),.sl (s.things.map T4),.int .i64 0]),(8,true,.agg [.sl (s.types.map I8),.sl (s.things.map T4)]),(5,true,.ptr (n0+2048) 0 0),(4,true,.ptr (n0+1024) 0 0),(2,true,.ptr n0 0 0),(0,true,D7 s),(1,true,.sl (q.map E0))],
    [(n0+5120,some (bR s 0)),(n0+2048,some (bB false)),(n0+1024,some (bO v7)),(n0,some ⟨[D7 s],D7 s,false,false⟩)],4096⟩:=by
    clear k1 k2 k3 hD hD1 hD2 hD3;rw[hoe];refine A3 4000 ?_;simp[B1Q,B0B,hN];by_cases h1:0+qW s q<=2000
    ·have hQ1:∀id,A2 Tryz.prog 121 _ _ id _ _:=fun id=>by
      have:=hQ id;rw[L2 h1] at this; exact this
     (refine yC rfl (hQ1 _) ?_; simp[hN,bO,bB,bR,v7]);refine⟨by omega,fun a b h=>?_⟩;rcases h with⟨h,_⟩|⟨h,_⟩|⟨h,_⟩|⟨h,_⟩|⟨h,_⟩|⟨h,_⟩|⟨h,_⟩<;>omega
    ·simp only[K0 h1] at hQ;refine D5 hP rfl (hQ _) (by simp) (by simp<;>rfl) (fun pv hpv=>⟨by simp,by injection hpv with hpv; subst hpv; exact⟨rfl,by omega,by simp[bO,v7],by simp[bB],rfl,rfl,by simp⟩⟩) (fun v wr h=>by cases h)
   have hinv:∀w3,(invoke (.fn (.func 120) #[v4,v5]) #[]).run Tryz.prog w3 = .ok (.enter 120 #[v4,v5]) w3:=fun w3=>by simp[go_sem]
   have fin:∀{F:Fr} {l:List (Nat×Option Bx)} {k:Nat} {G3:Gh} {a3:Act} {w3:World} {cs:List AV} {b:Bool},F7 C Tryz.f60.ntmps D (n0+3072) G1 w1 F (ov (ov bx [(n0+2048,some (bB false)),(n0+1024,some (bO v7)),(n0,some ⟨[D7 s],D7 s,false,false⟩)]) l) (· < n0+k) G3 a3 w3 ->
     F 4=some (true,.ptr (n0+1024) 0 0)->F 5=some (true,.ptr (n0+2048) 0 0)->bk l (n0+1024)=some (bO (.agg cs))->bk l (n0+2048)=some (bB b)->cs.length=5->F9 cs=true->(∀x∈l,n0<=x.1) ->
     ∃v,(results Tryz.f60 a3.tmps).run Tryz.prog w3 = .ok v w3/\∃G1,RS C G1 bx w3/\M0 G w G1 w3/\RV G1 w3 (.tup [.agg cs,.bool b]) v/\∀x,G1.used x->G.used x\/(id<=x/\x<id+1024):=fun {F l k G3 a3 w3 cs b} h f4 f5 b4 b5 hc hp hl=>by
    have h':=h.rebase (n0:=n0) (by omega) hev hol;have e4:=Q5 (ov bx [(n0+2048,some (bB false)),(n0+1024,some (bO v7)),(n0,some ⟨[D7 s],D7 s,false,false⟩)]) b4;have e5:=Q5 (ov bx [(n0+2048,some (bB false)),(n0+1024,some (bO v7)),(n0,some ⟨[D7 s],D7 s,false,false⟩)]) b5;rw[←Y8] at h' e4 e5;exact C2Q own old hs hid h' f4 f5 e4 e5 hc hp (fun x hx=>by
     rcases zo.1 hx with hx|hx
     ·exact hl x hx
     ·simp at hx;rcases hx with rfl|rfl|rfl<;>simp) (by omega) (by omega) (by omega)
   show (Code.seq _ _).wp _ _ _ _;refine wp_seq (B0m (E:=E1) (crs:=B1Q B0B) (k3.trans rfl) hW3 hD3 (fun σ G3 a3 w3 h1 h2=>?_) (fun pv u σ G3 a3 w3 h1 h2 h3=>?_))
   ·obtain⟨q1,b4,b5,f4,f5,hl⟩:=h2;show Code.ret.wp _ _ _ _;refine wp_ret ?_;show Leaves _ _ _ _ a3.defers .returning w3;rw[show a3.defers=D from h1.defers];refine leaves_cons (by simp) (hinv w3) ((C0Q v4 v5 w3).mono ?_);rintro e u' w' ⟨rfl,⟨v,rfl⟩,rfl⟩;obtain⟨cs,hcs,hc5,hcp⟩:=B65 s q;rw[show eO (qO s q) = .agg cs by rw[←hcs]; unfold B1R; rw[zj q1]] at b4;obtain⟨v,r1,G4,r2,r3,r4,r5⟩:=fin (h1.weak (U':=fun x=>x<n0+(3072+σ.k)) (fun x hx=>by have:x<n0+3072+σ.k:=hx; omega)) f4 f5 b4 b5 hc5 hcp hl;rw[hcs,decide_eq_true q1];exact⟨v,r1,v,G4,rfl,r2,r3,r4,r5⟩
   ·obtain⟨rfl,q1,b4,b5,f4,f5,hl⟩:=h3;show Leaves _ _ _ _ a3.defers (.panicking [{ v:=u,recovered:=false }]) w3;rw[show a3.defers=D from h1.defers];have hus3:=h1.used;have hrs3:=h1.rs;refine leaves_cons (by simp) (hinv w3) ((C0P C G3 _ w3 _ (n0+1024) (n0+2048) v4 v5 u hrs3 (g4.mono h1.ev) (g5.mono h1.ev) h2 (Q5 _ b4) (Q5 _ b5) (by omega) hus3 (fun x hx=>?_)).mono ?_)
    ·cases hb:ov E1.β σ.bx x with
     | none=>rfl
     | some b=>have:=hus3 x (hrs3.boxNames hb).1; omega
    rintro e u' w' ⟨rfl,⟨v,rfl⟩,G4,l,k,r1,r2,r3,r4,r5,r6,r7⟩;have hx:=F7.step h1 r1 r2 (U':=fun x=>x<n0+(3072+4096+1024*(B1Q B0B).length+k)) (fun x hx=>by have:=r7 x hx; simp only[E1] at this; omega) (fun x hx hu=>r6 x (by simp only[E1] at hx ⊢; omega) hu);rw[←Y8] at hx;obtain⟨cs,hcs,hc5,hcp⟩:=B65 s q;have hz:v7 = .agg cs:=(by rw[←hcs]; unfold B1R; rw[zf q1]);rw[hz] at r3;obtain⟨v,s1,G5,s2,s3,s4,s5⟩:=fin hx f4 f5 (B1P r3) (B1P r4) hc5 hcp (fun x hx=>by
     rcases zo.1 hx with hx|hx
     ·rcases r5 x hx with h|h|h
      ·omega
      ·omega
      ·simp only[E1] at h; omega
     ·exact hl x hx)
    rw[hcs,decide_eq_false q1];exact⟨v,s1,v,G5,rfl,s2,s3,s4,s5⟩
  | ret=>obtain⟨_,_,_,h2⟩:=hq; exact h2.elim
  | exit id=>obtain⟨_,_,_,h2⟩:=hq; exact h2.elim
  | panic chain =>
   obtain⟨pv,u,σ,F,B,U,G',rfl,h1,h2,h3,h4⟩:=hq;exact h4.elim
  | _=>exact hq.elim
 | ret=>obtain⟨_,_,_,h2⟩:=hq; exact h2.elim
 | exit id=>obtain⟨_,_,_,h2⟩:=hq; exact h2.elim
 | panic chain =>
  obtain⟨pv,u,σ,F,B,U,G',rfl,h1,h2,h3,h4⟩:=hq;exact h4.elim
 | _=>exact hq.elim
def H6.kind:H6->Int | .mk k _ _ _ _=>k
def H6.n:H6->Int | .mk _ n _ _ _=>n
def H6.text:H6->List UInt8 | .mk _ _ t _ _=>t
def H6.keys:H6->List (List UInt8) | .mk _ _ _ k _=>k
def H6.kids:H6->List H6 | .mk _ _ _ _ l=>l
theorem B3D(o:H6):eO o = .agg [.int .i64 o.kind,.int .i64 o.n,.str o.text,.sl (o.keys.map .str),.sl (o.kids.map eO)]:=by cases o; exact A1g ..
mutual
def H6.sz:H6->Nat
 | .mk _ _ _ ks l=>1+ks.length+A1I l
def A1I:List H6->Nat
 | []=>0
 | s::r=>s.sz+A1I r
end
theorem B4o(s:H6):s.sz=1+s.keys.length+A1I s.kids:=by cases s; rfl
theorem C0R(l:List H6):l.length<=A1I l:=by
 induction l with
 | nil=>simp[A1I]
 | cons s r ih=>have:=B4o s; simp only[A1I,yd]; omega
theorem A8W{l:List H6}{s:H6}(h:s∈l):s.sz<=A1I l:=by
 induction l with
 | nil=>cases h
 | cons x r ih =>
  simp only[A1I];rcases zh.1 h with rfl|h
  ·omega
  ·have:=ih h; omega
def C4B(e:Int)(b:Bool):Int:=if e≠0 then e else if b=true then 6 else 0
end Go.Am
