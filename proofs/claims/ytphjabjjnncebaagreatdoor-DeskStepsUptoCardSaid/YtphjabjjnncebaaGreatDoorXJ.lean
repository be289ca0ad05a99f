/- Parts of the proof: an abstract machine for Go functions, and what functions of the program give back (St2, St3, St4, CcV, Vl1, Vl2, Vl3, Vl4, Vl5, Vl6, St0, St5, Ow1, Ow2). No condition. -/
import Derived.Test.YtphjabjjnncebaaGreatDoorXI
import Derived.Test.YtphjabjjnncebaaGreatDoorXG
import Derived.Test.YtphjabjjnncebaaGreatDoorXH
import Derived.Test.YtphjabjjnncebaaGreatDoorXF
set_option maxRecDepth 100000
set_option linter.all false
set_option maxHeartbeats 2000000
namespace Go.Am
open Go Go.Proofs Go.RowKit Go.Proofs.Tryz
def B0S(s:H6)(kind tid:Int)(id:Nat)(hl8:s.things.length<1000000):A2 prog 71 [H4 s,.int .i64 kind,.int .i64 tid] [] id (.tup [.int .i64 (C3 s.things kind tid),.bool (F2 s.things kind tid)]) []:=by
 unfold H4;refine w71.e.1 λE hP hR hl hid=>?_;simp[w71];(refine yH rfl (B1i s.things kind tid _ hl8) ?_; simp);exact yP hR
def A4v:List Int->Bool
 | a::b::r=>decide (a<b)&&A4v (b::r)
 | _=>true
def B8Y{l:List Int}{i:Nat}{a b:Int}(h1:l[i]?=some a)(h2:l[i+1]?=some b):A4v (l.drop i)=(decide (a<b)&&A4v (l.drop (i+1))):=by
 have e1:l.drop i=a::l.drop (i+1):=by
  have hi:=(ze.1 h1).1;obtain⟨x,hx,hd⟩:=A5 hi;rw[h1] at hx; injection hx with hx; subst hx; exact hd
 have e2:l.drop (i+1)=b::l.drop (i+2):=by
  have hi:=(ze.1 h2).1;obtain⟨x,hx,hd⟩:=A5 hi;rw[h2] at hx; injection hx with hx; subst hx; exact hd
 rw[e1,e2]; rfl
def C0x{l:List Int}{i:Nat}(h:l.length<=i+1):A4v (l.drop i)=true:=by
 have:(l.drop i).length<=1:=by simp; omega
 match hm:l.drop i,this with
 | [],_=>rfl
 | [a],_=>rfl
def A5V(k:Int):Int:=if k=3 then 1 else 6
def A2Q(f:Fd)(c:Cl):Int :=
 if (f.kind≠1/\c.n≠0)\/(f.kind≠2/\c.text≠[])\/(j0 f.kind=false/\c.ids≠[]) then 1
 else if ¬(-999999999<=c.n/\c.n<=999999999) then 3
 else if 40<c.text.length\/A5V f.kind<c.ids.length then 2
 else if A4v c.ids=true then 0 else 4
def C49(f:Fd)(c:Cl)(id:Nat):A2 prog 130 [U8 f,eCl c] [] id (.int .i64 (A2Q f c)) []:=by
 unfold U8 eCl;refine w130.e.1 λE hP hR hl hid=>?_;simp[w130];refine D0 (λh3=>?_) (λh3=>?_)<;>simp;all_goals repeat' first
  | (refine And.intro ?_ ?_)
  | (refine D0 (λh=>?_) (λh=>?_)<;>simp)
  | (refine yH rfl (A8h _ _) ?_; simp)
  | (refine yH rfl (Q8 _ _) ?_; simp)
 all_goals first
  | (rw[hR]; refine F5 f_ [] trivial (S9 ?_ s_ s_); simp[A2Q,j0,A5V] at *; first|done|grind)
  | (exfalso; simp_all; done)
  | skip
 all_goals
  have h6:c.ids.length<=6:=by simp at *; omega
  have hf:A2Q f c=if A4v c.ids=true then 0 else 4:=by
   simp[j0] at *;unfold A2Q;rw[zf (by simp[j0]; grind),zf o_,zf (by simp[A5V]; grind)]
  rw[hf] at hR;refine B9 (X:=Nat) (λi=>⟨[(3,true,.ptr (E.n0+1024) 0 0),(6,true,.int .i64 (i+1))],[(E.n0+1024,some ⟨[.agg [.int .i64 c.n,.str c.text,.sl (c.ids.map eI)]],.agg [.int .i64 c.n,.str c.text,.sl (c.ids.map eI)],false,false⟩)],1025⟩) (λi=>i<=c.ids.length/\A4v (c.ids.drop i)=A4v c.ids) (λi=>c.ids.length - i) 0 ?_ ⟨o_,rfl⟩ ?_
  ·exact yW [(E.n0+1024,E.n0+1024)] trivial
  ·rintro i ⟨hi,ha⟩ p hp;have hw1:IntKind.i64.wrap (i:Int)=(i:Int):=wrap64 o_;have hw2:IntKind.i64.wrap ((i:Int)+1+1)=((i+1:Nat):Int)+1:=(by rw[wrap64 o_]; omega);have hw3:(0:Int)<=(i:Int)+1:=o_;have hw4:((i:Int)+1).toNat=i+1:=o_;refine A3 4000 ?_;simp;refine D0 (λh=>?_) (λh=>?_)
   ·have h:=zq h;obtain⟨a,hx⟩:∃a,c.ids[i]?=some a:=⟨_,zc o_⟩;obtain⟨b,hy⟩:∃b,c.ids[i+1]?=some b:=⟨_,zc o_⟩;have hst:=B8Y hx hy;simp[hw1,hw3,hw4,hx,hy,eI];refine⟨o_,o_,?_⟩;refine D0 (λh1=>?_) (λh1=>?_)<;>simp
    ·exact yP hR (h1:=by simp; simp at h1; rw[←ha,hst]; simp; intro h2; omega)
    ·simp at h1;rw[hst] at ha;refine hp _ (i+1) ⟨o_,by rw[←ha]; simp; intro _; exact h1⟩ o_ ?_;refine yV [(E.n0+1024,E.n0+1024)] s_ λhrn=>⟨?_,?_,?_,?_,?_⟩<;>(try simp[hw2])
   ·have h:=zo h;have:A4v c.ids=true:=by rw[←ha]; exact C0x o_
    simp;exact yP hR (h1:=by simp; exact this)
def D5(l:List Ty)(k:Int):List Fd:=((l[k.toNat]?).map Ty.fields).getD []
def A0E(fs:List Fd)(k:Nat)(c:Cl):Int:=match fs[k]? with
 | some f=>A2Q f c
 | none=>0
def j6(l:List Ty)(t:Tg):Int :=
 if ¬(0<=t.type/\t.type<l.length) then 5 else if ¬(1<=t.id/\t.id<=999) then 3
 else if t.cells.length≠(D5 l t.type).length then 1 else D2 (λk c=>A0E (D5 l t.type) k c) t.cells 0
def C0y(s:H6)(t:Tg)(id:Nat)(h5:s.types.length<=5)(h6:t.cells.length<=1000000\/∀x∈s.types,x.fields.length<=6):A2 prog 66 [H4 s,Q9 t] [] id (.int .i64 (j6 s.types t)) []:=by
 rw[A3f t];unfold H4;have hw:IntKind.i64.wrap ((s.types.length:Int) - 1)=(s.types.length:Int) - 1:=wrap64 o_;refine w66.e.1 λE hP hR hl hid=>?_;simp[w66,hw];(refine yH rfl (H1 _ _ _ _) ?_; simp);refine D0 (λh=>?_) (λh=>?_)<;>simp
 ·exact yP hR (h1:=by simp; simp at h; unfold j6; rw[zj o_])
 have h1:¬¬(0<=t.type/\t.type<s.types.length):=by simp at h; omega
 (refine yH rfl (H1 _ _ _ _) ?_; simp);refine D0 (λh=>?_) (λh=>?_)<;>simp
 ·exact yP hR (h1:=by simp; simp at h; unfold j6; rw[zf h1,zj o_])
 have h2:¬¬(1<=t.id/\t.id<=999):=by simp at h; omega
 obtain⟨ty,hty⟩:∃ty,s.types[t.type.toNat]?=some ty:=⟨_,zc o_⟩;have hfl:D5 s.types t.type=ty.fields:=by simp[D5,hty]
 have hr1:0<=t.type:=by omega
 have hr2:t.type.toNat<s.types.length:=by omega
 simp[hty,I9];refine⟨⟨hr1,hr2⟩,?_⟩;refine D0 (λh=>?_) (λh=>?_)<;>simp
 ·exact yP hR (h1:=by simp; simp at h; unfold j6; rw[zf h1,zf h2,hfl,zj o_])
 have h3:t.cells.length=ty.fields.length:=by simp at h; omega
 have hft:j6 s.types t=D2 (λk c=>A0E ty.fields k c) t.cells 0:=by unfold j6; rw[zf h1,zf h2,hfl,zf o_]
 rw[hft] at hR;have h7:t.cells.length<=1000000:=by
  rcases h6 with h6|h6
  ·exact h6
  ·have:=h6 ty (zg hty); omega
 refine B9 (X:=Nat) (λk=>⟨[(2,true,.ptr E.n0 0 0),(3,true,.ptr (E.n0+1024) 0 0),(36,true,.sl (t.cells.map eCl)),(37,true,.int .i64 t.cells.length),(38,true,.int .i64 k)],[(E.n0,some ⟨[.agg [.sl (s.types.map I9),.sl (s.things.map Q9)]],.agg [.sl (s.types.map I9),.sl (s.things.map Q9)],false,false⟩),(E.n0+1024,some ⟨[.agg [.int .i64 t.type,.int .i64 t.id,.sl (t.cells.map eCl)]],.agg [.int .i64 t.type,.int .i64 t.id,.sl (t.cells.map eCl)],false,false⟩)],1025⟩) (λk=>k<=t.cells.length/\D2 (λk c=>A0E ty.fields k c) (t.cells.drop k) k=D2 (λk c=>A0E ty.fields k c) t.cells 0) (λk=>t.cells.length - k) 0 ?_ ⟨o_,rfl⟩ ?_
 ·exact yW [(E.n0,E.n0),(E.n0+1024,E.n0+1024)] trivial
 ·rintro k ⟨hk,hf⟩ p hp;refine A3 4000 ?_;simp;refine D0 (λh=>?_) (λh=>?_)
  ·have h:=zq h;obtain⟨x,hx,hd⟩:=A5 h;obtain⟨f,hfx⟩:∃f,ty.fields[k]?=some f:=⟨_,zc o_⟩;rw[hd] at hf;simp only[D2] at hf;have hca:A0E ty.fields k x=A2Q f x:=(by simp only[A0E,hfx]);rw[hca] at hf;have hi1:IntKind.i64.wrap ((k:Int)+1)=((k+1:Nat):Int):=wrap64 o_;simp[hx,B1h x,hty,I9,hfx,U8];have hcx:=λid=>C49 f x id;simp only[U8,B1h x] at hcx;refine⟨h,⟨hr1,hr2⟩,o_,?_⟩;(refine yH rfl (hcx _) ?_; simp);refine D0 (λh1=>?_) (λh1=>?_)
   ·simp;rw[zj (v_ h1)] at hf;exact yP hR (h1:=by simp; exact hf)
   ·simp;rw[zf (v_ h1)] at hf;refine hp _ (k+1) ⟨h,hf⟩ o_ ?_;refine yV [(E.n0,E.n0),(E.n0+1024,E.n0+1024)] s_ λhrn=>⟨?_,?_,?_,?_,?_⟩<;>(try simp[hi1])
  ·have h:=zo h;simp;rw[zp o_] at hf;exact yP hR (h1:=by simp; exact hf)
def B0T(s:H6):(H4 s).pureB=true:=by simp[H4]
@[simp] theorem C0z (R:Rn) (S:Nat->Prop) (f:Fd):O3 R S (U8 f) (U8 f):=K0 rfl (B3h f)
@[simp] theorem C96 (R:Rn) (S:Nat->Prop) (s:H6):O3 R S (H4 s) (H4 s):=K0 rfl (B0T s)
@[simp] theorem C9I (R:Rn) (S:Nat->Prop) (t:Tg):O3 R S (Q9 t) (Q9 t):=K0 rfl (A8g t)
def B8(l:List Ty)(n:List UInt8):Int:=E0 (λt=>t.name==n) l 0
def M0(s:H6)(f:Fd)(x:Int):Bool:=F2 s.things (B8 s.types f.of) x
theorem A4K(l:List Ty)(n:List UInt8):E0 (λt=>t.name==n) l 0=B8 l n:=rfl
def B5W(x:Int)(s:H6)(f:Fd)(js jf:Nat)(id:Nat)(h5:s.types.length<=5)(h12:s.things.length<=12)(d1:js≠jf):A2 prog 70 [.int .i64 x,.ptr js 0 0,.ptr jf 0 0] [(js,⟨[H4 s],H4 s,false,false⟩),(jf,⟨[U8 f],U8 f,false,false⟩)] id (.bool (!M0 s f x)) []:=by
 have hF:=B0S s (B8 s.types f.of) x;unfold H4 U8 at *;refine w70.e.1 λE hP hR hl hid=>?_;simp[w70];have hjs:=hl (js,_) (za ..);simp only at hjs;have js1:=lf hjs;have hjf:=hl (jf,_) (zb _ (za ..));simp only at hjf;have jf1:=lf hjf;try simp[d1.symm]
 (refine yC rfl (o8 s.types f.of _ o_) ?_; simp[A4K]);(refine yC rfl (hF _ o_) ?_; simp);refine yE hR [] s_ λhrn=>⟨?_,?_,?_,?_,?_,?_⟩<;>(try simp[js1,jf1,d1,d1.symm,M0])
def B3n(l:List Int)(s:H6)(f:Fd)(js jf:Nat)(id:Nat)(h5:s.types.length<=5)(h12:s.things.length<=12)(d1:js≠jf)(hl8:l.length<9223372036854775807):A2 prog 131 [.sl (l.map eI),.fn 70 [.ptr js 0 0,.ptr jf 0 0]] [(js,⟨[H4 s],H4 s,false,false⟩),(jf,⟨[U8 f],U8 f,false,false⟩)] id (.int .i64 (E0 (λx=>!M0 s f x) l 0)) []:=by
 refine w131.e.1 λE hP hR hl hid=>?_;simp[w131];have hjs:=hl (js,_) (za ..);simp only at hjs;have js1:=lf hjs;have hjf:=hl (jf,_) (zb _ (za ..));simp only at hjf;have jf1:=lf hjf;refine B9 (X:=Nat) (λi=>⟨[(0,true,.sl (l.map eI)),(1,true,.fn 70 [.ptr js 0 0,.ptr jf 0 0]),(7,true,.int .i64 l.length),(8,true,.int .i64 i)],[(js,some (⟨[H4 s],H4 s,false,false⟩)),(jf,some (⟨[U8 f],U8 f,false,false⟩))],0⟩) (λi=>i<=l.length/\E0 (λx=>!M0 s f x) (l.drop i) i=E0 (λx=>!M0 s f x) l 0) (λi=>l.length - i) 0 ?_ ⟨o_,rfl⟩ ?_
 ·refine yV [] s_ λhrn=>⟨?_,?_,?_,?_,?_⟩<;>(try simp[js1,jf1,d1,d1.symm])
 ·rintro i ⟨hi,hf⟩ p hp;refine A3 4000 ?_;simp;refine D0 (λh=>?_) (λh=>?_)
  ·have h:=zq h;obtain⟨x,hx,hd⟩:=A5 h;have hcl:=B5W x s f js jf;rw[hd] at hf;simp only[E0] at hf;have hi1:IntKind.i64.wrap ((i:Int)+1)=((i+1:Nat):Int):=wrap64 o_;simp[hx,eI];refine⟨h,?_⟩;refine E8 hP rfl rfl (hcl _ h5 h12 d1) s_ (by simp[d1.symm]<;>rfl) ?_;refine A3 4000 ?_;simp;refine D0 (λh1=>?_) (λh1=>?_)
   ·simp;rw[zj h1] at hf;rw[←hf] at hR;refine yE hR [] s_ λhrn=>⟨?_,?_,?_,?_,?_,?_⟩<;>(try simp[js1,jf1,d1,d1.symm])
   ·simp;rw[zf (v_ h1)] at hf;refine hp _ (i+1) ⟨h,hf⟩ o_ ?_;refine yV [] s_ λhrn=>⟨?_,?_,?_,?_,?_⟩<;>(try simp[hi1,js1,jf1,d1,d1.symm])
  ·have h:=zo h;simp;rw[zp o_] at hf;rw[←hf] at hR;refine yE hR [] s_ λhrn=>⟨?_,?_,?_,?_,?_,?_⟩<;>(try simp[js1,jf1,d1,d1.symm,E0])
def B5X(l:List Int)(s:H6)(f:Fd)(js jf:Nat)(id:Nat)(h5:s.types.length<=5)(h12:s.things.length<=12)(d1:js≠jf)(hl8:l.length<9223372036854775807):A2 prog 69 [.sl (l.map eI),.fn 70 [.ptr js 0 0,.ptr jf 0 0]] [(js,⟨[H4 s],H4 s,false,false⟩),(jf,⟨[U8 f],U8 f,false,false⟩)] id (.bool (l.any λx=>!M0 s f x)) []:=by
 refine w69.e.1 λE hP hR hl hid=>?_;simp[w69];have hjs:=hl (js,_) (za ..);simp only at hjs;have js1:=lf hjs;have hjf:=hl (jf,_) (zb _ (za ..));simp only at hjf;have jf1:=lf hjf;try simp[js1,jf1,d1,d1.symm]
 (refine yC rfl (B3n l s f js jf _ h5 h12 d1 hl8) ?_; simp[d1.symm]);have hj:=V4 (λx=>!M0 s f x) l 0;simp[hj];refine yE hR [] s_ λhrn=>⟨?_,?_,?_,?_,?_,?_⟩<;>(try simp[js1,jf1,d1,d1.symm])
def B8Z(f:Fd)(c:Cl)(s:H6)(js:Nat)(id:Nat)(h5:s.types.length<=5)(h12:s.things.length<=12)(hl8:c.ids.length<9223372036854775807):A2 prog 68 [U8 f,.cptr [.int .i64 c.n,.str c.text,.sl (c.ids.map eI)],.ptr js 0 0] [(js,⟨[H4 s],H4 s,false,false⟩)] id (.bool (!c.ids.any λx=>!M0 s f x)) []:=by
 refine w68.e.1 λE hP hR hl hid=>?_;simp[w68];have hjs:=hl (js,_) (za ..);simp only at hjs;have js1:=lf hjs;try simp[js1]
 have hne:js≠E.n0:=by omega
 (refine yC rfl (B5X c.ids s f js E.n0 _ h5 h12 hne hl8) ?_; simp[js1]);refine yE hR [] s_ λhrn=>⟨?_,?_,?_,?_,?_,?_⟩<;>(try simp[js1])
def A1W(p:Fd->Cl->Bool):List Fd->List Cl->Bool
 | f::fs,c::cs=>p f c&&A1W p fs cs
 | _,_=>true
def T8(p:Fd->Cl->Bool)(l:List Ty)(ts:List Tg):Bool:=ts.all λt=>A1W p (D5 l t.type) t.cells
def B6s(s:H6)(g j:Nat)(y:AV)(p:Fd->Cl->Bool)(hy:y.pureB=true)
  (hcl:∀f c id,c.ids.length<=6->A2 prog g [U8 f,.cptr [.int .i64 c.n,.str c.text,.sl (c.ids.map eI)],.ptr j 0 0] [(j,⟨[y],y,false,false⟩)] id (.bool (p f c)) [])
  (hok:∀t∈s.things,0<=t.type/\t.type.toNat<s.types.length/\t.cells.length=(D5 s.types t.type).length/\t.cells.length<=1000000/\∀c∈t.cells,c.ids.length<=6) (h12:s.things.length<=1000000) (id:Nat) :
  A2 prog 73 [H4 s,.fn g [.ptr j 0 0]] [(j,⟨[y],y,false,false⟩)] id (.bool (T8 p s.types s.things)) []:=by
 have hr:∀R S,O3 R S y y:=λR S=>K0 rfl hy;have hn:∀S,B2 S y:=λS=>H7 _ hy;unfold H4;refine w73.e.1 λE hP hR hl hid=>?_;simp[w73];have hj:=hl (j,_) (za ..);simp only at hj;have j1:=lf hj;refine B9 (X:=Nat) (λi=>⟨[(1,true,.fn g [.ptr j 0 0]),(2,true,.ptr E.n0 0 0),(9,true,.sl (s.things.map Q9)),(10,true,.int .i64 s.things.length),(11,true,.int .i64 i)],[(j,some ⟨[y],y,false,false⟩),(E.n0,some ⟨[.agg [.sl (s.types.map I9),.sl (s.things.map Q9)]],.agg [.sl (s.types.map I9),.sl (s.things.map Q9)],false,false⟩)],1⟩) (λi=>i<=s.things.length/\T8 p s.types (s.things.drop i)=T8 p s.types s.things) (λi=>s.things.length - i) 0 ?_ ⟨o_,rfl⟩ ?_
 ·refine yV [(E.n0,E.n0)] s_ λhrn=>⟨?_,?_,?_,?_,?_⟩<;>(try simp[j1,hr])
 ·rintro i ⟨hi,hf⟩ q hq;refine A3 4000 ?_;simp;refine D0 (λh=>?_) (λh=>?_)
  ·have h:=zq h;obtain⟨t,hx,hd⟩:=A5 h;have hi1:IntKind.i64.wrap ((i:Int)+1)=((i+1:Nat):Int):=wrap64 o_;obtain⟨k1,k2,k3,k4,k5⟩:=hok t (zg hx);obtain⟨ty,hty⟩:∃ty,s.types[t.type.toNat]?=some ty:=⟨_,zc k2⟩;have hfl:D5 s.types t.type=ty.fields:=(by simp[D5,hty]);rw[hd,T8,List.all_cons,hfl] at hf;rw[hfl] at k3;simp[hx,A3f t];refine⟨h,?_⟩;refine B9 (X:=Nat) (λk=>⟨[(1,true,.fn g [.ptr j 0 0]),(2,true,.ptr E.n0 0 0),(6,true,.ptr (E.n0+1) 0 0),(9,true,.sl (s.things.map Q9)),(10,true,.int .i64 s.things.length),(11,true,.int .i64 i),(16,true,.sl (t.cells.map eCl)),(17,true,.int .i64 t.cells.length),(18,true,.int .i64 k)],[(j,some ⟨[y],y,false,false⟩),(E.n0,some ⟨[.agg [.sl (s.types.map I9),.sl (s.things.map Q9)]],.agg [.sl (s.types.map I9),.sl (s.things.map Q9)],false,false⟩),(E.n0+1,some ⟨[.agg [.int .i64 t.type,.int .i64 t.id,.sl (t.cells.map eCl)]],.agg [.int .i64 0,.int .i64 0,.nils],false,false⟩)],2⟩) (λk=>k<=t.cells.length/\A1W p (ty.fields.drop k) (t.cells.drop k)=A1W p ty.fields t.cells) (λk=>t.cells.length - k) 0 ?_ ⟨o_,rfl⟩ ?_
   ·refine yV [(E.n0,E.n0),(E.n0+1,E.n0+3073)] s_ λhrn=>⟨?_,?_,?_,?_,?_⟩<;>(try simp[j1,hr])
   ·rintro k ⟨hk,hf2⟩ q2 hq2;refine A3 4000 ?_;simp;refine D0 (λh=>?_) (λh=>?_)
    ·have h:=zq h;obtain⟨c,hcx,hcd⟩:=A5 h;obtain⟨f,hfx,hfd⟩:=A5 (l:=ty.fields) (i:=k) o_;have hi2:IntKind.i64.wrap ((k:Int)+1)=((k+1:Nat):Int):=wrap64 o_;rw[hcd,hfd,A1W] at hf2;have hfc:=λid=>hcl f c id (k5 c (zg hcx));simp only[U8] at hfc;simp[hcx,hfx,B1h c,hty,I9,U8,j1];refine⟨⟨k1,k2⟩,o_,h,?_⟩;refine E8 hP rfl rfl (hfc _) s_ f_ ?_;refine A3 4000 ?_;simp;refine D0 (λh1=>?_) (λh1=>?_)
     ·have h1:p f c=false:=(v_ h1);rw[h1,tc] at hf2;rw[←hf2,tc] at hf;rw[←hf] at hR;simp;refine yE hR [] s_ λhrn=>⟨?_,?_,?_,?_,?_,?_⟩<;>(try simp[j1,hr])
     ·have h1:p f c=true:=(v_ h1);rw[h1,ue] at hf2;simp;refine hq2 _ (k+1) ⟨h,hf2⟩ o_ ?_;refine yV [(E.n0,E.n0),(E.n0+1,E.n0+1)] s_ λhrn=>⟨?_,?_,?_,?_,?_⟩<;>(try simp[hi2,j1,hr])
    ·have h:=zo h;rw[zp (l:=t.cells) o_] at hf2;have hb:A1W p ty.fields t.cells=true:=(by rw[←hf2]; cases ty.fields.drop k<;>rfl);rw[hb,ue] at hf;simp;refine hq _ (i+1) ⟨o_,hf⟩ o_ ?_;refine yV [(E.n0,E.n0)] s_ λhrn=>⟨?_,?_,?_,?_,?_⟩<;>(try simp[hi1,j1,hr])
  ·have h:=zo h;simp;rw[zp o_] at hf;have:T8 p s.types s.things=true:=by rw[←hf]; rfl
   rw[this] at hR;refine yE hR [] s_ λhrn=>⟨?_,?_,?_,?_,?_,?_⟩<;>(try simp[j1,hr])
end Go.Am
namespace Go.Am
end Go.Am
namespace Go.Am
open Go Go.Proofs Go.RowKit Go.Proofs.Tryz
structure Ag where
 name:List UInt8
 isText:Bool
 text:List UInt8
 n:Int
def s6(a:Ag):AV:=.agg [.str a.name,.bool a.isText,.str a.text,.int .i64 a.n]
theorem U3(a:Ag):s6 a = .agg [.str a.name,.bool a.isText,.str a.text,.int .i64 a.n]:=rfl
theorem C10(f:Ag):(s6 f).pureB=true:=rfl
@[simp] theorem A3h (l:List Ag):F8 (l.map s6)=true:=E9 C10 l
@[simp] theorem C7e (S:Nat->Prop) (l:List Ag):F4 S (l.map s6):=A4 _ (A3h l)
@[simp] theorem C97 (R:Rn) (S:Nat->Prop) (l:List Ag):N8 R S (l.map s6) (l.map s6):=B4 rfl (A3h l)
inductive C5 where
 | mk (alias name:List UInt8) (args:List Ag) (kids:List C5)
def C5.alias:C5->List UInt8 | .mk a _ _ _=>a
def C5.name:C5->List UInt8 | .mk _ n _ _=>n
def C5.args:C5->List Ag | .mk _ _ x _=>x
def C5.kids:C5->List C5 | .mk _ _ _ k=>k
mutual
def C6:C5->AV
 | .mk a n x k=>.agg [.str a,.str n,.sl (x.map s6),.sl (A8i k)]
def A8i:List C5->List AV
 | []=>[]
 | s::r=>C6 s::A8i r
end
def A6V(l:List C5):A8i l=l.map C6:=by
 induction l with
 | nil=>rfl
 | cons s r ih=>simp[A8i,ih]
def H0(s:C5):C6 s = .agg [.str s.alias,.str s.name,.sl (s.args.map s6),.sl (s.kids.map C6)]:=by
 cases s with
 | mk a n x k=>simp[C6,A6V,C5.alias,C5.name,C5.args,C5.kids]
mutual
def A6W:∀s:C5,(C6 s).pureB=true
 | .mk a n x k=>by simp[C6,A8j k]
def A8j:∀l:List C5,F8 (A8i l)=true
 | []=>rfl
 | s::r=>by simp[A8i,A6W s,A8j r]
end
@[simp] theorem C9J (R:Rn) (S:Nat->Prop) (a:Ag):O3 R S (s6 a) (s6 a):=K0 rfl rfl
@[simp] theorem C98 (R:Rn) (S:Nat->Prop) (s:C5):O3 R S (C6 s) (C6 s):=K0 rfl (A6W s)
@[simp] theorem A4L (l:List C5):F8 (l.map C6)=true:=E9 A6W l
@[simp] theorem C6Y (S:Nat->Prop) (l:List C5):F4 S (l.map C6):=A4 _ (A4L l)
mutual
def C5.sz:C5->Nat
 | .mk _ _ x k=>1+x.length+p7 k
def p7:List C5->Nat
 | []=>0
 | s::r=>s.sz+p7 r
end
def A2R(s:C5):s.sz=1+s.args.length+p7 s.kids:=by cases s; rfl
def o9(l:List C5):l.length<=p7 l:=by
 induction l with
 | nil=>simp[p7]
 | cons s r ih=>have:=A2R s; simp[p7]; omega
def x4{l:List C5}{s:C5}(h:s∈l):s.sz<=p7 l:=by
 induction l with
 | nil=>cases h
 | cons x r ih =>
  simp only[p7];rcases zi.1 h with rfl|h
  ·omega
  ·have:=ih h; omega
def A8k{l:List C5}{s:C5}(h:s∈l):p7 s.kids<p7 l:=by
 have:=x4 h; have:=A2R s; omega
def C8(s:C5):List UInt8:=if s.alias≠[] then s.alias else s.name
def A8l(a:Ag):Int :=
 if (a.isText=true/\a.n≠0)\/(a.isText=false/\a.text≠[]) then 1 else if 40<a.text.length then 2 else if ¬(-999999999<=a.n/\a.n<=999999999) then 3 else 0
def A2x(l:List Ag)(n:List UInt8):Bool:=l.any λx=>x.name==n
def A3F(a:Ag)(ahead:List Ag):Int :=
 if H8 a.name≠0 then H8 a.name else if A2x ahead a.name=true then 6 else A8l a
def Z8(l:List Ag):Int:=if 5<l.length then 2 else D2 (λk a=>A3F a (l.take k)) l 0
def A4M(s:C5)(id:Nat):A2 prog 170 [C6 s] [] id (.str (C8 s)) []:=by
 rw[H0];refine w170.e.1 λE hP hR hl hid=>?_;simp[w170];refine D0 (λh=>?_) (λh=>?_)<;>simp
 ·exact yP hR (h1:=by simp; simp at h; unfold C8; rw[zj h])
 ·have h:¬s.alias≠[]:=by simpa using h
  exact yP hR (h1:=by simp; unfold C8; rw[zf h])
def B3o(a:Ag)(id:Nat):A2 prog 236 [s6 a] [] id (.int .i64 (A8l a)) []:=by
 unfold s6;refine w236.e.1 λE hP hR hl hid=>?_;simp[w236];repeat' first
  | (refine And.intro ?_ ?_)
  | (refine D0 (λh=>?_) (λh=>?_)<;>simp)
  | (refine yH rfl (Q8 _ _) ?_; simp)
 all_goals first
  | (rw[hR]; refine F5 f_ [] trivial (S9 ?_ s_ s_); simp; done)
  | (rw[hR]; refine F5 f_ [] trivial (S9 ?_ s_ s_); (try simp); simp[A8l] at *; grind; done)
  | omega
  | (simp_all; done)
  | grind
def C11(x:Ag)(j:Nat)(a:Ag)(id:Nat):A2 prog 235 [s6 x,.ptr j 0 0] [(j,⟨[s6 a],.agg [.str [],.bool false,.str [],.int .i64 0],false,false⟩)] id (.bool (x.name==a.name)) []:=by
 unfold s6;refine w235.e.1 λE hP hR hl hid=>?_;simp[w235];have hj:=hl (j,_) (za ..);simp only at hj;have j1:=lf hj;simp[j1];refine yE hR [] s_ λhrn=>⟨?_,?_,?_,?_,?_,?_⟩<;>(try simp[j1])
def B5Y(l:List Ag)(j:Nat)(a:Ag)(id:Nat)(hl8:l.length<9223372036854775807):A2 prog 271 [.sl (l.map s6),.fn 235 [.ptr j 0 0]] [(j,⟨[s6 a],.agg [.str [],.bool false,.str [],.int .i64 0],false,false⟩)] id (.int .i64 (E0 (λx=>x.name==a.name) l 0)) []:=by
 refine w271.e.1 λE hP hR hl hid=>?_;simp[w271];have hj:=hl (j,_) (za ..);simp only at hj;have j1:=lf hj;refine B9 (X:=Nat) (λi=>⟨[(0,true,.sl (l.map s6)),(1,true,.fn 235 [.ptr j 0 0]),(7,true,.int .i64 l.length),(8,true,.int .i64 i)],[(j,some (⟨[s6 a],.agg [.str [],.bool false,.str [],.int .i64 0],false,false⟩))],0⟩) (λi=>i<=l.length/\E0 (λx=>x.name==a.name) (l.drop i) i=E0 (λx=>x.name==a.name) l 0) (λi=>l.length - i) 0 ?_ ⟨o_,rfl⟩ ?_
 ·refine yV [] s_ λhrn=>⟨?_,?_,?_,?_,?_⟩<;>(try simp[j1])
 ·rintro i ⟨hi,hf⟩ p hp;refine A3 4000 ?_;simp;refine D0 (λh=>?_) (λh=>?_)
  ·have h:=zq h;obtain⟨x,hx,hd⟩:=A5 h;have hcl:=C11 x j a;simp only[U3 x] at hcl;rw[hd] at hf;simp only[E0] at hf;have hi1:IntKind.i64.wrap ((i:Int)+1)=((i+1:Nat):Int):=wrap64 o_;simp[hx,U3 x];refine⟨h,?_⟩;refine E8 hP rfl rfl (hcl _) s_ f_ ?_;refine A3 4000 ?_;simp;refine D0 (λh1=>?_) (λh1=>?_)
   ·simp;rw[zj h1] at hf;rw[←hf] at hR;refine yE hR [] s_ λhrn=>⟨?_,?_,?_,?_,?_,?_⟩<;>(try simp[j1])
   ·simp;rw[zf (v_ h1)] at hf;refine hp _ (i+1) ⟨h,hf⟩ o_ ?_;refine yV [] s_ λhrn=>⟨?_,?_,?_,?_,?_⟩<;>(try simp[hi1,j1])
  ·have h:=zo h;simp;rw[zp o_] at hf;rw[←hf] at hR;refine yE hR [] s_ λhrn=>⟨?_,?_,?_,?_,?_,?_⟩<;>(try simp[j1,E0])
def A9i(l:List Ag)(j:Nat)(a:Ag)(id:Nat)(hl8:l.length<9223372036854775807):A2 prog 234 [.sl (l.map s6),.fn 235 [.ptr j 0 0]] [(j,⟨[s6 a],.agg [.str [],.bool false,.str [],.int .i64 0],false,false⟩)] id (.bool (A2x l a.name)) []:=by
 refine w234.e.1 λE hP hR hl hid=>?_;simp[w234];have hj:=hl (j,_) (za ..);simp only at hj;have j1:=lf hj;(refine yC rfl (B5Y l j a _ hl8) ?_; simp);refine yE hR [] s_ λhrn=>⟨?_,?_,?_,?_,?_,?_⟩<;>(try simp[j1]);exact V4 _ l 0
def B8a(x:C5)(j:Nat)(s:C5)(id:Nat):A2 prog 169 [C6 x,.ptr j 0 0] [(j,⟨[C6 s],.agg [.str [],.str [],.nils,.nils],false,false⟩)] id (.bool (C8 x==C8 s)) []:=by
 have h1:=A4M x;have h2:=A4M s;rw[H0] at h1 h2;rw[H0 x,H0 s];refine w169.e.1 λE hP hR hl hid=>?_;simp[w169];have hj:=hl (j,_) (za ..);simp only at hj;have j1:=lf hj;(refine yC rfl (h1 _) ?_; simp[j1]);(refine yC rfl (h2 _) ?_; simp);refine yE hR [] s_ λhrn=>⟨?_,?_,?_,?_,?_,?_⟩<;>(try simp[j1])
def B3p(l:List C5)(j:Nat)(s:C5)(id:Nat)(hl8:l.length<9223372036854775807):A2 prog 237 [.sl (l.map C6),.fn 169 [.ptr j 0 0]] [(j,⟨[C6 s],.agg [.str [],.str [],.nils,.nils],false,false⟩)] id (.int .i64 (E0 (λx=>C8 x==C8 s) l 0)) []:=by
 refine w237.e.1 λE hP hR hl hid=>?_;simp[w237];have hj:=hl (j,_) (za ..);simp only at hj;have j1:=lf hj;refine B9 (X:=Nat) (λi=>⟨[(0,true,.sl (l.map C6)),(1,true,.fn 169 [.ptr j 0 0]),(7,true,.int .i64 l.length),(8,true,.int .i64 i)],[(j,some (⟨[C6 s],.agg [.str [],.str [],.nils,.nils],false,false⟩))],0⟩) (λi=>i<=l.length/\E0 (λx=>C8 x==C8 s) (l.drop i) i=E0 (λx=>C8 x==C8 s) l 0) (λi=>l.length - i) 0 ?_ ⟨o_,rfl⟩ ?_
 ·refine yV [] s_ λhrn=>⟨?_,?_,?_,?_,?_⟩<;>(try simp[j1])
 ·rintro i ⟨hi,hf⟩ p hp;refine A3 4000 ?_;simp;refine D0 (λh=>?_) (λh=>?_)
  ·have h:=zq h;obtain⟨x,hx,hd⟩:=A5 h;have hcl:=B8a x j s;simp only[H0 x] at hcl;rw[hd] at hf;simp only[E0] at hf;have hi1:IntKind.i64.wrap ((i:Int)+1)=((i+1:Nat):Int):=wrap64 o_;simp[hx,H0 x];refine⟨h,?_⟩;refine E8 hP rfl rfl (hcl _) s_ f_ ?_;refine A3 4000 ?_;simp;refine D0 (λh1=>?_) (λh1=>?_)
   ·simp;rw[zj h1] at hf;rw[←hf] at hR;refine yE hR [] s_ λhrn=>⟨?_,?_,?_,?_,?_,?_⟩<;>(try simp[j1])
   ·simp;rw[zf (v_ h1)] at hf;refine hp _ (i+1) ⟨h,hf⟩ o_ ?_;refine yV [] s_ λhrn=>⟨?_,?_,?_,?_,?_⟩<;>(try simp[hi1,j1])
  ·have h:=zo h;simp;rw[zp o_] at hf;rw[←hf] at hR;refine yE hR [] s_ λhrn=>⟨?_,?_,?_,?_,?_,?_⟩<;>(try simp[j1,E0])
def A8m(l:List C5)(j:Nat)(s:C5)(id:Nat)(hl8:l.length<9223372036854775807):A2 prog 168 [.sl (l.map C6),.fn 169 [.ptr j 0 0]] [(j,⟨[C6 s],.agg [.str [],.str [],.nils,.nils],false,false⟩)] id (.bool (l.any λx=>C8 x==C8 s)) []:=by
 refine w168.e.1 λE hP hR hl hid=>?_;simp[w168];have hj:=hl (j,_) (za ..);simp only at hj;have j1:=lf hj;(refine yC rfl (B3p l j s _ hl8) ?_; simp);refine yE hR [] s_ λhrn=>⟨?_,?_,?_,?_,?_,?_⟩<;>(try simp[j1]);exact V4 _ l 0
def C4A(l:List Ag)(id:Nat):A2 prog 167 [.sl (l.map s6)] [] id (.int .i64 (Z8 l)) []:=by
 refine w167.e.1 λE hP hR hl hid=>?_;simp[w167];refine D0 (λh=>?_) (λh=>?_)<;>simp
 ·exact yP hR (h1:=by simp; simp at h; unfold Z8; rw[zj o_])
 have h5:¬5<l.length:=by simp at h; omega
 have hft:Z8 l=D2 (λk a=>A3F a (l.take k)) l 0:=by unfold Z8; rw[zf h5]
 rw[hft] at hR;refine B9 (X:=Nat) (λi=>⟨[(0,true,.sl (l.map s6)),(9,true,.sl (l.map s6)),(10,true,.int .i64 l.length),(11,true,.int .i64 i)],[],0⟩) (λi=>i<=l.length/\D2 (λk a=>A3F a (l.take k)) (l.drop i) i=D2 (λk a=>A3F a (l.take k)) l 0) (λi=>l.length - i) 0 ?_ ⟨o_,rfl⟩ ?_
 ·exact yW [] trivial
 ·rintro i ⟨hi,hf⟩ p hp;refine A3 4000 ?_;simp;refine D0 (λh=>?_) (λh=>?_)
  ·have h:=zq h;obtain⟨x,hx,hd⟩:=A5 h;rw[hd] at hf;simp only[D2] at hf;have hi1:IntKind.i64.wrap ((i:Int)+1)=((i+1:Nat):Int):=wrap64 o_;have hC:=λj=>A9i (l.take i) j x;simp only[yt] at hC;have hA:=B3o x;rw[U3] at hA;simp[hx,U3 x];refine⟨h,?_⟩;(refine yH rfl (A2w x.name _) ?_; simp);refine⟨λh0=>⟨h0,λa _=>rfl,hi⟩,?_⟩;refine H5 hP s_ rfl (λhc=>⟨hC (E.n0+4096) _ m_,by revert hc; simp; try grind,f_⟩) ?_;refine A3 4000 ?_;simp;refine D0 (λh1=>?_) (λh1=>?_)<;>simp
   ·simp at h1;have hv:A3F x (l.take i)=6:=(by unfold A3F; rw[zf (by simp[h1.1]),zj h1.2]);rw[hv,zj d_] at hf;exact yP hR (h1:=by simp; exact hf)
   ·refine D0 (λh2=>?_) (λh2=>?_)<;>simp
    ·simp at h1 h2;have hv:A3F x (l.take i)=A8l x:=(by unfold A3F; rw[zf (t_ h2),zf (by simp[h1 h2])]);rw[hv] at hf;(refine yH rfl (hA _) ?_; simp);refine D0 (λh3=>?_) (λh3=>?_)<;>simp
     ·rw[zj (v_ h3)] at hf;exact yP hR (h1:=by simp; exact hf)
     ·rw[zf (v_ h3)] at hf;refine hp _ (i+1) ⟨h,hf⟩ o_ ?_;refine yV [] s_ λhrn=>⟨?_,?_,?_,?_,?_⟩<;>(try simp[hi1])
    ·have h2:H8 x.name≠0:=(v_ h2);have hv:A3F x (l.take i)=H8 x.name:=(by unfold A3F; rw[zj h2]);rw[hv,zj h2] at hf;refine A7 (v_ h2) ?_;simp;exact yP hR (h1:=by simp; exact hf)
  ·have h:=zo h;simp;rw[zp o_] at hf;exact yP hR (h1:=by simp; exact hf)
def W8:Nat->List C5->Nat
 | 0,l=>l.length
 | m+1,l=>l.length+(l.map λs=>W8 m s.kids).sum
def deepL:Nat->List C5->Nat
 | 0,l=>min l.length 1
 | m+1,l=>l.foldl (λd s=>max d (deepL m s.kids+1)) (min l.length 1)
def A3G(m:Nat)(l:List C5)(i:Nat):Nat:=l.length+((l.take i).map λs=>W8 m s.kids).sum
def A7D(m:Nat)(l:List C5)(i:Nat):Nat:=(l.take i).foldl (λd s=>max d (deepL m s.kids+1)) (min l.length 1)
def B5Z(m:Nat)(l:List C5):A3G m l 0=l.length:=by simp[A3G]
def B5a(m:Nat)(l:List C5):A7D m l 0=min l.length 1:=by simp[A7D]
def L0{α:Type}{l:List α}{i:Nat}{x:α}(hx:l[i]?=some x):l.take (i+1)=l.take i++[x]:=by rw[wi,hx]; rfl
def B5b{m:Nat}{l:List C5}{i:Nat}{x:C5}(hx:l[i]?=some x):A3G m l (i+1)=A3G m l i+W8 m x.kids:=by
 simp[A3G,L0 hx]; omega
def B5c{m:Nat}{l:List C5}{i:Nat}{x:C5}(hx:l[i]?=some x):A7D m l (i+1)=max (A7D m l i) (deepL m x.kids+1):=by
 simp[A7D,L0 hx]
def B8b{m:Nat}{l:List C5}{i:Nat}(h:l.length<=i):A3G m l i=W8 (m+1) l:=by simp[A3G,W8,zm h]
def B8c{m:Nat}{l:List C5}{i:Nat}(h:l.length<=i):A7D m l i=deepL (m+1) l:=by simp[A7D,deepL,zm h]
def A8n{m:Nat}(h:∀l,W8 m l<=p7 l):∀l:List C5,l.length+(l.map λs=>W8 m s.kids).sum<=p7 l
 | []=>by simp
 | s::r=>by
  have h1:=A8n h r;have h2:=h s.kids;have h3:=A2R s;simp only[p7,zt,yg,vq];omega
def B3q:∀(m:Nat) (l:List C5),W8 m l<=p7 l
 | 0,l=>o9 l
 | m+1,l=>A8n (B3q m) l
def C12(m:Nat)(l:List C5)(i:Nat):A3G m l i<=p7 l:=by
 have h1:=A8n (B3q m) l;have h2:((l.take i).map λs=>W8 m s.kids).sum+((l.drop i).map λs=>W8 m s.kids).sum=(l.map λs=>W8 m s.kids).sum:=by
  rw[←qh,←vf,yu]
 unfold A3G;omega
def B0U{m k:Nat}(h:∀l,deepL m l<=k):∀(l:List C5) (a:Nat),a<=k+1->l.foldl (λd s=>max d (deepL m s.kids+1)) a<=k+1
 | [],a,ha=>ha
 | s::r,a,ha=>by
  simp only[wc];exact B0U h r _ (by have:=h s.kids; omega)
def B3r:∀(m:Nat) (l:List C5),deepL m l<=m+1
 | 0,l=>by simp only[deepL]; omega
 | m+1,l=>B0U (B3r m) l _ o_
def B6t:∀(m:Nat) (l:List C5) (id:Nat),m<=1000->p7 l<=1099511627776->A2 prog 99 [.sl (l.map C6),.int .i64 m] [] id (.tup [.int .i64 (W8 m l),.int .i64 (deepL m l)]) []
 | 0,l,id,hm,hl=>by
  have hlen:=o9 l;refine w99.e.1 λE hP hR hl hid=>?_;simp[w99];refine B9 (X:=Unit) (λ_=>⟨[(0,true,.sl (l.map C6)),(1,true,.int .i64 0),(6,true,.int .i64 l.length),(7,true,.int .i64 (deepL 0 l)),(17,true,.sl (l.map C6)),(18,true,.int .i64 l.length),(19,true,.int .i64 0)],[],0⟩) (λ_=>True) (λ_=>0) () ?_ trivial ?_
  ·refine yV [] s_ λhrn=>⟨?_,?_,?_,?_,?_⟩<;>(try simp[deepL]);all_goals omega
  ·rintro i - p hp;refine A3 4000 ?_;simp;refine D0 (λh=>?_) (λh=>?_)
   ·have h:=zq h;obtain⟨x,hx,hd⟩:=A5 (l:=l) (i:=0) o_;simp[hx,H0 x];refine⟨o_,?_⟩;exact yP hR (h1:=by simp; simp[W8])
   ·simp;exact yP hR (h1:=by simp; simp[W8])
 | m+1,l,id,hm,hl=>by
  have hlen:=o9 l;refine w99.e.1 λE hP hR hl hid=>?_;simp[w99];refine B9 (X:=Nat) (λi=>⟨[(0,true,.sl (l.map C6)),(1,true,.int .i64 (m+1)),(6,true,.int .i64 (A3G m l i)),(7,true,.int .i64 (A7D m l i)),(17,true,.sl (l.map C6)),(18,true,.int .i64 l.length),(19,true,.int .i64 i)],[],0⟩) (λi=>i<=l.length) (λi=>l.length - i) 0 ?_ o_ ?_
  ·refine yV [] s_ λhrn=>⟨?_,?_,?_,?_,?_⟩<;>(try simp[B5Z,B5a]);all_goals omega
  ·rintro i hi p hp;refine A3 4000 ?_;simp;refine D0 (λh=>?_) (λh=>?_)
   ·have h:=zq h;obtain⟨x,hx,hd⟩:=A5 h;have hi1:IntKind.i64.wrap ((i:Int)+1)=((i+1:Nat):Int):=wrap64 o_;have hxm:x∈l:=zg hx;have ih:=B6t m x.kids;simp[hx,H0 x];refine⟨h,A0 m_ ?_⟩;have hm1:IntKind.i64.wrap (m:Int)=(m:Int):=wrap64 o_;have hsz:=A8k hxm;have hs:=B5b (m:=m) hx;have hsd:=B5c (m:=m) hx;have hs1:IntKind.i64.wrap ((A3G m l i:Int)+W8 m x.kids)=((A3G m l (i+1):Nat):Int):=(by rw[hs,wrap64 (by have:=C12 m l (i+1); omega)]; omega);have hs2:IntKind.i64.wrap ((deepL m x.kids:Int)+1)=((deepL m x.kids+1:Nat):Int):=wrap64 (by have:=B3r m x.kids; omega);simp[hm1];(refine yC rfl (ih _ o_ o_) ?_; simp[hs1,hs2]);refine hp _ (i+1) o_ o_ ?_;refine yV [] s_ λhrn=>⟨?_,?_,?_,?_,?_⟩<;>(try simp[hi1,hsd]);all_goals trace "TAIL 1"
    all_goals trace_state
    all_goals omega
   ·have h:=zo h;simp;exact yP hR (h1:=by simp; rw[B8b o_,B8c o_]; exact⟨rfl,rfl⟩)
def A3i(s:C5)(ah:List C5):Int :=
 if H8 s.name≠0 then H8 s.name else if s.alias≠[]/\H8 s.alias≠0 then H8 s.alias else if Z8 s.args≠0 then Z8 s.args
 else if (ah.any λx=>C8 x==C8 s)=true then 6 else 0
mutual
def B6u:C5->Int
 | .mk _ _ _ k=>S4 k []
def S4:List C5->List C5->Int
 | [],_=>0
 | s::r,ah=>if A3i s ah≠0 then A3i s ah else if B6u s≠0 then B6u s else S4 r (ah++[s])
end
def fNm(s:C5):Int:=if H8 s.name≠0 then H8 s.name else if s.alias≠[] then H8 s.alias else 0
def A8o(s:C5)(ah:List C5):A3i s ah=if fNm s≠0 then fNm s else if Z8 s.args≠0 then Z8 s.args else if (ah.any λx=>C8 x==C8 s)=true then 6 else 0:=by
 unfold A3i fNm;split
 ·rfl
 ·split
  ·rename_i h; rw[zj h.1,zj h.2]
  ·rename_i h;by_cases ha:s.alias≠[]
   ·have:H8 s.alias=0:=zk λh0=>h ⟨ha,h0⟩;rw[zj ha,this]; rfl
   ·rw[zf ha]; rfl
def A8p(s:C5):B6u s=S4 s.kids []:=by cases s; rfl
def B3s:∀(n:Nat) (l:List C5) (id:Nat),p7 l<n->p7 l<=1099511627776->A2 prog 100 [.sl (l.map C6)] [] id (.int .i64 (S4 l [])) []
 | 0,l,id,hn,hl=>by omega
 | n+1,l,id,hn,hl=>by
  have ih:=B3s n;have hlen:=o9 l;refine w100.e.1 λE hP hR hl hid=>?_;simp[w100];refine B9 (X:=Nat) (λi=>⟨[(0,true,.sl (l.map C6)),(6,true,.sl (l.map C6)),(7,true,.int .i64 l.length),(8,true,.int .i64 i)],[],0⟩) (λi=>i<=l.length/\S4 (l.drop i) (l.take i)=S4 l []) (λi=>l.length - i) 0 ?_ ⟨o_,rfl⟩ ?_
  ·exact yW [] trivial
  ·rintro i ⟨hi,hf⟩ p hp;refine A3 4000 ?_;simp;refine D0 (λh=>?_) (λh=>?_)
   ·have h:=zq h;obtain⟨x,hx,hd⟩:=A5 h;rw[hd] at hf;simp only[S4] at hf;rw[←L0 hx] at hf;have hi1:IntKind.i64.wrap ((i:Int)+1)=((i+1:Nat):Int):=wrap64 o_;have hxm:x∈l:=zg hx;have hsz:=A8k hxm;have hC:=λj=>A8m (l.take i) j x;simp only[yt] at hC;simp[hx,H0 x];refine⟨h,?_⟩;refine E5 hP rfl (A2w x.name _) s_ f_ ?_;refine C6I (X:=Int) (λe=>⟨[(0,true,.sl (l.map C6)),(3,true,.int .i64 i),(4,true,.ptr E.n0 0 0),(5,true,.int .i64 e),(6,true,.sl (l.map C6)),(7,true,.int .i64 l.length),(8,true,.int .i64 i)],[(E.n0,some ⟨[.agg [.str x.alias,.str x.name,.sl (x.args.map s6),.sl (x.kids.map C6)]],.agg [.str [],.str [],.nils,.nils],false,false⟩)],1⟩) (λe=>e=fNm x) (λq hq=>?_) (λe he=>?_)
    ·refine A3 4000 ?_;simp;refine D0 (λh1=>?_) (λh1=>?_)<;>simp
     ·simp at h1;(refine yH rfl (A2w x.alias _) ?_; simp);refine hq _ (H8 x.alias) (by unfold fNm; rw[zf (by simp[h1.1]),zj h1.2]) ?_;exact yW [(E.n0,E.n0+4096)] trivial
     ·simp at h1;refine hq _ (H8 x.name) (by
       unfold fNm;split
       ·rfl
       ·rename_i h0;have h0:H8 x.name=0:=(v_ h0);rw[zf (by simp[h1 h0]),h0]) ?_
      exact yW [(E.n0,E.n0+4096)] trivial
    ·subst he;rw[A8o] at hf;refine A3 4000 ?_;simp;refine D0 (λh2=>?_) (λh2=>?_)<;>simp
     ·have h2:fNm x=0:=(v_ h2);rw[h2] at hf;simp only[ne_eq,not_true_eq_false,if_false] at hf;(refine yH rfl (C4A x.args _) ?_; simp);refine⟨λh0=>⟨h0,λa _=>by rw[H0]; rfl,hi⟩,?_⟩;refine H5 hP s_ rfl (λhc=>⟨hC E.n0 _ m_,by revert hc; simp; try grind,by simp[H0 x]<;>rfl⟩) ?_;refine A3 4000 ?_;simp;refine D0 (λh3=>?_) (λh3=>?_)<;>simp
      ·simp only[yk,beq_iff_eq] at h3;rw[h3.1] at hf;simp only[not_true_eq_false,if_false] at hf;rw[zj h3.2,zj d_] at hf;exact yP hR (h1:=by simp; exact hf)
      ·refine D0 (λh4=>?_) (λh4=>?_)<;>simp
       ·have h4:Z8 x.args=0:=(v_ h4);rw[h4] at hf;simp only[not_true_eq_false,if_false] at hf;have h3':¬((l.take i).any λy=>C8 y==C8 x)=true:=by
         rw[h4] at h3;simpa using h3
        rw[zf h3'] at hf;simp only[not_true_eq_false,if_false] at hf;rw[A8p] at hf;(refine yH rfl (ih x.kids _ o_ o_) ?_; simp);refine D0 (λh5=>?_) (λh5=>?_)<;>simp
        ·rw[zj (v_ h5)] at hf;exact yP hR (h1:=by simp; exact hf)
        ·rw[zf (v_ h5)] at hf;refine hp _ (i+1) ⟨h,hf⟩ o_ ?_;refine yV [] s_ λhrn=>⟨?_,?_,?_,?_,?_⟩<;>(try simp[hi1])
       ·have h4:Z8 x.args≠0:=(v_ h4);rw[zj h4,zj h4] at hf;refine A7 (v_ h4) ?_;simp;exact yP hR (h1:=by simp; exact hf)
     ·have h2:fNm x≠0:=(v_ h2);rw[zj h2,zj h2] at hf;refine⟨λh0=>(h2 h0).elim,?_⟩;refine A11 (.bool false) s_ (λhg=>by simp at hg; exact (h2 hg).elim) (λ_=>?_);refine A3 4000 ?_;simp[h2];refine A0 (v_ h2) ?_;simp;refine A7 (v_ h2) ?_;simp;exact yP hR (h1:=by simp; exact hf)
   ·have h:=zo h;simp;rw[zp o_] at hf;exact yP hR (h1:=by simp; exact hf)
def J6(l:List C5):Int:=if l=[] then 5 else if 40<W8 5 l\/5<deepL 5 l then 2 else S4 l []
def C13(l:List C5)(id:Nat)(h:p7 l<=1099511627776):A2 prog 99 [.sl (l.map C6),.int .i64 5] [] id (.tup [.int .i64 (W8 5 l),.int .i64 (deepL 5 l)]) []:=B6t 5 l id o_ h
def A2S(l:List C5)(id:Nat)(h:p7 l<=1099511627776):A2 prog 41 [.sl (l.map C6)] [] id (.int .i64 (J6 l)) []:=by
 refine w41.e.1 λE hP hR hl hid=>?_;simp[w41];refine D0 (λh1=>?_) (λh1=>?_)<;>simp
 ·exact yP hR (h1:=by simp; simp at h1; unfold J6; rw[zj h1])
 have h1:¬l=[]:=by simpa using h1
 (refine yH rfl (C13 l _ h) ?_; simp);refine D0 (λh2=>?_) (λh2=>?_)<;>simp
 ·exact yP hR (h1:=by simp; simp at h2; unfold J6; rw[zf h1,zj o_])
 ·have h2:¬(40<W8 5 l\/5<deepL 5 l):=by simp at h2; omega
  (refine yH rfl (B3s (p7 l+1) l _ o_ h) ?_; simp);exact yP hR (h1:=by simp; unfold J6; rw[zf h1,zf h2])
def S3{α:Type}(p:α->Bool):∀(l:List α) (i:Nat),(l.find? p=none/\E0 p l i = -1)\/∃k x,l[k]?=some x/\E0 p l i=((i+k:Nat):Int)/\l.find? p=some x
 | [],i=>.inl ⟨rfl,rfl⟩
 | y::r,i=>by
  by_cases hy:p y=true
  ·exact .inr ⟨0,y,rfl,by simp[E0,hy],t_ hy⟩
  ·rcases S3 p r (i+1) with⟨h1,h2⟩|⟨k,x,h1,h2,h3⟩
   ·exact .inl ⟨by simp[hy,h1],by simp[E0,hy,h2]⟩
   ·refine .inr ⟨k+1,x,v_ h1,?_,by simp[hy,h3]⟩;rw[E0,zf hy,h2]; congr 1; omega
def A3j:List UInt8:=[102,105,114,115,116]
def A4c(name:List UInt8)(may:Bool)(least most:Int)(a:Ag):Int :=
 if a.name≠name\/may=false then 5 else if a.isText=true then 7 else if a.n<least\/most<a.n then 3 else 0
def V8(l:List Ag)(name:List UInt8)(may:Bool)(least most:Int):Int:=S2 (A4c name may least most) l
def fieldAt(t:Ty)(name:List UInt8):Option Fd:=if name=tId then some ⟨tId,1,[]⟩ else t.fields.find? λx=>x.name==name
def A2y(l:List Ty)(name:List UInt8):Option Ty:=l.find? λx=>x.name==name
mutual
def B8d(l:List Ty)(t:Ty):C5->Int
 | .mk _ name args kids=>match fieldAt t name with
  | none=>5
  | some x=>if V8 args A3j (x.kind==4) 0 999999999≠0 then V8 args A3j (x.kind==4) 0 999999999
   else if ((x.kind==3||x.kind==4)==kids.isEmpty)=true then 4
   else if (x.kind==3||x.kind==4)=false then 0
   else match A2y l x.of with
    | none=>0
    | some t'=>A2T l t' kids
def A2T(l:List Ty)(t:Ty):List C5->Int
 | []=>0
 | s::r=>if B8d l t s≠0 then B8d l t s else A2T l t r
end
def A7p(l:List Ty)(t:Ty)(s:C5):B8d l t s=match fieldAt t s.name with
  | none=>5
  | some x=>if V8 s.args A3j (x.kind==4) 0 999999999≠0 then V8 s.args A3j (x.kind==4) 0 999999999
   else if ((x.kind==3||x.kind==4)==s.kids.isEmpty)=true then 4
   else if (x.kind==3||x.kind==4)=false then 0
   else match A2y l x.of with
    | none=>0
    | some t'=>A2T l t' s.kids:=by cases s; rfl
def B0V(l:List Ty)(s:C5):Int:=match A2y l s.name with
 | none=>5
 | some t=>if V8 s.args tId true 1 999≠0 then V8 s.args tId true 1 999 else if s.kids=[] then 4 else A2T l t s.kids
def A08(l:List Ty)(q:List C5):Int:=S2 (B0V l) q
def x5(l:List Ty)(q:List C5):Int:=if H9 l≠0 then H9 l else if J6 q≠0 then J6 q else A08 l q
def B1j(l:List Ty):Prop:=∀t∈l,∀f∈t.fields,(f.kind=3\/f.kind=4)->B1f l f.of=true
def B3t(l:List Ag)(name:List UInt8)(may:Bool)(least most:Int)(id:Nat)(hlen:l.length<9223372036854775807):A2 prog 184 [.sl (l.map s6),.str name,.bool may,.int .i64 least,.int .i64 most] [] id (.int .i64 (V8 l name may least most)) []:=by
 refine w184.e.1 λE hP hR hl hid=>?_;simp[w184];refine B9 (X:=Nat) (λi=>⟨[(1,true,.str name),(2,true,.bool may),(3,true,.int .i64 least),(4,true,.int .i64 most),(13,true,.sl (l.map s6)),(14,true,.int .i64 l.length),(15,true,.int .i64 i)],[],0⟩) (λi=>i<=l.length/\V8 (l.drop i) name may least most=V8 l name may least most) (λi=>l.length - i) 0 ?_ ⟨o_,rfl⟩ ?_
 ·exact yW [] trivial
 ·rintro i ⟨hi,hf⟩ p hp;refine A3 4000 ?_;simp;refine D0 (λh=>?_) (λh=>?_)
  ·have h:=zq h;obtain⟨x,hx,hd⟩:=A5 h;have hf':=hf;rw[hd] at hf;simp only[V8,S2] at hf;have hi1:IntKind.i64.wrap ((i:Int)+1)=((i+1:Nat):Int):=wrap64 o_;simp[hx,U3 x];refine⟨h,?_⟩;refine D0 (λh1=>?_) (λh1=>?_)<;>simp
   ·have hv:A4c name may least most x=5:=(by simp at h1; unfold A4c; rw[zj h1]);rw[hv] at hf;exact yP hR (h1:=by simp; exact hf)
   refine D0 (λh2=>?_) (λh2=>?_)<;>simp
   ·have hv:A4c name may least most x=7:=(by simp at h1; unfold A4c; rw[zf (t_ h1),zj h2]);rw[hv] at hf;exact yP hR (h1:=by simp; exact hf)
   refine D0 (λh3=>?_) (λh3=>?_)<;>simp
   ·have hv:A4c name may least most x=3:=(by simp at h1 h3; unfold A4c; rw[zf (t_ h1),zf (t_ h2),zj h3]);rw[hv] at hf;exact yP hR (h1:=by simp; exact hf)
   ·have hv:A4c name may least most x=0:=(by simp at h1 h3; unfold A4c; rw[zf (t_ h1),zf (t_ h2),zf o_]);rw[hv] at hf;refine hp _ (i+1) ⟨h,by simpa [V8] using hf⟩ o_ ?_;refine yV [] s_ λhrn=>⟨?_,?_,?_,?_,?_⟩<;>(try simp[hi1])
  ·have h:=zo h;simp;rw[zp o_] at hf;exact yP hR (h1:=by simp; exact hf)
def A7E(l:List Ag)(may:Bool)(id:Nat)(hlen:l.length<9223372036854775807):A2 prog 184 [.sl (l.map s6),.str [102,105,114,115,116],.bool may,.int .i64 0,.int .i64 999999999] [] id (.int .i64 (V8 l A3j may 0 999999999)) []:=B3t l A3j may 0 999999999 id hlen
def C14(l:List Ag)(id:Nat)(hlen:l.length<9223372036854775807):A2 prog 184 [.sl (l.map s6),.str [105,100],.bool true,.int .i64 1,.int .i64 999] [] id (.int .i64 (V8 l tId true 1 999)) []:=B3t l tId true 1 999 id hlen
def bxF(l:List Ty):Bx:=⟨[.agg [.sl (l.map I9)]],.agg [.sl (l.map I9)],false,false⟩
def C6Z(l:List Ty)(t:Ty)(s:C5)(j id:Nat)(hL:∀f∈t.fields,(f.kind=3\/f.kind=4)->B1f l f.of=true)(hl8:l.length<=1000)(ht8:t.fields.length<=1000)(hs8:s.args.length<9223372036854775807)
  (ih:∀k t' id,l[k]?=some t'->A2 prog 185 [.ptr j 0 0,.int .i64 (k:Nat),.sl (s.kids.map C6)] [(j,bxF l)] id (.int .i64 (A2T l t' s.kids)) []) :
  A2 prog 253 [.ptr j 0 0,I9 t,C6 s] [(j,bxF l)] id (.int .i64 (B8d l t s)) []:=by
 have hf8:t.fields.length<9223372036854775807:=by omega
 by_cases hn:s.name=tId
 ·have hV:=λid=>A7E s.args false id hs8;rw[H0,A7p,fieldAt,zj hn];unfold I9;simp only[bxF,show ((1:Int)==4)=false from rfl,show ((1:Int)==3)=false from rfl,ur] at ih hV ⊢;generalize V8 s.args A3j false 0 999999999=e1 at hV ⊢;rw[hn];unfold tId;refine w253.e.1 λE hP hR hl hid=>?_;simp[w253];have hj:=hl (j,_) (za ..);simp only at hj;have j1:=lf hj;(refine yC rfl (hV _) ?_; simp);refine D0 (λh1=>?_) (λh1=>?_)
  ·simp;rw[zj (v_ h1)] at hR;refine yE hR [] s_ λhrn=>⟨?_,?_,?_,?_,?_,?_⟩<;>(try simp[j1])
  ·simp;rw[zf (v_ h1)] at hR;refine D0 (λh2=>?_) (λh2=>?_)
   ·have hk0:s.kids.isEmpty=false:=(v_ h2);simp;rw[hk0,zj (by rfl)] at hR;refine yE hR [] s_ λhrn=>⟨?_,?_,?_,?_,?_,?_⟩<;>(try simp[j1])
   ·have hk0:s.kids.isEmpty=true:=(v_ h2);simp;rw[hk0,zf d_,zj (by first|rfl|trivial)] at hR;refine yE hR [] s_ λhrn=>⟨?_,?_,?_,?_,?_,?_⟩<;>(try simp[j1])
 ·rcases S3 (λx=>x.name==s.name) t.fields 0 with⟨q1,q2⟩|⟨k,x,q1,q2,q3⟩
  ·have hF:=A1V t.fields t.name s.name;rw[H0,A7p,fieldAt,zf hn,q1];rw[q2] at hF;have hn':¬s.name=[105,100]:=hn;unfold I9;simp only[bxF] at ih ⊢;refine w253.e.1 λE hP hR hl hid=>?_;simp[w253];have hj:=hl (j,_) (za ..);simp only at hj;have j1:=lf hj;refine A7 (v_ hn') ?_;simp;(refine yC rfl (hF _ hf8) ?_; simp);refine yE hR [] s_ λhrn=>⟨?_,?_,?_,?_,?_,?_⟩<;>(try simp[j1])
  ·have hF:=A1V t.fields t.name s.name;have hk:=(ze.1 q1).1;have hxm:=zg q1;have hV:=λid=>A7E s.args (x.kind==4) id hs8;rw[H0,A7p,fieldAt,zf hn,q3];rw[q2] at hF;have hn':¬s.name=[105,100]:=hn;unfold I9;simp only[bxF,yy] at ih hV hF ⊢;generalize V8 s.args A3j (x.kind==4) 0 999999999=e1 at hV ⊢;refine w253.e.1 λE hP hR hl hid=>?_;simp[w253];have hj:=hl (j,_) (za ..);simp only at hj;have j1:=lf hj;refine A7 (v_ hn') ?_;simp;(refine yC rfl (hF _ hf8) ?_; simp);refine A0 s_ ?_;simp[q1,U8];refine⟨hk,?_⟩;(refine yC rfl (hV _) ?_; simp);refine D0 (λh1=>?_) (λh1=>?_)
   ·simp;try simp only at hR
    rw[zj (v_ h1)] at hR;refine yE hR [] s_ λhrn=>⟨?_,?_,?_,?_,?_,?_⟩<;>(try simp[j1])
   ·simp;try simp only at hR
    rw[zf (v_ h1)] at hR;have hlk:((s.kids.length:Int)==0)=s.kids.isEmpty:=(by rw[wg]; simp);simp only[hlk];refine D0 (λh2=>?_) (λh2=>?_)
    ·try simp
     rw[zj (v_ h2)] at hR;refine yE hR [] s_ λhrn=>⟨?_,?_,?_,?_,?_,?_⟩<;>(try simp[j1])
    ·try simp
     rw[zf (v_ h2)] at hR;refine D0 (λh3=>?_) (λh3=>?_)
     ·try simp
      rw[zj (v_ h3)] at hR;refine yE hR [] s_ λhrn=>⟨?_,?_,?_,?_,?_,?_⟩<;>(try simp[j1])
     ·try simp[j1]
      rw[zf (v_ h3)] at hR;have hkd:x.kind=3\/x.kind=4:=(by simp at h3; omega);have hof:=hL x hxm hkd;rcases S3 (λt=>t.name==x.of) l 0 with⟨r1,r2⟩|⟨k2,t',r1,r2,r3⟩
      ·exact absurd hof (by rw[←A8f,r2]; decide)
      ·have hX:=o8 l x.of;rw[r2,yy] at hX;rw[A2y,r3] at hR;(refine yC rfl (hX _ o_) ?_; simp);(refine yC rfl (ih k2 t' _ r1) ?_; simp[j1]);refine yE hR [] s_ λhrn=>⟨?_,?_,?_,?_,?_,?_⟩<;>(try simp[j1])
def B6v(l:List Ty)(hL:B1j l)(hl8:l.length<=1000)(ht8:∀t∈l,t.fields.length<=1000):∀(n:Nat) (q:List C5) (j k:Nat) (t:Ty) (id:Nat),p7 q<n->p7 q<=1099511627776->l[k]?=some t ->
  A2 prog 185 [.ptr j 0 0,.int .i64 (k:Nat),.sl (q.map C6)] [(j,bxF l)] id (.int .i64 (A2T l t q)) []
 | 0,q,j,k,t,id,hn,hq8,hk=>by omega
 | n+1,q,j,k,t,id,hn,hq8,hk=>by
  have ih:=B6v l hL hl8 ht8 n;have hlen:=o9 q;have htm:=zg hk;have hkl:=(ze.1 hk).1;simp only[bxF] at ih ⊢;refine w185.e.1 λE hP hR hl hid=>?_;simp[w185];have hj:=hl (j,_) (za ..);simp only at hj;have j1:=lf hj;refine B9 (X:=Nat) (λi=>⟨[(0,true,.ptr j 0 0),(1,true,.int .i64 k),(10,true,.sl (q.map C6)),(11,true,.int .i64 q.length),(12,true,.int .i64 i)],[(j,some ⟨[.agg [.sl (l.map I9)]],.agg [.sl (l.map I9)],false,false⟩)],0⟩) (λi=>i<=q.length/\A2T l t (q.drop i)=A2T l t q) (λi=>q.length - i) 0 ?_ ⟨o_,rfl⟩ ?_
  ·refine yV [] s_ λhrn=>⟨?_,?_,?_,?_,?_⟩<;>(try simp[j1])
  ·rintro i ⟨hi,hf⟩ p hp;refine A3 4000 ?_;simp;refine D0 (λh=>?_) (λh=>?_)
   ·have h:=zq h;obtain⟨x,hx,hd⟩:=A5 h;have hxm:x∈q:=zg hx;have hsz:=A8k hxm;have hsx:=x4 hxm;have hse:=A2R x;have hK:=λid=>C6Z l t x j id (hL t htm) hl8 (ht8 t htm) o_ (λk t' id hk=>ih x.kids j k t' id o_ o_ hk);rw[hd] at hf;simp only[A2T] at hf;have hi1:IntKind.i64.wrap ((i:Int)+1)=((i+1:Nat):Int):=wrap64 o_;rw[H0] at hK;simp only[I9,bxF] at hK;simp[hx,hk,H0 x,I9,j1];refine⟨h,hkl,?_⟩;(refine yC rfl (hK _) ?_; simp[j1]);refine D0 (λh1=>?_) (λh1=>?_)
    ·simp;rw[zj (v_ h1)] at hf;rw[←hf] at hR;refine yE hR [] s_ λhrn=>⟨?_,?_,?_,?_,?_,?_⟩<;>(try simp[j1])
    ·simp;rw[zf (v_ h1)] at hf;refine hp _ (i+1) ⟨h,hf⟩ o_ ?_;refine yV [] s_ λhrn=>⟨?_,?_,?_,?_,?_⟩<;>(try simp[hi1,j1])
   ·have h:=zo h;simp;rw[zp o_] at hf;rw[←hf] at hR;refine yE hR [] s_ λhrn=>⟨?_,?_,?_,?_,?_,?_⟩<;>(try simp[j1,A2T])
def R5{α:Type}(f:Nat->α->Int):∀(l:List α) (i:Nat),D2 f l i=0->∀k x,l[k]?=some x->f (i+k) x=0
 | [],i,h,k,x,hx=>by simp at hx
 | y::r,i,h,k,x,hx=>by
  simp only[D2] at h;split at h
  ·rename_i h0; exact (h0 h).elim
  ·rename_i h0;cases k with
   | zero=>simp at hx; subst hx; exact zk h0
   | succ k=>have:=R5 f r (i+1) h k x (v_ hx); rw[show i+(k+1)=i+1+k by omega]; exact this
structure A7F(l:List Ty):Prop where
 ne:l≠[]
 len:l.length<=5
 linked:B1j l
 fields:∀t∈l,t.fields.length<=6
 names:∀t∈l,H8 t.name=0
 kinds:∀t∈l,∀f∈t.fields,1<=f.kind/\f.kind<=4
 fnames:∀t∈l,∀f∈t.fields,H8 f.name=0/\f.name≠tId
def A5W{l:List Ty}(h:H9 l=0):A7F l:=by
 unfold H9 at h;split at h
 ·simp at h
 rename_i h1;split at h
 ·simp at h
 rename_i h2;have hT:∀t∈l,∃i,A1r l i t=0:=λt ht=>by
  obtain⟨i,hi⟩:=yi.1 ht;exact⟨0+i,R5 _ _ _ h i t hi⟩
 have hT2:∀t∈l,H8 t.name=0/\t.fields.length<=6/\D2 (λk f=>v8 l f (t.fields.take k)) t.fields 0=0:=λt ht=>by
  obtain⟨i,hi⟩:=hT t ht;unfold A1r at hi;repeat' split at hi
  all_goals first|omega|(exact⟨by simp_all,o_,hi⟩)|simp_all
 have hF:∀t∈l,∀f∈t.fields,(H8 f.name=0/\f.name≠tId)/\(1<=f.kind/\f.kind<=4)/\((f.kind=3\/f.kind=4)->B1f l f.of=true):=λt ht f hf=>by
  obtain⟨k,hk⟩:=yi.1 hf;have h0:=R5 _ _ _ (hT2 t ht).2.2 k f hk;unfold v8 at h0;repeat' split at h0
  all_goals first|omega|skip
  all_goals try (simp_all; done)
  rename_i g1 g2 g3 g4 g5 g6;refine⟨⟨zk g1,g2⟩,o_,λhk=>zk λhn=>g6 ⟨o_,hn⟩⟩
 exact⟨h1,o_,λt ht f hf=>(hF t ht f hf).2.2,λt ht=>(hT2 t ht).2.1,λt ht=>(hT2 t ht).1,λt ht f hf=>(hF t ht f hf).2.1,λt ht f hf=>(hF t ht f hf).1⟩
def C4B(l:List Ty)(s:C5)(j id:Nat)(hL:B1j l)(hl8:l.length<=1000)(ht8:∀t∈l,t.fields.length<=1000)(hs8:s.sz<=1099511627776):
  A2 prog 118 [.ptr j 0 0,C6 s] [(j,bxF l)] id (.int .i64 (B0V l s)) []:=by
 have hse:=A2R s;rcases S3 (λt=>t.name==s.name) l 0 with⟨r1,r2⟩|⟨k,t,r1,r2,r3⟩
 ·have hX:=o8 l s.name;rw[r2] at hX;rw[H0,B0V,A2y,r1];simp only[bxF];refine w118.e.1 λE hP hR hl hid=>?_;simp[w118];have hj:=hl (j,_) (za ..);simp only at hj;have j1:=lf hj;simp[j1];(refine yC rfl (hX _ o_) ?_; simp);refine yE hR [] s_ λhrn=>⟨?_,?_,?_,?_,?_,?_⟩<;>(try simp[j1])
 ·have hX:=o8 l s.name;rw[r2,yy] at hX;rw[H0,B0V,A2y,r3];have hV:=λid=>C14 s.args id o_;have hK:=λid=>B6v l hL hl8 ht8 (p7 s.kids+1) s.kids j k t id o_ o_ r1;generalize V8 s.args tId true 1 999=e1 at hV ⊢;simp only[bxF] at hK ⊢;refine w118.e.1 λE hP hR hl hid=>?_;simp[w118];have hj:=hl (j,_) (za ..);simp only at hj;have j1:=lf hj;simp[j1];(refine yC rfl (hX _ o_) ?_; simp);refine A0 s_ ?_;simp;(refine yC rfl (hV _) ?_; simp);refine D0 (λh1=>?_) (λh1=>?_)
  ·simp;rw[zj (v_ h1)] at hR;refine yE hR [] s_ λhrn=>⟨?_,?_,?_,?_,?_,?_⟩<;>(try simp[j1])
  ·simp;rw[zf (v_ h1)] at hR;refine D0 (λh2=>?_) (λh2=>?_)
   ·simp;rw[zj (v_ h2)] at hR;refine yE hR [] s_ λhrn=>⟨?_,?_,?_,?_,?_,?_⟩<;>(try simp[j1])
   ·simp;rw[zf (v_ h2)] at hR;(refine yC rfl (hK _) ?_; simp[j1]);refine yE hR [] s_ λhrn=>⟨?_,?_,?_,?_,?_,?_⟩<;>(try simp[j1])
def B6w(l:List Ty)(q:List C5)(id:Nat)(hL:B1j l)(hl8:l.length<=1000)(ht8:∀t∈l,t.fields.length<=1000)(hq8:p7 q<=1099511627776):
  A2 prog 57 [.sl (l.map I9),.sl (q.map C6)] [] id (.int .i64 (A08 l q)) []:=by
 have hlen:=o9 q;refine w57.e.1 λE hP hR hl hid=>?_;simp[w57];refine B9 (X:=Nat) (λi=>⟨[(5,true,.ptr E.n0 0 0),(12,true,.sl (q.map C6)),(13,true,.int .i64 q.length),(14,true,.int .i64 i)],[(E.n0,some ⟨[.agg [.sl (l.map I9)]],.agg [.sl (l.map I9)],false,false⟩)],1⟩) (λi=>i<=q.length/\A08 l (q.drop i)=A08 l q) (λi=>q.length - i) 0 ?_ ⟨o_,rfl⟩ ?_
 ·exact yW [(E.n0,E.n0+3072)] trivial
 ·rintro i ⟨hi,hf⟩ p hp;refine A3 4000 ?_;simp;refine D0 (λh=>?_) (λh=>?_)
  ·have h:=zq h;obtain⟨x,hx,hd⟩:=A5 h;have hxm:x∈q:=zg hx;have hsx:=x4 hxm;have hK:=λid=>C4B l x E.n0 id hL hl8 ht8 o_;rw[hd] at hf;simp only[A08,S2] at hf;have hi1:IntKind.i64.wrap ((i:Int)+1)=((i+1:Nat):Int):=wrap64 o_;rw[H0] at hK;simp only[bxF] at hK;simp[hx,H0 x];refine⟨h,?_⟩;(refine yH rfl (hK _) ?_; simp);refine D0 (λh1=>?_) (λh1=>?_)
   ·simp;rw[zj (v_ h1)] at hf;rw[←show _=A08 l q from hf] at hR;exact yP hR
   ·simp;rw[zf (v_ h1)] at hf;refine hp _ (i+1) ⟨h,hf⟩ o_ ?_;refine yV [(E.n0,E.n0)] s_ λhrn=>⟨?_,?_,?_,?_,?_⟩<;>(try simp[hi1])
  ·have h:=zo h;simp;rw[zp o_] at hf;rw[←hf] at hR;exact yP hR (h1:=by simp; rfl)
def B8e(l:List Ty)(q:List C5)(id:Nat)(hq8:p7 q<=1099511627776):
  A2 prog 62 [.sl (l.map I9),.sl (q.map C6)] [] id (.int .i64 (x5 l q)) []:=by
 refine w62.e.1 λE hP hR hl hid=>?_;simp[w62];(refine yH rfl (A4J l _) ?_; simp);refine D0 (λh1=>?_) (λh1=>?_)<;>simp
 ·have h1:H9 l=0:=by simpa using h1
  have hs:=A5W h1;(refine yH rfl (A2S q _ hq8) ?_; simp);refine D0 (λh2=>?_) (λh2=>?_)<;>simp
  ·have h2:J6 q=0:=(v_ h2);(refine yH rfl (B6w l q _ hs.linked (by have:=hs.len; omega) (λt ht=>by have:=hs.fields t ht; omega) hq8) ?_; simp);exact yP hR (h1:=by simp; unfold x5; rw[zf (t_ h1),zf (t_ h2)])
  ·have h2:J6 q≠0:=(v_ h2);exact yP hR (h1:=by simp; unfold x5; rw[zf (t_ h1),zj h2])
 ·have h1:H9 l≠0:=by simpa using h1
  refine A0 (v_ h1) ?_;simp;exact yP hR (h1:=by simp; unfold x5; rw[zj h1])
end Go.Am
namespace Go.Am
end Go.Am
namespace Go.Am
open Go Go.Proofs Go.RowKit Go.Proofs.Tryz
def A1X(s:H6)(i:Nat)(t:Tg):Int :=
 if j6 s.types t≠0 then j6 s.types t else if 0<i/\0<=J7 s.things t.type t.id (i - 1) then 4 else 0
def fSt(s:H6):Int :=
 if H9 s.types≠0 then H9 s.types else if 12<s.things.length then 2
 else if D2 (λi t=>A1X s i t) s.things 0≠0 then D2 (λi t=>A1X s i t) s.things 0
 else if T8 (λf c=>!c.ids.any λx=>!M0 s f x) s.types s.things=true then 0 else 5
structure A4w(s:H6)(t:Tg):Prop where
 ty0:0<=t.type
 ty1:t.type.toNat<s.types.length
 id1:1<=t.id
 id2:t.id<=999
 len:t.cells.length=(D5 s.types t.type).length
 cell:∀(k:Nat) c,t.cells[k]?=some c->A0E (D5 s.types t.type) k c=0
def C6a{s:H6}{t:Tg}(h:j6 s.types t=0):A4w s t:=by
 unfold j6 at h;repeat' split at h
 all_goals first|(exfalso; omega)|skip
 rename_i h1 h2 h3;refine⟨o_,o_,o_,o_,o_,λk c hc=>?_⟩;have:=R5 _ _ _ h k c hc
 rwa [yy] at this
structure B8f(f:Fd)(c:Cl):Prop where
 n0:f.kind≠1->c.n=0
 t0:f.kind≠2->c.text=[]
 i0:j0 f.kind=false->c.ids=[]
 n1 : -999999999<=c.n/\c.n<=999999999
 t1:c.text.length<=40
 i1:c.ids.length<=6
 i3:f.kind=3->c.ids.length<=1
 asc:A4v c.ids=true
def C9K{f:Fd}{c:Cl}(h:A2Q f c=0):B8f f c:=by
 unfold A2Q at h;repeat' split at h
 all_goals first|(exfalso; omega)|skip
 rename_i h1 h2 h3 h4;have hm:A5V f.kind<=6:=by unfold A5V; split<;>omega
 have hm3:f.kind=3->A5V f.kind=1:=λe=>by unfold A5V; rw[zj e]
 refine⟨by grind,by grind,by grind,o_,o_,o_,λe=>by have:=hm3 e; omega,h4⟩
def A4w.cellOk{s:H6}{t:Tg}(h:A4w s t){k:Nat}{c:Cl}(hc:t.cells[k]?=some c):∃f,(D5 s.types t.type)[k]?=some f/\B8f f c:=by
 obtain⟨f,hf⟩:∃f,(D5 s.types t.type)[k]?=some f:=⟨_,zc (by rw[←h.len]; exact (ze.1 hc).1)⟩;refine⟨f,hf,C9K ?_⟩;have:=h.cell k c hc;simpa only[A0E,hf] using this
def A4w.cells6{s:H6}(hS:A7F s.types){t:Tg}(h:A4w s t):t.cells.length<=6:=by
 rw[h.len];obtain⟨ty,hty⟩:∃ty,s.types[t.type.toNat]?=some ty:=⟨_,zc h.ty1⟩;simpa [D5,hty] using hS.fields ty (zg hty)
def A4x(s:H6)(id:Nat):A2 prog 24 [H4 s] [] id (.int .i64 (fSt s)) []:=by
 unfold H4;refine w24.e.1 λE hP hR hl hid=>?_;simp[w24];(refine yH rfl (A4J _ _) ?_; simp);refine D0 (λh=>?_) (λh=>?_)<;>simp
 ·exact yP hR (h1:=by simp; simp at h; unfold fSt; rw[zj h])
 have h1:H9 s.types=0:=by simpa using h
 refine D0 (λh=>?_) (λh=>?_)<;>simp
 ·exact yP hR (h1:=by simp; simp at h; unfold fSt; rw[zf o_,zj o_])
 have h2:¬12<s.things.length:=by simp at h; omega
 have hS:=A5W h1;have hft:fSt s=if D2 (λi t=>A1X s i t) s.things 0≠0 then D2 (λi t=>A1X s i t) s.things 0
   else if T8 (λf c=>!c.ids.any λx=>!M0 s f x) s.types s.things=true then 0 else 5:=by unfold fSt; rw[zf o_,zf h2]
 refine B9 (X:=Nat) (λi=>⟨[(1,true,.ptr E.n0 0 0),(19,true,.sl (s.things.map Q9)),(20,true,.int .i64 s.things.length),(21,true,.int .i64 i)],[(E.n0,some ⟨[.agg [.sl (s.types.map I9),.sl (s.things.map Q9)]],.agg [.sl (s.types.map I9),.sl (s.things.map Q9)],false,false⟩)],1⟩) (λi=>i<=s.things.length/\D2 (λi t=>A1X s i t) (s.things.drop i) i=D2 (λi t=>A1X s i t) s.things 0) (λi=>s.things.length - i) 0 ?_ ⟨o_,rfl⟩ ?_
 ·exact yW [(E.n0,E.n0)] trivial
 ·rintro i ⟨hi,hf⟩ p hp;refine A3 4000 ?_;simp;refine D0 (λh=>?_) (λh=>?_)
  ·have h:=zq h;obtain⟨t,hx,hd⟩:=A5 h;rw[hd] at hf;simp only[D2] at hf;have hi1:IntKind.i64.wrap ((i:Int)+1)=((i+1:Nat):Int):=wrap64 o_;have hth:=λid=>C0y s t id hS.len (.inr hS.fields);unfold H4 at hth;rw[A3f t] at hth;simp[hx,A3f t];refine⟨h,?_⟩;(refine yH rfl (hth _) ?_; simp);refine D0 (λh1=>?_) (λh1=>?_)<;>simp
   ·have h1:j6 s.types t≠0:=(v_ h1);have e:A1X s i t=j6 s.types t:=(by unfold A1X; rw[zj h1]);rw[e,zj h1] at hf;exact yP hR (h1:=by simp; rw[hft,←hf,zj h1])
   have h1:j6 s.types t=0:=(v_ h1);rcases uj i with hz|hz
   ·subst hz;have e:A1X s 0 t=0:=(by unfold A1X; rw[zf o_,zf o_]);rw[e,zf o_] at hf;simp;refine A11 (.int .i64 0) s_ (λhg=>by simp at hg) (λ_=>?_);refine A3 4000 ?_;simp;refine hp _ 1 ⟨o_,hf⟩ o_ ?_;have h01:IntKind.i64.wrap 1=1:=wrap64 o_;refine yV [(E.n0,E.n0)] s_ λhrn=>⟨?_,?_,?_,?_,?_⟩<;>(try simp[h01])
   ·obtain⟨m,rfl⟩:∃m,i=m+1:=⟨i - 1,o_⟩;obtain⟨u,hu⟩:∃u,s.things[m]?=some u:=⟨_,zc o_⟩;have hwm:IntKind.i64.wrap (m:Int)=(m:Int):=wrap64 o_;have hmi:IntKind.i64.wrap ((m:Int)+1+1)=((m+1+1:Nat):Int):=(by rw[wrap64 o_]; omega);have e:A1X s (m+1) t=if 0<=A0Z u.type u.id t.type t.id then 4 else 0:=by
     unfold A1X;rw[zf o_];simp[J7,hu]
    have hlt:m<s.things.length:=o_;rw[e] at hf;have hug:s.things[m]=u:=(by rw[zc hlt] at hu; injection hu);simp[hwm,hug,A3f u,hlt];refine A11 (.int .i64 0) s_ (λ_=>?_) (λhg=>by simp at hg);(refine yH rfl (A3g _ _ _ _ _ _ _) ?_; simp);refine D0 (λh3=>?_) (λh3=>?_)<;>simp
    ·have h3:0<=A0Z u.type u.id t.type t.id:=(v_ h3);rw[zj h3,zj o_] at hf;exact yP hR (h1:=by simp; rw[hft,←hf,zj o_])
    ·have h3:¬0<=A0Z u.type u.id t.type t.id:=(v_ h3);rw[zf h3,zf o_] at hf;refine hp _ (m+1+1) ⟨h,hf⟩ o_ ?_;refine yV [(E.n0,E.n0)] s_ λhrn=>⟨?_,?_,?_,?_,?_⟩<;>(try simp[hmi])
  ·have h:=zo h;simp;rw[zp o_] at hf;have hz:D2 (λi t=>A1X s i t) s.things 0=0:=(by rw[←hf]; rfl);have hall:∀t∈s.things,A4w s t:=λt ht=>by
    obtain⟨k,hk⟩:=yi.1 ht;have h0:=R5 _ _ _ hz k t hk;refine C6a ?_;unfold A1X at h0;split at h0
    ·rename_i g; exact (g h0).elim
    ·rename_i g; exact zk g
   rw[hft,hz,zf o_] at hR;have hE:=λid=>B6s s 68 E.n0 (H4 s) (λf c=>!c.ids.any λx=>!M0 s f x) (B0T s) (λf c id h6=>B8Z f c s E.n0 id hS.len o_ o_)
    (λt ht=>⟨(hall t ht).ty0,(hall t ht).ty1,(hall t ht).len,by have:=(hall t ht).cells6 hS; omega,λc hc=>by
     obtain⟨k,hk⟩:=yi.1 hc;obtain⟨f,_,hco⟩:=(hall t ht).cellOk hk;exact hco.i1⟩) o_ id
   unfold H4 at hE;(refine yH rfl (hE _) ?_; simp);refine D0 (λh=>?_) (λh=>?_)<;>simp
   ·have h:T8 (λf c=>!c.ids.any λx=>!M0 s f x) s.types s.things=false:=(v_ h);exact yP hR (h1:=by simp; rw[h])
   ·have h:T8 (λf c=>!c.ids.any λx=>!M0 s f x) s.types s.things=true:=(v_ h);exact yP hR (h1:=by simp; rw[h])
def B5d(l:List Fd)(id:Nat)(hl8:l.length<=1000000):A2 prog 252 [.sl (l.map U8)] [] id (.bsl id 0 l.length) [(id,some ⟨l.map U8,.agg [.str [],.int .i64 0,.str []],false,false⟩)]:=by
 refine A4p w252.hf w252.hc w252.hn w252.hr (by simp[ntmps252]) λE hP hR hl hid=>?_;refine A3 9 ?_;simp[w252];refine C0W (s:=0) (d:=3) (e:=4) (xs:=l.map U8) s_ d_ (λhx=>?_) ?_
 ·refine A3 10 ?_;simp;have hx:l=[]:=by simpa using hx
  subst hx;refine A6J (D9.voidSlot 2 (x:=.nils) (y:=.bsl (E.n0+4096) 0 0) s_ .nils (.agg [.str [],.int .i64 0,.str []])) ?_;refine A3 4000 ?_;simp;refine yE hR [(id,E.n0+4096)] s_ λhrn=>⟨?_,?_,?_,?_,?_,?_⟩<;>(try simp[I5 hid])
 ·refine A3 4000 ?_;simp;refine⟨⟨λa _=>by simp[U8],o_,o_⟩,?_⟩;refine yE hR [(id,E.n0+5120)] s_ λhrn=>⟨?_,?_,?_,?_,?_,?_⟩<;>(try simp[I5 hid])
def B3u(l:List Int)(id:Nat)(hl8:l.length<=1000000):A2 prog 183 [.sl (l.map eI)] [] id (.bsl id 0 l.length) [(id,some ⟨l.map eI,.int .i64 0,false,false⟩)]:=by
 refine A4p w183.hf w183.hc w183.hn w183.hr (by simp[ntmps183]) λE hP hR hl hid=>?_;refine A3 9 ?_;simp[w183];refine C0W (s:=0) (d:=3) (e:=4) (xs:=l.map eI) s_ d_ (λhx=>?_) ?_
 ·refine A3 10 ?_;simp;have hx:l=[]:=by simpa using hx
  subst hx;refine A6J (D9.voidSlot 2 (x:=.nils) (y:=.bsl (E.n0+4096) 0 0) s_ .nils (.int .i64 0)) ?_;refine A3 4000 ?_;simp;refine yE hR [(id,E.n0+4096)] s_ λhrn=>⟨?_,?_,?_,?_,?_,?_⟩<;>(try simp[I5 hid])
 ·refine A3 4000 ?_;simp;refine⟨⟨λa _=>by simp[eI],o_,o_⟩,?_⟩;refine yE hR [(id,E.n0+5120)] s_ λhrn=>⟨?_,?_,?_,?_,?_,?_⟩<;>(try simp[I5 hid])
def B0W(l:List Ty)(id:Nat)(hl8:l.length<=1000)(hf8:∀t∈l,t.fields.length<=1000):A2 prog 182 [.sl (l.map I9)] [] id (.sl (l.map I9)) []:=by
 refine w182.e.1 λE hP hR hl hid=>?_;simp[w182];refine B9 (X:=Nat) (λi=>⟨[(3,true,.bsl E.n0 0 i),(6,true,.sl (l.map I9)),(7,true,.int .i64 l.length),(8,true,.int .i64 i)],[(E.n0,some ⟨(l.map I9).take i,.agg [.str [],.nils],false,false⟩)],1⟩) (λi=>i<=l.length) (λi=>l.length - i) 0 ?_ o_ ?_
 ·refine D9.trans (D9.voidSlot 3 (x:=.nils) (y:=.bsl (E.n0+5120) 0 0) s_ .nils (.agg [.str [],.nils])) ?_;exact yW [(E.n0,E.n0+5120)] trivial
 ·rintro i hi p hp;refine A3 4000 ?_;simp;refine D0 (λh=>?_) (λh=>?_)
  ·have h:=zq h;obtain⟨x,hx,hd⟩:=A5 h;have hi1:IntKind.i64.wrap ((i:Int)+1)=((i+1:Nat):Int):=wrap64 o_;have hx6:=hf8 x (zg hx);have htk:(l.map I9).take (i+1)=(l.map I9).take i++[.agg [.str x.name,.sl (x.fields.map U8)]]:=(by rw[wi,yj,hx]; rfl);simp[hx,I9];refine⟨h,?_⟩;(refine yH rfl (B5d x.fields _ o_) ?_; simp);refine⟨⟨o_,o_,o_⟩,?_⟩;refine hp _ (i+1) o_ o_ ?_;refine yV [(E.n0,E.n0+13313)] s_ λhrn=>⟨?_,?_,?_,?_,?_⟩<;>(try simp[hi1,htk]);all_goals exact B4 rfl (by rw[←yt]; exact B3 (B3j _) s_)
  ·have h:=zo h;simp;have:l.take i=l:=zm o_;have hil:i=l.length:=o_;subst hil;have hrn:F7 []:=s_;rw[hR];refine J0 f_ (by simp<;>exact⟨rfl,rfl⟩) [] hrn ⟨?_,?_,?_,?_,?_,?_⟩<;>(try simp)
def zC:AV:=.agg [.int .i64 0,.str [],.nils]
def zT:AV:=.agg [.int .i64 0,.int .i64 0,.nils]
def eCo(t q k:Nat)(c:Cl):AV:=.agg [.int .i64 c.n,.str c.text,.bsl (t+16+16*q+k) 0 c.ids.length]
def n8(t q:Nat)(l:List Cl):Nat->List AV
 | 0=>[]
 | k+1=>match l[k]? with
  | some c=>n8 t q l k++[eCo t q k c]
  | none=>n8 t q l k
def eTo(t q:Nat)(x:Tg):AV:=.agg [.int .i64 x.type,.int .i64 x.id,.bsl (t+1+q) 0 x.cells.length]
def U9(t:Nat)(l:List Tg):Nat->List AV
 | 0=>[]
 | i+1=>match l[i]? with
  | some x=>U9 t l i++[eTo t i x]
  | none=>U9 t l i
def iBx(c:Cl):Bx:=⟨c.ids.map eI,.int .i64 0,false,false⟩
def cBx(t q:Nat)(x:Tg):Bx:=⟨n8 t q x.cells x.cells.length,zC,false,false⟩
def A1Y(t q:Nat)(l:List Cl):Nat->List (Nat×Option Bx)
 | 0=>[]
 | k+1=>match l[k]? with
  | some c=>(t+16+16*q+k,some (iBx c))::A1Y t q l k
  | none=>A1Y t q l k
def R6(t:Nat)(l:List Tg):Nat->List (Nat×Option Bx)
 | 0=>[]
 | i+1=>match l[i]? with
  | some x=>(t+1+i,some (cBx t i x))::(A1Y t i x.cells x.cells.length++R6 t l i)
  | none=>R6 t l i
def B0X(t q:Nat)(l:List Cl):∀k,k<=l.length->(n8 t q l k).length=k
 | 0,_=>rfl
 | k+1,h=>by
  rw[n8,zc o_];simp[B0X t q l k o_]
def B0Y(t:Nat)(l:List Tg):∀k,k<=l.length->(U9 t l k).length=k
 | 0,_=>rfl
 | k+1,h=>by
  rw[U9,zc o_];simp[B0Y t l k o_]
def x6{t q:Nat}{l:List Cl}:∀{k:Nat} {y:Nat} {b:Option Bx},(y,b)∈A1Y t q l k->∃m c,m<k/\l[m]?=some c/\y=t+16+16*q+m/\b=some (iBx c)
 | 0,y,b,h=>by cases h
 | k+1,y,b,h=>by
  rw[A1Y] at h;cases hc:l[k]? with
  | none =>
   rw[hc] at h;obtain⟨m,c,h1,h2⟩:=x6 h;exact⟨m,c,o_,h2⟩
  | some c =>
   rw[hc] at h;rcases zi.1 h with h|h
   ·injection h with h1 h2
    exact⟨k,c,o_,hc,h1,h2⟩
   ·obtain⟨m,c,h1,h2⟩:=x6 h;exact⟨m,c,o_,h2⟩
def A6X{t:Nat}{l:List Tg}:∀{i:Nat} {y:Nat} {b:Option Bx},(y,b)∈R6 t l i->∃j x,j<i/\l[j]?=some x/\((y=t+1+j/\b=some (cBx t j x))\/(y,b)∈A1Y t j x.cells x.cells.length)
 | 0,y,b,h=>by cases h
 | i+1,y,b,h=>by
  rw[R6] at h;cases hx:l[i]? with
  | none =>
   rw[hx] at h;obtain⟨j,x,h1,h2⟩:=A6X h;exact⟨j,x,o_,h2⟩
  | some x =>
   rw[hx] at h;rcases zi.1 h with h|h
   ·injection h with h1 h2
    exact⟨i,x,o_,hx,.inl ⟨h1,h2⟩⟩
   ·rcases zr.1 h with h|h
    ·exact⟨i,x,o_,hx,.inr h⟩
    ·obtain⟨j,x,h1,h2⟩:=A6X h;exact⟨j,x,o_,h2⟩
def B3v(S:Nat->Prop)(l:List Int):∀x∈l.map eI,B2 S x:=λx hx=>by
 obtain⟨n,_,rfl⟩:=zw.1 hx;exact H7 _ rfl
def A0a{t q:Nat}{l:List Cl}{S:Nat->Prop}:∀{k:Nat},(∀m,m<k->S (t+16+16*q+m))->∀x∈n8 t q l k,B2 S x
 | 0,_,x,h=>by cases h
 | k+1,hS,x,h=>by
  rw[n8] at h;cases hc:l[k]? with
  | none=>rw[hc] at h; exact A0a (λm hm=>hS m o_) x h
  | some c =>
   rw[hc] at h;rcases zr.1 h with h|h
   ·exact A0a (λm hm=>hS m o_) x h
   ·simp at h;subst h;simp only[eCo,B2,F4];exact⟨trivial,trivial,hS k o_,trivial⟩
def A0b{t:Nat}{l:List Tg}{S:Nat->Prop}:∀{i:Nat},(∀m,m<i->S (t+1+m))->∀x∈U9 t l i,B2 S x
 | 0,_,x,h=>by cases h
 | i+1,hS,x,h=>by
  rw[U9] at h;cases hc:l[i]? with
  | none=>rw[hc] at h; exact A0b (λm hm=>hS m o_) x h
  | some c =>
   rw[hc] at h;rcases zr.1 h with h|h
   ·exact A0b (λm hm=>hS m o_) x h
   ·simp at h;subst h;simp only[eTo,B2,F4];exact⟨trivial,trivial,hS i o_,trivial⟩
def A4y{t q:Nat}{l:List Cl}{S:Nat->Prop}(k:Nat)(hS:∀m,m<k->S (t+16+16*q+m)):A07 S (A1Y t q l k):=by
 induction k with
 | zero=>exact A07.nil _
 | succ k ih =>
  rw[A1Y];cases hc:l[k]? with
  | none=>exact ih λm hm=>hS m o_
  | some c =>
   refine (ih λm hm=>hS m o_).cons (hS k o_) (λp hp=>?_) (B3v _ _);obtain⟨y,b⟩:=p;obtain⟨m,c,h1,_,h2,_⟩:=x6 hp;simp only; omega
def A2U{t:Nat}{l:List Tg}(h6:∀x∈l,x.cells.length<=16){i:Nat}{y:Nat}{b:Option Bx}(h:(y,b)∈R6 t l i):(∃j,j<i/\y=t+1+j)\/∃j m,j<i/\m<16/\y=t+16+16*j+m:=by
 obtain⟨j,x,h1,h2,h3⟩:=A6X h;rcases h3 with⟨h3,_⟩|h3
 ·exact .inl ⟨j,h1,h3⟩
 ·obtain⟨m,c,h4,_,h5,_⟩:=x6 h3;have:=h6 x (zg h2);exact .inr ⟨j,m,h1,o_,h5⟩
def Y2{t:Nat}{l:List Tg}{S:Nat->Prop}(h6:∀x∈l,x.cells.length<=16)(i:Nat)(hi:i<=12)(hS1:∀j,j<i->S (t+1+j))(hS2:∀j m,j<i->m<16->S (t+16+16*j+m)):A07 S (R6 t l i):=by
 induction i with
 | zero=>exact A07.nil _
 | succ i ih =>
  rw[R6];have ih:=ih o_ (λj hj=>hS1 j o_) λj m hj hm=>hS2 j m o_ hm;cases hx:l[i]? with
  | none=>exact ih
  | some x =>
   have hx6:=h6 x (zg hx);have ha:A07 S (A1Y t i x.cells x.cells.length++R6 t l i):=(A4y _ λm hm=>hS2 i m o_ o_).append ih λp hp p' hp' e=>by
    obtain⟨y,b⟩:=p;obtain⟨y',b'⟩:=p';simp only at e;subst e;obtain⟨m,c,h1,_,h2,_⟩:=x6 hp;rcases A2U h6 hp' with⟨j,h3,h4⟩|⟨j,m',h3,h4,h5⟩<;>omega
   refine ha.cons (hS1 i o_) (λp hp=>?_) (A0a λm hm=>hS2 i m o_ o_);obtain⟨y,b⟩:=p;rcases zr.1 hp with hp|hp
   ·obtain⟨m,c,h1,_,h2,_⟩:=x6 hp;simp only; omega
   ·rcases A2U h6 hp with⟨j,h3,h4⟩|⟨j,m',h3,h4,h5⟩<;>(simp only; omega)
def A2L.of{R:Rn}{S:Nat->Prop}{bx':List (Nat×Option Bx)}{fin:Nat->Option Bx}:∀{l:List Nat},(∀y∈l,∀b',fin y=some b'->∃x b,R.ρ y=some x/\Am.bk bx' x=some b/\BxR R S b b')->A2L R S bx' fin l
 | [],_=>trivial
 | y::l,h=>by
  refine⟨?_,A2L.of λz hz=>h z (zb _ hz)⟩;cases hf:fin y with
  | none=>trivial
  | some b'=>exact h y (za ..) b' hf
def A1K{B:Nat->Option Bx}:∀{wr:List (Nat×Option Bx)} {y:Nat},(∀q∈wr,q.1≠y)->F6 B wr y=B y
 | [],_,_=>rfl
 | (z,b)::l,y,h=>by
  rw[F6,A1K λq hq=>h q (zb _ hq)];exact B6 _ _ _ (λe=>h (z,b) (za ..) e.symm)
def B3w{B:Nat->Option Bx}:∀{wr:List (Nat×Option Bx)} {y:Nat} {b:Option Bx},(wr.map Prod.fst).Nodup->(y,b)∈wr->F6 B wr y=b
 | [],_,_,_,h=>by cases h
 | (z,c)::l,y,b,hn,h=>by
  rw[yg,xd] at hn;rw[F6];rcases zi.1 h with e|h
  ·injection e with e1 e2
   subst e1 e2;rw[A1K λq hq e=>hn.1 (zw.2 ⟨q,hq,e⟩),C7]
  ·exact B3w hn.2 h
def B0Z{B:Nat->Option Bx}:∀{wr:List (Nat×Option Bx)} {y:Nat} {b:Bx},F6 B wr y=some b->(y,some b)∈wr\/B y=some b
 | [],y,b,h=>.inr h
 | (z,c)::l,y,b,h=>by
  rw[F6] at h;rcases B0Z h with h|h
  ·exact .inl (zb _ h)
  ·by_cases e:y=z
   ·subst e;rw[C7] at h;subst h;exact .inl (za ..)
   ·rw[B6 _ _ _ e] at h;exact .inr h
def B0a{id:Nat}{rd:List (Nat×Option Bx)}:∀{l:List (Nat×Option Bx)},(∀q∈l,K6 q.1 rd\/(id<=q.1/\q.1<id+1024))->A4o id rd l
 | [],_=>trivial
 | (y,b)::l,h=>⟨h _ (za ..),B0a λq hq=>h q (zb _ hq)⟩
def B6x(R:Rn)(t t':Nat):Prop:=∀o,1<=o->o<1000->R.ρ (t'+o)=some (t+o)
def A6Y{R:Rn}{S:Nat->Prop}{t t' q:Nat}{l:List Cl}(h:B6x R t t')(hq:q<12):∀k,k<=16->N8 R S (n8 t q l k) (n8 t' q l k)
 | 0,_=>.nil
 | k+1,hk=>by
  rw[n8,n8];cases hc:l[k]? with
  | none=>exact A6Y h hq k o_
  | some c =>
   refine v6 (A6Y h hq k o_) (.cons _ _ _ _ (.agg _ _ ?_) .nil);refine .cons _ _ _ _ (.same _ trivial) (.cons _ _ _ _ (.same _ trivial) (.cons _ _ _ _ (.bsl _ _ _ _ ?_) .nil));have:=h (16+16*q+k) o_ o_;rw[show t'+16+16*q+k=t'+(16+16*q+k) by omega,show t+16+16*q+k=t+(16+16*q+k) by omega];exact this
def A6Z{R:Rn}{S:Nat->Prop}{t t':Nat}{l:List Tg}(h:B6x R t t'):∀i,i<=12->N8 R S (U9 t l i) (U9 t' l i)
 | 0,_=>.nil
 | i+1,hi=>by
  rw[U9,U9];cases hc:l[i]? with
  | none=>exact A6Z h i o_
  | some x =>
   refine v6 (A6Z h i o_) (.cons _ _ _ _ (.agg _ _ ?_) .nil);refine .cons _ _ _ _ (.same _ trivial) (.cons _ _ _ _ (.same _ trivial) (.cons _ _ _ _ (.bsl _ _ _ _ ?_) .nil));have:=h (1+i) o_ o_;rw[show t'+1+i=t'+(1+i) by omega,show t+1+i=t+(1+i) by omega];exact this
def A8q{t t' q:Nat}{l:List Cl}:∀{k:Nat} {o:Nat} {b:Option Bx},(t'+o,b)∈A1Y t' q l k->(t+o,b)∈A1Y t q l k
 | 0,o,b,h=>by cases h
 | k+1,o,b,h=>by
  rw[A1Y] at h ⊢;cases hc:l[k]? with
  | none=>rw[hc] at h; exact A8q h
  | some c =>
   rw[hc] at h;rcases zi.1 h with h|h
   ·injection h with h1 h2
    subst h2;have:o=16+16*q+k:=by omega
    subst this;rw[show t+(16+16*q+k)=t+16+16*q+k by omega];exact za ..
   ·exact zb _ (A8q h)
def A6a{R:Rn}{S:Nat->Prop}{t t':Nat}{l:List Tg}(h6:∀x∈l,x.cells.length<=16)(hR:B6x R t t'):∀{i:Nat} {y:Nat} {b:Bx},i<=12->(y,some b)∈R6 t' l i->∃o b0,1<=o/\o<1000/\y=t'+o/\(t+o,some b0)∈R6 t l i/\BxR R S b0 b
 | 0,y,b,_,h=>by cases h
 | i+1,y,b,hi,h=>by
  rw[R6] at h;rw[R6];cases hc:l[i]? with
  | none=>rw[hc] at h; exact A6a h6 hR o_ h
  | some x =>
   have hx6:=h6 x (zg hc);rw[hc] at h;rcases zi.1 h with h|h
   ·injection h with h1 h2
    injection h2 with h2
    subst h1 h2;refine⟨1+i,cBx t i x,o_,o_,o_,?_,⟨A6Y hR o_ _ hx6,rfl,rfl,rfl⟩⟩;rw[show t+(1+i)=t+1+i by omega];exact za ..
   ·rcases zr.1 h with h|h
    ·obtain⟨m,c,h1,h2,h3,h4⟩:=x6 h;injection h4 with h4
     subst h4 h3;refine⟨16+16*i+m,iBx c,o_,o_,o_,zb _ (yq _ ?_),⟨B4 rfl (A1J _),rfl,rfl,rfl⟩⟩;exact A8q (t':=t') (by rw[show t'+(16+16*i+m)=t'+16+16*i+m by omega]; exact h)
    ·obtain⟨o,b0,q1,q2,q3,q4,q5⟩:=A6a h6 hR o_ h;exact⟨o,b0,q1,q2,q3,zb _ (ye _ q4),q5⟩
def A0F(id a:Nat):Nat->List (Nat×Nat)
 | 0=>[]
 | n+1=>(id+(n+1),a+(n+1))::A0F id a n
def A4z{id a:Nat}:∀{n:Nat} {q:Nat×Nat},q∈A0F id a n->∃o,1<=o/\o<=n/\q=(id+o,a+o)
 | 0,q,h=>by cases h
 | n+1,q,h=>by
  rw[A0F] at h;rcases zi.1 h with h|h
  ·exact⟨n+1,o_,o_,h⟩
  ·obtain⟨o,h1,h2,h3⟩:=A4z h;exact⟨o,h1,o_,h3⟩
def A3k{id a b:Nat}:∀{n:Nat},(∀o,1<=o->o<=n->b≠a+o)->T7 (A0F id a n) b=false
 | 0,_=>rfl
 | n+1,h=>by
  rw[A0F,T7,zf (h (n+1) o_ o_)];exact A3k λo h1 h2=>h o h1 o_
def B0b{id a:Nat}:∀n,F7 (A0F id a n)
 | 0=>trivial
 | n+1=>⟨A3k λo h1 h2=>o_,B0b n⟩
def B0c{id a o:Nat}:∀{n:Nat},1<=o->o<=n->lkN (A0F id a n) (id+o)=some (a+o)
 | 0,h1,h2=>by omega
 | n+1,h1,h2=>by
  rw[A0F,lkN];by_cases e:o=n+1
  ·subst e; simp
  ·rw[zf o_];exact B0c h1 o_
def B3x{a b:Nat}:∀{l:List (Nat×Nat)},(∀q∈l,a<=q.1/\q.1<b)->A4a a b l
 | [],_=>trivial
 | (y,z)::l,h=>⟨h _ (za ..),B3x λq hq=>h q (zb _ hq)⟩
def B0d{n0:Nat}{bx':List (Nat×Option Bx)}:∀{l:List (Nat×Nat)},(∀q∈l,n0<=q.2)->A25 n0 bx' l
 | [],_=>trivial
 | (y,z)::l,h=>⟨.inl (h _ (za ..)),B0d λq hq=>h q (zb _ hq)⟩
end Go.Am
