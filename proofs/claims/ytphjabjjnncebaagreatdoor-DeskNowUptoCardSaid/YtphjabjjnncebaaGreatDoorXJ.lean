/- Parts of the proof: an abstract machine for Go functions, and what functions of the program give back (St2, St3, St4, CcV, Vl1, Vl2, Vl3, Vl4, Vl5, Vl6, St0, St5, Ow1, Ow2). No condition. -/
import Derived.Test.YtphjabjjnncebaaGreatDoorXI
import Derived.Test.YtphjabjjnncebaaGreatDoorXG
import Derived.Test.YtphjabjjnncebaaGreatDoorXH
import Derived.Test.YtphjabjjnncebaaGreatDoorXF
set_option maxRecDepth 100000
set_option linter.all false
set_option maxHeartbeats 2000000
namespace Go.Am
open Go Go.Proofs Go.RowKit Go.Proofs.Tryz
def B04(s:H7)(kind tid:Int)(id:Nat)(hl8:s.things.length<1000000):A2 prog 71 [H4 s,.int .i64 kind,.int .i64 tid] [] id (.tup [.int .i64 (C3 s.things kind tid),.bool (F4 s.things kind tid)]) []:=by
 unfold H4;refine w71.e.1 λE hP hR hl hid=>?_;simp[w71];(refine yH rfl (B1H s.things kind tid _ hl8) ?_; simp);exact yP hR
def A4g:List Int->Bool
 | a::b::r=>decide (a<b)&&A4g (b::r)
 | _=>true
def B7p{l:List Int}{i:Nat}{a b:Int}(h1:l[i]?=some a)(h2:l[i+1]?=some b):A4g (l.drop i)=(decide (a<b)&&A4g (l.drop (i+1))):=by
 have e1:l.drop i=a::l.drop (i+1):=by
  have hi:=(ze.1 h1).1;obtain⟨x,hx,hd⟩:=A8 hi;rw[h1] at hx; injection hx with hx; subst hx; exact hd
 have e2:l.drop (i+1)=b::l.drop (i+2):=by
  have hi:=(ze.1 h2).1;obtain⟨x,hx,hd⟩:=A8 hi;rw[h2] at hx; injection hx with hx; subst hx; exact hd
 rw[e1,e2]; rfl
def C08{l:List Int}{i:Nat}(h:l.length<=i+1):A4g (l.drop i)=true:=by
 have:(l.drop i).length<=1:=by simp; omega
 match hm:l.drop i,this with
 | [],_=>rfl
 | [a],_=>rfl
def A5K(k:Int):Int:=if k=3 then 1 else 6
def A2G(f:Fd)(c:Cl):Int :=
 if (f.kind≠1/\c.n≠0)\/(f.kind≠2/\c.text≠[])\/(c7 f.kind=false/\c.ids≠[]) then 1
 else if ¬(-999999999<=c.n/\c.n<=999999999) then 3
 else if 40<c.text.length\/A5K f.kind<c.ids.length then 2
 else if A4g c.ids=true then 0 else 4
def C3C(f:Fd)(c:Cl)(id:Nat):A2 prog 130 [T5 f,eCl c] [] id (.int .i64 (A2G f c)) []:=by
 unfold T5 eCl;refine w130.e.1 λE hP hR hl hid=>?_;simp[w130];refine D4 (λh3=>?_) (λh3=>?_)<;>simp;all_goals repeat' first
  | (refine And.intro ?_ ?_)
  | (refine D4 (λh=>?_) (λh=>?_)<;>simp)
  | (refine yH rfl (A8N _ _) ?_; simp)
  | (refine yH rfl (Q8 _ _) ?_; simp)
 all_goals first
  | (rw[hR]; refine E6 f_ [] trivial (S4 ?_ s_ s_); simp[A2G,c7,A5K] at *; first|done|grind)
  | (exfalso; simp_all; done)
  | skip
 all_goals
  have h6:c.ids.length<=6:=by simp at *; omega
  have hf:A2G f c=if A4g c.ids=true then 0 else 4:=by
   simp[c7] at *;unfold A2G;rw[zf (by simp[c7]; grind),zf o_,zf (by simp[A5K]; grind)]
  rw[hf] at hR;refine C1 (X:=Nat) (λi=>⟨[(3,true,.ptr (E.n0+1024) 0 0),(6,true,.int .i64 (i+1))],[(E.n0+1024,some ⟨[.agg [.int .i64 c.n,.str c.text,.sl (c.ids.map eI)]],.agg [.int .i64 c.n,.str c.text,.sl (c.ids.map eI)],false,false⟩)],1025⟩) (λi=>i<=c.ids.length/\A4g (c.ids.drop i)=A4g c.ids) (λi=>c.ids.length - i) 0 ?_ ⟨o_,rfl⟩ ?_
  ·exact yW [(E.n0+1024,E.n0+1024)] trivial
  ·rintro i ⟨hi,ha⟩ p hp;have hw1:IntKind.i64.wrap (i:Int)=(i:Int):=wrap64 o_;have hw2:IntKind.i64.wrap ((i:Int)+1+1)=((i+1:Nat):Int)+1:=(by rw[wrap64 o_]; omega);have hw3:(0:Int)<=(i:Int)+1:=o_;have hw4:((i:Int)+1).toNat=i+1:=o_;refine A3 4000 ?_;simp;refine D4 (λh=>?_) (λh=>?_)
   ·have h:=zr h;obtain⟨a,hx⟩:∃a,c.ids[i]?=some a:=⟨_,zc o_⟩;obtain⟨b,hy⟩:∃b,c.ids[i+1]?=some b:=⟨_,zc o_⟩;have hst:=B7p hx hy;simp[hw1,hw3,hw4,hx,hy,eI];refine⟨o_,o_,?_⟩;refine D4 (λh1=>?_) (λh1=>?_)<;>simp
    ·exact yP hR (h1:=by simp; simp at h1; rw[←ha,hst]; simp; intro h2; omega)
    ·simp at h1;rw[hst] at ha;refine hp _ (i+1) ⟨o_,by rw[←ha]; simp; intro _; exact h1⟩ o_ ?_;exact yW [(E.n0+1024,E.n0+1024)] hw2
   ·have h:=zq h;have:A4g c.ids=true:=by rw[←ha]; exact C08 o_
    simp;exact yP hR (h1:=by simp; exact this)
def D7(l:List Ty)(k:Int):List Fd:=((l[k.toNat]?).map Ty.fields).getD []
def A0B(fs:List Fd)(k:Nat)(c:Cl):Int:=match fs[k]? with
 | some f=>A2G f c
 | none=>0
def c8(l:List Ty)(t:Tg):Int :=
 if ¬(0<=t.type/\t.type<l.length) then 5 else if ¬(1<=t.id/\t.id<=999) then 3
 else if t.cells.length≠(D7 l t.type).length then 1 else D0 (λk c=>A0B (D7 l t.type) k c) t.cells 0
def C09(s:H7)(t:Tg)(id:Nat)(h5:s.types.length<=5)(h6:t.cells.length<=1000000\/∀x∈s.types,x.fields.length<=6):A2 prog 66 [H4 s,W3 t] [] id (.int .i64 (c8 s.types t)) []:=by
 rw[A3Q t];unfold H4;have hw:IntKind.i64.wrap ((s.types.length:Int) - 1)=(s.types.length:Int) - 1:=wrap64 o_;refine w66.e.1 λE hP hR hl hid=>?_;simp[w66,hw];(refine yH rfl (F6 _ _ _ _) ?_; simp);refine D4 (λh=>?_) (λh=>?_)<;>simp
 ·exact yP hR (h1:=by simp; simp at h; unfold c8; rw[zj o_])
 have h1:¬¬(0<=t.type/\t.type<s.types.length):=by simp at h; omega
 (refine yH rfl (F6 _ _ _ _) ?_; simp);refine D4 (λh=>?_) (λh=>?_)<;>simp
 ·exact yP hR (h1:=by simp; simp at h; unfold c8; rw[zf h1,zj o_])
 have h2:¬¬(1<=t.id/\t.id<=999):=by simp at h; omega
 obtain⟨ty,hty⟩:∃ty,s.types[t.type.toNat]?=some ty:=⟨_,zc o_⟩;have hfl:D7 s.types t.type=ty.fields:=by simp[D7,hty]
 have hr1:0<=t.type:=by omega
 have hr2:t.type.toNat<s.types.length:=by omega
 simp[hty,I7];refine⟨⟨hr1,hr2⟩,?_⟩;refine D4 (λh=>?_) (λh=>?_)<;>simp
 ·exact yP hR (h1:=by simp; simp at h; unfold c8; rw[zf h1,zf h2,hfl,zj o_])
 have h3:t.cells.length=ty.fields.length:=by simp at h; omega
 have hft:c8 s.types t=D0 (λk c=>A0B ty.fields k c) t.cells 0:=by unfold c8; rw[zf h1,zf h2,hfl,zf o_]
 rw[hft] at hR;have h7:t.cells.length<=1000000:=by
  rcases h6 with h6|h6
  ·exact h6
  ·have:=h6 ty (zg hty); omega
 refine C1 (X:=Nat) (λk=>⟨[(2,true,.ptr E.n0 0 0),(3,true,.ptr (E.n0+1024) 0 0),(36,true,.sl (t.cells.map eCl)),(37,true,.int .i64 t.cells.length),(38,true,.int .i64 k)],[(E.n0,some ⟨[.agg [.sl (s.types.map I7),.sl (s.things.map W3)]],.agg [.sl (s.types.map I7),.sl (s.things.map W3)],false,false⟩),(E.n0+1024,some ⟨[.agg [.int .i64 t.type,.int .i64 t.id,.sl (t.cells.map eCl)]],.agg [.int .i64 t.type,.int .i64 t.id,.sl (t.cells.map eCl)],false,false⟩)],1025⟩) (λk=>k<=t.cells.length/\D0 (λk c=>A0B ty.fields k c) (t.cells.drop k) k=D0 (λk c=>A0B ty.fields k c) t.cells 0) (λk=>t.cells.length - k) 0 ?_ ⟨o_,rfl⟩ ?_
 ·exact yW [(E.n0,E.n0),(E.n0+1024,E.n0+1024)] trivial
 ·rintro k ⟨hk,hf⟩ p hp;refine A3 4000 ?_;simp;refine D4 (λh=>?_) (λh=>?_)
  ·have h:=zr h;obtain⟨x,hx,hd⟩:=A8 h;obtain⟨f,hfx⟩:∃f,ty.fields[k]?=some f:=⟨_,zc o_⟩;rw[hd] at hf;simp only[D0] at hf;have hca:A0B ty.fields k x=A2G f x:=(by simp only[A0B,hfx]);rw[hca] at hf;have hi1:IntKind.i64.wrap ((k:Int)+1)=((k+1:Nat):Int):=wrap64 o_;simp[hx,B1G x,hty,I7,hfx,T5];have hcx:=λid=>C3C f x id;simp only[T5,B1G x] at hcx;refine⟨h,⟨hr1,hr2⟩,o_,?_⟩;(refine yH rfl (hcx _) ?_; simp);refine D4 (λh1=>?_) (λh1=>?_)
   ·simp;rw[zj (v_ h1)] at hf;exact yP hR (h1:=by simp; exact hf)
   ·simp;rw[zf (v_ h1)] at hf;refine hp _ (k+1) ⟨h,hf⟩ o_ ?_;exact yW [(E.n0,E.n0),(E.n0+1024,E.n0+1024)] hi1
  ·have h:=zq h;simp;rw[zo o_] at hf;exact yP hR (h1:=by simp; exact hf)
def B05(s:H7):(H4 s).pureB=true:=by simp[H4]
@[simp] theorem C0A (R:Rn) (S:Nat->Prop) (f:Fd):O9 R S (T5 f) (T5 f):=L2 rfl (B31 f)
@[simp] theorem C80 (R:Rn) (S:Nat->Prop) (s:H7):O9 R S (H4 s) (H4 s):=L2 rfl (B05 s)
@[simp] theorem C8D (R:Rn) (S:Nat->Prop) (t:Tg):O9 R S (W3 t) (W3 t):=L2 rfl (A5J t)
def B7(l:List Ty)(n:List UInt8):Int:=B9 (λt=>t.name==n) l 0
def K7(s:H7)(f:Fd)(x:Int):Bool:=F4 s.things (B7 s.types f.of) x
theorem A0C(l:List Ty)(n:List UInt8):B9 (λt=>t.name==n) l 0=B7 l n:=rfl
def B4n(x:Int)(s:H7)(f:Fd)(js jf:Nat)(id:Nat)(h5:s.types.length<=5)(h12:s.things.length<=12)(d1:js≠jf):A2 prog 70 [.int .i64 x,.ptr js 0 0,.ptr jf 0 0] [(js,⟨[H4 s],H4 s,false,false⟩),(jf,⟨[T5 f],T5 f,false,false⟩)] id (.bool (!K7 s f x)) []:=by
 have hF:=B04 s (B7 s.types f.of) x;unfold H4 T5 at *;refine w70.e.1 λE hP hR hl hid=>?_;simp[w70];have hjs:=hl (js,_) (za ..);simp only at hjs;have js1:=lf hjs;have hjf:=hl (jf,_) (zb _ (za ..));simp only at hjf;have jf1:=lf hjf;try simp[js1,jf1,d1,d1.symm]
 (refine yC rfl (m8 s.types f.of _ o_) ?_; simp[js1,jf1,d1,d1.symm,A0C]);(refine yC rfl (hF _ o_) ?_; simp[js1,jf1,d1,d1.symm,K7]);refine yE hR [] (by simp[js1,jf1,d1,d1.symm,K7,A4 hid]) λhrn=>⟨?_,?_,?_,?_,?_,?_⟩<;>(try simp[js1,jf1,d1,d1.symm,K7,A4 hid])
def B36(l:List Int)(s:H7)(f:Fd)(js jf:Nat)(id:Nat)(h5:s.types.length<=5)(h12:s.things.length<=12)(d1:js≠jf)(hl8:l.length<9223372036854775807):A2 prog 131 [.sl (l.map eI),.fn 70 [.ptr js 0 0,.ptr jf 0 0]] [(js,⟨[H4 s],H4 s,false,false⟩),(jf,⟨[T5 f],T5 f,false,false⟩)] id (.int .i64 (B9 (λx=>!K7 s f x) l 0)) []:=by
 refine w131.e.1 λE hP hR hl hid=>?_;simp[w131];have hjs:=hl (js,_) (za ..);simp only at hjs;have js1:=lf hjs;have hjf:=hl (jf,_) (zb _ (za ..));simp only at hjf;have jf1:=lf hjf;refine C1 (X:=Nat) (λi=>⟨[(0,true,.sl (l.map eI)),(1,true,.fn 70 [.ptr js 0 0,.ptr jf 0 0]),(7,true,.int .i64 l.length),(8,true,.int .i64 i)],[(js,some (⟨[H4 s],H4 s,false,false⟩)),(jf,some (⟨[T5 f],T5 f,false,false⟩))],0⟩) (λi=>i<=l.length/\B9 (λx=>!K7 s f x) (l.drop i) i=B9 (λx=>!K7 s f x) l 0) (λi=>l.length - i) 0 ?_ ⟨o_,rfl⟩ ?_
 ·exact yW [] (a_ js1 (a_ jf1 (a_ d1 d1.symm)))
 ·rintro i ⟨hi,hf⟩ p hp;refine A3 4000 ?_;simp;refine D4 (λh=>?_) (λh=>?_)
  ·have h:=zr h;obtain⟨x,hx,hd⟩:=A8 h;have hcl:=B4n x s f js jf;rw[hd] at hf;simp only[B9] at hf;have hi1:IntKind.i64.wrap ((i:Int)+1)=((i+1:Nat):Int):=wrap64 o_;simp[hx,eI];refine⟨h,?_⟩;refine F9 hP rfl rfl (hcl _ h5 h12 d1) s_ (by simp[js1,jf1,d1,d1.symm]<;>rfl) ?_;refine A3 4000 ?_;simp[js1,jf1,d1,d1.symm];refine D4 (λh1=>?_) (λh1=>?_)
   ·simp[js1,jf1,d1,d1.symm];rw[zj h1] at hf;rw[←hf] at hR;refine yE hR [] (by simp[js1,jf1,d1,d1.symm,B9,A4 hid]) λhrn=>⟨?_,?_,?_,?_,?_,?_⟩<;>(try simp[js1,jf1,d1,d1.symm,B9,A4 hid])
   ·simp[js1,jf1,d1,d1.symm];rw[zf (v_ h1)] at hf;refine hp _ (i+1) ⟨h,hf⟩ o_ ?_;exact yW [] (a_ hi1 (a_ js1 (a_ jf1 (a_ d1 d1.symm))))
  ·have h:=zq h;simp;rw[zo o_] at hf;rw[←hf] at hR;refine yE hR [] (by simp[js1,jf1,d1,d1.symm,B9,A4 hid]) λhrn=>⟨?_,?_,?_,?_,?_,?_⟩<;>(try simp[js1,jf1,d1,d1.symm,B9,A4 hid])
def B4o(l:List Int)(s:H7)(f:Fd)(js jf:Nat)(id:Nat)(h5:s.types.length<=5)(h12:s.things.length<=12)(d1:js≠jf)(hl8:l.length<9223372036854775807):A2 prog 69 [.sl (l.map eI),.fn 70 [.ptr js 0 0,.ptr jf 0 0]] [(js,⟨[H4 s],H4 s,false,false⟩),(jf,⟨[T5 f],T5 f,false,false⟩)] id (.bool (l.any λx=>!K7 s f x)) []:=by
 refine w69.e.1 λE hP hR hl hid=>?_;simp[w69];have hjs:=hl (js,_) (za ..);simp only at hjs;have js1:=lf hjs;have hjf:=hl (jf,_) (zb _ (za ..));simp only at hjf;have jf1:=lf hjf;try simp[js1,jf1,d1,d1.symm]
 (refine yC rfl (B36 l s f js jf _ h5 h12 d1 hl8) ?_; simp[js1,jf1,d1,d1.symm]);have hj:=V2 (λx=>!K7 s f x) l 0;simp[hj];exact yF hR [] (a_ js1 (a_ jf1 (a_ d1 (a_ d1.symm (A4 hid)))))
def B7q(f:Fd)(c:Cl)(s:H7)(js:Nat)(id:Nat)(h5:s.types.length<=5)(h12:s.things.length<=12)(hl8:c.ids.length<9223372036854775807):A2 prog 68 [T5 f,.cptr [.int .i64 c.n,.str c.text,.sl (c.ids.map eI)],.ptr js 0 0] [(js,⟨[H4 s],H4 s,false,false⟩)] id (.bool (!c.ids.any λx=>!K7 s f x)) []:=by
 refine w68.e.1 λE hP hR hl hid=>?_;simp[w68];have hjs:=hl (js,_) (za ..);simp only at hjs;have js1:=lf hjs;try simp[js1]
 have hne:js≠E.n0:=by omega
 (refine yC rfl (B4o c.ids s f js E.n0 _ h5 h12 hne hl8) ?_; simp[js1]);exact yF hR [] (a_ js1 (A4 hid))
def A1Q(p:Fd->Cl->Bool):List Fd->List Cl->Bool
 | f::fs,c::cs=>p f c&&A1Q p fs cs
 | _,_=>true
def T7(p:Fd->Cl->Bool)(l:List Ty)(ts:List Tg):Bool:=ts.all λt=>A1Q p (D7 l t.type) t.cells
def B6A(s:H7)(g j:Nat)(y:AV)(p:Fd->Cl->Bool)(hy:y.pureB=true)
  (hcl:∀f c id,c.ids.length<=6->A2 prog g [T5 f,.cptr [.int .i64 c.n,.str c.text,.sl (c.ids.map eI)],.ptr j 0 0] [(j,⟨[y],y,false,false⟩)] id (.bool (p f c)) [])
  (hok:∀t∈s.things,0<=t.type/\t.type.toNat<s.types.length/\t.cells.length=(D7 s.types t.type).length/\t.cells.length<=1000000/\∀c∈t.cells,c.ids.length<=6) (h12:s.things.length<=1000000) (id:Nat) :
  A2 prog 73 [H4 s,.fn g [.ptr j 0 0]] [(j,⟨[y],y,false,false⟩)] id (.bool (T7 p s.types s.things)) []:=by
 have hr:∀R S,O9 R S y y:=λR S=>L2 rfl hy;have hn:∀S,B2 S y:=λS=>I3 _ hy;unfold H4;refine w73.e.1 λE hP hR hl hid=>?_;simp[w73];have hj:=hl (j,_) (za ..);simp only at hj;have j1:=lf hj;refine C1 (X:=Nat) (λi=>⟨[(1,true,.fn g [.ptr j 0 0]),(2,true,.ptr E.n0 0 0),(9,true,.sl (s.things.map W3)),(10,true,.int .i64 s.things.length),(11,true,.int .i64 i)],[(j,some ⟨[y],y,false,false⟩),(E.n0,some ⟨[.agg [.sl (s.types.map I7),.sl (s.things.map W3)]],.agg [.sl (s.types.map I7),.sl (s.things.map W3)],false,false⟩)],1⟩) (λi=>i<=s.things.length/\T7 p s.types (s.things.drop i)=T7 p s.types s.things) (λi=>s.things.length - i) 0 ?_ ⟨o_,rfl⟩ ?_
 ·exact yW [(E.n0,E.n0)] (a_ j1 (a_ hr hn))
 ·rintro i ⟨hi,hf⟩ q hq;refine A3 4000 ?_;simp;refine D4 (λh=>?_) (λh=>?_)
  ·have h:=zr h;obtain⟨t,hx,hd⟩:=A8 h;have hi1:IntKind.i64.wrap ((i:Int)+1)=((i+1:Nat):Int):=wrap64 o_;obtain⟨k1,k2,k3,k4,k5⟩:=hok t (zg hx);obtain⟨ty,hty⟩:∃ty,s.types[t.type.toNat]?=some ty:=⟨_,zc k2⟩;have hfl:D7 s.types t.type=ty.fields:=(by simp[D7,hty]);rw[hd,T7,List.all_cons,hfl] at hf;rw[hfl] at k3;simp[hx,A3Q t,j1];refine⟨h,?_⟩;refine C1 (X:=Nat) (λk=>⟨[(1,true,.fn g [.ptr j 0 0]),(2,true,.ptr E.n0 0 0),(6,true,.ptr (E.n0+1) 0 0),(9,true,.sl (s.things.map W3)),(10,true,.int .i64 s.things.length),(11,true,.int .i64 i),(16,true,.sl (t.cells.map eCl)),(17,true,.int .i64 t.cells.length),(18,true,.int .i64 k)],[(j,some ⟨[y],y,false,false⟩),(E.n0,some ⟨[.agg [.sl (s.types.map I7),.sl (s.things.map W3)]],.agg [.sl (s.types.map I7),.sl (s.things.map W3)],false,false⟩),(E.n0+1,some ⟨[.agg [.int .i64 t.type,.int .i64 t.id,.sl (t.cells.map eCl)]],.agg [.int .i64 0,.int .i64 0,.nils],false,false⟩)],2⟩) (λk=>k<=t.cells.length/\A1Q p (ty.fields.drop k) (t.cells.drop k)=A1Q p ty.fields t.cells) (λk=>t.cells.length - k) 0 ?_ ⟨o_,rfl⟩ ?_
   ·exact yW [(E.n0,E.n0),(E.n0+1,E.n0+3073)] (a_ j1 (a_ hr hn))
   ·rintro k ⟨hk,hf2⟩ q2 hq2;refine A3 4000 ?_;simp;refine D4 (λh=>?_) (λh=>?_)
    ·have h:=zr h;obtain⟨c,hcx,hcd⟩:=A8 h;obtain⟨f,hfx,hfd⟩:=A8 (l:=ty.fields) (i:=k) o_;have hi2:IntKind.i64.wrap ((k:Int)+1)=((k+1:Nat):Int):=wrap64 o_;rw[hcd,hfd,A1Q] at hf2;have hfc:=λid=>hcl f c id (k5 c (zg hcx));simp only[T5] at hfc;simp[hcx,hfx,B1G c,hty,I7,T5,j1];refine⟨⟨k1,k2⟩,o_,h,?_⟩;refine F9 hP rfl rfl (hfc _) s_ (by simp[j1]<;>rfl) ?_;refine A3 4000 ?_;simp;refine D4 (λh1=>?_) (λh1=>?_)
     ·have h1:p f c=false:=(v_ h1);rw[h1,se] at hf2;rw[←hf2,se] at hf;rw[←hf] at hR;simp;exact yF hR [] (a_ j1 (a_ hr (a_ hn (A4 hid))))
     ·have h1:p f c=true:=(v_ h1);rw[h1,tr] at hf2;simp;refine hq2 _ (k+1) ⟨h,hf2⟩ o_ ?_;exact yW [(E.n0,E.n0),(E.n0+1,E.n0+1)] (a_ hi2 (a_ j1 (a_ hr hn)))
    ·have h:=zq h;rw[zo (l:=t.cells) o_] at hf2;have hb:A1Q p ty.fields t.cells=true:=(by rw[←hf2]; cases ty.fields.drop k<;>rfl);rw[hb,tr] at hf;simp;refine hq _ (i+1) ⟨o_,hf⟩ o_ ?_;exact yW [(E.n0,E.n0)] (a_ hi1 (a_ j1 (a_ hr hn)))
  ·have h:=zq h;simp;rw[zo o_] at hf;have:T7 p s.types s.things=true:=by rw[←hf]; rfl
   rw[this] at hR;exact yF hR [] (a_ j1 (a_ hr (a_ hn (A4 hid))))
end Go.Am
namespace Go.Am
end Go.Am
namespace Go.Am
open Go Go.Proofs Go.RowKit Go.Proofs.Tryz
structure Ag where
 name:List UInt8
 isText:Bool
 text:List UInt8
 n:Int
def q9(a:Ag):AV:=.agg [.str a.name,.bool a.isText,.str a.text,.int .i64 a.n]
theorem U3(a:Ag):q9 a = .agg [.str a.name,.bool a.isText,.str a.text,.int .i64 a.n]:=rfl
theorem C0B(f:Ag):(q9 f).pureB=true:=rfl
@[simp] theorem A3S (l:List Ag):F1 (l.map q9)=true:=E4 C0B l
@[simp] theorem C6Y (S:Nat->Prop) (l:List Ag):E8 S (l.map q9):=A5 _ (A3S l)
@[simp] theorem C81 (R:Rn) (S:Nat->Prop) (l:List Ag):N8 R S (l.map q9) (l.map q9):=B4 rfl (A3S l)
inductive C4 where
 | mk (alias name:List UInt8) (args:List Ag) (kids:List C4)
def C4.alias:C4->List UInt8 | .mk a _ _ _=>a
def C4.name:C4->List UInt8 | .mk _ n _ _=>n
def C4.args:C4->List Ag | .mk _ _ x _=>x
def C4.kids:C4->List C4 | .mk _ _ _ k=>k
mutual
def C6:C4->AV
 | .mk a n x k=>.agg [.str a,.str n,.sl (x.map q9),.sl (A8O k)]
def A8O:List C4->List AV
 | []=>[]
 | s::r=>C6 s::A8O r
end
def A6I(l:List C4):A8O l=l.map C6:=by
 induction l with
 | nil=>rfl
 | cons s r ih=>simp[A8O,ih]
def F5(s:C4):C6 s = .agg [.str s.alias,.str s.name,.sl (s.args.map q9),.sl (s.kids.map C6)]:=by
 cases s with
 | mk a n x k=>simp[C6,A6I,C4.alias,C4.name,C4.args,C4.kids]
mutual
def A6J:∀s:C4,(C6 s).pureB=true
 | .mk a n x k=>by simp[C6,A8P k]
def A8P:∀l:List C4,F1 (A8O l)=true
 | []=>rfl
 | s::r=>by simp[A8O,A6J s,A8P r]
end
@[simp] theorem C8E (R:Rn) (S:Nat->Prop) (a:Ag):O9 R S (q9 a) (q9 a):=L2 rfl rfl
@[simp] theorem C82 (R:Rn) (S:Nat->Prop) (s:C4):O9 R S (C6 s) (C6 s):=L2 rfl (A6J s)
@[simp] theorem A46 (l:List C4):F1 (l.map C6)=true:=E4 A6J l
@[simp] theorem C5T (S:Nat->Prop) (l:List C4):E8 S (l.map C6):=A5 _ (A46 l)
mutual
def C4.sz:C4->Nat
 | .mk _ _ x k=>1+x.length+m9 k
def m9:List C4->Nat
 | []=>0
 | s::r=>s.sz+m9 r
end
def A2H(s:C4):s.sz=1+s.args.length+m9 s.kids:=by cases s; rfl
def u7(l:List C4):l.length<=m9 l:=by
 induction l with
 | nil=>simp[m9]
 | cons s r ih=>have:=A2H s; simp[m9]; omega
def u9{l:List C4}{s:C4}(h:s∈l):s.sz<=m9 l:=by
 induction l with
 | nil=>cases h
 | cons x r ih =>
  simp only[m9];rcases zh.1 h with rfl|h
  ·omega
  ·have:=ih h; omega
def A8Q{l:List C4}{s:C4}(h:s∈l):m9 s.kids<m9 l:=by
 have:=u9 h; have:=A2H s; omega
def C7(s:C4):List UInt8:=if s.alias≠[] then s.alias else s.name
def A8R(a:Ag):Int :=
 if (a.isText=true/\a.n≠0)\/(a.isText=false/\a.text≠[]) then 1 else if 40<a.text.length then 2 else if ¬(-999999999<=a.n/\a.n<=999999999) then 3 else 0
def A2h(l:List Ag)(n:List UInt8):Bool:=l.any λx=>x.name==n
def A2z(a:Ag)(ahead:List Ag):Int :=
 if H2 a.name≠0 then H2 a.name else if A2h ahead a.name=true then 6 else A8R a
def Z4(l:List Ag):Int:=if 5<l.length then 2 else D0 (λk a=>A2z a (l.take k)) l 0
def A47(s:C4)(id:Nat):A2 prog 170 [C6 s] [] id (.str (C7 s)) []:=by
 rw[F5];refine w170.e.1 λE hP hR hl hid=>?_;simp[w170];refine D4 (λh=>?_) (λh=>?_)<;>simp
 ·exact yP hR (h1:=by simp; simp at h; unfold C7; rw[zj h])
 ·have h:¬s.alias≠[]:=by simpa using h
  exact yP hR (h1:=by simp; unfold C7; rw[zf h])
def B37(a:Ag)(id:Nat):A2 prog 236 [q9 a] [] id (.int .i64 (A8R a)) []:=by
 unfold q9;refine w236.e.1 λE hP hR hl hid=>?_;simp[w236];repeat' first
  | (refine And.intro ?_ ?_)
  | (refine D4 (λh=>?_) (λh=>?_)<;>simp)
  | (refine yH rfl (Q8 _ _) ?_; simp)
 all_goals first
  | (rw[hR]; refine E6 f_ [] trivial (S4 ?_ s_ s_); simp; done)
  | (rw[hR]; refine E6 f_ [] trivial (S4 ?_ s_ s_); (try simp); simp[A8R] at *; grind; done)
  | omega
  | (simp_all; done)
  | grind
def C0C(x:Ag)(j:Nat)(a:Ag)(id:Nat):A2 prog 235 [q9 x,.ptr j 0 0] [(j,⟨[q9 a],.agg [.str [],.bool false,.str [],.int .i64 0],false,false⟩)] id (.bool (x.name==a.name)) []:=by
 unfold q9;refine w235.e.1 λE hP hR hl hid=>?_;simp[w235];have hj:=hl (j,_) (za ..);simp only at hj;have j1:=lf hj;simp[j1];exact yF hR [] (a_ j1 (A4 hid))
def B4p(l:List Ag)(j:Nat)(a:Ag)(id:Nat)(hl8:l.length<9223372036854775807):A2 prog 271 [.sl (l.map q9),.fn 235 [.ptr j 0 0]] [(j,⟨[q9 a],.agg [.str [],.bool false,.str [],.int .i64 0],false,false⟩)] id (.int .i64 (B9 (λx=>x.name==a.name) l 0)) []:=by
 refine w271.e.1 λE hP hR hl hid=>?_;simp[w271];have hj:=hl (j,_) (za ..);simp only at hj;have j1:=lf hj;refine C1 (X:=Nat) (λi=>⟨[(0,true,.sl (l.map q9)),(1,true,.fn 235 [.ptr j 0 0]),(7,true,.int .i64 l.length),(8,true,.int .i64 i)],[(j,some (⟨[q9 a],.agg [.str [],.bool false,.str [],.int .i64 0],false,false⟩))],0⟩) (λi=>i<=l.length/\B9 (λx=>x.name==a.name) (l.drop i) i=B9 (λx=>x.name==a.name) l 0) (λi=>l.length - i) 0 ?_ ⟨o_,rfl⟩ ?_
 ·exact yW [] j1
 ·rintro i ⟨hi,hf⟩ p hp;refine A3 4000 ?_;simp;refine D4 (λh=>?_) (λh=>?_)
  ·have h:=zr h;obtain⟨x,hx,hd⟩:=A8 h;have hcl:=C0C x j a;simp only[U3 x] at hcl;rw[hd] at hf;simp only[B9] at hf;have hi1:IntKind.i64.wrap ((i:Int)+1)=((i+1:Nat):Int):=wrap64 o_;simp[hx,U3 x];refine⟨h,?_⟩;refine F9 hP rfl rfl (hcl _) s_ (by simp[j1]<;>rfl) ?_;refine A3 4000 ?_;simp[j1];refine D4 (λh1=>?_) (λh1=>?_)
   ·simp[j1];rw[zj h1] at hf;rw[←hf] at hR;refine yE hR [] (by simp[j1,B9,A4 hid]) λhrn=>⟨?_,?_,?_,?_,?_,?_⟩<;>(try simp[j1,B9,A4 hid])
   ·simp[j1];rw[zf (v_ h1)] at hf;refine hp _ (i+1) ⟨h,hf⟩ o_ ?_;exact yW [] (a_ hi1 j1)
  ·have h:=zq h;simp;rw[zo o_] at hf;rw[←hf] at hR;refine yE hR [] (by simp[j1,B9,A4 hid]) λhrn=>⟨?_,?_,?_,?_,?_,?_⟩<;>(try simp[j1,B9,A4 hid])
def A9O(l:List Ag)(j:Nat)(a:Ag)(id:Nat)(hl8:l.length<9223372036854775807):A2 prog 234 [.sl (l.map q9),.fn 235 [.ptr j 0 0]] [(j,⟨[q9 a],.agg [.str [],.bool false,.str [],.int .i64 0],false,false⟩)] id (.bool (A2h l a.name)) []:=by
 refine w234.e.1 λE hP hR hl hid=>?_;simp[w234];have hj:=hl (j,_) (za ..);simp only at hj;have j1:=lf hj;(refine yC rfl (B4p l j a _ hl8) ?_; simp[j1]);refine yE hR [] (by simp[j1,A4 hid]) λhrn=>⟨?_,?_,?_,?_,?_,?_⟩<;>(try simp[j1,A4 hid]);exact V2 _ l 0
def B7r(x:C4)(j:Nat)(s:C4)(id:Nat):A2 prog 169 [C6 x,.ptr j 0 0] [(j,⟨[C6 s],.agg [.str [],.str [],.nils,.nils],false,false⟩)] id (.bool (C7 x==C7 s)) []:=by
 have h1:=A47 x;have h2:=A47 s;rw[F5] at h1 h2;rw[F5 x,F5 s];refine w169.e.1 λE hP hR hl hid=>?_;simp[w169];have hj:=hl (j,_) (za ..);simp only at hj;have j1:=lf hj;(refine yC rfl (h1 _) ?_; simp[j1]);(refine yC rfl (h2 _) ?_; simp[j1]);exact yF hR [] (a_ j1 (A4 hid))
def B38(l:List C4)(j:Nat)(s:C4)(id:Nat)(hl8:l.length<9223372036854775807):A2 prog 237 [.sl (l.map C6),.fn 169 [.ptr j 0 0]] [(j,⟨[C6 s],.agg [.str [],.str [],.nils,.nils],false,false⟩)] id (.int .i64 (B9 (λx=>C7 x==C7 s) l 0)) []:=by
 refine w237.e.1 λE hP hR hl hid=>?_;simp[w237];have hj:=hl (j,_) (za ..);simp only at hj;have j1:=lf hj;refine C1 (X:=Nat) (λi=>⟨[(0,true,.sl (l.map C6)),(1,true,.fn 169 [.ptr j 0 0]),(7,true,.int .i64 l.length),(8,true,.int .i64 i)],[(j,some (⟨[C6 s],.agg [.str [],.str [],.nils,.nils],false,false⟩))],0⟩) (λi=>i<=l.length/\B9 (λx=>C7 x==C7 s) (l.drop i) i=B9 (λx=>C7 x==C7 s) l 0) (λi=>l.length - i) 0 ?_ ⟨o_,rfl⟩ ?_
 ·exact yW [] j1
 ·rintro i ⟨hi,hf⟩ p hp;refine A3 4000 ?_;simp;refine D4 (λh=>?_) (λh=>?_)
  ·have h:=zr h;obtain⟨x,hx,hd⟩:=A8 h;have hcl:=B7r x j s;simp only[F5 x] at hcl;rw[hd] at hf;simp only[B9] at hf;have hi1:IntKind.i64.wrap ((i:Int)+1)=((i+1:Nat):Int):=wrap64 o_;simp[hx,F5 x];refine⟨h,?_⟩;refine F9 hP rfl rfl (hcl _) s_ (by simp[j1]<;>rfl) ?_;refine A3 4000 ?_;simp[j1];refine D4 (λh1=>?_) (λh1=>?_)
   ·simp[j1];rw[zj h1] at hf;rw[←hf] at hR;refine yE hR [] (by simp[j1,B9,A4 hid]) λhrn=>⟨?_,?_,?_,?_,?_,?_⟩<;>(try simp[j1,B9,A4 hid])
   ·simp[j1];rw[zf (v_ h1)] at hf;refine hp _ (i+1) ⟨h,hf⟩ o_ ?_;exact yW [] (a_ hi1 j1)
  ·have h:=zq h;simp;rw[zo o_] at hf;rw[←hf] at hR;refine yE hR [] (by simp[j1,B9,A4 hid]) λhrn=>⟨?_,?_,?_,?_,?_,?_⟩<;>(try simp[j1,B9,A4 hid])
def A8S(l:List C4)(j:Nat)(s:C4)(id:Nat)(hl8:l.length<9223372036854775807):A2 prog 168 [.sl (l.map C6),.fn 169 [.ptr j 0 0]] [(j,⟨[C6 s],.agg [.str [],.str [],.nils,.nils],false,false⟩)] id (.bool (l.any λx=>C7 x==C7 s)) []:=by
 refine w168.e.1 λE hP hR hl hid=>?_;simp[w168];have hj:=hl (j,_) (za ..);simp only at hj;have j1:=lf hj;(refine yC rfl (B38 l j s _ hl8) ?_; simp[j1]);refine yE hR [] (by simp[j1,A4 hid]) λhrn=>⟨?_,?_,?_,?_,?_,?_⟩<;>(try simp[j1,A4 hid]);exact V2 _ l 0
def C3D(l:List Ag)(id:Nat):A2 prog 167 [.sl (l.map q9)] [] id (.int .i64 (Z4 l)) []:=by
 refine w167.e.1 λE hP hR hl hid=>?_;simp[w167];refine D4 (λh=>?_) (λh=>?_)<;>simp
 ·exact yP hR (h1:=by simp; simp at h; unfold Z4; rw[zj o_])
 have h5:¬5<l.length:=by simp at h; omega
 have hft:Z4 l=D0 (λk a=>A2z a (l.take k)) l 0:=by unfold Z4; rw[zf h5]
 rw[hft] at hR;refine C1 (X:=Nat) (λi=>⟨[(0,true,.sl (l.map q9)),(9,true,.sl (l.map q9)),(10,true,.int .i64 l.length),(11,true,.int .i64 i)],[],0⟩) (λi=>i<=l.length/\D0 (λk a=>A2z a (l.take k)) (l.drop i) i=D0 (λk a=>A2z a (l.take k)) l 0) (λi=>l.length - i) 0 ?_ ⟨o_,rfl⟩ ?_
 ·exact yW [] trivial
 ·rintro i ⟨hi,hf⟩ p hp;refine A3 4000 ?_;simp;refine D4 (λh=>?_) (λh=>?_)
  ·have h:=zr h;obtain⟨x,hx,hd⟩:=A8 h;rw[hd] at hf;simp only[D0] at hf;have hi1:IntKind.i64.wrap ((i:Int)+1)=((i+1:Nat):Int):=wrap64 o_;have hC:=λj=>A9O (l.take i) j x;simp only[yy] at hC;have hA:=B37 x;rw[U3] at hA;simp[hx,U3 x];refine⟨h,?_⟩;(refine yH rfl (A2g x.name _) ?_; simp);refine⟨λh0=>⟨h0,λa _=>rfl,hi⟩,?_⟩;refine H8 hP s_ rfl (λhc=>⟨hC (E.n0+4096) _ m_,by revert hc; simp; try grind,f_⟩) ?_;refine A3 4000 ?_;simp;refine D4 (λh1=>?_) (λh1=>?_)<;>simp
   ·simp at h1;have hv:A2z x (l.take i)=6:=(by unfold A2z; rw[zf (by simp[h1.1]),zj h1.2]);rw[hv,zj d_] at hf;exact yP hR (h1:=by simp; exact hf)
   ·refine D4 (λh2=>?_) (λh2=>?_)<;>simp
    ·simp at h1 h2;have hv:A2z x (l.take i)=A8R x:=(by unfold A2z; rw[zf (t_ h2),zf (by simp[h1 h2])]);rw[hv] at hf;(refine yH rfl (hA _) ?_; simp);refine D4 (λh3=>?_) (λh3=>?_)<;>simp
     ·rw[zj (v_ h3)] at hf;exact yP hR (h1:=by simp; exact hf)
     ·rw[zf (v_ h3)] at hf;refine hp _ (i+1) ⟨h,hf⟩ o_ ?_;exact yW [] hi1
    ·have h2:H2 x.name≠0:=(v_ h2);have hv:A2z x (l.take i)=H2 x.name:=(by unfold A2z; rw[zj h2]);rw[hv,zj h2] at hf;refine A7 (v_ h2) ?_;simp;exact yP hR (h1:=by simp; exact hf)
  ·have h:=zq h;simp;rw[zo o_] at hf;exact yP hR (h1:=by simp; exact hf)
def W4:Nat->List C4->Nat
 | 0,l=>l.length
 | m+1,l=>l.length+(l.map λs=>W4 m s.kids).sum
def deepL:Nat->List C4->Nat
 | 0,l=>min l.length 1
 | m+1,l=>l.foldl (λd s=>max d (deepL m s.kids+1)) (min l.length 1)
def A30(m:Nat)(l:List C4)(i:Nat):Nat:=l.length+((l.take i).map λs=>W4 m s.kids).sum
def A6z(m:Nat)(l:List C4)(i:Nat):Nat:=(l.take i).foldl (λd s=>max d (deepL m s.kids+1)) (min l.length 1)
def A8T(m:Nat)(l:List C4):A30 m l 0=l.length:=by simp[A30]
def A8U(m:Nat)(l:List C4):A6z m l 0=min l.length 1:=by simp[A6z]
def K5{α:Type}{l:List α}{i:Nat}{x:α}(hx:l[i]?=some x):l.take (i+1)=l.take i++[x]:=by rw[vh,hx]; rfl
def B4q{m:Nat}{l:List C4}{i:Nat}{x:C4}(hx:l[i]?=some x):A30 m l (i+1)=A30 m l i+W4 m x.kids:=by
 simp[A30,K5 hx]; omega
def B4r{m:Nat}{l:List C4}{i:Nat}{x:C4}(hx:l[i]?=some x):A6z m l (i+1)=max (A6z m l i) (deepL m x.kids+1):=by
 simp[A6z,K5 hx]
def B7s{m:Nat}{l:List C4}{i:Nat}(h:l.length<=i):A30 m l i=W4 (m+1) l:=by simp[A30,W4,zm h]
def B7t{m:Nat}{l:List C4}{i:Nat}(h:l.length<=i):A6z m l i=deepL (m+1) l:=by simp[A6z,deepL,zm h]
def A8V{m:Nat}(h:∀l,W4 m l<=m9 l):∀l:List C4,l.length+(l.map λs=>W4 m s.kids).sum<=m9 l
 | []=>by simp
 | s::r=>by
  have h1:=A8V h r;have h2:=h s.kids;have h3:=A2H s;simp only[m9,zt,yj,vu];omega
def B39:∀(m:Nat) (l:List C4),W4 m l<=m9 l
 | 0,l=>u7 l
 | m+1,l=>A8V (B39 m) l
def C0D(m:Nat)(l:List C4)(i:Nat):A30 m l i<=m9 l:=by
 have h1:=A8V (B39 m) l;have h2:((l.take i).map λs=>W4 m s.kids).sum+((l.drop i).map λs=>W4 m s.kids).sum=(l.map λs=>W4 m s.kids).sum:=by
  rw[←qe,←wx,xf]
 unfold A30;omega
def B06{m k:Nat}(h:∀l,deepL m l<=k):∀(l:List C4) (a:Nat),a<=k+1->l.foldl (λd s=>max d (deepL m s.kids+1)) a<=k+1
 | [],a,ha=>ha
 | s::r,a,ha=>by
  simp only[wk];exact B06 h r _ (by have:=h s.kids; omega)
def B3A:∀(m:Nat) (l:List C4),deepL m l<=m+1
 | 0,l=>by simp only[deepL]; omega
 | m+1,l=>B06 (B3A m) l _ o_
def B6B:∀(m:Nat) (l:List C4) (id:Nat),m<=1000->m9 l<=1099511627776->A2 prog 99 [.sl (l.map C6),.int .i64 m] [] id (.tup [.int .i64 (W4 m l),.int .i64 (deepL m l)]) []
 | 0,l,id,hm,hl=>by
  have hlen:=u7 l;refine w99.e.1 λE hP hR hl hid=>?_;simp[w99];refine C1 (X:=Unit) (λ_=>⟨[(0,true,.sl (l.map C6)),(1,true,.int .i64 0),(6,true,.int .i64 l.length),(7,true,.int .i64 (deepL 0 l)),(17,true,.sl (l.map C6)),(18,true,.int .i64 l.length),(19,true,.int .i64 0)],[],0⟩) (λ_=>True) (λ_=>0) () ?_ trivial ?_
  ·refine yV [] (by simp[deepL]) λhrn=>⟨?_,?_,?_,?_,?_⟩<;>(try simp[deepL]);all_goals omega
  ·rintro i - p hp;refine A3 4000 ?_;simp;refine D4 (λh=>?_) (λh=>?_)
   ·have h:=zr h;obtain⟨x,hx,hd⟩:=A8 (l:=l) (i:=0) o_;simp[hx,F5 x];refine⟨o_,?_⟩;exact yP hR (h1:=by simp; simp[W4])
   ·simp;exact yP hR (h1:=by simp; simp[W4])
 | m+1,l,id,hm,hl=>by
  have hlen:=u7 l;refine w99.e.1 λE hP hR hl hid=>?_;simp[w99];refine C1 (X:=Nat) (λi=>⟨[(0,true,.sl (l.map C6)),(1,true,.int .i64 (m+1)),(6,true,.int .i64 (A30 m l i)),(7,true,.int .i64 (A6z m l i)),(17,true,.sl (l.map C6)),(18,true,.int .i64 l.length),(19,true,.int .i64 i)],[],0⟩) (λi=>i<=l.length) (λi=>l.length - i) 0 ?_ o_ ?_
  ·refine yV [] (by simp[A8T,A8U]) λhrn=>⟨?_,?_,?_,?_,?_⟩<;>(try simp[A8T,A8U]);all_goals omega
  ·rintro i hi p hp;refine A3 4000 ?_;simp;refine D4 (λh=>?_) (λh=>?_)
   ·have h:=zr h;obtain⟨x,hx,hd⟩:=A8 h;have hi1:IntKind.i64.wrap ((i:Int)+1)=((i+1:Nat):Int):=wrap64 o_;have hxm:x∈l:=zg hx;have ih:=B6B m x.kids;simp[hx,F5 x];refine⟨h,A0 m_ ?_⟩;have hm1:IntKind.i64.wrap (m:Int)=(m:Int):=wrap64 o_;have hsz:=A8Q hxm;have hs:=B4q (m:=m) hx;have hsd:=B4r (m:=m) hx;have hs1:IntKind.i64.wrap ((A30 m l i:Int)+W4 m x.kids)=((A30 m l (i+1):Nat):Int):=(by rw[hs,wrap64 (by have:=C0D m l (i+1); omega)]; omega);have hs2:IntKind.i64.wrap ((deepL m x.kids:Int)+1)=((deepL m x.kids+1:Nat):Int):=wrap64 (by have:=B3A m x.kids; omega);simp[hm1];(refine yC rfl (ih _ o_ o_) ?_; simp[hs1,hs2]);refine hp _ (i+1) o_ o_ ?_;refine yV [] (by simp[hi1,hsd]) λhrn=>⟨?_,?_,?_,?_,?_⟩<;>(try simp[hi1,hsd]);all_goals trace "TAIL 1"
    all_goals trace_state
    all_goals omega
   ·have h:=zq h;simp;exact yP hR (h1:=by simp; rw[B7s o_,B7t o_]; exact⟨rfl,rfl⟩)
def A3T(s:C4)(ah:List C4):Int :=
 if H2 s.name≠0 then H2 s.name else if s.alias≠[]/\H2 s.alias≠0 then H2 s.alias else if Z4 s.args≠0 then Z4 s.args
 else if (ah.any λx=>C7 x==C7 s)=true then 6 else 0
mutual
def B6C:C4->Int
 | .mk _ _ _ k=>S1 k []
def S1:List C4->List C4->Int
 | [],_=>0
 | s::r,ah=>if A3T s ah≠0 then A3T s ah else if B6C s≠0 then B6C s else S1 r (ah++[s])
end
def fNm(s:C4):Int:=if H2 s.name≠0 then H2 s.name else if s.alias≠[] then H2 s.alias else 0
def A8W(s:C4)(ah:List C4):A3T s ah=if fNm s≠0 then fNm s else if Z4 s.args≠0 then Z4 s.args else if (ah.any λx=>C7 x==C7 s)=true then 6 else 0:=by
 unfold A3T fNm;split
 ·rfl
 ·split
  ·rename_i h; rw[zj h.1,zj h.2]
  ·rename_i h;by_cases ha:s.alias≠[]
   ·have:H2 s.alias=0:=zl λh0=>h ⟨ha,h0⟩;rw[zj ha,this]; rfl
   ·rw[zf ha]; rfl
def A8X(s:C4):B6C s=S1 s.kids []:=by cases s; rfl
def B3B:∀(n:Nat) (l:List C4) (id:Nat),m9 l<n->m9 l<=1099511627776->A2 prog 100 [.sl (l.map C6)] [] id (.int .i64 (S1 l [])) []
 | 0,l,id,hn,hl=>by omega
 | n+1,l,id,hn,hl=>by
  have ih:=B3B n;have hlen:=u7 l;refine w100.e.1 λE hP hR hl hid=>?_;simp[w100];refine C1 (X:=Nat) (λi=>⟨[(0,true,.sl (l.map C6)),(6,true,.sl (l.map C6)),(7,true,.int .i64 l.length),(8,true,.int .i64 i)],[],0⟩) (λi=>i<=l.length/\S1 (l.drop i) (l.take i)=S1 l []) (λi=>l.length - i) 0 ?_ ⟨o_,rfl⟩ ?_
  ·exact yW [] trivial
  ·rintro i ⟨hi,hf⟩ p hp;refine A3 4000 ?_;simp;refine D4 (λh=>?_) (λh=>?_)
   ·have h:=zr h;obtain⟨x,hx,hd⟩:=A8 h;rw[hd] at hf;simp only[S1] at hf;rw[←K5 hx] at hf;have hi1:IntKind.i64.wrap ((i:Int)+1)=((i+1:Nat):Int):=wrap64 o_;have hxm:x∈l:=zg hx;have hsz:=A8Q hxm;have hC:=λj=>A8S (l.take i) j x;simp only[yy] at hC;simp[hx,F5 x];refine⟨h,?_⟩;refine D9 hP rfl (A2g x.name _) s_ f_ ?_;refine C5E (X:=Int) (λe=>⟨[(0,true,.sl (l.map C6)),(3,true,.int .i64 i),(4,true,.ptr E.n0 0 0),(5,true,.int .i64 e),(6,true,.sl (l.map C6)),(7,true,.int .i64 l.length),(8,true,.int .i64 i)],[(E.n0,some ⟨[.agg [.str x.alias,.str x.name,.sl (x.args.map q9),.sl (x.kids.map C6)]],.agg [.str [],.str [],.nils,.nils],false,false⟩)],1⟩) (λe=>e=fNm x) (λq hq=>?_) (λe he=>?_)
    ·refine A3 4000 ?_;simp;refine D4 (λh1=>?_) (λh1=>?_)<;>simp
     ·simp at h1;(refine yH rfl (A2g x.alias _) ?_; simp);refine hq _ (H2 x.alias) (by unfold fNm; rw[zf (by simp[h1.1]),zj h1.2]) ?_;exact yW [(E.n0,E.n0+4096)] trivial
     ·simp at h1;refine hq _ (H2 x.name) (by
       unfold fNm;split
       ·rfl
       ·rename_i h0;have h0:H2 x.name=0:=(v_ h0);rw[zf (by simp[h1 h0]),h0]) ?_
      exact yW [(E.n0,E.n0+4096)] trivial
    ·subst he;rw[A8W] at hf;refine A3 4000 ?_;simp;refine D4 (λh2=>?_) (λh2=>?_)<;>simp
     ·have h2:fNm x=0:=(v_ h2);rw[h2] at hf;simp only[ne_eq,not_true_eq_false,if_false] at hf;(refine yH rfl (C3D x.args _) ?_; simp);refine⟨λh0=>⟨h0,λa _=>by rw[F5]; rfl,hi⟩,?_⟩;refine H8 hP s_ rfl (λhc=>⟨hC E.n0 _ m_,by revert hc; simp; try grind,by simp[F5 x]<;>rfl⟩) ?_;refine A3 4000 ?_;simp;refine D4 (λh3=>?_) (λh3=>?_)<;>simp
      ·simp only[yn,beq_iff_eq] at h3;rw[h3.1] at hf;simp only[ne_eq,not_true_eq_false,if_false] at hf;rw[zj h3.2,zj d_] at hf;exact yP hR (h1:=by simp; exact hf)
      ·refine D4 (λh4=>?_) (λh4=>?_)<;>simp
       ·have h4:Z4 x.args=0:=(v_ h4);rw[h4] at hf;simp only[ne_eq,not_true_eq_false,if_false] at hf;have h3':¬((l.take i).any λy=>C7 y==C7 x)=true:=by
         rw[h4] at h3;simpa using h3
        rw[zf h3'] at hf;simp only[ne_eq,not_true_eq_false,if_false] at hf;rw[A8X] at hf;(refine yH rfl (ih x.kids _ o_ o_) ?_; simp);refine D4 (λh5=>?_) (λh5=>?_)<;>simp
        ·rw[zj (v_ h5)] at hf;exact yP hR (h1:=by simp; exact hf)
        ·rw[zf (v_ h5)] at hf;refine hp _ (i+1) ⟨h,hf⟩ o_ ?_;exact yW [] hi1
       ·have h4:Z4 x.args≠0:=(v_ h4);rw[zj h4,zj h4] at hf;refine A7 (v_ h4) ?_;simp;exact yP hR (h1:=by simp; exact hf)
     ·have h2:fNm x≠0:=(v_ h2);rw[zj h2,zj h2] at hf;refine⟨λh0=>(h2 h0).elim,?_⟩;refine A1e (.bool false) s_ (λhg=>by simp at hg; exact (h2 hg).elim) (λ_=>?_);refine A3 4000 ?_;simp[h2];refine A0 (v_ h2) ?_;simp;refine A7 (v_ h2) ?_;simp;exact yP hR (h1:=by simp; exact hf)
   ·have h:=zq h;simp;rw[zo o_] at hf;exact yP hR (h1:=by simp; exact hf)
def I8(l:List C4):Int:=if l=[] then 5 else if 40<W4 5 l\/5<deepL 5 l then 2 else S1 l []
def C0E(l:List C4)(id:Nat)(h:m9 l<=1099511627776):A2 prog 99 [.sl (l.map C6),.int .i64 5] [] id (.tup [.int .i64 (W4 5 l),.int .i64 (deepL 5 l)]) []:=B6B 5 l id o_ h
def A2I(l:List C4)(id:Nat)(h:m9 l<=1099511627776):A2 prog 41 [.sl (l.map C6)] [] id (.int .i64 (I8 l)) []:=by
 refine w41.e.1 λE hP hR hl hid=>?_;simp[w41];refine D4 (λh1=>?_) (λh1=>?_)<;>simp
 ·exact yP hR (h1:=by simp; simp at h1; unfold I8; rw[zj h1])
 have h1:¬l=[]:=by simpa using h1
 (refine yH rfl (C0E l _ h) ?_; simp);refine D4 (λh2=>?_) (λh2=>?_)<;>simp
 ·exact yP hR (h1:=by simp; simp at h2; unfold I8; rw[zf h1,zj o_])
 ·have h2:¬(40<W4 5 l\/5<deepL 5 l):=by simp at h2; omega
  (refine yH rfl (B3B (m9 l+1) l _ o_ h) ?_; simp);exact yP hR (h1:=by simp; unfold I8; rw[zf h1,zf h2])
def R9{α:Type}(p:α->Bool):∀(l:List α) (i:Nat),(l.find? p=none/\B9 p l i = -1)\/∃k x,l[k]?=some x/\B9 p l i=((i+k:Nat):Int)/\l.find? p=some x
 | [],i=>.inl ⟨rfl,rfl⟩
 | y::r,i=>by
  by_cases hy:p y=true
  ·exact .inr ⟨0,y,rfl,by simp[B9,hy],t_ hy⟩
  ·rcases R9 p r (i+1) with⟨h1,h2⟩|⟨k,x,h1,h2,h3⟩
   ·exact .inl ⟨by simp[hy,h1],by simp[B9,hy,h2]⟩
   ·refine .inr ⟨k+1,x,v_ h1,?_,by simp[hy,h3]⟩;rw[B9,zf hy,h2]; congr 1; omega
def A3U:List UInt8:=[102,105,114,115,116]
def A4L(name:List UInt8)(may:Bool)(least most:Int)(a:Ag):Int :=
 if a.name≠name\/may=false then 5 else if a.isText=true then 7 else if a.n<least\/most<a.n then 3 else 0
def V6(l:List Ag)(name:List UInt8)(may:Bool)(least most:Int):Int:=R8 (A4L name may least most) l
def fieldAt(t:Ty)(name:List UInt8):Option Fd:=if name=tId then some ⟨tId,1,[]⟩ else t.fields.find? λx=>x.name==name
def A2i(l:List Ty)(name:List UInt8):Option Ty:=l.find? λx=>x.name==name
mutual
def B7u(l:List Ty)(t:Ty):C4->Int
 | .mk _ name args kids=>match fieldAt t name with
  | none=>5
  | some x=>if V6 args A3U (x.kind==4) 0 999999999≠0 then V6 args A3U (x.kind==4) 0 999999999
   else if ((x.kind==3||x.kind==4)==kids.isEmpty)=true then 4
   else if (x.kind==3||x.kind==4)=false then 0
   else match A2i l x.of with
    | none=>0
    | some t'=>A1j l t' kids
def A1j(l:List Ty)(t:Ty):List C4->Int
 | []=>0
 | s::r=>if B7u l t s≠0 then B7u l t s else A1j l t r
end
def A7Y(l:List Ty)(t:Ty)(s:C4):B7u l t s=match fieldAt t s.name with
  | none=>5
  | some x=>if V6 s.args A3U (x.kind==4) 0 999999999≠0 then V6 s.args A3U (x.kind==4) 0 999999999
   else if ((x.kind==3||x.kind==4)==s.kids.isEmpty)=true then 4
   else if (x.kind==3||x.kind==4)=false then 0
   else match A2i l x.of with
    | none=>0
    | some t'=>A1j l t' s.kids:=by cases s; rfl
def B07(l:List Ty)(s:C4):Int:=match A2i l s.name with
 | none=>5
 | some t=>if V6 s.args tId true 1 999≠0 then V6 s.args tId true 1 999 else if s.kids=[] then 4 else A1j l t s.kids
def A02(l:List Ty)(q:List C4):Int:=R8 (B07 l) q
def v6(l:List Ty)(q:List C4):Int:=if H3 l≠0 then H3 l else if I8 q≠0 then I8 q else A02 l q
def B1I(l:List Ty):Prop:=∀t∈l,∀f∈t.fields,(f.kind=3\/f.kind=4)->B1E l f.of=true
def B3C(l:List Ag)(name:List UInt8)(may:Bool)(least most:Int)(id:Nat)(hlen:l.length<9223372036854775807):A2 prog 184 [.sl (l.map q9),.str name,.bool may,.int .i64 least,.int .i64 most] [] id (.int .i64 (V6 l name may least most)) []:=by
 refine w184.e.1 λE hP hR hl hid=>?_;simp[w184];refine C1 (X:=Nat) (λi=>⟨[(1,true,.str name),(2,true,.bool may),(3,true,.int .i64 least),(4,true,.int .i64 most),(13,true,.sl (l.map q9)),(14,true,.int .i64 l.length),(15,true,.int .i64 i)],[],0⟩) (λi=>i<=l.length/\V6 (l.drop i) name may least most=V6 l name may least most) (λi=>l.length - i) 0 ?_ ⟨o_,rfl⟩ ?_
 ·exact yW [] trivial
 ·rintro i ⟨hi,hf⟩ p hp;refine A3 4000 ?_;simp;refine D4 (λh=>?_) (λh=>?_)
  ·have h:=zr h;obtain⟨x,hx,hd⟩:=A8 h;have hf':=hf;rw[hd] at hf;simp only[V6,R8] at hf;have hi1:IntKind.i64.wrap ((i:Int)+1)=((i+1:Nat):Int):=wrap64 o_;simp[hx,U3 x];refine⟨h,?_⟩;refine D4 (λh1=>?_) (λh1=>?_)<;>simp
   ·have hv:A4L name may least most x=5:=(by simp at h1; unfold A4L; rw[zj h1]);rw[hv] at hf;exact yP hR (h1:=by simp; exact hf)
   refine D4 (λh2=>?_) (λh2=>?_)<;>simp
   ·have hv:A4L name may least most x=7:=(by simp at h1; unfold A4L; rw[zf (t_ h1),zj h2]);rw[hv] at hf;exact yP hR (h1:=by simp; exact hf)
   refine D4 (λh3=>?_) (λh3=>?_)<;>simp
   ·have hv:A4L name may least most x=3:=(by simp at h1 h3; unfold A4L; rw[zf (t_ h1),zf (t_ h2),zj h3]);rw[hv] at hf;exact yP hR (h1:=by simp; exact hf)
   ·have hv:A4L name may least most x=0:=(by simp at h1 h3; unfold A4L; rw[zf (t_ h1),zf (t_ h2),zf o_]);rw[hv] at hf;refine hp _ (i+1) ⟨h,by simpa [V6] using hf⟩ o_ ?_;exact yW [] hi1
  ·have h:=zq h;simp;rw[zo o_] at hf;exact yP hR (h1:=by simp; exact hf)
def A70(l:List Ag)(may:Bool)(id:Nat)(hlen:l.length<9223372036854775807):A2 prog 184 [.sl (l.map q9),.str [102,105,114,115,116],.bool may,.int .i64 0,.int .i64 999999999] [] id (.int .i64 (V6 l A3U may 0 999999999)) []:=B3C l A3U may 0 999999999 id hlen
def C0F(l:List Ag)(id:Nat)(hlen:l.length<9223372036854775807):A2 prog 184 [.sl (l.map q9),.str [105,100],.bool true,.int .i64 1,.int .i64 999] [] id (.int .i64 (V6 l tId true 1 999)) []:=B3C l tId true 1 999 id hlen
def bxF(l:List Ty):Bx:=⟨[.agg [.sl (l.map I7)]],.agg [.sl (l.map I7)],false,false⟩
def C5U(l:List Ty)(t:Ty)(s:C4)(j id:Nat)(hL:∀f∈t.fields,(f.kind=3\/f.kind=4)->B1E l f.of=true)(hl8:l.length<=1000)(ht8:t.fields.length<=1000)(hs8:s.args.length<9223372036854775807)
  (ih:∀k t' id,l[k]?=some t'->A2 prog 185 [.ptr j 0 0,.int .i64 (k:Nat),.sl (s.kids.map C6)] [(j,bxF l)] id (.int .i64 (A1j l t' s.kids)) []) :
  A2 prog 253 [.ptr j 0 0,I7 t,C6 s] [(j,bxF l)] id (.int .i64 (B7u l t s)) []:=by
 have hf8:t.fields.length<9223372036854775807:=by omega
 by_cases hn:s.name=tId
 ·have hV:=λid=>A70 s.args false id hs8;rw[F5,A7Y,fieldAt,zj hn];unfold I7;simp only[bxF,show ((1:Int)==4)=false from rfl,show ((1:Int)==3)=false from rfl,ur] at ih hV ⊢;generalize V6 s.args A3U false 0 999999999=e1 at hV ⊢;rw[hn];unfold tId;refine w253.e.1 λE hP hR hl hid=>?_;simp[w253];have hj:=hl (j,_) (za ..);simp only at hj;have j1:=lf hj;(refine yC rfl (hV _) ?_; simp[j1]);refine D4 (λh1=>?_) (λh1=>?_)
  ·simp[j1];rw[zj (v_ h1)] at hR;exact yF hR [] (a_ j1 (A4 hid))
  ·simp[j1];rw[zf (v_ h1)] at hR;refine D4 (λh2=>?_) (λh2=>?_)
   ·have hk0:s.kids.isEmpty=false:=(v_ h2);simp[j1];rw[hk0,zj (by rfl)] at hR;exact yF hR [] (a_ j1 (A4 hid))
   ·have hk0:s.kids.isEmpty=true:=(v_ h2);simp[j1];rw[hk0,zf d_,zj (by first|rfl|trivial)] at hR;exact yF hR [] (a_ j1 (A4 hid))
 ·rcases R9 (λx=>x.name==s.name) t.fields 0 with⟨q1,q2⟩|⟨k,x,q1,q2,q3⟩
  ·have hF:=A1P t.fields t.name s.name;rw[F5,A7Y,fieldAt,zf hn,q1];rw[q2] at hF;have hn':¬s.name=[105,100]:=hn;unfold I7;simp only[bxF] at ih ⊢;refine w253.e.1 λE hP hR hl hid=>?_;simp[w253];have hj:=hl (j,_) (za ..);simp only at hj;have j1:=lf hj;refine A7 (v_ hn') ?_;simp[j1];(refine yC rfl (hF _ hf8) ?_; simp[j1]);exact yF hR [] (a_ j1 (A4 hid))
  ·have hF:=A1P t.fields t.name s.name;have hk:=(ze.1 q1).1;have hxm:=zg q1;have hV:=λid=>A70 s.args (x.kind==4) id hs8;rw[F5,A7Y,fieldAt,zf hn,q3];rw[q2] at hF;have hn':¬s.name=[105,100]:=hn;unfold I7;simp only[bxF,xe] at ih hV hF ⊢;generalize V6 s.args A3U (x.kind==4) 0 999999999=e1 at hV ⊢;refine w253.e.1 λE hP hR hl hid=>?_;simp[w253];have hj:=hl (j,_) (za ..);simp only at hj;have j1:=lf hj;refine A7 (v_ hn') ?_;simp[j1];(refine yC rfl (hF _ hf8) ?_; simp[j1]);refine A0 s_ ?_;simp[j1,q1,T5];refine⟨hk,?_⟩;(refine yC rfl (hV _) ?_; simp[j1]);refine D4 (λh1=>?_) (λh1=>?_)
   ·simp[j1];try simp only at hR
    rw[zj (v_ h1)] at hR;exact yF hR [] (a_ j1 (A4 hid))
   ·simp[j1];try simp only at hR
    rw[zf (v_ h1)] at hR;have hlk:((s.kids.length:Int)==0)=s.kids.isEmpty:=(by rw[wm]; simp);simp only[hlk];refine D4 (λh2=>?_) (λh2=>?_)
    ·try simp[j1]
     rw[zj (v_ h2)] at hR;exact yF hR [] (a_ j1 (A4 hid))
    ·try simp[j1]
     rw[zf (v_ h2)] at hR;refine D4 (λh3=>?_) (λh3=>?_)
     ·try simp[j1]
      rw[zj (v_ h3)] at hR;exact yF hR [] (a_ j1 (A4 hid))
     ·try simp[j1]
      rw[zf (v_ h3)] at hR;have hkd:x.kind=3\/x.kind=4:=(by simp at h3; omega);have hof:=hL x hxm hkd;rcases R9 (λt=>t.name==x.of) l 0 with⟨r1,r2⟩|⟨k2,t',r1,r2,r3⟩
      ·exact absurd hof (by rw[←A8M,r2]; decide)
      ·have hX:=m8 l x.of;rw[r2,xe] at hX;rw[A2i,r3] at hR;(refine yC rfl (hX _ o_) ?_; simp[j1]);(refine yC rfl (ih k2 t' _ r1) ?_; simp[j1]);exact yF hR [] (a_ j1 (A4 hid))
def B6D(l:List Ty)(hL:B1I l)(hl8:l.length<=1000)(ht8:∀t∈l,t.fields.length<=1000):∀(n:Nat) (q:List C4) (j k:Nat) (t:Ty) (id:Nat),m9 q<n->m9 q<=1099511627776->l[k]?=some t ->
  A2 prog 185 [.ptr j 0 0,.int .i64 (k:Nat),.sl (q.map C6)] [(j,bxF l)] id (.int .i64 (A1j l t q)) []
 | 0,q,j,k,t,id,hn,hq8,hk=>by omega
 | n+1,q,j,k,t,id,hn,hq8,hk=>by
  have ih:=B6D l hL hl8 ht8 n;have hlen:=u7 q;have htm:=zg hk;have hkl:=(ze.1 hk).1;simp only[bxF] at ih ⊢;refine w185.e.1 λE hP hR hl hid=>?_;simp[w185];have hj:=hl (j,_) (za ..);simp only at hj;have j1:=lf hj;refine C1 (X:=Nat) (λi=>⟨[(0,true,.ptr j 0 0),(1,true,.int .i64 k),(10,true,.sl (q.map C6)),(11,true,.int .i64 q.length),(12,true,.int .i64 i)],[(j,some ⟨[.agg [.sl (l.map I7)]],.agg [.sl (l.map I7)],false,false⟩)],0⟩) (λi=>i<=q.length/\A1j l t (q.drop i)=A1j l t q) (λi=>q.length - i) 0 ?_ ⟨o_,rfl⟩ ?_
  ·exact yW [] j1
  ·rintro i ⟨hi,hf⟩ p hp;refine A3 4000 ?_;simp[j1];refine D4 (λh=>?_) (λh=>?_)
   ·have h:=zr h;obtain⟨x,hx,hd⟩:=A8 h;have hxm:x∈q:=zg hx;have hsz:=A8Q hxm;have hsx:=u9 hxm;have hse:=A2H x;have hK:=λid=>C5U l t x j id (hL t htm) hl8 (ht8 t htm) o_ (λk t' id hk=>ih x.kids j k t' id o_ o_ hk);rw[hd] at hf;simp only[A1j] at hf;have hi1:IntKind.i64.wrap ((i:Int)+1)=((i+1:Nat):Int):=wrap64 o_;rw[F5] at hK;simp only[I7,bxF] at hK;simp[hx,hk,F5 x,I7,j1];refine⟨h,hkl,?_⟩;(refine yC rfl (hK _) ?_; simp[j1]);refine D4 (λh1=>?_) (λh1=>?_)
    ·simp[j1];rw[zj (v_ h1)] at hf;rw[←hf] at hR;exact yF hR [] (a_ j1 (A4 hid))
    ·simp[j1];rw[zf (v_ h1)] at hf;refine hp _ (i+1) ⟨h,hf⟩ o_ ?_;exact yW [] (a_ hi1 j1)
   ·have h:=zq h;simp[j1];rw[zo o_] at hf;rw[←hf] at hR;refine yE hR [] (by simp[j1,A1j,A4 hid]) λhrn=>⟨?_,?_,?_,?_,?_,?_⟩<;>(try simp[j1,A1j,A4 hid])
def R3{α:Type}(f:Nat->α->Int):∀(l:List α) (i:Nat),D0 f l i=0->∀k x,l[k]?=some x->f (i+k) x=0
 | [],i,h,k,x,hx=>by simp at hx
 | y::r,i,h,k,x,hx=>by
  simp only[D0] at h;split at h
  ·rename_i h0; exact (h0 h).elim
  ·rename_i h0;cases k with
   | zero=>simp at hx; subst hx; exact zl h0
   | succ k=>have:=R3 f r (i+1) h k x (v_ hx); rw[show i+(k+1)=i+1+k by omega]; exact this
structure A71(l:List Ty):Prop where
 ne:l≠[]
 len:l.length<=5
 linked:B1I l
 fields:∀t∈l,t.fields.length<=6
 names:∀t∈l,H2 t.name=0
 kinds:∀t∈l,∀f∈t.fields,1<=f.kind/\f.kind<=4
 fnames:∀t∈l,∀f∈t.fields,H2 f.name=0/\f.name≠tId
def A5L{l:List Ty}(h:H3 l=0):A71 l:=by
 unfold H3 at h;split at h
 ·simp at h
 rename_i h1;split at h
 ·simp at h
 rename_i h2;have hT:∀t∈l,∃i,A1i l i t=0:=λt ht=>by
  obtain⟨i,hi⟩:=yp.1 ht;exact⟨0+i,R3 _ _ _ h i t hi⟩
 have hT2:∀t∈l,H2 t.name=0/\t.fields.length<=6/\D0 (λk f=>u6 l f (t.fields.take k)) t.fields 0=0:=λt ht=>by
  obtain⟨i,hi⟩:=hT t ht;unfold A1i at hi;repeat' split at hi
  all_goals first|omega|(exact⟨by simp_all,o_,hi⟩)|simp_all
 have hF:∀t∈l,∀f∈t.fields,(H2 f.name=0/\f.name≠tId)/\(1<=f.kind/\f.kind<=4)/\((f.kind=3\/f.kind=4)->B1E l f.of=true):=λt ht f hf=>by
  obtain⟨k,hk⟩:=yp.1 hf;have h0:=R3 _ _ _ (hT2 t ht).2.2 k f hk;unfold u6 at h0;repeat' split at h0
  all_goals first|omega|skip
  all_goals try (simp_all; done)
  rename_i g1 g2 g3 g4 g5 g6;refine⟨⟨zl g1,g2⟩,o_,λhk=>zl λhn=>g6 ⟨o_,hn⟩⟩
 exact⟨h1,o_,λt ht f hf=>(hF t ht f hf).2.2,λt ht=>(hT2 t ht).2.1,λt ht=>(hT2 t ht).1,λt ht f hf=>(hF t ht f hf).2.1,λt ht f hf=>(hF t ht f hf).1⟩
def C3E(l:List Ty)(s:C4)(j id:Nat)(hL:B1I l)(hl8:l.length<=1000)(ht8:∀t∈l,t.fields.length<=1000)(hs8:s.sz<=1099511627776):
  A2 prog 118 [.ptr j 0 0,C6 s] [(j,bxF l)] id (.int .i64 (B07 l s)) []:=by
 have hse:=A2H s;rcases R9 (λt=>t.name==s.name) l 0 with⟨r1,r2⟩|⟨k,t,r1,r2,r3⟩
 ·have hX:=m8 l s.name;rw[r2] at hX;rw[F5,B07,A2i,r1];simp only[bxF];refine w118.e.1 λE hP hR hl hid=>?_;simp[w118];have hj:=hl (j,_) (za ..);simp only at hj;have j1:=lf hj;simp[j1];(refine yC rfl (hX _ o_) ?_; simp[j1]);exact yF hR [] (a_ j1 (A4 hid))
 ·have hX:=m8 l s.name;rw[r2,xe] at hX;rw[F5,B07,A2i,r3];have hV:=λid=>C0F s.args id o_;have hK:=λid=>B6D l hL hl8 ht8 (m9 s.kids+1) s.kids j k t id o_ o_ r1;generalize V6 s.args tId true 1 999=e1 at hV ⊢;simp only[bxF] at hK ⊢;refine w118.e.1 λE hP hR hl hid=>?_;simp[w118];have hj:=hl (j,_) (za ..);simp only at hj;have j1:=lf hj;simp[j1];(refine yC rfl (hX _ o_) ?_; simp[j1]);refine A0 s_ ?_;simp[j1];(refine yC rfl (hV _) ?_; simp[j1]);refine D4 (λh1=>?_) (λh1=>?_)
  ·simp[j1];rw[zj (v_ h1)] at hR;exact yF hR [] (a_ j1 (A4 hid))
  ·simp[j1];rw[zf (v_ h1)] at hR;refine D4 (λh2=>?_) (λh2=>?_)
   ·simp[j1];rw[zj (v_ h2)] at hR;exact yF hR [] (a_ j1 (A4 hid))
   ·simp[j1];rw[zf (v_ h2)] at hR;(refine yC rfl (hK _) ?_; simp[j1]);exact yF hR [] (a_ j1 (A4 hid))
def B6E(l:List Ty)(q:List C4)(id:Nat)(hL:B1I l)(hl8:l.length<=1000)(ht8:∀t∈l,t.fields.length<=1000)(hq8:m9 q<=1099511627776):
  A2 prog 57 [.sl (l.map I7),.sl (q.map C6)] [] id (.int .i64 (A02 l q)) []:=by
 have hlen:=u7 q;refine w57.e.1 λE hP hR hl hid=>?_;simp[w57];refine C1 (X:=Nat) (λi=>⟨[(5,true,.ptr E.n0 0 0),(12,true,.sl (q.map C6)),(13,true,.int .i64 q.length),(14,true,.int .i64 i)],[(E.n0,some ⟨[.agg [.sl (l.map I7)]],.agg [.sl (l.map I7)],false,false⟩)],1⟩) (λi=>i<=q.length/\A02 l (q.drop i)=A02 l q) (λi=>q.length - i) 0 ?_ ⟨o_,rfl⟩ ?_
 ·exact yW [(E.n0,E.n0+3072)] trivial
 ·rintro i ⟨hi,hf⟩ p hp;refine A3 4000 ?_;simp;refine D4 (λh=>?_) (λh=>?_)
  ·have h:=zr h;obtain⟨x,hx,hd⟩:=A8 h;have hxm:x∈q:=zg hx;have hsx:=u9 hxm;have hK:=λid=>C3E l x E.n0 id hL hl8 ht8 o_;rw[hd] at hf;simp only[A02,R8] at hf;have hi1:IntKind.i64.wrap ((i:Int)+1)=((i+1:Nat):Int):=wrap64 o_;rw[F5] at hK;simp only[bxF] at hK;simp[hx,F5 x];refine⟨h,?_⟩;(refine yH rfl (hK _) ?_; simp);refine D4 (λh1=>?_) (λh1=>?_)
   ·simp;rw[zj (v_ h1)] at hf;rw[←show _=A02 l q from hf] at hR;exact yP hR
   ·simp;rw[zf (v_ h1)] at hf;refine hp _ (i+1) ⟨h,hf⟩ o_ ?_;exact yW [(E.n0,E.n0)] hi1
  ·have h:=zq h;simp;rw[zo o_] at hf;rw[←hf] at hR;exact yP hR (h1:=by simp; rfl)
def B7v(l:List Ty)(q:List C4)(id:Nat)(hq8:m9 q<=1099511627776):
  A2 prog 62 [.sl (l.map I7),.sl (q.map C6)] [] id (.int .i64 (v6 l q)) []:=by
 refine w62.e.1 λE hP hR hl hid=>?_;simp[w62];(refine yH rfl (A45 l _) ?_; simp);refine D4 (λh1=>?_) (λh1=>?_)<;>simp
 ·have h1:H3 l=0:=by simpa using h1
  have hs:=A5L h1;(refine yH rfl (A2I q _ hq8) ?_; simp);refine D4 (λh2=>?_) (λh2=>?_)<;>simp
  ·have h2:I8 q=0:=(v_ h2);(refine yH rfl (B6E l q _ hs.linked (by have:=hs.len; omega) (λt ht=>by have:=hs.fields t ht; omega) hq8) ?_; simp);exact yP hR (h1:=by simp; unfold v6; rw[zf (t_ h1),zf (t_ h2)])
  ·have h2:I8 q≠0:=(v_ h2);exact yP hR (h1:=by simp; unfold v6; rw[zf (t_ h1),zj h2])
 ·have h1:H3 l≠0:=by simpa using h1
  refine A0 (v_ h1) ?_;simp;exact yP hR (h1:=by simp; unfold v6; rw[zj h1])
end Go.Am
namespace Go.Am
end Go.Am
namespace Go.Am
open Go Go.Proofs Go.RowKit Go.Proofs.Tryz
def A1R(s:H7)(i:Nat)(t:Tg):Int :=
 if c8 s.types t≠0 then c8 s.types t else if 0<i/\0<=K6 s.things t.type t.id (i - 1) then 4 else 0
def fSt(s:H7):Int :=
 if H3 s.types≠0 then H3 s.types else if 12<s.things.length then 2
 else if D0 (λi t=>A1R s i t) s.things 0≠0 then D0 (λi t=>A1R s i t) s.things 0
 else if T7 (λf c=>!c.ids.any λx=>!K7 s f x) s.types s.things=true then 0 else 5
structure A4h(s:H7)(t:Tg):Prop where
 ty0:0<=t.type
 ty1:t.type.toNat<s.types.length
 id1:1<=t.id
 id2:t.id<=999
 len:t.cells.length=(D7 s.types t.type).length
 cell:∀(k:Nat) c,t.cells[k]?=some c->A0B (D7 s.types t.type) k c=0
def C5V{s:H7}{t:Tg}(h:c8 s.types t=0):A4h s t:=by
 unfold c8 at h;repeat' split at h
 all_goals first|(exfalso; omega)|skip
 rename_i h1 h2 h3;refine⟨o_,o_,o_,o_,o_,λk c hc=>?_⟩;have:=R3 _ _ _ h k c hc
 rwa [xe] at this
structure B7w(f:Fd)(c:Cl):Prop where
 n0:f.kind≠1->c.n=0
 t0:f.kind≠2->c.text=[]
 i0:c7 f.kind=false->c.ids=[]
 n1 : -999999999<=c.n/\c.n<=999999999
 t1:c.text.length<=40
 i1:c.ids.length<=6
 i3:f.kind=3->c.ids.length<=1
 asc:A4g c.ids=true
def C8F{f:Fd}{c:Cl}(h:A2G f c=0):B7w f c:=by
 unfold A2G at h;repeat' split at h
 all_goals first|(exfalso; omega)|skip
 rename_i h1 h2 h3 h4;have hm:A5K f.kind<=6:=by unfold A5K; split<;>omega
 have hm3:f.kind=3->A5K f.kind=1:=λe=>by unfold A5K; rw[zj e]
 refine⟨by grind,by grind,by grind,o_,o_,o_,λe=>by have:=hm3 e; omega,h4⟩
def A4h.cellOk{s:H7}{t:Tg}(h:A4h s t){k:Nat}{c:Cl}(hc:t.cells[k]?=some c):∃f,(D7 s.types t.type)[k]?=some f/\B7w f c:=by
 obtain⟨f,hf⟩:∃f,(D7 s.types t.type)[k]?=some f:=⟨_,zc (by rw[←h.len]; exact (ze.1 hc).1)⟩;refine⟨f,hf,C8F ?_⟩;have:=h.cell k c hc;simpa only[A0B,hf] using this
def A4h.cells6{s:H7}(hS:A71 s.types){t:Tg}(h:A4h s t):t.cells.length<=6:=by
 rw[h.len];obtain⟨ty,hty⟩:∃ty,s.types[t.type.toNat]?=some ty:=⟨_,zc h.ty1⟩;simpa [D7,hty] using hS.fields ty (zg hty)
def A4i(s:H7)(id:Nat):A2 prog 24 [H4 s] [] id (.int .i64 (fSt s)) []:=by
 unfold H4;refine w24.e.1 λE hP hR hl hid=>?_;simp[w24];(refine yH rfl (A45 _ _) ?_; simp);refine D4 (λh=>?_) (λh=>?_)<;>simp
 ·exact yP hR (h1:=by simp; simp at h; unfold fSt; rw[zj h])
 have h1:H3 s.types=0:=by simpa using h
 refine D4 (λh=>?_) (λh=>?_)<;>simp
 ·exact yP hR (h1:=by simp; simp at h; unfold fSt; rw[zf o_,zj o_])
 have h2:¬12<s.things.length:=by simp at h; omega
 have hS:=A5L h1;have hft:fSt s=if D0 (λi t=>A1R s i t) s.things 0≠0 then D0 (λi t=>A1R s i t) s.things 0
   else if T7 (λf c=>!c.ids.any λx=>!K7 s f x) s.types s.things=true then 0 else 5:=by unfold fSt; rw[zf o_,zf h2]
 refine C1 (X:=Nat) (λi=>⟨[(1,true,.ptr E.n0 0 0),(19,true,.sl (s.things.map W3)),(20,true,.int .i64 s.things.length),(21,true,.int .i64 i)],[(E.n0,some ⟨[.agg [.sl (s.types.map I7),.sl (s.things.map W3)]],.agg [.sl (s.types.map I7),.sl (s.things.map W3)],false,false⟩)],1⟩) (λi=>i<=s.things.length/\D0 (λi t=>A1R s i t) (s.things.drop i) i=D0 (λi t=>A1R s i t) s.things 0) (λi=>s.things.length - i) 0 ?_ ⟨o_,rfl⟩ ?_
 ·exact yW [(E.n0,E.n0)] trivial
 ·rintro i ⟨hi,hf⟩ p hp;refine A3 4000 ?_;simp;refine D4 (λh=>?_) (λh=>?_)
  ·have h:=zr h;obtain⟨t,hx,hd⟩:=A8 h;rw[hd] at hf;simp only[D0] at hf;have hi1:IntKind.i64.wrap ((i:Int)+1)=((i+1:Nat):Int):=wrap64 o_;have hth:=λid=>C09 s t id hS.len (.inr hS.fields);unfold H4 at hth;rw[A3Q t] at hth;simp[hx,A3Q t];refine⟨h,?_⟩;(refine yH rfl (hth _) ?_; simp);refine D4 (λh1=>?_) (λh1=>?_)<;>simp
   ·have h1:c8 s.types t≠0:=(v_ h1);have e:A1R s i t=c8 s.types t:=(by unfold A1R; rw[zj h1]);rw[e,zj h1] at hf;exact yP hR (h1:=by simp; rw[hft,←hf,zj h1])
   have h1:c8 s.types t=0:=(v_ h1);rcases uk i with hz|hz
   ·subst hz;have e:A1R s 0 t=0:=(by unfold A1R; rw[zf o_,zf o_]);rw[e,zf o_] at hf;simp;refine A1e (.int .i64 0) s_ (λhg=>by simp at hg) (λ_=>?_);refine A3 4000 ?_;simp;refine hp _ 1 ⟨o_,hf⟩ o_ ?_;have h01:IntKind.i64.wrap 1=1:=wrap64 o_;exact yW [(E.n0,E.n0)] h01
   ·obtain⟨m,rfl⟩:∃m,i=m+1:=⟨i - 1,o_⟩;obtain⟨u,hu⟩:∃u,s.things[m]?=some u:=⟨_,zc o_⟩;have hwm:IntKind.i64.wrap (m:Int)=(m:Int):=wrap64 o_;have hmi:IntKind.i64.wrap ((m:Int)+1+1)=((m+1+1:Nat):Int):=(by rw[wrap64 o_]; omega);have e:A1R s (m+1) t=if 0<=A1Z u.type u.id t.type t.id then 4 else 0:=by
     unfold A1R;rw[zf o_];simp[K6,hu]
    have hlt:m<s.things.length:=o_;rw[e] at hf;have hug:s.things[m]=u:=(by rw[zc hlt] at hu; injection hu);simp[hwm,hug,A3Q u,hlt];refine A1e (.int .i64 0) s_ (λ_=>?_) (λhg=>by simp at hg);(refine yH rfl (A3R _ _ _ _ _ _ _) ?_; simp);refine D4 (λh3=>?_) (λh3=>?_)<;>simp
    ·have h3:0<=A1Z u.type u.id t.type t.id:=(v_ h3);rw[zj h3,zj o_] at hf;exact yP hR (h1:=by simp; rw[hft,←hf,zj o_])
    ·have h3:¬0<=A1Z u.type u.id t.type t.id:=(v_ h3);rw[zf h3,zf o_] at hf;refine hp _ (m+1+1) ⟨h,hf⟩ o_ ?_;exact yW [(E.n0,E.n0)] hmi
  ·have h:=zq h;simp;rw[zo o_] at hf;have hz:D0 (λi t=>A1R s i t) s.things 0=0:=(by rw[←hf]; rfl);have hall:∀t∈s.things,A4h s t:=λt ht=>by
    obtain⟨k,hk⟩:=yp.1 ht;have h0:=R3 _ _ _ hz k t hk;refine C5V ?_;unfold A1R at h0;split at h0
    ·rename_i g; exact (g h0).elim
    ·rename_i g; exact zl g
   rw[hft,hz,zf o_] at hR;have hE:=λid=>B6A s 68 E.n0 (H4 s) (λf c=>!c.ids.any λx=>!K7 s f x) (B05 s) (λf c id h6=>B7q f c s E.n0 id hS.len o_ o_)
    (λt ht=>⟨(hall t ht).ty0,(hall t ht).ty1,(hall t ht).len,by have:=(hall t ht).cells6 hS; omega,λc hc=>by
     obtain⟨k,hk⟩:=yp.1 hc;obtain⟨f,_,hco⟩:=(hall t ht).cellOk hk;exact hco.i1⟩) o_ id
   unfold H4 at hE;(refine yH rfl (hE _) ?_; simp);refine D4 (λh=>?_) (λh=>?_)<;>simp
   ·have h:T7 (λf c=>!c.ids.any λx=>!K7 s f x) s.types s.things=false:=(v_ h);exact yP hR (h1:=by simp; rw[h])
   ·have h:T7 (λf c=>!c.ids.any λx=>!K7 s f x) s.types s.things=true:=(v_ h);exact yP hR (h1:=by simp; rw[h])
def B4s(l:List Fd)(id:Nat)(hl8:l.length<=1000000):A2 prog 252 [.sl (l.map T5)] [] id (.bsl id 0 l.length) [(id,some ⟨l.map T5,.agg [.str [],.int .i64 0,.str []],false,false⟩)]:=by
 refine A4a w252.hf w252.hc w252.hn w252.hr (by simp[ntmps252]) λE hP hR hl hid=>?_;refine A3 9 ?_;simp[w252];refine B9k (s:=0) (d:=3) (e:=4) (xs:=l.map T5) s_ d_ (λhx=>?_) ?_
 ·refine A3 10 ?_;simp;have hx:l=[]:=by simpa using hx
  subst hx;refine A4Y (D5.voidSlot 2 (x:=.nils) (y:=.bsl (E.n0+4096) 0 0) s_ .nils (.agg [.str [],.int .i64 0,.str []])) ?_;refine A3 4000 ?_;simp;exact yF hR [(id,E.n0+4096)] (A4 hid)
 ·refine A3 4000 ?_;simp;refine⟨⟨λa _=>by simp[T5],o_,o_⟩,?_⟩;exact yF hR [(id,E.n0+5120)] (A4 hid)
def B3D(l:List Int)(id:Nat)(hl8:l.length<=1000000):A2 prog 183 [.sl (l.map eI)] [] id (.bsl id 0 l.length) [(id,some ⟨l.map eI,.int .i64 0,false,false⟩)]:=by
 refine A4a w183.hf w183.hc w183.hn w183.hr (by simp[ntmps183]) λE hP hR hl hid=>?_;refine A3 9 ?_;simp[w183];refine B9k (s:=0) (d:=3) (e:=4) (xs:=l.map eI) s_ d_ (λhx=>?_) ?_
 ·refine A3 10 ?_;simp;have hx:l=[]:=by simpa using hx
  subst hx;refine A4Y (D5.voidSlot 2 (x:=.nils) (y:=.bsl (E.n0+4096) 0 0) s_ .nils (.int .i64 0)) ?_;refine A3 4000 ?_;simp;exact yF hR [(id,E.n0+4096)] (A4 hid)
 ·refine A3 4000 ?_;simp;refine⟨⟨λa _=>by simp[eI],o_,o_⟩,?_⟩;exact yF hR [(id,E.n0+5120)] (A4 hid)
def B08(l:List Ty)(id:Nat)(hl8:l.length<=1000)(hf8:∀t∈l,t.fields.length<=1000):A2 prog 182 [.sl (l.map I7)] [] id (.sl (l.map I7)) []:=by
 refine w182.e.1 λE hP hR hl hid=>?_;simp[w182];refine C1 (X:=Nat) (λi=>⟨[(3,true,.bsl E.n0 0 i),(6,true,.sl (l.map I7)),(7,true,.int .i64 l.length),(8,true,.int .i64 i)],[(E.n0,some ⟨(l.map I7).take i,.agg [.str [],.nils],false,false⟩)],1⟩) (λi=>i<=l.length) (λi=>l.length - i) 0 ?_ o_ ?_
 ·refine D5.trans (D5.voidSlot 3 (x:=.nils) (y:=.bsl (E.n0+5120) 0 0) s_ .nils (.agg [.str [],.nils])) ?_;exact yW [(E.n0,E.n0+5120)] trivial
 ·rintro i hi p hp;refine A3 4000 ?_;simp;refine D4 (λh=>?_) (λh=>?_)
  ·have h:=zr h;obtain⟨x,hx,hd⟩:=A8 h;have hi1:IntKind.i64.wrap ((i:Int)+1)=((i+1:Nat):Int):=wrap64 o_;have hx6:=hf8 x (zg hx);have htk:(l.map I7).take (i+1)=(l.map I7).take i++[.agg [.str x.name,.sl (x.fields.map T5)]]:=(by rw[vh,ym,hx]; rfl);simp[hx,I7];refine⟨h,?_⟩;(refine yH rfl (B4s x.fields _ o_) ?_; simp);refine⟨⟨o_,o_,o_⟩,?_⟩;refine hp _ (i+1) o_ o_ ?_;refine yV [(E.n0,E.n0+13313)] (by simp[hi1,htk]) λhrn=>⟨?_,?_,?_,?_,?_⟩<;>(try simp[hi1,htk]);all_goals exact B4 rfl (by rw[←yy]; exact B3 (B33 _) s_)
  ·have h:=zq h;simp;have:l.take i=l:=zm o_;have hil:i=l.length:=o_;subst hil;have hrn:F3 []:=(by simp[A4 hid]);rw[hR];refine I6 f_ (by simp[A4 hid]<;>exact⟨rfl,rfl⟩) [] hrn ⟨?_,?_,?_,?_,?_,?_⟩<;>(try simp[A4 hid])
def zC:AV:=.agg [.int .i64 0,.str [],.nils]
def zT:AV:=.agg [.int .i64 0,.int .i64 0,.nils]
def eCo(t q k:Nat)(c:Cl):AV:=.agg [.int .i64 c.n,.str c.text,.bsl (t+16+16*q+k) 0 c.ids.length]
def Z5(t q:Nat)(l:List Cl):Nat->List AV
 | 0=>[]
 | k+1=>match l[k]? with
  | some c=>Z5 t q l k++[eCo t q k c]
  | none=>Z5 t q l k
def eTo(t q:Nat)(x:Tg):AV:=.agg [.int .i64 x.type,.int .i64 x.id,.bsl (t+1+q) 0 x.cells.length]
def T8(t:Nat)(l:List Tg):Nat->List AV
 | 0=>[]
 | i+1=>match l[i]? with
  | some x=>T8 t l i++[eTo t i x]
  | none=>T8 t l i
def iBx(c:Cl):Bx:=⟨c.ids.map eI,.int .i64 0,false,false⟩
def cBx(t q:Nat)(x:Tg):Bx:=⟨Z5 t q x.cells x.cells.length,zC,false,false⟩
def A0z(t q:Nat)(l:List Cl):Nat->List (Nat×Option Bx)
 | 0=>[]
 | k+1=>match l[k]? with
  | some c=>(t+16+16*q+k,some (iBx c))::A0z t q l k
  | none=>A0z t q l k
def Q0(t:Nat)(l:List Tg):Nat->List (Nat×Option Bx)
 | 0=>[]
 | i+1=>match l[i]? with
  | some x=>(t+1+i,some (cBx t i x))::(A0z t i x.cells x.cells.length++Q0 t l i)
  | none=>Q0 t l i
def B09(t q:Nat)(l:List Cl):∀k,k<=l.length->(Z5 t q l k).length=k
 | 0,_=>rfl
 | k+1,h=>by
  rw[Z5,zc o_];simp[B09 t q l k o_]
def B0A(t:Nat)(l:List Tg):∀k,k<=l.length->(T8 t l k).length=k
 | 0,_=>rfl
 | k+1,h=>by
  rw[T8,zc o_];simp[B0A t l k o_]
def v7{t q:Nat}{l:List Cl}:∀{k:Nat} {y:Nat} {b:Option Bx},(y,b)∈A0z t q l k->∃m c,m<k/\l[m]?=some c/\y=t+16+16*q+m/\b=some (iBx c)
 | 0,y,b,h=>by cases h
 | k+1,y,b,h=>by
  rw[A0z] at h;cases hc:l[k]? with
  | none =>
   rw[hc] at h;obtain⟨m,c,h1,h2⟩:=v7 h;exact⟨m,c,o_,h2⟩
  | some c =>
   rw[hc] at h;rcases zh.1 h with h|h
   ·injection h with h1 h2
    exact⟨k,c,o_,hc,h1,h2⟩
   ·obtain⟨m,c,h1,h2⟩:=v7 h;exact⟨m,c,o_,h2⟩
def A6K{t:Nat}{l:List Tg}:∀{i:Nat} {y:Nat} {b:Option Bx},(y,b)∈Q0 t l i->∃j x,j<i/\l[j]?=some x/\((y=t+1+j/\b=some (cBx t j x))\/(y,b)∈A0z t j x.cells x.cells.length)
 | 0,y,b,h=>by cases h
 | i+1,y,b,h=>by
  rw[Q0] at h;cases hx:l[i]? with
  | none =>
   rw[hx] at h;obtain⟨j,x,h1,h2⟩:=A6K h;exact⟨j,x,o_,h2⟩
  | some x =>
   rw[hx] at h;rcases zh.1 h with h|h
   ·injection h with h1 h2
    exact⟨i,x,o_,hx,.inl ⟨h1,h2⟩⟩
   ·rcases zp.1 h with h|h
    ·exact⟨i,x,o_,hx,.inr h⟩
    ·obtain⟨j,x,h1,h2⟩:=A6K h;exact⟨j,x,o_,h2⟩
def B3E(S:Nat->Prop)(l:List Int):∀x∈l.map eI,B2 S x:=λx hx=>by
 obtain⟨n,_,rfl⟩:=zw.1 hx;exact I3 _ rfl
def A0Y{t q:Nat}{l:List Cl}{S:Nat->Prop}:∀{k:Nat},(∀m,m<k->S (t+16+16*q+m))->∀x∈Z5 t q l k,B2 S x
 | 0,_,x,h=>by cases h
 | k+1,hS,x,h=>by
  rw[Z5] at h;cases hc:l[k]? with
  | none=>rw[hc] at h; exact A0Y (λm hm=>hS m o_) x h
  | some c =>
   rw[hc] at h;rcases zp.1 h with h|h
   ·exact A0Y (λm hm=>hS m o_) x h
   ·simp at h;subst h;simp only[eCo,B2,E8];exact⟨trivial,trivial,hS k o_,trivial⟩
def A0Z{t:Nat}{l:List Tg}{S:Nat->Prop}:∀{i:Nat},(∀m,m<i->S (t+1+m))->∀x∈T8 t l i,B2 S x
 | 0,_,x,h=>by cases h
 | i+1,hS,x,h=>by
  rw[T8] at h;cases hc:l[i]? with
  | none=>rw[hc] at h; exact A0Z (λm hm=>hS m o_) x h
  | some c =>
   rw[hc] at h;rcases zp.1 h with h|h
   ·exact A0Z (λm hm=>hS m o_) x h
   ·simp at h;subst h;simp only[eTo,B2,E8];exact⟨trivial,trivial,hS i o_,trivial⟩
def A4j{t q:Nat}{l:List Cl}{S:Nat->Prop}(k:Nat)(hS:∀m,m<k->S (t+16+16*q+m)):A01 S (A0z t q l k):=by
 induction k with
 | zero=>exact A01.nil _
 | succ k ih =>
  rw[A0z];cases hc:l[k]? with
  | none=>exact ih λm hm=>hS m o_
  | some c =>
   refine (ih λm hm=>hS m o_).cons (hS k o_) (λp hp=>?_) (B3E _ _);obtain⟨y,b⟩:=p;obtain⟨m,c,h1,_,h2,_⟩:=v7 hp;simp only; omega
def A2J{t:Nat}{l:List Tg}(h6:∀x∈l,x.cells.length<=16){i:Nat}{y:Nat}{b:Option Bx}(h:(y,b)∈Q0 t l i):(∃j,j<i/\y=t+1+j)\/∃j m,j<i/\m<16/\y=t+16+16*j+m:=by
 obtain⟨j,x,h1,h2,h3⟩:=A6K h;rcases h3 with⟨h3,_⟩|h3
 ·exact .inl ⟨j,h1,h3⟩
 ·obtain⟨m,c,h4,_,h5,_⟩:=v7 h3;have:=h6 x (zg h2);exact .inr ⟨j,m,h1,o_,h5⟩
def X5{t:Nat}{l:List Tg}{S:Nat->Prop}(h6:∀x∈l,x.cells.length<=16)(i:Nat)(hi:i<=12)(hS1:∀j,j<i->S (t+1+j))(hS2:∀j m,j<i->m<16->S (t+16+16*j+m)):A01 S (Q0 t l i):=by
 induction i with
 | zero=>exact A01.nil _
 | succ i ih =>
  rw[Q0];have ih:=ih o_ (λj hj=>hS1 j o_) λj m hj hm=>hS2 j m o_ hm;cases hx:l[i]? with
  | none=>exact ih
  | some x =>
   have hx6:=h6 x (zg hx);have ha:A01 S (A0z t i x.cells x.cells.length++Q0 t l i):=(A4j _ λm hm=>hS2 i m o_ o_).append ih λp hp p' hp' e=>by
    obtain⟨y,b⟩:=p;obtain⟨y',b'⟩:=p';simp only at e;subst e;obtain⟨m,c,h1,_,h2,_⟩:=v7 hp;rcases A2J h6 hp' with⟨j,h3,h4⟩|⟨j,m',h3,h4,h5⟩<;>omega
   refine ha.cons (hS1 i o_) (λp hp=>?_) (A0Y λm hm=>hS2 i m o_ o_);obtain⟨y,b⟩:=p;rcases zp.1 hp with hp|hp
   ·obtain⟨m,c,h1,_,h2,_⟩:=v7 hp;simp only; omega
   ·rcases A2J h6 hp with⟨j,h3,h4⟩|⟨j,m',h3,h4,h5⟩<;>(simp only; omega)
def A2A.of{R:Rn}{S:Nat->Prop}{bx':List (Nat×Option Bx)}{fin:Nat->Option Bx}:∀{l:List Nat},(∀y∈l,∀b',fin y=some b'->∃x b,R.ρ y=some x/\Am.bk bx' x=some b/\BxR R S b b')->A2A R S bx' fin l
 | [],_=>trivial
 | y::l,h=>by
  refine⟨?_,A2A.of λz hz=>h z (zb _ hz)⟩;cases hf:fin y with
  | none=>trivial
  | some b'=>exact h y (za ..) b' hf
def A0D{B:Nat->Option Bx}:∀{wr:List (Nat×Option Bx)} {y:Nat},(∀q∈wr,q.1≠y)->E9 B wr y=B y
 | [],_,_=>rfl
 | (z,b)::l,y,h=>by
  rw[E9,A0D λq hq=>h q (zb _ hq)];exact B6 _ _ _ (λe=>h (z,b) (za ..) e.symm)
def B3F{B:Nat->Option Bx}:∀{wr:List (Nat×Option Bx)} {y:Nat} {b:Option Bx},(wr.map Prod.fst).Nodup->(y,b)∈wr->E9 B wr y=b
 | [],_,_,_,h=>by cases h
 | (z,c)::l,y,b,hn,h=>by
  rw[yj,xh] at hn;rw[E9];rcases zh.1 h with e|h
  ·injection e with e1 e2
   subst e1 e2;rw[A0D λq hq e=>hn.1 (zw.2 ⟨q,hq,e⟩),C2]
  ·exact B3F hn.2 h
def B0B{B:Nat->Option Bx}:∀{wr:List (Nat×Option Bx)} {y:Nat} {b:Bx},E9 B wr y=some b->(y,some b)∈wr\/B y=some b
 | [],y,b,h=>.inr h
 | (z,c)::l,y,b,h=>by
  rw[E9] at h;rcases B0B h with h|h
  ·exact .inl (zb _ h)
  ·by_cases e:y=z
   ·subst e;rw[C2] at h;subst h;exact .inl (za ..)
   ·rw[B6 _ _ _ e] at h;exact .inr h
def B0C{id:Nat}{rd:List (Nat×Option Bx)}:∀{l:List (Nat×Option Bx)},(∀q∈l,J3 q.1 rd\/(id<=q.1/\q.1<id+1024))->A4Z id rd l
 | [],_=>trivial
 | (y,b)::l,h=>⟨h _ (za ..),B0C λq hq=>h q (zb _ hq)⟩
def B6F(R:Rn)(t t':Nat):Prop:=∀o,1<=o->o<1000->R.ρ (t'+o)=some (t+o)
def A6L{R:Rn}{S:Nat->Prop}{t t' q:Nat}{l:List Cl}(h:B6F R t t')(hq:q<12):∀k,k<=16->N8 R S (Z5 t q l k) (Z5 t' q l k)
 | 0,_=>.nil
 | k+1,hk=>by
  rw[Z5,Z5];cases hc:l[k]? with
  | none=>exact A6L h hq k o_
  | some c =>
   refine u5 (A6L h hq k o_) (.cons _ _ _ _ (.agg _ _ ?_) .nil);refine .cons _ _ _ _ (.same _ trivial) (.cons _ _ _ _ (.same _ trivial) (.cons _ _ _ _ (.bsl _ _ _ _ ?_) .nil));have:=h (16+16*q+k) o_ o_;rw[show t'+16+16*q+k=t'+(16+16*q+k) by omega,show t+16+16*q+k=t+(16+16*q+k) by omega];exact this
def A6M{R:Rn}{S:Nat->Prop}{t t':Nat}{l:List Tg}(h:B6F R t t'):∀i,i<=12->N8 R S (T8 t l i) (T8 t' l i)
 | 0,_=>.nil
 | i+1,hi=>by
  rw[T8,T8];cases hc:l[i]? with
  | none=>exact A6M h i o_
  | some x =>
   refine u5 (A6M h i o_) (.cons _ _ _ _ (.agg _ _ ?_) .nil);refine .cons _ _ _ _ (.same _ trivial) (.cons _ _ _ _ (.same _ trivial) (.cons _ _ _ _ (.bsl _ _ _ _ ?_) .nil));have:=h (1+i) o_ o_;rw[show t'+1+i=t'+(1+i) by omega,show t+1+i=t+(1+i) by omega];exact this
def A8Y{t t' q:Nat}{l:List Cl}:∀{k:Nat} {o:Nat} {b:Option Bx},(t'+o,b)∈A0z t' q l k->(t+o,b)∈A0z t q l k
 | 0,o,b,h=>by cases h
 | k+1,o,b,h=>by
  rw[A0z] at h ⊢;cases hc:l[k]? with
  | none=>rw[hc] at h; exact A8Y h
  | some c =>
   rw[hc] at h;rcases zh.1 h with h|h
   ·injection h with h1 h2
    subst h2;have:o=16+16*q+k:=by omega
    subst this;rw[show t+(16+16*q+k)=t+16+16*q+k by omega];exact za ..
   ·exact zb _ (A8Y h)
def A6N{R:Rn}{S:Nat->Prop}{t t':Nat}{l:List Tg}(h6:∀x∈l,x.cells.length<=16)(hR:B6F R t t'):∀{i:Nat} {y:Nat} {b:Bx},i<=12->(y,some b)∈Q0 t' l i->∃o b0,1<=o/\o<1000/\y=t'+o/\(t+o,some b0)∈Q0 t l i/\BxR R S b0 b
 | 0,y,b,_,h=>by cases h
 | i+1,y,b,hi,h=>by
  rw[Q0] at h;rw[Q0];cases hc:l[i]? with
  | none=>rw[hc] at h; exact A6N h6 hR o_ h
  | some x =>
   have hx6:=h6 x (zg hc);rw[hc] at h;rcases zh.1 h with h|h
   ·injection h with h1 h2
    injection h2 with h2
    subst h1 h2;refine⟨1+i,cBx t i x,o_,o_,o_,?_,⟨A6L hR o_ _ hx6,rfl,rfl,rfl⟩⟩;rw[show t+(1+i)=t+1+i by omega];exact za ..
   ·rcases zp.1 h with h|h
    ·obtain⟨m,c,h1,h2,h3,h4⟩:=v7 h;injection h4 with h4
     subst h4 h3;refine⟨16+16*i+m,iBx c,o_,o_,o_,zb _ (yw _ ?_),⟨B4 rfl (A1C _),rfl,rfl,rfl⟩⟩;exact A8Y (t':=t') (by rw[show t'+(16+16*i+m)=t'+16+16*i+m by omega]; exact h)
    ·obtain⟨o,b0,q1,q2,q3,q4,q5⟩:=A6N h6 hR o_ h;exact⟨o,b0,q1,q2,q3,zb _ (yg _ q4),q5⟩
def A0E(id a:Nat):Nat->List (Nat×Nat)
 | 0=>[]
 | n+1=>(id+(n+1),a+(n+1))::A0E id a n
def A4k{id a:Nat}:∀{n:Nat} {q:Nat×Nat},q∈A0E id a n->∃o,1<=o/\o<=n/\q=(id+o,a+o)
 | 0,q,h=>by cases h
 | n+1,q,h=>by
  rw[A0E] at h;rcases zh.1 h with h|h
  ·exact⟨n+1,o_,o_,h⟩
  ·obtain⟨o,h1,h2,h3⟩:=A4k h;exact⟨o,h1,o_,h3⟩
def A3V{id a b:Nat}:∀{n:Nat},(∀o,1<=o->o<=n->b≠a+o)->T6 (A0E id a n) b=false
 | 0,_=>rfl
 | n+1,h=>by
  rw[A0E,T6,zf (h (n+1) o_ o_)];exact A3V λo h1 h2=>h o h1 o_
def B0D{id a:Nat}:∀n,F3 (A0E id a n)
 | 0=>trivial
 | n+1=>⟨A3V λo h1 h2=>o_,B0D n⟩
def B0E{id a o:Nat}:∀{n:Nat},1<=o->o<=n->lkN (A0E id a n) (id+o)=some (a+o)
 | 0,h1,h2=>by omega
 | n+1,h1,h2=>by
  rw[A0E,lkN];by_cases e:o=n+1
  ·subst e; simp
  ·rw[zf o_];exact B0E h1 o_
def B3G{a b:Nat}:∀{l:List (Nat×Nat)},(∀q∈l,a<=q.1/\q.1<b)->A4J a b l
 | [],_=>trivial
 | (y,z)::l,h=>⟨h _ (za ..),B3G λq hq=>h q (zb _ hq)⟩
def B0F{n0:Nat}{bx':List (Nat×Option Bx)}:∀{l:List (Nat×Nat)},(∀q∈l,n0<=q.2)->A1w n0 bx' l
 | [],_=>trivial
 | (y,z)::l,h=>⟨.inl (h _ (za ..)),B0F λq hq=>h q (zb _ hq)⟩
end Go.Am
