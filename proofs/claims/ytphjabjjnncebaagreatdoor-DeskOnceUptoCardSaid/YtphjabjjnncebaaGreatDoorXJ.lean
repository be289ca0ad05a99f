/- Parts of the proof: an abstract machine for Go functions, and what functions of the program give back (St2, St3, St4, CcV, Vl1, Vl2, Vl3, Vl4, Vl5, Vl6, St0, St5, Ow1, Ow2). No condition. -/
import Derived.Test.YtphjabjjnncebaaGreatDoorXI
import Derived.Test.YtphjabjjnncebaaGreatDoorXG
import Derived.Test.YtphjabjjnncebaaGreatDoorXH
import Derived.Test.YtphjabjjnncebaaGreatDoorXF
set_option maxRecDepth 100000
set_option linter.all false
set_option maxHeartbeats 2000000
namespace Go.Am
open Go Go.Proofs Go.RowKit
theorem o8(s:H0)(kind tid:Int)(id:Nat)(hl8:s.things.length<1000000):A2 Tryz.prog 71 [D7 s,.int .i64 kind,.int .i64 tid] [] id (.tup [.int .i64 (B9 s.things kind tid),.bool (E9 s.things kind tid)]) []:=by
 unfold D7;refine w71.e.1 fun E hP hR hl hid=>?_;simp[w71];(refine yH rfl (B0v s.things kind tid _ hl8) ?_; simp);exact yP hR
def A41:List Int->Bool
 | a::b::r=>decide (a<b)&&A41 (b::r)
 | _=>true
theorem B6v{l:List Int}{i:Nat}{a b:Int}(h1:l[i]?=some a)(h2:l[i+1]?=some b):A41 (l.drop i)=(decide (a<b)&&A41 (l.drop (i+1))):=by
 have e1:l.drop i=a::l.drop (i+1):=by
  have hi:=(ze.1 h1).1;obtain⟨x,hx,hd⟩:=B2 hi;rw[h1] at hx; injection hx with hx; subst hx; exact hd
 have e2:l.drop (i+1)=b::l.drop (i+2):=by
  have hi:=(ze.1 h2).1;obtain⟨x,hx,hd⟩:=B2 hi;rw[h2] at hx; injection hx with hx; subst hx; exact hd
 rw[e1,e2]; rfl
theorem B94{l:List Int}{i:Nat}(h:l.length<=i+1):A41 (l.drop i)=true:=by
 have:(l.drop i).length<=1:=by simp; omega
 match hm:l.drop i,this with
 | [],_=>rfl
 | [a],_=>rfl
def A46(k:Int):Int:=if k=3 then 1 else 6
def A1Y(f:Fd)(c:Cl):Int :=
 if (f.kind≠1/\c.n≠0)\/(f.kind≠2/\c.text≠[])\/(R8 f.kind=false/\c.ids≠[]) then 1
 else if ¬(-999999999<=c.n/\c.n<=999999999) then 3
 else if 40<c.text.length\/A46 f.kind<c.ids.length then 2
 else if A41 c.ids=true then 0 else 4
theorem C1s(f:Fd)(c:Cl)(id:Nat):A2 Tryz.prog 130 [T2 f,eCl c] [] id (.int .i64 (A1Y f c)) []:=by
 unfold T2 eCl;refine w130.e.1 fun E hP hR hl hid=>?_;simp[w130];refine E5 (fun h3=>?_) (fun h3=>?_)<;>simp;all_goals repeat' first
  | (refine And.intro ?_ ?_)
  | (refine E5 (fun h=>?_) (fun h=>?_)<;>simp)
  | (refine yH rfl (A7t _ _) ?_; simp)
  | (refine yH rfl (S9 _ _) ?_; simp)
 all_goals first
  | (rw[hR]; refine E8 (by simp<;>rfl) [] trivial (S6 ?_ (by simp) (by simp)); simp[A1Y,R8,A46] at *; first|done|grind)
  | (exfalso; simp_all; done)
  | skip
 all_goals
  have h6:c.ids.length<=6:=by simp at *; omega
  have hf:A1Y f c=if A41 c.ids=true then 0 else 4:=by
   simp[R8] at *;unfold A1Y;rw[zf (by simp[R8]; grind),zf (by omega),zf (by simp[A46]; grind)]
  rw[hf] at hR;refine D0 (X:=Nat) (fun i=>⟨[(3,true,.ptr (E.n0+1024) 0 0),(6,true,.int .i64 (i+1))],[(E.n0+1024,some ⟨[.agg [.int .i64 c.n,.str c.text,.sl (c.ids.map eI)]],.agg [.int .i64 c.n,.str c.text,.sl (c.ids.map eI)],false,false⟩)],1025⟩) (fun i=>i<=c.ids.length/\A41 (c.ids.drop i)=A41 c.ids) (fun i=>c.ids.length - i) 0 ?_ ⟨by omega,rfl⟩ ?_
  ·refine yV [(E.n0+1024,E.n0+1024)] (by simp) fun hrn=>⟨?_,?_,?_,?_,?_⟩<;>(try simp)
  ·rintro i ⟨hi,ha⟩ p hp;have hw1:IntKind.i64.wrap (i:Int)=(i:Int):=A5 (by omega);have hw2:IntKind.i64.wrap ((i:Int)+1+1)=((i+1:Nat):Int)+1:=(by rw[A5 (by omega)]; omega);have hw3:(0:Int)<=(i:Int)+1:=(by omega);have hw4:((i:Int)+1).toNat=i+1:=(by omega);refine A3 4000 ?_;simp;refine E5 (fun h=>?_) (fun h=>?_)
   ·have h:=zr h;obtain⟨a,hx⟩:∃a,c.ids[i]?=some a:=⟨_,zc (by omega)⟩;obtain⟨b,hy⟩:∃b,c.ids[i+1]?=some b:=⟨_,zc (by omega)⟩;have hst:=B6v hx hy;simp[hw1,hw3,hw4,hx,hy,eI];refine⟨by omega,by omega,?_⟩;refine E5 (fun h1=>?_) (fun h1=>?_)<;>simp
    ·exact yP hR (h1:=by simp; simp at h1; rw[←ha,hst]; simp; intro h2; omega)
    ·simp at h1;rw[hst] at ha;refine hp _ (i+1) ⟨by omega,by rw[←ha]; simp; intro _; exact h1⟩ (by omega) ?_;refine yV [(E.n0+1024,E.n0+1024)] (by simp[hw2]) fun hrn=>⟨?_,?_,?_,?_,?_⟩<;>(try simp[hw2])
   ·have h:=zp h;have:A41 c.ids=true:=by rw[←ha]; exact B94 (by omega)
    simp;exact yP hR (h1:=by simp; exact this)
def C8(l:List Ty)(k:Int):List Fd:=((l[k.toNat]?).map Ty.fields).getD []
def s9(fs:List Fd)(k:Nat)(c:Cl):Int:=match fs[k]? with
 | some f=>A1Y f c
 | none=>0
def X8(l:List Ty)(t:Tg):Int :=
 if ¬(0<=t.type/\t.type<l.length) then 5 else if ¬(1<=t.id/\t.id<=999) then 3
 else if t.cells.length≠(C8 l t.type).length then 1 else D9 (fun k c=>s9 (C8 l t.type) k c) t.cells 0
theorem B95(s:H0)(t:Tg)(id:Nat)(h5:s.types.length<=5)(h6:t.cells.length<=1000000\/∀x∈s.types,x.fields.length<=6):A2 Tryz.prog 66 [D7 s,T4 t] [] id (.int .i64 (X8 s.types t)) []:=by
 rw[A3E t];unfold D7;have hw:IntKind.i64.wrap ((s.types.length:Int) - 1)=(s.types.length:Int) - 1:=A5 (by omega);refine w66.e.1 fun E hP hR hl hid=>?_;simp[w66,hw];(refine yH rfl (F5 _ _ _ _) ?_; simp);refine E5 (fun h=>?_) (fun h=>?_)<;>simp
 ·exact yP hR (h1:=by simp; simp at h; unfold X8; rw[zj (by omega)])
 have h1:¬¬(0<=t.type/\t.type<s.types.length):=by simp at h; omega
 (refine yH rfl (F5 _ _ _ _) ?_; simp);refine E5 (fun h=>?_) (fun h=>?_)<;>simp
 ·exact yP hR (h1:=by simp; simp at h; unfold X8; rw[zf h1,zj (by omega)])
 have h2:¬¬(1<=t.id/\t.id<=999):=by simp at h; omega
 obtain⟨ty,hty⟩:∃ty,s.types[t.type.toNat]?=some ty:=⟨_,zc (by omega)⟩;have hfl:C8 s.types t.type=ty.fields:=by simp[C8,hty]
 have hr1:0<=t.type:=by omega
 have hr2:t.type.toNat<s.types.length:=by omega
 simp[hty,I8];refine⟨⟨hr1,hr2⟩,?_⟩;refine E5 (fun h=>?_) (fun h=>?_)<;>simp
 ·exact yP hR (h1:=by simp; simp at h; unfold X8; rw[zf h1,zf h2,hfl,zj (by omega)])
 have h3:t.cells.length=ty.fields.length:=by simp at h; omega
 have hft:X8 s.types t=D9 (fun k c=>s9 ty.fields k c) t.cells 0:=by unfold X8; rw[zf h1,zf h2,hfl,zf (by omega)]
 rw[hft] at hR;have h7:t.cells.length<=1000000:=by
  rcases h6 with h6|h6
  ·exact h6
  ·have:=h6 ty (zg hty); omega
 refine D0 (X:=Nat) (fun k=>⟨[(2,true,.ptr E.n0 0 0),(3,true,.ptr (E.n0+1024) 0 0),(36,true,.sl (t.cells.map eCl)),(37,true,.int .i64 t.cells.length),(38,true,.int .i64 k)],[(E.n0,some ⟨[.agg [.sl (s.types.map I8),.sl (s.things.map T4)]],.agg [.sl (s.types.map I8),.sl (s.things.map T4)],false,false⟩),(E.n0+1024,some ⟨[.agg [.int .i64 t.type,.int .i64 t.id,.sl (t.cells.map eCl)]],.agg [.int .i64 t.type,.int .i64 t.id,.sl (t.cells.map eCl)],false,false⟩)],1025⟩) (fun k=>k<=t.cells.length/\D9 (fun k c=>s9 ty.fields k c) (t.cells.drop k) k=D9 (fun k c=>s9 ty.fields k c) t.cells 0) (fun k=>t.cells.length - k) 0 ?_ ⟨by omega,rfl⟩ ?_
 ·refine yV [(E.n0,E.n0),(E.n0+1024,E.n0+1024)] (by simp) fun hrn=>⟨?_,?_,?_,?_,?_⟩<;>(try simp)
 ·rintro k ⟨hk,hf⟩ p hp;refine A3 4000 ?_;simp;refine E5 (fun h=>?_) (fun h=>?_)
  ·have h:=zr h;obtain⟨x,hx,hd⟩:=B2 h;obtain⟨f,hfx⟩:∃f,ty.fields[k]?=some f:=⟨_,zc (by omega)⟩;rw[hd] at hf;simp only[D9] at hf;have hca:s9 ty.fields k x=A1Y f x:=(by simp only[s9,hfx]);rw[hca] at hf;have hi1:IntKind.i64.wrap ((k:Int)+1)=((k+1:Nat):Int):=A5 (by omega);simp[hx,B0u x,hty,I8,hfx,T2];have hcx:=fun id=>C1s f x id;simp only[T2,B0u x] at hcx;refine⟨h,⟨hr1,hr2⟩,by omega,?_⟩;(refine yH rfl (hcx _) ?_; simp);refine E5 (fun h1=>?_) (fun h1=>?_)
   ·simp;rw[zj (by simpa using h1)] at hf;exact yP hR (h1:=by simp; exact hf)
   ·simp;rw[zf (by simpa using h1)] at hf;refine hp _ (k+1) ⟨h,hf⟩ (by omega) ?_;refine yV [(E.n0,E.n0),(E.n0+1024,E.n0+1024)] (by simp[hi1]) fun hrn=>⟨?_,?_,?_,?_,?_⟩<;>(try simp[hi1])
  ·have h:=zp h;simp;rw[zn (by omega)] at hf;exact yP hR (h1:=by simp; exact hf)
theorem A9h(s:H0):(D7 s).pureB=true:=by simp[D7]
@[simp] theorem B96 (R:Rn) (S:Nat->Prop) (f:Fd):P0 R S (T2 f) (T2 f):=K9 rfl (B2c f)
@[simp] theorem C5z (R:Rn) (S:Nat->Prop) (s:H0):P0 R S (D7 s) (D7 s):=K9 rfl (A9h s)
@[simp] theorem C6A (R:Rn) (S:Nat->Prop) (t:Tg):P0 R S (T4 t) (T4 t):=K9 rfl (A3F t)
def C3(l:List Ty)(n:List UInt8):Int:=B8 (fun t=>t.name==n) l 0
def K8(s:H0)(f:Fd)(x:Int):Bool:=E9 s.things (C3 s.types f.of) x
theorem A03(l:List Ty)(n:List UInt8):B8 (fun t=>t.name==n) l 0=C3 l n:=rfl
theorem B4I(x:Int)(s:H0)(f:Fd)(js jf:Nat)(id:Nat)(h5:s.types.length<=5)(h12:s.things.length<=12)(d1:js≠jf):A2 Tryz.prog 70 [.int .i64 x,.ptr js 0 0,.ptr jf 0 0] [(js,⟨[D7 s],D7 s,false,false⟩),(jf,⟨[T2 f],T2 f,false,false⟩)] id (.bool (!K8 s f x)) []:=by
 have hF:=o8 s (C3 s.types f.of) x;unfold D7 T2 at *;refine w70.e.1 fun E hP hR hl hid=>?_;simp[w70];have hjs:=hl (js,_) (za ..);simp only at hjs;have js1:=lf hjs;have hjf:=hl (jf,_) (zb _ (za ..));simp only at hjf;have jf1:=lf hjf;try simp[js1,jf1,d1,d1.symm]
 (refine yC rfl (j8 s.types f.of _ (by omega)) ?_; simp[js1,jf1,d1,d1.symm,A03]);(refine yC rfl (hF _ (by omega)) ?_; simp[js1,jf1,d1,d1.symm,K8]);refine yE hR [] (by simp[js1,jf1,d1,d1.symm,K8,A4 hid]) fun hrn=>⟨?_,?_,?_,?_,?_,?_⟩<;>(try simp[js1,jf1,d1,d1.symm,K8,A4 hid])
theorem B2h(l:List Int)(s:H0)(f:Fd)(js jf:Nat)(id:Nat)(h5:s.types.length<=5)(h12:s.things.length<=12)(d1:js≠jf)(hl8:l.length<9223372036854775807):A2 Tryz.prog 131 [.sl (l.map eI),.fn 70 [.ptr js 0 0,.ptr jf 0 0]] [(js,⟨[D7 s],D7 s,false,false⟩),(jf,⟨[T2 f],T2 f,false,false⟩)] id (.int .i64 (B8 (fun x=>!K8 s f x) l 0)) []:=by
 refine w131.e.1 fun E hP hR hl hid=>?_;simp[w131];have hjs:=hl (js,_) (za ..);simp only at hjs;have js1:=lf hjs;have hjf:=hl (jf,_) (zb _ (za ..));simp only at hjf;have jf1:=lf hjf;refine D0 (X:=Nat) (fun i=>⟨[(0,true,.sl (l.map eI)),(1,true,.fn 70 [.ptr js 0 0,.ptr jf 0 0]),(7,true,.int .i64 l.length),(8,true,.int .i64 i)],[(js,some (⟨[D7 s],D7 s,false,false⟩)),(jf,some (⟨[T2 f],T2 f,false,false⟩))],0⟩) (fun i=>i<=l.length/\B8 (fun x=>!K8 s f x) (l.drop i) i=B8 (fun x=>!K8 s f x) l 0) (fun i=>l.length - i) 0 ?_ ⟨by omega,rfl⟩ ?_
 ·refine yV [] (by simp[js1,jf1,d1,d1.symm]) fun hrn=>⟨?_,?_,?_,?_,?_⟩<;>(try simp[js1,jf1,d1,d1.symm])
 ·rintro i ⟨hi,hf⟩ p hp;refine A3 4000 ?_;simp;refine E5 (fun h=>?_) (fun h=>?_)
  ·have h:=zr h;obtain⟨x,hx,hd⟩:=B2 h;have hcl:=B4I x s f js jf;rw[hd] at hf;simp only[B8] at hf;have hi1:IntKind.i64.wrap ((i:Int)+1)=((i+1:Nat):Int):=A5 (by omega);simp[hx,eI];refine⟨h,?_⟩;refine L5 hP rfl rfl (hcl _ h5 h12 d1) (by simp) (by simp[js1,jf1,d1,d1.symm]<;>rfl) ?_;refine A3 4000 ?_;simp[js1,jf1,d1,d1.symm];refine E5 (fun h1=>?_) (fun h1=>?_)
   ·simp[js1,jf1,d1,d1.symm];rw[zj h1] at hf;rw[←hf] at hR;refine yE hR [] (by simp[js1,jf1,d1,d1.symm,B8,A4 hid]) fun hrn=>⟨?_,?_,?_,?_,?_,?_⟩<;>(try simp[js1,jf1,d1,d1.symm,B8,A4 hid])
   ·simp[js1,jf1,d1,d1.symm];rw[zf (by simpa using h1)] at hf;refine hp _ (i+1) ⟨h,hf⟩ (by omega) ?_;refine yV [] (by simp[hi1,js1,jf1,d1,d1.symm]) fun hrn=>⟨?_,?_,?_,?_,?_⟩<;>(try simp[hi1,js1,jf1,d1,d1.symm])
  ·have h:=zp h;simp;rw[zn (by omega)] at hf;rw[←hf] at hR;refine yE hR [] (by simp[js1,jf1,d1,d1.symm,B8,A4 hid]) fun hrn=>⟨?_,?_,?_,?_,?_,?_⟩<;>(try simp[js1,jf1,d1,d1.symm,B8,A4 hid])
theorem B4J(l:List Int)(s:H0)(f:Fd)(js jf:Nat)(id:Nat)(h5:s.types.length<=5)(h12:s.things.length<=12)(d1:js≠jf)(hl8:l.length<9223372036854775807):A2 Tryz.prog 69 [.sl (l.map eI),.fn 70 [.ptr js 0 0,.ptr jf 0 0]] [(js,⟨[D7 s],D7 s,false,false⟩),(jf,⟨[T2 f],T2 f,false,false⟩)] id (.bool (l.any fun x=>!K8 s f x)) []:=by
 refine w69.e.1 fun E hP hR hl hid=>?_;simp[w69];have hjs:=hl (js,_) (za ..);simp only at hjs;have js1:=lf hjs;have hjf:=hl (jf,_) (zb _ (za ..));simp only at hjf;have jf1:=lf hjf;try simp[js1,jf1,d1,d1.symm]
 (refine yC rfl (B2h l s f js jf _ h5 h12 d1 hl8) ?_; simp[js1,jf1,d1,d1.symm]);have hj:=T3 (fun x=>!K8 s f x) l 0;simp[hj];refine yE hR [] (by simp[js1,jf1,d1,d1.symm,A4 hid]) fun hrn=>⟨?_,?_,?_,?_,?_,?_⟩<;>(try simp[js1,jf1,d1,d1.symm,A4 hid])
theorem B6w(f:Fd)(c:Cl)(s:H0)(js:Nat)(id:Nat)(h5:s.types.length<=5)(h12:s.things.length<=12)(hl8:c.ids.length<9223372036854775807):A2 Tryz.prog 68 [T2 f,.cptr [.int .i64 c.n,.str c.text,.sl (c.ids.map eI)],.ptr js 0 0] [(js,⟨[D7 s],D7 s,false,false⟩)] id (.bool (!c.ids.any fun x=>!K8 s f x)) []:=by
 refine w68.e.1 fun E hP hR hl hid=>?_;simp[w68];have hjs:=hl (js,_) (za ..);simp only at hjs;have js1:=lf hjs;try simp[js1]
 have hne:js≠E.n0:=by omega
 (refine yC rfl (B4J c.ids s f js E.n0 _ h5 h12 hne hl8) ?_; simp[js1]);refine yE hR [] (by simp[js1,A4 hid]) fun hrn=>⟨?_,?_,?_,?_,?_,?_⟩<;>(try simp[js1,A4 hid])
def t6(p:Fd->Cl->Bool):List Fd->List Cl->Bool
 | f::fs,c::cs=>p f c&&t6 p fs cs
 | _,_=>true
def Q7(p:Fd->Cl->Bool)(l:List Ty)(ts:List Tg):Bool:=ts.all fun t=>t6 p (C8 l t.type) t.cells
theorem B5U(s:H0)(g j:Nat)(y:AV)(p:Fd->Cl->Bool)(hy:y.pureB=true)
  (hcl:∀f c id,c.ids.length<=6->A2 Tryz.prog g [T2 f,.cptr [.int .i64 c.n,.str c.text,.sl (c.ids.map eI)],.ptr j 0 0] [(j,⟨[y],y,false,false⟩)] id (.bool (p f c)) [])
  (hok:∀t∈s.things,0<=t.type/\t.type.toNat<s.types.length/\t.cells.length=(C8 s.types t.type).length/\t.cells.length<=1000000/\∀c∈t.cells,c.ids.length<=6) (h12:s.things.length<=1000000) (id:Nat) :
  A2 Tryz.prog 73 [D7 s,.fn g [.ptr j 0 0]] [(j,⟨[y],y,false,false⟩)] id (.bool (Q7 p s.types s.things)) []:=by
 have hr:∀R S,P0 R S y y:=fun R S=>K9 rfl hy;have hn:∀S,B4 S y:=fun S=>I4 _ hy;unfold D7;refine w73.e.1 fun E hP hR hl hid=>?_;simp[w73];have hj:=hl (j,_) (za ..);simp only at hj;have j1:=lf hj;refine D0 (X:=Nat) (fun i=>⟨[(1,true,.fn g [.ptr j 0 0]),(2,true,.ptr E.n0 0 0),(9,true,.sl (s.things.map T4)),(10,true,.int .i64 s.things.length),(11,true,.int .i64 i)],[(j,some ⟨[y],y,false,false⟩),(E.n0,some ⟨[.agg [.sl (s.types.map I8),.sl (s.things.map T4)]],.agg [.sl (s.types.map I8),.sl (s.things.map T4)],false,false⟩)],1⟩) (fun i=>i<=s.things.length/\Q7 p s.types (s.things.drop i)=Q7 p s.types s.things) (fun i=>s.things.length - i) 0 ?_ ⟨by omega,rfl⟩ ?_
 ·refine yV [(E.n0,E.n0)] (by simp[j1,hr,hn]) fun hrn=>⟨?_,?_,?_,?_,?_⟩<;>(try simp[j1,hr,hn])
 ·rintro i ⟨hi,hf⟩ q hq;refine A3 4000 ?_;simp;refine E5 (fun h=>?_) (fun h=>?_)
  ·have h:=zr h;obtain⟨t,hx,hd⟩:=B2 h;have hi1:IntKind.i64.wrap ((i:Int)+1)=((i+1:Nat):Int):=A5 (by omega);obtain⟨k1,k2,k3,k4,k5⟩:=hok t (zg hx);obtain⟨ty,hty⟩:∃ty,s.types[t.type.toNat]?=some ty:=⟨_,zc k2⟩;have hfl:C8 s.types t.type=ty.fields:=(by simp[C8,hty]);rw[hd,Q7,List.all_cons,hfl] at hf;rw[hfl] at k3;simp[hx,A3E t,j1];refine⟨h,?_⟩;refine D0 (X:=Nat) (fun k=>⟨[(1,true,.fn g [.ptr j 0 0]),(2,true,.ptr E.n0 0 0),(6,true,.ptr (E.n0+1) 0 0),(9,true,.sl (s.things.map T4)),(10,true,.int .i64 s.things.length),(11,true,.int .i64 i),(16,true,.sl (t.cells.map eCl)),(17,true,.int .i64 t.cells.length),(18,true,.int .i64 k)],[(j,some ⟨[y],y,false,false⟩),(E.n0,some ⟨[.agg [.sl (s.types.map I8),.sl (s.things.map T4)]],.agg [.sl (s.types.map I8),.sl (s.things.map T4)],false,false⟩),(E.n0+1,some ⟨[.agg [.int .i64 t.type,.int .i64 t.id,.sl (t.cells.map eCl)]],.agg [.int .i64 0,.int .i64 0,.nils],false,false⟩)],2⟩) (fun k=>k<=t.cells.length/\t6 p (ty.fields.drop k) (t.cells.drop k)=t6 p ty.fields t.cells) (fun k=>t.cells.length - k) 0 ?_ ⟨by omega,rfl⟩ ?_
   ·refine yV [(E.n0,E.n0),(E.n0+1,E.n0+3073)] (by simp[j1,hr,hn]) fun hrn=>⟨?_,?_,?_,?_,?_⟩<;>(try simp[j1,hr,hn])
   ·rintro k ⟨hk,hf2⟩ q2 hq2;refine A3 4000 ?_;simp;refine E5 (fun h=>?_) (fun h=>?_)
    ·have h:=zr h;obtain⟨c,hcx,hcd⟩:=B2 h;obtain⟨f,hfx,hfd⟩:=B2 (l:=ty.fields) (i:=k) (by omega);have hi2:IntKind.i64.wrap ((k:Int)+1)=((k+1:Nat):Int):=A5 (by omega);rw[hcd,hfd,t6] at hf2;have hfc:=fun id=>hcl f c id (k5 c (zg hcx));simp only[T2] at hfc;simp[hcx,hfx,B0u c,hty,I8,T2,j1];refine⟨⟨k1,k2⟩,by omega,h,?_⟩;refine L5 hP rfl rfl (hfc _) (by simp) (by simp[j1]<;>rfl) ?_;refine A3 4000 ?_;simp;refine E5 (fun h1=>?_) (fun h1=>?_)
     ·have h1:p f c=false:=(by simpa using h1);rw[h1,vv] at hf2;rw[←hf2,vv] at hf;rw[←hf] at hR;simp;refine yE hR [] (by simp[j1,hr,hn,A4 hid]) fun hrn=>⟨?_,?_,?_,?_,?_,?_⟩<;>(try simp[j1,hr,hn,A4 hid])
     ·have h1:p f c=true:=(by simpa using h1);rw[h1,vt] at hf2;simp;refine hq2 _ (k+1) ⟨h,hf2⟩ (by omega) ?_;refine yV [(E.n0,E.n0),(E.n0+1,E.n0+1)] (by simp[hi2,j1,hr,hn]) fun hrn=>⟨?_,?_,?_,?_,?_⟩<;>(try simp[hi2,j1,hr,hn])
    ·have h:=zp h;rw[zn (l:=t.cells) (by omega)] at hf2;have hb:t6 p ty.fields t.cells=true:=(by rw[←hf2]; cases ty.fields.drop k<;>rfl);rw[hb,vt] at hf;simp;refine hq _ (i+1) ⟨by omega,hf⟩ (by omega) ?_;refine yV [(E.n0,E.n0)] (by simp[hi1,j1,hr,hn]) fun hrn=>⟨?_,?_,?_,?_,?_⟩<;>(try simp[hi1,j1,hr,hn])
  ·have h:=zp h;simp;rw[zn (by omega)] at hf;have:Q7 p s.types s.things=true:=by rw[←hf]; rfl
   rw[this] at hR;refine yE hR [] (by simp[j1,hr,hn,A4 hid]) fun hrn=>⟨?_,?_,?_,?_,?_,?_⟩<;>(try simp[j1,hr,hn,A4 hid])
end Go.Am
namespace Go.Am
end Go.Am
namespace Go.Am
open Go Go.Proofs Go.RowKit
structure Ag where
 name:List UInt8
 isText:Bool
 text:List UInt8
 n:Int
def t7(a:Ag):AV:=.agg [.str a.name,.bool a.isText,.str a.text,.int .i64 a.n]
theorem U5(a:Ag):t7 a = .agg [.str a.name,.bool a.isText,.str a.text,.int .i64 a.n]:=rfl
theorem B97(f:Ag):(t7 f).pureB=true:=rfl
@[simp] theorem A3H (l:List Ag):F9 (l.map t7)=true:=E7 B97 l
@[simp] theorem C4k (S:Nat->Prop) (l:List Ag):F3 S (l.map t7):=B3 _ (A3H l)
@[simp] theorem C60 (R:Rn) (S:Nat->Prop) (l:List Ag):N8 R S (l.map t7) (l.map t7):=C2 rfl (A3H l)
inductive F6 where
 | mk (alias name:List UInt8) (args:List Ag) (kids:List F6)
def F6.alias:F6->List UInt8 | .mk a _ _ _=>a
def F6.name:F6->List UInt8 | .mk _ n _ _=>n
def F6.args:F6->List Ag | .mk _ _ x _=>x
def F6.kids:F6->List F6 | .mk _ _ _ k=>k
mutual
def E0:F6->AV
 | .mk a n x k=>.agg [.str a,.str n,.sl (x.map t7),.sl (A7u k)]
def A7u:List F6->List AV
 | []=>[]
 | s::r=>E0 s::A7u r
end
theorem A5i(l:List F6):A7u l=l.map E0:=by
 induction l with
 | nil=>rfl
 | cons s r ih=>simp[A7u,ih]
theorem H8(s:F6):E0 s = .agg [.str s.alias,.str s.name,.sl (s.args.map t7),.sl (s.kids.map E0)]:=by
 cases s with
 | mk a n x k=>simp[E0,A5i,F6.alias,F6.name,F6.args,F6.kids]
mutual
theorem A5j:∀s:F6,(E0 s).pureB=true
 | .mk a n x k=>by simp[E0,A7v k]
theorem A7v:∀l:List F6,F9 (A7u l)=true
 | []=>rfl
 | s::r=>by simp[A7u,A5j s,A7v r]
end
@[simp] theorem C6B (R:Rn) (S:Nat->Prop) (a:Ag):P0 R S (t7 a) (t7 a):=K9 rfl rfl
@[simp] theorem C61 (R:Rn) (S:Nat->Prop) (s:F6):P0 R S (E0 s) (E0 s):=K9 rfl (A5j s)
@[simp] theorem A3t (l:List F6):F9 (l.map E0)=true:=E7 A5j l
@[simp] theorem C3n (S:Nat->Prop) (l:List F6):F3 S (l.map E0):=B3 _ (A3t l)
mutual
def F6.sz:F6->Nat
 | .mk _ _ x k=>1+x.length+szL k
def szL:List F6->Nat
 | []=>0
 | s::r=>s.sz+szL r
end
theorem A4x(s:F6):s.sz=1+s.args.length+szL s.kids:=by cases s; rfl
theorem A0u(l:List F6):l.length<=szL l:=by
 induction l with
 | nil=>simp[szL]
 | cons s r ih=>have:=A4x s; simp[szL]; omega
theorem A1Z{l:List F6}{s:F6}(h:s∈l):s.sz<=szL l:=by
 induction l with
 | nil=>cases h
 | cons x r ih =>
  simp only[szL];rcases zh.1 h with rfl|h
  ·omega
  ·have:=ih h; omega
theorem A7w{l:List F6}{s:F6}(h:s∈l):szL s.kids<szL l:=by
 have:=A1Z h; have:=A4x s; omega
def D4(s:F6):List UInt8:=if s.alias≠[] then s.alias else s.name
def B4K(a:Ag):Int :=
 if (a.isText=true/\a.n≠0)\/(a.isText=false/\a.text≠[]) then 1 else if 40<a.text.length then 2 else if ¬(-999999999<=a.n/\a.n<=999999999) then 3 else 0
def A2d(l:List Ag)(n:List UInt8):Bool:=l.any fun x=>x.name==n
def A3I(a:Ag)(ahead:List Ag):Int :=
 if L7 a.name≠0 then L7 a.name else if A2d ahead a.name=true then 6 else B4K a
def x8(l:List Ag):Int:=if 5<l.length then 2 else D9 (fun k a=>A3I a (l.take k)) l 0
theorem A3u(s:F6)(id:Nat):A2 Tryz.prog 170 [E0 s] [] id (.str (D4 s)) []:=by
 rw[H8];refine w170.e.1 fun E hP hR hl hid=>?_;simp[w170];refine E5 (fun h=>?_) (fun h=>?_)<;>simp
 ·exact yP hR (h1:=by simp; simp at h; unfold D4; rw[zj h])
 ·have h:¬s.alias≠[]:=by simpa using h
  exact yP hR (h1:=by simp; unfold D4; rw[zf h])
theorem B2i(a:Ag)(id:Nat):A2 Tryz.prog 236 [t7 a] [] id (.int .i64 (B4K a)) []:=by
 unfold t7;refine w236.e.1 fun E hP hR hl hid=>?_;simp[w236];repeat' first
  | (refine And.intro ?_ ?_)
  | (refine E5 (fun h=>?_) (fun h=>?_)<;>simp)
  | (refine yH rfl (S9 _ _) ?_; simp)
 all_goals first
  | (rw[hR]; refine E8 (by simp<;>rfl) [] trivial (S6 ?_ (by simp) (by simp)); simp; done)
  | (rw[hR]; refine E8 (by simp<;>rfl) [] trivial (S6 ?_ (by simp) (by simp)); (try simp); simp[B4K] at *; grind; done)
  | omega
  | (simp_all; done)
  | grind
theorem B98(x:Ag)(j:Nat)(a:Ag)(id:Nat):A2 Tryz.prog 235 [t7 x,.ptr j 0 0] [(j,⟨[t7 a],.agg [.str [],.bool false,.str [],.int .i64 0],false,false⟩)] id (.bool (x.name==a.name)) []:=by
 unfold t7;refine w235.e.1 fun E hP hR hl hid=>?_;simp[w235];have hj:=hl (j,_) (za ..);simp only at hj;have j1:=lf hj;simp[j1];refine yE hR [] (by simp[j1,A4 hid]) fun hrn=>⟨?_,?_,?_,?_,?_,?_⟩<;>(try simp[j1,A4 hid])
theorem B4L(l:List Ag)(j:Nat)(a:Ag)(id:Nat)(hl8:l.length<9223372036854775807):A2 Tryz.prog 271 [.sl (l.map t7),.fn 235 [.ptr j 0 0]] [(j,⟨[t7 a],.agg [.str [],.bool false,.str [],.int .i64 0],false,false⟩)] id (.int .i64 (B8 (fun x=>x.name==a.name) l 0)) []:=by
 refine w271.e.1 fun E hP hR hl hid=>?_;simp[w271];have hj:=hl (j,_) (za ..);simp only at hj;have j1:=lf hj;refine D0 (X:=Nat) (fun i=>⟨[(0,true,.sl (l.map t7)),(1,true,.fn 235 [.ptr j 0 0]),(7,true,.int .i64 l.length),(8,true,.int .i64 i)],[(j,some (⟨[t7 a],.agg [.str [],.bool false,.str [],.int .i64 0],false,false⟩))],0⟩) (fun i=>i<=l.length/\B8 (fun x=>x.name==a.name) (l.drop i) i=B8 (fun x=>x.name==a.name) l 0) (fun i=>l.length - i) 0 ?_ ⟨by omega,rfl⟩ ?_
 ·refine yV [] (by simp[j1]) fun hrn=>⟨?_,?_,?_,?_,?_⟩<;>(try simp[j1])
 ·rintro i ⟨hi,hf⟩ p hp;refine A3 4000 ?_;simp;refine E5 (fun h=>?_) (fun h=>?_)
  ·have h:=zr h;obtain⟨x,hx,hd⟩:=B2 h;have hcl:=B98 x j a;simp only[U5 x] at hcl;rw[hd] at hf;simp only[B8] at hf;have hi1:IntKind.i64.wrap ((i:Int)+1)=((i+1:Nat):Int):=A5 (by omega);simp[hx,U5 x];refine⟨h,?_⟩;refine L5 hP rfl rfl (hcl _) (by simp) (by simp[j1]<;>rfl) ?_;refine A3 4000 ?_;simp[j1];refine E5 (fun h1=>?_) (fun h1=>?_)
   ·simp[j1];rw[zj h1] at hf;rw[←hf] at hR;refine yE hR [] (by simp[j1,B8,A4 hid]) fun hrn=>⟨?_,?_,?_,?_,?_,?_⟩<;>(try simp[j1,B8,A4 hid])
   ·simp[j1];rw[zf (by simpa using h1)] at hf;refine hp _ (i+1) ⟨h,hf⟩ (by omega) ?_;refine yV [] (by simp[hi1,j1]) fun hrn=>⟨?_,?_,?_,?_,?_⟩<;>(try simp[hi1,j1])
  ·have h:=zp h;simp;rw[zn (by omega)] at hf;rw[←hf] at hR;refine yE hR [] (by simp[j1,B8,A4 hid]) fun hrn=>⟨?_,?_,?_,?_,?_,?_⟩<;>(try simp[j1,B8,A4 hid])
theorem A8u(l:List Ag)(j:Nat)(a:Ag)(id:Nat)(hl8:l.length<9223372036854775807):A2 Tryz.prog 234 [.sl (l.map t7),.fn 235 [.ptr j 0 0]] [(j,⟨[t7 a],.agg [.str [],.bool false,.str [],.int .i64 0],false,false⟩)] id (.bool (A2d l a.name)) []:=by
 refine w234.e.1 fun E hP hR hl hid=>?_;simp[w234];have hj:=hl (j,_) (za ..);simp only at hj;have j1:=lf hj;(refine yC rfl (B4L l j a _ hl8) ?_; simp[j1]);refine yE hR [] (by simp[j1,A4 hid]) fun hrn=>⟨?_,?_,?_,?_,?_,?_⟩<;>(try simp[j1,A4 hid]);exact T3 _ l 0
theorem B6x(x:F6)(j:Nat)(s:F6)(id:Nat):A2 Tryz.prog 169 [E0 x,.ptr j 0 0] [(j,⟨[E0 s],.agg [.str [],.str [],.nils,.nils],false,false⟩)] id (.bool (D4 x==D4 s)) []:=by
 have h1:=A3u x;have h2:=A3u s;rw[H8] at h1 h2;rw[H8 x,H8 s];refine w169.e.1 fun E hP hR hl hid=>?_;simp[w169];have hj:=hl (j,_) (za ..);simp only at hj;have j1:=lf hj;(refine yC rfl (h1 _) ?_; simp[j1]);(refine yC rfl (h2 _) ?_; simp[j1]);refine yE hR [] (by simp[j1,A4 hid]) fun hrn=>⟨?_,?_,?_,?_,?_,?_⟩<;>(try simp[j1,A4 hid])
theorem B2j(l:List F6)(j:Nat)(s:F6)(id:Nat)(hl8:l.length<9223372036854775807):A2 Tryz.prog 237 [.sl (l.map E0),.fn 169 [.ptr j 0 0]] [(j,⟨[E0 s],.agg [.str [],.str [],.nils,.nils],false,false⟩)] id (.int .i64 (B8 (fun x=>D4 x==D4 s) l 0)) []:=by
 refine w237.e.1 fun E hP hR hl hid=>?_;simp[w237];have hj:=hl (j,_) (za ..);simp only at hj;have j1:=lf hj;refine D0 (X:=Nat) (fun i=>⟨[(0,true,.sl (l.map E0)),(1,true,.fn 169 [.ptr j 0 0]),(7,true,.int .i64 l.length),(8,true,.int .i64 i)],[(j,some (⟨[E0 s],.agg [.str [],.str [],.nils,.nils],false,false⟩))],0⟩) (fun i=>i<=l.length/\B8 (fun x=>D4 x==D4 s) (l.drop i) i=B8 (fun x=>D4 x==D4 s) l 0) (fun i=>l.length - i) 0 ?_ ⟨by omega,rfl⟩ ?_
 ·refine yV [] (by simp[j1]) fun hrn=>⟨?_,?_,?_,?_,?_⟩<;>(try simp[j1])
 ·rintro i ⟨hi,hf⟩ p hp;refine A3 4000 ?_;simp;refine E5 (fun h=>?_) (fun h=>?_)
  ·have h:=zr h;obtain⟨x,hx,hd⟩:=B2 h;have hcl:=B6x x j s;simp only[H8 x] at hcl;rw[hd] at hf;simp only[B8] at hf;have hi1:IntKind.i64.wrap ((i:Int)+1)=((i+1:Nat):Int):=A5 (by omega);simp[hx,H8 x];refine⟨h,?_⟩;refine L5 hP rfl rfl (hcl _) (by simp) (by simp[j1]<;>rfl) ?_;refine A3 4000 ?_;simp[j1];refine E5 (fun h1=>?_) (fun h1=>?_)
   ·simp[j1];rw[zj h1] at hf;rw[←hf] at hR;refine yE hR [] (by simp[j1,B8,A4 hid]) fun hrn=>⟨?_,?_,?_,?_,?_,?_⟩<;>(try simp[j1,B8,A4 hid])
   ·simp[j1];rw[zf (by simpa using h1)] at hf;refine hp _ (i+1) ⟨h,hf⟩ (by omega) ?_;refine yV [] (by simp[hi1,j1]) fun hrn=>⟨?_,?_,?_,?_,?_⟩<;>(try simp[hi1,j1])
  ·have h:=zp h;simp;rw[zn (by omega)] at hf;rw[←hf] at hR;refine yE hR [] (by simp[j1,B8,A4 hid]) fun hrn=>⟨?_,?_,?_,?_,?_,?_⟩<;>(try simp[j1,B8,A4 hid])
theorem A7x(l:List F6)(j:Nat)(s:F6)(id:Nat)(hl8:l.length<9223372036854775807):A2 Tryz.prog 168 [.sl (l.map E0),.fn 169 [.ptr j 0 0]] [(j,⟨[E0 s],.agg [.str [],.str [],.nils,.nils],false,false⟩)] id (.bool (l.any fun x=>D4 x==D4 s)) []:=by
 refine w168.e.1 fun E hP hR hl hid=>?_;simp[w168];have hj:=hl (j,_) (za ..);simp only at hj;have j1:=lf hj;(refine yC rfl (B2j l j s _ hl8) ?_; simp[j1]);refine yE hR [] (by simp[j1,A4 hid]) fun hrn=>⟨?_,?_,?_,?_,?_,?_⟩<;>(try simp[j1,A4 hid]);exact T3 _ l 0
theorem C1t(l:List Ag)(id:Nat):A2 Tryz.prog 167 [.sl (l.map t7)] [] id (.int .i64 (x8 l)) []:=by
 refine w167.e.1 fun E hP hR hl hid=>?_;simp[w167];refine E5 (fun h=>?_) (fun h=>?_)<;>simp
 ·exact yP hR (h1:=by simp; simp at h; unfold x8; rw[zj (by omega)])
 have h5:¬5<l.length:=by simp at h; omega
 have hft:x8 l=D9 (fun k a=>A3I a (l.take k)) l 0:=by unfold x8; rw[zf h5]
 rw[hft] at hR;refine D0 (X:=Nat) (fun i=>⟨[(0,true,.sl (l.map t7)),(9,true,.sl (l.map t7)),(10,true,.int .i64 l.length),(11,true,.int .i64 i)],[],0⟩) (fun i=>i<=l.length/\D9 (fun k a=>A3I a (l.take k)) (l.drop i) i=D9 (fun k a=>A3I a (l.take k)) l 0) (fun i=>l.length - i) 0 ?_ ⟨by omega,rfl⟩ ?_
 ·refine yV [] (by simp) fun hrn=>⟨?_,?_,?_,?_,?_⟩<;>(try simp)
 ·rintro i ⟨hi,hf⟩ p hp;refine A3 4000 ?_;simp;refine E5 (fun h=>?_) (fun h=>?_)
  ·have h:=zr h;obtain⟨x,hx,hd⟩:=B2 h;rw[hd] at hf;simp only[D9] at hf;have hi1:IntKind.i64.wrap ((i:Int)+1)=((i+1:Nat):Int):=A5 (by omega);have hC:=fun j=>A8u (l.take i) j x;simp only[yu] at hC;have hA:=B2i x;rw[U5] at hA;simp[hx,U5 x];refine⟨h,?_⟩;(refine yH rfl (A3r x.name _) ?_; simp);refine⟨fun h0=>⟨h0,fun a _=>rfl,hi⟩,?_⟩;refine I3 hP (by simp) rfl (fun hc=>⟨hC (E.n0+4096) _ (by simp; omega),by revert hc; simp; try grind,by simp<;>rfl⟩) ?_;refine A3 4000 ?_;simp;refine E5 (fun h1=>?_) (fun h1=>?_)<;>simp
   ·simp at h1;have hv:A3I x (l.take i)=6:=(by unfold A3I; rw[zf (by simp[h1.1]),zj h1.2]);rw[hv,zj (by decide)] at hf;exact yP hR (h1:=by simp; exact hf)
   ·refine E5 (fun h2=>?_) (fun h2=>?_)<;>simp
    ·simp at h1 h2;have hv:A3I x (l.take i)=B4K x:=(by unfold A3I; rw[zf (by simp[h2]),zf (by simp[h1 h2])]);rw[hv] at hf;(refine yH rfl (hA _) ?_; simp);refine E5 (fun h3=>?_) (fun h3=>?_)<;>simp
     ·rw[zj (by simpa using h3)] at hf;exact yP hR (h1:=by simp; exact hf)
     ·rw[zf (by simpa using h3)] at hf;refine hp _ (i+1) ⟨h,hf⟩ (by omega) ?_;refine yV [] (by simp[hi1]) fun hrn=>⟨?_,?_,?_,?_,?_⟩<;>(try simp[hi1])
    ·have h2:L7 x.name≠0:=(by simpa using h2);have hv:A3I x (l.take i)=L7 x.name:=(by unfold A3I; rw[zj h2]);rw[hv,zj h2] at hf;refine A9 (by simpa using h2) ?_;simp;exact yP hR (h1:=by simp; exact hf)
  ·have h:=zp h;simp;rw[zn (by omega)] at hf;exact yP hR (h1:=by simp; exact hf)
def o9:Nat->List F6->Nat
 | 0,l=>l.length
 | m+1,l=>l.length+(l.map fun s=>o9 m s.kids).sum
def deepL:Nat->List F6->Nat
 | 0,l=>min l.length 1
 | m+1,l=>l.foldl (fun d s=>max d (deepL m s.kids+1)) (min l.length 1)
def A2t(m:Nat)(l:List F6)(i:Nat):Nat:=l.length+((l.take i).map fun s=>o9 m s.kids).sum
def A6M(m:Nat)(l:List F6)(i:Nat):Nat:=(l.take i).foldl (fun d s=>max d (deepL m s.kids+1)) (min l.length 1)
theorem A7y(m:Nat)(l:List F6):A2t m l 0=l.length:=by simp[A2t]
theorem A7z(m:Nat)(l:List F6):A6M m l 0=min l.length 1:=by simp[A6M]
theorem O2{α:Type}{l:List α}{i:Nat}{x:α}(hx:l[i]?=some x):l.take (i+1)=l.take i++[x]:=by rw[vk,hx]; rfl
theorem B4M{m:Nat}{l:List F6}{i:Nat}{x:F6}(hx:l[i]?=some x):A2t m l (i+1)=A2t m l i+o9 m x.kids:=by
 simp[A2t,O2 hx]; omega
theorem B4N{m:Nat}{l:List F6}{i:Nat}{x:F6}(hx:l[i]?=some x):A6M m l (i+1)=max (A6M m l i) (deepL m x.kids+1):=by
 simp[A6M,O2 hx]
theorem B6y{m:Nat}{l:List F6}{i:Nat}(h:l.length<=i):A2t m l i=o9 (m+1) l:=by simp[A2t,o9,zq h]
theorem B6z{m:Nat}{l:List F6}{i:Nat}(h:l.length<=i):A6M m l i=deepL (m+1) l:=by simp[A6M,deepL,zq h]
theorem A80{m:Nat}(h:∀l,o9 m l<=szL l):∀l:List F6,l.length+(l.map fun s=>o9 m s.kids).sum<=szL l
 | []=>by simp
 | s::r=>by
  have h1:=A80 h r;have h2:=h s.kids;have h3:=A4x s;simp only[szL,yd,ym,sm];omega
theorem B2k:∀(m:Nat) (l:List F6),o9 m l<=szL l
 | 0,l=>A0u l
 | m+1,l=>A80 (B2k m) l
theorem B99(m:Nat)(l:List F6)(i:Nat):A2t m l i<=szL l:=by
 have h1:=A80 (B2k m) l;have h2:((l.take i).map fun s=>o9 m s.kids).sum+((l.drop i).map fun s=>o9 m s.kids).sum=(l.map fun s=>o9 m s.kids).sum:=by
  rw[←List.sum_append,←wn,yx]
 unfold A2t;omega
theorem A9i{m k:Nat}(h:∀l,deepL m l<=k):∀(l:List F6) (a:Nat),a<=k+1->l.foldl (fun d s=>max d (deepL m s.kids+1)) a<=k+1
 | [],a,ha=>ha
 | s::r,a,ha=>by
  simp only[wm];exact A9i h r _ (by have:=h s.kids; omega)
theorem B2l:∀(m:Nat) (l:List F6),deepL m l<=m+1
 | 0,l=>by simp only[deepL]; omega
 | m+1,l=>A9i (B2l m) l _ (by omega)
theorem B5V:∀(m:Nat) (l:List F6) (id:Nat),m<=1000->szL l<=1099511627776->A2 Tryz.prog 99 [.sl (l.map E0),.int .i64 m] [] id (.tup [.int .i64 (o9 m l),.int .i64 (deepL m l)]) []
 | 0,l,id,hm,hl=>by
  have hlen:=A0u l;refine w99.e.1 fun E hP hR hl hid=>?_;simp[w99];refine D0 (X:=Unit) (fun _=>⟨[(0,true,.sl (l.map E0)),(1,true,.int .i64 0),(6,true,.int .i64 l.length),(7,true,.int .i64 (deepL 0 l)),(17,true,.sl (l.map E0)),(18,true,.int .i64 l.length),(19,true,.int .i64 0)],[],0⟩) (fun _=>True) (fun _=>0) () ?_ trivial ?_
  ·refine yV [] (by simp[deepL]) fun hrn=>⟨?_,?_,?_,?_,?_⟩<;>(try simp[deepL]);all_goals omega
  ·rintro i - p hp;refine A3 4000 ?_;simp;refine E5 (fun h=>?_) (fun h=>?_)
   ·have h:=zr h;obtain⟨x,hx,hd⟩:=B2 (l:=l) (i:=0) (by omega);simp[hx,H8 x];refine⟨by omega,?_⟩;exact yP hR (h1:=by simp; simp[o9])
   ·simp;exact yP hR (h1:=by simp; simp[o9])
 | m+1,l,id,hm,hl=>by
  have hlen:=A0u l;refine w99.e.1 fun E hP hR hl hid=>?_;simp[w99];refine D0 (X:=Nat) (fun i=>⟨[(0,true,.sl (l.map E0)),(1,true,.int .i64 (m+1)),(6,true,.int .i64 (A2t m l i)),(7,true,.int .i64 (A6M m l i)),(17,true,.sl (l.map E0)),(18,true,.int .i64 l.length),(19,true,.int .i64 i)],[],0⟩) (fun i=>i<=l.length) (fun i=>l.length - i) 0 ?_ (by omega) ?_
  ·refine yV [] (by simp[A7y,A7z]) fun hrn=>⟨?_,?_,?_,?_,?_⟩<;>(try simp[A7y,A7z]);all_goals omega
  ·rintro i hi p hp;refine A3 4000 ?_;simp;refine E5 (fun h=>?_) (fun h=>?_)
   ·have h:=zr h;obtain⟨x,hx,hd⟩:=B2 h;have hi1:IntKind.i64.wrap ((i:Int)+1)=((i+1:Nat):Int):=A5 (by omega);have hxm:x∈l:=zg hx;have ih:=B5V m x.kids;simp[hx,H8 x];refine⟨h,A0 (by simp; omega) ?_⟩;have hm1:IntKind.i64.wrap (m:Int)=(m:Int):=A5 (by omega);have hsz:=A7w hxm;have hs:=B4M (m:=m) hx;have hsd:=B4N (m:=m) hx;have hs1:IntKind.i64.wrap ((A2t m l i:Int)+o9 m x.kids)=((A2t m l (i+1):Nat):Int):=(by rw[hs,A5 (by have:=B99 m l (i+1); omega)]; omega);have hs2:IntKind.i64.wrap ((deepL m x.kids:Int)+1)=((deepL m x.kids+1:Nat):Int):=A5 (by have:=B2l m x.kids; omega);simp[hm1];(refine yC rfl (ih _ (by omega) (by omega)) ?_; simp[hs1,hs2]);refine hp _ (i+1) (by omega) (by omega) ?_;refine yV [] (by simp[hi1,hsd]) fun hrn=>⟨?_,?_,?_,?_,?_⟩<;>(try simp[hi1,hsd]);all_goals trace "TAIL 1"
    all_goals trace_state
    all_goals omega
   ·have h:=zp h;simp;exact yP hR (h1:=by simp; rw[B6y (by omega),B6z (by omega)]; exact⟨rfl,rfl⟩)
def A81(s:F6)(ah:List F6):Int :=
 if L7 s.name≠0 then L7 s.name else if s.alias≠[]/\L7 s.alias≠0 then L7 s.alias else if x8 s.args≠0 then x8 s.args
 else if (ah.any fun x=>D4 x==D4 s)=true then 6 else 0
mutual
def B9A:F6->Int
 | .mk _ _ _ k=>x9 k []
def x9:List F6->List F6->Int
 | [],_=>0
 | s::r,ah=>if A81 s ah≠0 then A81 s ah else if B9A s≠0 then B9A s else x9 r (ah++[s])
end
def fNm(s:F6):Int:=if L7 s.name≠0 then L7 s.name else if s.alias≠[] then L7 s.alias else 0
theorem B2m(s:F6)(ah:List F6):A81 s ah=if fNm s≠0 then fNm s else if x8 s.args≠0 then x8 s.args else if (ah.any fun x=>D4 x==D4 s)=true then 6 else 0:=by
 unfold A81 fNm;split
 ·rfl
 ·split
  ·rename_i h; rw[zj h.1,zj h.2]
  ·rename_i h;by_cases ha:s.alias≠[]
   ·have:L7 s.alias=0:=zl fun h0=>h ⟨ha,h0⟩;rw[zj ha,this]; rfl
   ·rw[zf ha]; rfl
theorem B2n(s:F6):B9A s=x9 s.kids []:=by cases s; rfl
theorem B2o:∀(n:Nat) (l:List F6) (id:Nat),szL l<n->szL l<=1099511627776->A2 Tryz.prog 100 [.sl (l.map E0)] [] id (.int .i64 (x9 l [])) []
 | 0,l,id,hn,hl=>by omega
 | n+1,l,id,hn,hl=>by
  have ih:=B2o n;have hlen:=A0u l;refine w100.e.1 fun E hP hR hl hid=>?_;simp[w100];refine D0 (X:=Nat) (fun i=>⟨[(0,true,.sl (l.map E0)),(6,true,.sl (l.map E0)),(7,true,.int .i64 l.length),(8,true,.int .i64 i)],[],0⟩) (fun i=>i<=l.length/\x9 (l.drop i) (l.take i)=x9 l []) (fun i=>l.length - i) 0 ?_ ⟨by omega,rfl⟩ ?_
  ·refine yV [] (by simp) fun hrn=>⟨?_,?_,?_,?_,?_⟩<;>(try simp)
  ·rintro i ⟨hi,hf⟩ p hp;refine A3 4000 ?_;simp;refine E5 (fun h=>?_) (fun h=>?_)
   ·have h:=zr h;obtain⟨x,hx,hd⟩:=B2 h;rw[hd] at hf;simp only[x9] at hf;rw[←O2 hx] at hf;have hi1:IntKind.i64.wrap ((i:Int)+1)=((i+1:Nat):Int):=A5 (by omega);have hxm:x∈l:=zg hx;have hsz:=A7w hxm;have hC:=fun j=>A7x (l.take i) j x;simp only[yu] at hC;simp[hx,H8 x];refine⟨h,?_⟩;refine D8 hP rfl (A3r x.name _) (by simp) (by simp<;>rfl) ?_;refine C3W (X:=Int) (fun e=>⟨[(0,true,.sl (l.map E0)),(3,true,.int .i64 i),(4,true,.ptr E.n0 0 0),(5,true,.int .i64 e),(6,true,.sl (l.map E0)),(7,true,.int .i64 l.length),(8,true,.int .i64 i)],[(E.n0,some ⟨[.agg [.str x.alias,.str x.name,.sl (x.args.map t7),.sl (x.kids.map E0)]],.agg [.str [],.str [],.nils,.nils],false,false⟩)],1⟩) (fun e=>e=fNm x) (fun q hq=>?_) (fun e he=>?_)
    ·refine A3 4000 ?_;simp;refine E5 (fun h1=>?_) (fun h1=>?_)<;>simp
     ·simp at h1;(refine yH rfl (A3r x.alias _) ?_; simp);refine hq _ (L7 x.alias) (by unfold fNm; rw[zf (by simp[h1.1]),zj h1.2]) ?_;refine yV [(E.n0,E.n0+4096)] (by simp) fun hrn=>⟨?_,?_,?_,?_,?_⟩<;>(try simp)
     ·simp at h1;refine hq _ (L7 x.name) (by
       unfold fNm;split
       ·rfl
       ·rename_i h0;have h0:L7 x.name=0:=(by simpa using h0);rw[zf (by simp[h1 h0]),h0]) ?_
      refine yV [(E.n0,E.n0+4096)] (by simp) fun hrn=>⟨?_,?_,?_,?_,?_⟩<;>(try simp)
    ·subst he;rw[B2m] at hf;refine A3 4000 ?_;simp;refine E5 (fun h2=>?_) (fun h2=>?_)<;>simp
     ·have h2:fNm x=0:=(by simpa using h2);rw[h2] at hf;simp only[ne_eq,not_true_eq_false,if_false] at hf;(refine yH rfl (C1t x.args _) ?_; simp);refine⟨fun h0=>⟨h0,fun a _=>by rw[H8]; rfl,hi⟩,?_⟩;refine I3 hP (by simp) rfl (fun hc=>⟨hC E.n0 _ (by simp; omega),by revert hc; simp; try grind,by simp[H8 x]<;>rfl⟩) ?_;refine A3 4000 ?_;simp;refine E5 (fun h3=>?_) (fun h3=>?_)<;>simp
      ·simp only[yg,beq_iff_eq] at h3;rw[h3.1] at hf;simp only[ne_eq,not_true_eq_false,if_false] at hf;rw[zj h3.2,zj (by decide)] at hf;exact yP hR (h1:=by simp; exact hf)
      ·refine E5 (fun h4=>?_) (fun h4=>?_)<;>simp
       ·have h4:x8 x.args=0:=(by simpa using h4);rw[h4] at hf;simp only[ne_eq,not_true_eq_false,if_false] at hf;have h3':¬((l.take i).any fun y=>D4 y==D4 x)=true:=by
         rw[h4] at h3;simpa using h3
        rw[zf h3'] at hf;simp only[ne_eq,not_true_eq_false,if_false] at hf;rw[B2n] at hf;(refine yH rfl (ih x.kids _ (by omega) (by omega)) ?_; simp);refine E5 (fun h5=>?_) (fun h5=>?_)<;>simp
        ·rw[zj (by simpa using h5)] at hf;exact yP hR (h1:=by simp; exact hf)
        ·rw[zf (by simpa using h5)] at hf;refine hp _ (i+1) ⟨h,hf⟩ (by omega) ?_;refine yV [] (by simp[hi1]) fun hrn=>⟨?_,?_,?_,?_,?_⟩<;>(try simp[hi1])
       ·have h4:x8 x.args≠0:=(by simpa using h4);rw[zj h4,zj h4] at hf;refine A9 (by simpa using h4) ?_;simp;exact yP hR (h1:=by simp; exact hf)
     ·have h2:fNm x≠0:=(by simpa using h2);rw[zj h2,zj h2] at hf;refine⟨fun h0=>(h2 h0).elim,?_⟩;refine A1Q (.bool false) (by simp) (fun hg=>by simp at hg; exact (h2 hg).elim) (fun _=>?_);refine A3 4000 ?_;simp[h2];refine A0 (by simpa using h2) ?_;simp;refine A9 (by simpa using h2) ?_;simp;exact yP hR (h1:=by simp; exact hf)
   ·have h:=zp h;simp;rw[zn (by omega)] at hf;exact yP hR (h1:=by simp; exact hf)
def V8(l:List F6):Int:=if l=[] then 5 else if 40<o9 5 l\/5<deepL 5 l then 2 else x9 l []
theorem B9B(l:List F6)(id:Nat)(h:szL l<=1099511627776):A2 Tryz.prog 99 [.sl (l.map E0),.int .i64 5] [] id (.tup [.int .i64 (o9 5 l),.int .i64 (deepL 5 l)]) []:=B5V 5 l id (by omega) h
theorem A9j(l:List F6)(id:Nat)(h:szL l<=1099511627776):A2 Tryz.prog 41 [.sl (l.map E0)] [] id (.int .i64 (V8 l)) []:=by
 refine w41.e.1 fun E hP hR hl hid=>?_;simp[w41];refine E5 (fun h1=>?_) (fun h1=>?_)<;>simp
 ·exact yP hR (h1:=by simp; simp at h1; unfold V8; rw[zj h1])
 have h1:¬l=[]:=by simpa using h1
 (refine yH rfl (B9B l _ h) ?_; simp);refine E5 (fun h2=>?_) (fun h2=>?_)<;>simp
 ·exact yP hR (h1:=by simp; simp at h2; unfold V8; rw[zf h1,zj (by omega)])
 ·have h2:¬(40<o9 5 l\/5<deepL 5 l):=by simp at h2; omega
  (refine yH rfl (B2o (szL l+1) l _ (by omega) h) ?_; simp);exact yP hR (h1:=by simp; unfold V8; rw[zf h1,zf h2])
theorem R9{α:Type}(p:α->Bool):∀(l:List α) (i:Nat),(l.find? p=none/\B8 p l i = -1)\/∃k x,l[k]?=some x/\B8 p l i=((i+k:Nat):Int)/\l.find? p=some x
 | [],i=>.inl ⟨rfl,rfl⟩
 | y::r,i=>by
  by_cases hy:p y=true
  ·exact .inr ⟨0,y,rfl,by simp[B8,hy],by simp[hy]⟩
  ·rcases R9 p r (i+1) with⟨h1,h2⟩|⟨k,x,h1,h2,h3⟩
   ·exact .inl ⟨by simp[hy,h1],by simp[B8,hy,h2]⟩
   ·refine .inr ⟨k+1,x,by simpa using h1,?_,by simp[hy,h3]⟩;rw[B8,zf hy,h2]; congr 1; omega
def A3J:List UInt8:=[102,105,114,115,116]
def A47(name:List UInt8)(may:Bool)(least most:Int)(a:Ag):Int :=
 if a.name≠name\/may=false then 5 else if a.isText=true then 7 else if a.n<least\/most<a.n then 3 else 0
def V9(l:List Ag)(name:List UInt8)(may:Bool)(least most:Int):Int:=R7 (A47 name may least most) l
def fieldAt(t:Ty)(name:List UInt8):Option Fd:=if name=tId then some ⟨tId,1,[]⟩ else t.fields.find? fun x=>x.name==name
def A2e(l:List Ty)(name:List UInt8):Option Ty:=l.find? fun x=>x.name==name
mutual
def B70(l:List Ty)(t:Ty):F6->Int
 | .mk _ name args kids=>match fieldAt t name with
  | none=>5
  | some x=>if V9 args A3J (x.kind==4) 0 999999999≠0 then V9 args A3J (x.kind==4) 0 999999999
   else if ((x.kind==3||x.kind==4)==kids.isEmpty)=true then 4
   else if (x.kind==3||x.kind==4)=false then 0
   else match A2e l x.of with
    | none=>0
    | some t'=>A1a l t' kids
def A1a(l:List Ty)(t:Ty):List F6->Int
 | []=>0
 | s::r=>if B70 l t s≠0 then B70 l t s else A1a l t r
end
theorem A6w(l:List Ty)(t:Ty)(s:F6):B70 l t s=match fieldAt t s.name with
  | none=>5
  | some x=>if V9 s.args A3J (x.kind==4) 0 999999999≠0 then V9 s.args A3J (x.kind==4) 0 999999999
   else if ((x.kind==3||x.kind==4)==s.kids.isEmpty)=true then 4
   else if (x.kind==3||x.kind==4)=false then 0
   else match A2e l x.of with
    | none=>0
    | some t'=>A1a l t' s.kids:=by cases s; rfl
def A9k(l:List Ty)(s:F6):Int:=match A2e l s.name with
 | none=>5
 | some t=>if V9 s.args tId true 1 999≠0 then V9 s.args tId true 1 999 else if s.kids=[] then 4 else A1a l t s.kids
def A29(l:List Ty)(q:List F6):Int:=R7 (A9k l) q
def B0w(l:List Ty):Prop:=∀t∈l,∀f∈t.fields,(f.kind=3\/f.kind=4)->B0s l f.of=true
theorem B2p(l:List Ag)(name:List UInt8)(may:Bool)(least most:Int)(id:Nat)(hlen:l.length<9223372036854775807):A2 Tryz.prog 184 [.sl (l.map t7),.str name,.bool may,.int .i64 least,.int .i64 most] [] id (.int .i64 (V9 l name may least most)) []:=by
 refine w184.e.1 fun E hP hR hl hid=>?_;simp[w184];refine D0 (X:=Nat) (fun i=>⟨[(1,true,.str name),(2,true,.bool may),(3,true,.int .i64 least),(4,true,.int .i64 most),(13,true,.sl (l.map t7)),(14,true,.int .i64 l.length),(15,true,.int .i64 i)],[],0⟩) (fun i=>i<=l.length/\V9 (l.drop i) name may least most=V9 l name may least most) (fun i=>l.length - i) 0 ?_ ⟨by omega,rfl⟩ ?_
 ·refine yV [] (by simp) fun hrn=>⟨?_,?_,?_,?_,?_⟩<;>(try simp)
 ·rintro i ⟨hi,hf⟩ p hp;refine A3 4000 ?_;simp;refine E5 (fun h=>?_) (fun h=>?_)
  ·have h:=zr h;obtain⟨x,hx,hd⟩:=B2 h;have hf':=hf;rw[hd] at hf;simp only[V9,R7] at hf;have hi1:IntKind.i64.wrap ((i:Int)+1)=((i+1:Nat):Int):=A5 (by omega);simp[hx,U5 x];refine⟨h,?_⟩;refine E5 (fun h1=>?_) (fun h1=>?_)<;>simp
   ·have hv:A47 name may least most x=5:=(by simp at h1; unfold A47; rw[zj h1]);rw[hv] at hf;exact yP hR (h1:=by simp; exact hf)
   refine E5 (fun h2=>?_) (fun h2=>?_)<;>simp
   ·have hv:A47 name may least most x=7:=(by simp at h1; unfold A47; rw[zf (by simp[h1]),zj h2]);rw[hv] at hf;exact yP hR (h1:=by simp; exact hf)
   refine E5 (fun h3=>?_) (fun h3=>?_)<;>simp
   ·have hv:A47 name may least most x=3:=(by simp at h1 h3; unfold A47; rw[zf (by simp[h1]),zf (by simp[h2]),zj h3]);rw[hv] at hf;exact yP hR (h1:=by simp; exact hf)
   ·have hv:A47 name may least most x=0:=(by simp at h1 h3; unfold A47; rw[zf (by simp[h1]),zf (by simp[h2]),zf (by omega)]);rw[hv] at hf;refine hp _ (i+1) ⟨h,by simpa [V9] using hf⟩ (by omega) ?_;refine yV [] (by simp[hi1]) fun hrn=>⟨?_,?_,?_,?_,?_⟩<;>(try simp[hi1])
  ·have h:=zp h;simp;rw[zn (by omega)] at hf;exact yP hR (h1:=by simp; exact hf)
theorem A6N(l:List Ag)(may:Bool)(id:Nat)(hlen:l.length<9223372036854775807):A2 Tryz.prog 184 [.sl (l.map t7),.str [102,105,114,115,116],.bool may,.int .i64 0,.int .i64 999999999] [] id (.int .i64 (V9 l A3J may 0 999999999)) []:=B2p l A3J may 0 999999999 id hlen
theorem B9C(l:List Ag)(id:Nat)(hlen:l.length<9223372036854775807):A2 Tryz.prog 184 [.sl (l.map t7),.str [105,100],.bool true,.int .i64 1,.int .i64 999] [] id (.int .i64 (V9 l tId true 1 999)) []:=B2p l tId true 1 999 id hlen
def bxF(l:List Ty):Bx:=⟨[.agg [.sl (l.map I8)]],.agg [.sl (l.map I8)],false,false⟩
theorem C3o(l:List Ty)(t:Ty)(s:F6)(j id:Nat)(hL:∀f∈t.fields,(f.kind=3\/f.kind=4)->B0s l f.of=true)(hl8:l.length<=1000)(ht8:t.fields.length<=1000)(hs8:s.args.length<9223372036854775807)
  (ih:∀k t' id,l[k]?=some t'->A2 Tryz.prog 185 [.ptr j 0 0,.int .i64 (k:Nat),.sl (s.kids.map E0)] [(j,bxF l)] id (.int .i64 (A1a l t' s.kids)) []) :
  A2 Tryz.prog 253 [.ptr j 0 0,I8 t,E0 s] [(j,bxF l)] id (.int .i64 (B70 l t s)) []:=by
 have hf8:t.fields.length<9223372036854775807:=by omega
 by_cases hn:s.name=tId
 ·have hV:=fun id=>A6N s.args false id hs8;rw[H8,A6w,fieldAt,zj hn];unfold I8;simp only[bxF,show ((1:Int)==4)=false from rfl,show ((1:Int)==3)=false from rfl,tw] at ih hV ⊢;generalize V9 s.args A3J false 0 999999999=e1 at hV ⊢;rw[hn];unfold tId;refine w253.e.1 fun E hP hR hl hid=>?_;simp[w253];have hj:=hl (j,_) (za ..);simp only at hj;have j1:=lf hj;(refine yC rfl (hV _) ?_; simp[j1]);refine E5 (fun h1=>?_) (fun h1=>?_)
  ·simp[j1];rw[zj (by simpa using h1)] at hR;refine yE hR [] (by simp[j1,A4 hid]) fun hrn=>⟨?_,?_,?_,?_,?_,?_⟩<;>(try simp[j1,A4 hid])
  ·simp[j1];rw[zf (by simpa using h1)] at hR;refine E5 (fun h2=>?_) (fun h2=>?_)
   ·have hk0:s.kids.isEmpty=false:=(by simpa using h2);simp[j1];rw[hk0,zj (by rfl)] at hR;refine yE hR [] (by simp[j1,A4 hid]) fun hrn=>⟨?_,?_,?_,?_,?_,?_⟩<;>(try simp[j1,A4 hid])
   ·have hk0:s.kids.isEmpty=true:=(by simpa using h2);simp[j1];rw[hk0,zf (by decide),zj (by first|rfl|trivial)] at hR;refine yE hR [] (by simp[j1,A4 hid]) fun hrn=>⟨?_,?_,?_,?_,?_,?_⟩<;>(try simp[j1,A4 hid])
 ·rcases R9 (fun x=>x.name==s.name) t.fields 0 with⟨q1,q2⟩|⟨k,x,q1,q2,q3⟩
  ·have hF:=A1F t.fields t.name s.name;rw[H8,A6w,fieldAt,zf hn,q1];rw[q2] at hF;have hn':¬s.name=[105,100]:=hn;unfold I8;simp only[bxF] at ih ⊢;refine w253.e.1 fun E hP hR hl hid=>?_;simp[w253];have hj:=hl (j,_) (za ..);simp only at hj;have j1:=lf hj;refine A9 (by simpa using hn') ?_;simp[j1];(refine yC rfl (hF _ hf8) ?_; simp[j1]);refine yE hR [] (by simp[j1,A4 hid]) fun hrn=>⟨?_,?_,?_,?_,?_,?_⟩<;>(try simp[j1,A4 hid])
  ·have hF:=A1F t.fields t.name s.name;have hk:=(ze.1 q1).1;have hxm:=zg q1;have hV:=fun id=>A6N s.args (x.kind==4) id hs8;rw[H8,A6w,fieldAt,zf hn,q3];rw[q2] at hF;have hn':¬s.name=[105,100]:=hn;unfold I8;simp only[bxF,yy] at ih hV hF ⊢;generalize V9 s.args A3J (x.kind==4) 0 999999999=e1 at hV ⊢;refine w253.e.1 fun E hP hR hl hid=>?_;simp[w253];have hj:=hl (j,_) (za ..);simp only at hj;have j1:=lf hj;refine A9 (by simpa using hn') ?_;simp[j1];(refine yC rfl (hF _ hf8) ?_; simp[j1]);refine A0 (by simp) ?_;simp[j1,q1,T2];refine⟨hk,?_⟩;(refine yC rfl (hV _) ?_; simp[j1]);refine E5 (fun h1=>?_) (fun h1=>?_)
   ·simp[j1];try simp only at hR
    rw[zj (by simpa using h1)] at hR;refine yE hR [] (by simp[j1,A4 hid]) fun hrn=>⟨?_,?_,?_,?_,?_,?_⟩<;>(try simp[j1,A4 hid])
   ·simp[j1];try simp only at hR
    rw[zf (by simpa using h1)] at hR;have hlk:((s.kids.length:Int)==0)=s.kids.isEmpty:=(by rw[wa]; simp);simp only[hlk];refine E5 (fun h2=>?_) (fun h2=>?_)
    ·try simp[j1]
     rw[zj (by simpa using h2)] at hR;refine yE hR [] (by simp[j1,A4 hid]) fun hrn=>⟨?_,?_,?_,?_,?_,?_⟩<;>(try simp[j1,A4 hid])
    ·try simp[j1]
     rw[zf (by simpa using h2)] at hR;refine E5 (fun h3=>?_) (fun h3=>?_)
     ·try simp[j1]
      rw[zj (by simpa using h3)] at hR;refine yE hR [] (by simp[j1,A4 hid]) fun hrn=>⟨?_,?_,?_,?_,?_,?_⟩<;>(try simp[j1,A4 hid])
     ·try simp[j1]
      rw[zf (by simpa using h3)] at hR;have hkd:x.kind=3\/x.kind=4:=(by simp at h3; omega);have hof:=hL x hxm hkd;rcases R9 (fun t=>t.name==x.of) l 0 with⟨r1,r2⟩|⟨k2,t',r1,r2,r3⟩
      ·exact absurd hof (by rw[←A7s,r2]; decide)
      ·have hX:=j8 l x.of;rw[r2,yy] at hX;rw[A2e,r3] at hR;(refine yC rfl (hX _ (by omega)) ?_; simp[j1]);(refine yC rfl (ih k2 t' _ r1) ?_; simp[j1]);refine yE hR [] (by simp[j1,A4 hid]) fun hrn=>⟨?_,?_,?_,?_,?_,?_⟩<;>(try simp[j1,A4 hid])
theorem B5W(l:List Ty)(hL:B0w l)(hl8:l.length<=1000)(ht8:∀t∈l,t.fields.length<=1000):∀(n:Nat) (q:List F6) (j k:Nat) (t:Ty) (id:Nat),szL q<n->szL q<=1099511627776->l[k]?=some t ->
  A2 Tryz.prog 185 [.ptr j 0 0,.int .i64 (k:Nat),.sl (q.map E0)] [(j,bxF l)] id (.int .i64 (A1a l t q)) []
 | 0,q,j,k,t,id,hn,hq8,hk=>by omega
 | n+1,q,j,k,t,id,hn,hq8,hk=>by
  have ih:=B5W l hL hl8 ht8 n;have hlen:=A0u q;have htm:=zg hk;have hkl:=(ze.1 hk).1;simp only[bxF] at ih ⊢;refine w185.e.1 fun E hP hR hl hid=>?_;simp[w185];have hj:=hl (j,_) (za ..);simp only at hj;have j1:=lf hj;refine D0 (X:=Nat) (fun i=>⟨[(0,true,.ptr j 0 0),(1,true,.int .i64 k),(10,true,.sl (q.map E0)),(11,true,.int .i64 q.length),(12,true,.int .i64 i)],[(j,some ⟨[.agg [.sl (l.map I8)]],.agg [.sl (l.map I8)],false,false⟩)],0⟩) (fun i=>i<=q.length/\A1a l t (q.drop i)=A1a l t q) (fun i=>q.length - i) 0 ?_ ⟨by omega,rfl⟩ ?_
  ·refine yV [] (by simp[j1]) fun hrn=>⟨?_,?_,?_,?_,?_⟩<;>(try simp[j1])
  ·rintro i ⟨hi,hf⟩ p hp;refine A3 4000 ?_;simp[j1];refine E5 (fun h=>?_) (fun h=>?_)
   ·have h:=zr h;obtain⟨x,hx,hd⟩:=B2 h;have hxm:x∈q:=zg hx;have hsz:=A7w hxm;have hsx:=A1Z hxm;have hse:=A4x x;have hK:=fun id=>C3o l t x j id (hL t htm) hl8 (ht8 t htm) (by omega) (fun k t' id hk=>ih x.kids j k t' id (by omega) (by omega) hk);rw[hd] at hf;simp only[A1a] at hf;have hi1:IntKind.i64.wrap ((i:Int)+1)=((i+1:Nat):Int):=A5 (by omega);rw[H8] at hK;simp only[I8,bxF] at hK;simp[hx,hk,H8 x,I8,j1];refine⟨h,hkl,?_⟩;(refine yC rfl (hK _) ?_; simp[j1]);refine E5 (fun h1=>?_) (fun h1=>?_)
    ·simp[j1];rw[zj (by simpa using h1)] at hf;rw[←hf] at hR;refine yE hR [] (by simp[j1,A4 hid]) fun hrn=>⟨?_,?_,?_,?_,?_,?_⟩<;>(try simp[j1,A4 hid])
    ·simp[j1];rw[zf (by simpa using h1)] at hf;refine hp _ (i+1) ⟨h,hf⟩ (by omega) ?_;refine yV [] (by simp[hi1,j1]) fun hrn=>⟨?_,?_,?_,?_,?_⟩<;>(try simp[hi1,j1])
   ·have h:=zp h;simp[j1];rw[zn (by omega)] at hf;rw[←hf] at hR;refine yE hR [] (by simp[j1,A1a,A4 hid]) fun hrn=>⟨?_,?_,?_,?_,?_,?_⟩<;>(try simp[j1,A1a,A4 hid])
theorem Q8{α:Type}(f:Nat->α->Int):∀(l:List α) (i:Nat),D9 f l i=0->∀k x,l[k]?=some x->f (i+k) x=0
 | [],i,h,k,x,hx=>by simp at hx
 | y::r,i,h,k,x,hx=>by
  simp only[D9] at h;split at h
  ·rename_i h0; exact (h0 h).elim
  ·rename_i h0;cases k with
   | zero=>simp at hx; subst hx; exact zl h0
   | succ k=>have:=Q8 f r (i+1) h k x (by simpa using hx); rw[show i+(k+1)=i+1+k by omega]; exact this
structure A6O(l:List Ty):Prop where
 ne:l≠[]
 len:l.length<=5
 linked:B0w l
 fields:∀t∈l,t.fields.length<=6
 names:∀t∈l,L7 t.name=0
 kinds:∀t∈l,∀f∈t.fields,1<=f.kind/\f.kind<=4
 fnames:∀t∈l,∀f∈t.fields,L7 f.name=0/\f.name≠tId
theorem A6P{l:List Ty}(h:J2 l=0):A6O l:=by
 unfold J2 at h;split at h
 ·simp at h
 rename_i h1;split at h
 ·simp at h
 rename_i h2;have hT:∀t∈l,∃i,A1X l i t=0:=fun t ht=>by
  obtain⟨i,hi⟩:=ye.1 ht;exact⟨0+i,Q8 _ _ _ h i t hi⟩
 have hT2:∀t∈l,L7 t.name=0/\t.fields.length<=6/\D9 (fun k f=>s8 l f (t.fields.take k)) t.fields 0=0:=fun t ht=>by
  obtain⟨i,hi⟩:=hT t ht;unfold A1X at hi;repeat' split at hi
  all_goals first|omega|(exact⟨by simp_all,by omega,hi⟩)|simp_all
 have hF:∀t∈l,∀f∈t.fields,(L7 f.name=0/\f.name≠tId)/\(1<=f.kind/\f.kind<=4)/\((f.kind=3\/f.kind=4)->B0s l f.of=true):=fun t ht f hf=>by
  obtain⟨k,hk⟩:=ye.1 hf;have h0:=Q8 _ _ _ (hT2 t ht).2.2 k f hk;unfold s8 at h0;repeat' split at h0
  all_goals first|omega|skip
  all_goals try (simp_all; done)
  rename_i g1 g2 g3 g4 g5 g6;refine⟨⟨zl g1,g2⟩,by omega,fun hk=>zl fun hn=>g6 ⟨by omega,hn⟩⟩
 exact⟨h1,by omega,fun t ht f hf=>(hF t ht f hf).2.2,fun t ht=>(hT2 t ht).2.1,fun t ht=>(hT2 t ht).1,fun t ht f hf=>(hF t ht f hf).2.1,fun t ht f hf=>(hF t ht f hf).1⟩
theorem C1u(l:List Ty)(s:F6)(j id:Nat)(hL:B0w l)(hl8:l.length<=1000)(ht8:∀t∈l,t.fields.length<=1000)(hs8:s.sz<=1099511627776):
  A2 Tryz.prog 118 [.ptr j 0 0,E0 s] [(j,bxF l)] id (.int .i64 (A9k l s)) []:=by
 have hse:=A4x s;rcases R9 (fun t=>t.name==s.name) l 0 with⟨r1,r2⟩|⟨k,t,r1,r2,r3⟩
 ·have hX:=j8 l s.name;rw[r2] at hX;rw[H8,A9k,A2e,r1];simp only[bxF];refine w118.e.1 fun E hP hR hl hid=>?_;simp[w118];have hj:=hl (j,_) (za ..);simp only at hj;have j1:=lf hj;simp[j1];(refine yC rfl (hX _ (by omega)) ?_; simp[j1]);refine yE hR [] (by simp[j1,A4 hid]) fun hrn=>⟨?_,?_,?_,?_,?_,?_⟩<;>(try simp[j1,A4 hid])
 ·have hX:=j8 l s.name;rw[r2,yy] at hX;rw[H8,A9k,A2e,r3];have hV:=fun id=>B9C s.args id (by omega);have hK:=fun id=>B5W l hL hl8 ht8 (szL s.kids+1) s.kids j k t id (by omega) (by omega) r1;generalize V9 s.args tId true 1 999=e1 at hV ⊢;simp only[bxF] at hK ⊢;refine w118.e.1 fun E hP hR hl hid=>?_;simp[w118];have hj:=hl (j,_) (za ..);simp only at hj;have j1:=lf hj;simp[j1];(refine yC rfl (hX _ (by omega)) ?_; simp[j1]);refine A0 (by simp) ?_;simp[j1];(refine yC rfl (hV _) ?_; simp[j1]);refine E5 (fun h1=>?_) (fun h1=>?_)
  ·simp[j1];rw[zj (by simpa using h1)] at hR;refine yE hR [] (by simp[j1,A4 hid]) fun hrn=>⟨?_,?_,?_,?_,?_,?_⟩<;>(try simp[j1,A4 hid])
  ·simp[j1];rw[zf (by simpa using h1)] at hR;refine E5 (fun h2=>?_) (fun h2=>?_)
   ·simp[j1];rw[zj (by simpa using h2)] at hR;refine yE hR [] (by simp[j1,A4 hid]) fun hrn=>⟨?_,?_,?_,?_,?_,?_⟩<;>(try simp[j1,A4 hid])
   ·simp[j1];rw[zf (by simpa using h2)] at hR;(refine yC rfl (hK _) ?_; simp[j1]);refine yE hR [] (by simp[j1,A4 hid]) fun hrn=>⟨?_,?_,?_,?_,?_,?_⟩<;>(try simp[j1,A4 hid])
theorem C1v(l:List Ty)(q:List F6)(id:Nat)(hL:B0w l)(hl8:l.length<=1000)(ht8:∀t∈l,t.fields.length<=1000)(hq8:szL q<=1099511627776):
  A2 Tryz.prog 57 [.sl (l.map I8),.sl (q.map E0)] [] id (.int .i64 (A29 l q)) []:=by
 have hlen:=A0u q;refine w57.e.1 fun E hP hR hl hid=>?_;simp[w57];refine D0 (X:=Nat) (fun i=>⟨[(5,true,.ptr E.n0 0 0),(12,true,.sl (q.map E0)),(13,true,.int .i64 q.length),(14,true,.int .i64 i)],[(E.n0,some ⟨[.agg [.sl (l.map I8)]],.agg [.sl (l.map I8)],false,false⟩)],1⟩) (fun i=>i<=q.length/\A29 l (q.drop i)=A29 l q) (fun i=>q.length - i) 0 ?_ ⟨by omega,rfl⟩ ?_
 ·refine yV [(E.n0,E.n0+3072)] (by simp) fun hrn=>⟨?_,?_,?_,?_,?_⟩<;>(try simp)
 ·rintro i ⟨hi,hf⟩ p hp;refine A3 4000 ?_;simp;refine E5 (fun h=>?_) (fun h=>?_)
  ·have h:=zr h;obtain⟨x,hx,hd⟩:=B2 h;have hxm:x∈q:=zg hx;have hsx:=A1Z hxm;have hK:=fun id=>C1u l x E.n0 id hL hl8 ht8 (by omega);rw[hd] at hf;simp only[A29,R7] at hf;have hi1:IntKind.i64.wrap ((i:Int)+1)=((i+1:Nat):Int):=A5 (by omega);rw[H8] at hK;simp only[bxF] at hK;simp[hx,H8 x];refine⟨h,?_⟩;(refine yH rfl (hK _) ?_; simp);refine E5 (fun h1=>?_) (fun h1=>?_)
   ·simp;rw[zj (by simpa using h1)] at hf;rw[←show _=A29 l q from hf] at hR;exact yP hR
   ·simp;rw[zf (by simpa using h1)] at hf;refine hp _ (i+1) ⟨h,hf⟩ (by omega) ?_;refine yV [(E.n0,E.n0)] (by simp[hi1]) fun hrn=>⟨?_,?_,?_,?_,?_⟩<;>(try simp[hi1])
  ·have h:=zp h;simp;rw[zn (by omega)] at hf;rw[←hf] at hR;exact yP hR (h1:=by simp; rfl)
end Go.Am
namespace Go.Am
end Go.Am
namespace Go.Am
open Go Go.Proofs Go.RowKit
def A0v(s:H0)(i:Nat)(t:Tg):Int :=
 if X8 s.types t≠0 then X8 s.types t else if 0<i/\0<=I5 s.things t.type t.id (i - 1) then 4 else 0
def fSt(s:H0):Int :=
 if J2 s.types≠0 then J2 s.types else if 12<s.things.length then 2
 else if D9 (fun i t=>A0v s i t) s.things 0≠0 then D9 (fun i t=>A0v s i t) s.things 0
 else if Q7 (fun f c=>!c.ids.any fun x=>!K8 s f x) s.types s.things=true then 0 else 5
structure A4O(s:H0)(t:Tg):Prop where
 ty0:0<=t.type
 ty1:t.type.toNat<s.types.length
 id1:1<=t.id
 id2:t.id<=999
 len:t.cells.length=(C8 s.types t.type).length
 cell:∀(k:Nat) c,t.cells[k]?=some c->s9 (C8 s.types t.type) k c=0
theorem C3p{s:H0}{t:Tg}(h:X8 s.types t=0):A4O s t:=by
 unfold X8 at h;repeat' split at h
 all_goals first|(exfalso; omega)|skip
 rename_i h1 h2 h3;refine⟨by omega,by omega,by omega,by omega,by omega,fun k c hc=>?_⟩;have:=Q8 _ _ _ h k c hc
 rwa [yy] at this
structure B71(f:Fd)(c:Cl):Prop where
 n0:f.kind≠1->c.n=0
 t0:f.kind≠2->c.text=[]
 i0:R8 f.kind=false->c.ids=[]
 n1 : -999999999<=c.n/\c.n<=999999999
 t1:c.text.length<=40
 i1:c.ids.length<=6
 i3:f.kind=3->c.ids.length<=1
 asc:A41 c.ids=true
theorem C6C{f:Fd}{c:Cl}(h:A1Y f c=0):B71 f c:=by
 unfold A1Y at h;repeat' split at h
 all_goals first|(exfalso; omega)|skip
 rename_i h1 h2 h3 h4;have hm:A46 f.kind<=6:=by unfold A46; split<;>omega
 have hm3:f.kind=3->A46 f.kind=1:=fun e=>by unfold A46; rw[zj e]
 refine⟨by grind,by grind,by grind,by omega,by omega,by omega,fun e=>by have:=hm3 e; omega,h4⟩
theorem A4O.cellOk{s:H0}{t:Tg}(h:A4O s t){k:Nat}{c:Cl}(hc:t.cells[k]?=some c):∃f,(C8 s.types t.type)[k]?=some f/\B71 f c:=by
 obtain⟨f,hf⟩:∃f,(C8 s.types t.type)[k]?=some f:=⟨_,zc (by rw[←h.len]; exact (ze.1 hc).1)⟩;refine⟨f,hf,C6C ?_⟩;have:=h.cell k c hc;simpa only[s9,hf] using this
theorem A4O.cells6{s:H0}(hS:A6O s.types){t:Tg}(h:A4O s t):t.cells.length<=6:=by
 rw[h.len];obtain⟨ty,hty⟩:∃ty,s.types[t.type.toNat]?=some ty:=⟨_,zc h.ty1⟩;simpa [C8,hty] using hS.fields ty (zg hty)
theorem m3(s:H0)(id:Nat):A2 Tryz.prog 24 [D7 s] [] id (.int .i64 (fSt s)) []:=by
 unfold D7;refine w24.e.1 fun E hP hR hl hid=>?_;simp[w24];(refine yH rfl (A5h _ _) ?_; simp);refine E5 (fun h=>?_) (fun h=>?_)<;>simp
 ·exact yP hR (h1:=by simp; simp at h; unfold fSt; rw[zj h])
 have h1:J2 s.types=0:=by simpa using h
 refine E5 (fun h=>?_) (fun h=>?_)<;>simp
 ·exact yP hR (h1:=by simp; simp at h; unfold fSt; rw[zf (by omega),zj (by omega)])
 have h2:¬12<s.things.length:=by simp at h; omega
 have hS:=A6P h1;have hft:fSt s=if D9 (fun i t=>A0v s i t) s.things 0≠0 then D9 (fun i t=>A0v s i t) s.things 0
   else if Q7 (fun f c=>!c.ids.any fun x=>!K8 s f x) s.types s.things=true then 0 else 5:=by unfold fSt; rw[zf (by omega),zf h2]
 refine D0 (X:=Nat) (fun i=>⟨[(1,true,.ptr E.n0 0 0),(19,true,.sl (s.things.map T4)),(20,true,.int .i64 s.things.length),(21,true,.int .i64 i)],[(E.n0,some ⟨[.agg [.sl (s.types.map I8),.sl (s.things.map T4)]],.agg [.sl (s.types.map I8),.sl (s.things.map T4)],false,false⟩)],1⟩) (fun i=>i<=s.things.length/\D9 (fun i t=>A0v s i t) (s.things.drop i) i=D9 (fun i t=>A0v s i t) s.things 0) (fun i=>s.things.length - i) 0 ?_ ⟨by omega,rfl⟩ ?_
 ·refine yV [(E.n0,E.n0)] (by simp) fun hrn=>⟨?_,?_,?_,?_,?_⟩<;>(try simp)
 ·rintro i ⟨hi,hf⟩ p hp;refine A3 4000 ?_;simp;refine E5 (fun h=>?_) (fun h=>?_)
  ·have h:=zr h;obtain⟨t,hx,hd⟩:=B2 h;rw[hd] at hf;simp only[D9] at hf;have hi1:IntKind.i64.wrap ((i:Int)+1)=((i+1:Nat):Int):=A5 (by omega);have hth:=fun id=>B95 s t id hS.len (.inr hS.fields);unfold D7 at hth;rw[A3E t] at hth;simp[hx,A3E t];refine⟨h,?_⟩;(refine yH rfl (hth _) ?_; simp);refine E5 (fun h1=>?_) (fun h1=>?_)<;>simp
   ·have h1:X8 s.types t≠0:=(by simpa using h1);have e:A0v s i t=X8 s.types t:=(by unfold A0v; rw[zj h1]);rw[e,zj h1] at hf;exact yP hR (h1:=by simp; rw[hft,←hf,zj h1])
   have h1:X8 s.types t=0:=(by simpa using h1);rcases ua i with hz|hz
   ·subst hz;have e:A0v s 0 t=0:=(by unfold A0v; rw[zf (by omega),zf (by omega)]);rw[e,zf (by omega)] at hf;simp;refine A1Q (.int .i64 0) (by simp) (fun hg=>by simp at hg) (fun _=>?_);refine A3 4000 ?_;simp;refine hp _ 1 ⟨by omega,hf⟩ (by omega) ?_;have h01:IntKind.i64.wrap 1=1:=A5 (by omega);refine yV [(E.n0,E.n0)] (by simp[h01]) fun hrn=>⟨?_,?_,?_,?_,?_⟩<;>(try simp[h01])
   ·obtain⟨m,rfl⟩:∃m,i=m+1:=⟨i - 1,by omega⟩;obtain⟨u,hu⟩:∃u,s.things[m]?=some u:=⟨_,zc (by omega)⟩;have hwm:IntKind.i64.wrap (m:Int)=(m:Int):=A5 (by omega);have hmi:IntKind.i64.wrap ((m:Int)+1+1)=((m+1+1:Nat):Int):=(by rw[A5 (by omega)]; omega);have e:A0v s (m+1) t=if 0<=x4 u.type u.id t.type t.id then 4 else 0:=by
     unfold A0v;rw[zf (by omega)];simp[I5,hu]
    have hlt:m<s.things.length:=(by omega);rw[e] at hf;have hug:s.things[m]=u:=(by rw[zc hlt] at hu; injection hu);simp[hwm,hug,A3E u,hlt];refine A1Q (.int .i64 0) (by simp) (fun _=>?_) (fun hg=>by simp at hg);(refine yH rfl (A3G _ _ _ _ _ _ _) ?_; simp);refine E5 (fun h3=>?_) (fun h3=>?_)<;>simp
    ·have h3:0<=x4 u.type u.id t.type t.id:=(by simpa using h3);rw[zj h3,zj (by omega)] at hf;exact yP hR (h1:=by simp; rw[hft,←hf,zj (by omega)])
    ·have h3:¬0<=x4 u.type u.id t.type t.id:=(by simpa using h3);rw[zf h3,zf (by omega)] at hf;refine hp _ (m+1+1) ⟨h,hf⟩ (by omega) ?_;refine yV [(E.n0,E.n0)] (by simp[hmi]) fun hrn=>⟨?_,?_,?_,?_,?_⟩<;>(try simp[hmi])
  ·have h:=zp h;simp;rw[zn (by omega)] at hf;have hz:D9 (fun i t=>A0v s i t) s.things 0=0:=(by rw[←hf]; rfl);have hall:∀t∈s.things,A4O s t:=fun t ht=>by
    obtain⟨k,hk⟩:=ye.1 ht;have h0:=Q8 _ _ _ hz k t hk;refine C3p ?_;unfold A0v at h0;split at h0
    ·rename_i g; exact (g h0).elim
    ·rename_i g; exact zl g
   rw[hft,hz,zf (by omega)] at hR;have hE:=fun id=>B5U s 68 E.n0 (D7 s) (fun f c=>!c.ids.any fun x=>!K8 s f x) (A9h s) (fun f c id h6=>B6w f c s E.n0 id hS.len (by omega) (by omega))
    (fun t ht=>⟨(hall t ht).ty0,(hall t ht).ty1,(hall t ht).len,by have:=(hall t ht).cells6 hS; omega,fun c hc=>by
     obtain⟨k,hk⟩:=ye.1 hc;obtain⟨f,_,hco⟩:=(hall t ht).cellOk hk;exact hco.i1⟩) (by omega) id
   unfold D7 at hE;(refine yH rfl (hE _) ?_; simp);refine E5 (fun h=>?_) (fun h=>?_)<;>simp
   ·have h:Q7 (fun f c=>!c.ids.any fun x=>!K8 s f x) s.types s.things=false:=(by simpa using h);exact yP hR (h1:=by simp; rw[h])
   ·have h:Q7 (fun f c=>!c.ids.any fun x=>!K8 s f x) s.types s.things=true:=(by simpa using h);exact yP hR (h1:=by simp; rw[h])
theorem B4O(l:List Fd)(id:Nat)(hl8:l.length<=1000000):A2 Tryz.prog 252 [.sl (l.map T2)] [] id (.bsl id 0 l.length) [(id,some ⟨l.map T2,.agg [.str [],.int .i64 0,.str []],false,false⟩)]:=by
 refine A5W w252.hf w252.hc w252.hn w252.hr (by simp[Tryz.ntmps252]) fun E hP hR hl hid=>?_;refine A3 9 ?_;simp[w252];refine B8h (s:=0) (d:=3) (e:=4) (xs:=l.map T2) (by simp) (by decide) (fun hx=>?_) ?_
 ·refine A3 10 ?_;simp;have hx:l=[]:=by simpa using hx
  subst hx;refine A33 (E4.voidSlot 2 (x:=.nils) (y:=.bsl (E.n0+4096) 0 0) (by simp) .nils (.agg [.str [],.int .i64 0,.str []])) ?_;refine A3 4000 ?_;simp;refine yE hR [(id,E.n0+4096)] (by simp[A4 hid]) fun hrn=>⟨?_,?_,?_,?_,?_,?_⟩<;>(try simp[A4 hid])
 ·refine A3 4000 ?_;simp;refine⟨⟨fun a _=>by simp[T2],by omega,by omega⟩,?_⟩;refine yE hR [(id,E.n0+5120)] (by simp[A4 hid]) fun hrn=>⟨?_,?_,?_,?_,?_,?_⟩<;>(try simp[A4 hid])
theorem B2q(l:List Int)(id:Nat)(hl8:l.length<=1000000):A2 Tryz.prog 183 [.sl (l.map eI)] [] id (.bsl id 0 l.length) [(id,some ⟨l.map eI,.int .i64 0,false,false⟩)]:=by
 refine A5W w183.hf w183.hc w183.hn w183.hr (by simp[Tryz.ntmps183]) fun E hP hR hl hid=>?_;refine A3 9 ?_;simp[w183];refine B8h (s:=0) (d:=3) (e:=4) (xs:=l.map eI) (by simp) (by decide) (fun hx=>?_) ?_
 ·refine A3 10 ?_;simp;have hx:l=[]:=by simpa using hx
  subst hx;refine A33 (E4.voidSlot 2 (x:=.nils) (y:=.bsl (E.n0+4096) 0 0) (by simp) .nils (.int .i64 0)) ?_;refine A3 4000 ?_;simp;refine yE hR [(id,E.n0+4096)] (by simp[A4 hid]) fun hrn=>⟨?_,?_,?_,?_,?_,?_⟩<;>(try simp[A4 hid])
 ·refine A3 4000 ?_;simp;refine⟨⟨fun a _=>by simp[eI],by omega,by omega⟩,?_⟩;refine yE hR [(id,E.n0+5120)] (by simp[A4 hid]) fun hrn=>⟨?_,?_,?_,?_,?_,?_⟩<;>(try simp[A4 hid])
theorem A9l(l:List Ty)(id:Nat)(hl8:l.length<=1000)(hf8:∀t∈l,t.fields.length<=1000):A2 Tryz.prog 182 [.sl (l.map I8)] [] id (.sl (l.map I8)) []:=by
 refine w182.e.1 fun E hP hR hl hid=>?_;simp[w182];refine D0 (X:=Nat) (fun i=>⟨[(3,true,.bsl E.n0 0 i),(6,true,.sl (l.map I8)),(7,true,.int .i64 l.length),(8,true,.int .i64 i)],[(E.n0,some ⟨(l.map I8).take i,.agg [.str [],.nils],false,false⟩)],1⟩) (fun i=>i<=l.length) (fun i=>l.length - i) 0 ?_ (by omega) ?_
 ·refine E4.trans (E4.voidSlot 3 (x:=.nils) (y:=.bsl (E.n0+5120) 0 0) (by simp) .nils (.agg [.str [],.nils])) ?_;refine yV [(E.n0,E.n0+5120)] (by simp) fun hrn=>⟨?_,?_,?_,?_,?_⟩<;>(try simp)
 ·rintro i hi p hp;refine A3 4000 ?_;simp;refine E5 (fun h=>?_) (fun h=>?_)
  ·have h:=zr h;obtain⟨x,hx,hd⟩:=B2 h;have hi1:IntKind.i64.wrap ((i:Int)+1)=((i+1:Nat):Int):=A5 (by omega);have hx6:=hf8 x (zg hx);have htk:(l.map I8).take (i+1)=(l.map I8).take i++[.agg [.str x.name,.sl (x.fields.map T2)]]:=(by rw[vk,yi,hx]; rfl);simp[hx,I8];refine⟨h,?_⟩;(refine yH rfl (B4O x.fields _ (by omega)) ?_; simp);refine⟨⟨by omega,by omega,by omega⟩,?_⟩;refine hp _ (i+1) (by omega) (by omega) ?_;refine yV [(E.n0,E.n0+13313)] (by simp[hi1,htk]) fun hrn=>⟨?_,?_,?_,?_,?_⟩<;>(try simp[hi1,htk]);all_goals exact C2 rfl (by rw[←yu]; exact C4 (B2e _) (by simp))
  ·have h:=zp h;simp;have:l.take i=l:=zq (by omega);have hil:i=l.length:=(by omega);subst hil;have hrn:H5 []:=(by simp[A4 hid]);rw[hR];refine L6 (by simp<;>rfl) (by simp[A4 hid]<;>exact⟨rfl,rfl⟩) [] hrn ⟨?_,?_,?_,?_,?_,?_⟩<;>(try simp[A4 hid])
def zC:AV:=.agg [.int .i64 0,.str [],.nils]
def zT:AV:=.agg [.int .i64 0,.int .i64 0,.nils]
def eCo(t q k:Nat)(c:Cl):AV:=.agg [.int .i64 c.n,.str c.text,.bsl (t+16+16*q+k) 0 c.ids.length]
def Z6(t q:Nat)(l:List Cl):Nat->List AV
 | 0=>[]
 | k+1=>match l[k]? with
  | some c=>Z6 t q l k++[eCo t q k c]
  | none=>Z6 t q l k
def eTo(t q:Nat)(x:Tg):AV:=.agg [.int .i64 x.type,.int .i64 x.id,.bsl (t+1+q) 0 x.cells.length]
def P8(t:Nat)(l:List Tg):Nat->List AV
 | 0=>[]
 | i+1=>match l[i]? with
  | some x=>P8 t l i++[eTo t i x]
  | none=>P8 t l i
def iBx(c:Cl):Bx:=⟨c.ids.map eI,.int .i64 0,false,false⟩
def cBx(t q:Nat)(x:Tg):Bx:=⟨Z6 t q x.cells x.cells.length,zC,false,false⟩
def A0w(t q:Nat)(l:List Cl):Nat->List (Nat×Option Bx)
 | 0=>[]
 | k+1=>match l[k]? with
  | some c=>(t+16+16*q+k,some (iBx c))::A0w t q l k
  | none=>A0w t q l k
def M4(t:Nat)(l:List Tg):Nat->List (Nat×Option Bx)
 | 0=>[]
 | i+1=>match l[i]? with
  | some x=>(t+1+i,some (cBx t i x))::(A0w t i x.cells x.cells.length++M4 t l i)
  | none=>M4 t l i
theorem A9m(t q:Nat)(l:List Cl):∀k,k<=l.length->(Z6 t q l k).length=k
 | 0,_=>rfl
 | k+1,h=>by
  rw[Z6,zc (by omega)];simp[A9m t q l k (by omega)]
theorem A9n(t:Nat)(l:List Tg):∀k,k<=l.length->(P8 t l k).length=k
 | 0,_=>rfl
 | k+1,h=>by
  rw[P8,zc (by omega)];simp[A9n t l k (by omega)]
theorem t8{t q:Nat}{l:List Cl}:∀{k:Nat} {y:Nat} {b:Option Bx},(y,b)∈A0w t q l k->∃m c,m<k/\l[m]?=some c/\y=t+16+16*q+m/\b=some (iBx c)
 | 0,y,b,h=>by cases h
 | k+1,y,b,h=>by
  rw[A0w] at h;cases hc:l[k]? with
  | none =>
   rw[hc] at h;obtain⟨m,c,h1,h2⟩:=t8 h;exact⟨m,c,by omega,h2⟩
  | some c =>
   rw[hc] at h;rcases zh.1 h with h|h
   ·injection h with h1 h2
    exact⟨k,c,by omega,hc,h1,h2⟩
   ·obtain⟨m,c,h1,h2⟩:=t8 h;exact⟨m,c,by omega,h2⟩
theorem A5k{t:Nat}{l:List Tg}:∀{i:Nat} {y:Nat} {b:Option Bx},(y,b)∈M4 t l i->∃j x,j<i/\l[j]?=some x/\((y=t+1+j/\b=some (cBx t j x))\/(y,b)∈A0w t j x.cells x.cells.length)
 | 0,y,b,h=>by cases h
 | i+1,y,b,h=>by
  rw[M4] at h;cases hx:l[i]? with
  | none =>
   rw[hx] at h;obtain⟨j,x,h1,h2⟩:=A5k h;exact⟨j,x,by omega,h2⟩
  | some x =>
   rw[hx] at h;rcases zh.1 h with h|h
   ·injection h with h1 h2
    exact⟨i,x,by omega,hx,.inl ⟨h1,h2⟩⟩
   ·rcases zo.1 h with h|h
    ·exact⟨i,x,by omega,hx,.inr h⟩
    ·obtain⟨j,x,h1,h2⟩:=A5k h;exact⟨j,x,by omega,h2⟩
theorem B2r(S:Nat->Prop)(l:List Int):∀x∈l.map eI,B4 S x:=fun x hx=>by
 obtain⟨n,_,rfl⟩:=zu.1 hx;exact I4 _ rfl
theorem A0L{t q:Nat}{l:List Cl}{S:Nat->Prop}:∀{k:Nat},(∀m,m<k->S (t+16+16*q+m))->∀x∈Z6 t q l k,B4 S x
 | 0,_,x,h=>by cases h
 | k+1,hS,x,h=>by
  rw[Z6] at h;cases hc:l[k]? with
  | none=>rw[hc] at h; exact A0L (fun m hm=>hS m (by omega)) x h
  | some c =>
   rw[hc] at h;rcases zo.1 h with h|h
   ·exact A0L (fun m hm=>hS m (by omega)) x h
   ·simp at h;subst h;simp only[eCo,B4,F3];exact⟨trivial,trivial,hS k (by omega),trivial⟩
theorem A0M{t:Nat}{l:List Tg}{S:Nat->Prop}:∀{i:Nat},(∀m,m<i->S (t+1+m))->∀x∈P8 t l i,B4 S x
 | 0,_,x,h=>by cases h
 | i+1,hS,x,h=>by
  rw[P8] at h;cases hc:l[i]? with
  | none=>rw[hc] at h; exact A0M (fun m hm=>hS m (by omega)) x h
  | some c =>
   rw[hc] at h;rcases zo.1 h with h|h
   ·exact A0M (fun m hm=>hS m (by omega)) x h
   ·simp at h;subst h;simp only[eTo,B4,F3];exact⟨trivial,trivial,hS i (by omega),trivial⟩
theorem A4P{t q:Nat}{l:List Cl}{S:Nat->Prop}(k:Nat)(hS:∀m,m<k->S (t+16+16*q+m)):x7 S (A0w t q l k):=by
 induction k with
 | zero=>exact x7.nil _
 | succ k ih =>
  rw[A0w];cases hc:l[k]? with
  | none=>exact ih fun m hm=>hS m (by omega)
  | some c =>
   refine (ih fun m hm=>hS m (by omega)).cons (hS k (by omega)) (fun p hp=>?_) (B2r _ _);obtain⟨y,b⟩:=p;obtain⟨m,c,h1,_,h2,_⟩:=t8 hp;simp only; omega
theorem A04{t:Nat}{l:List Tg}(h6:∀x∈l,x.cells.length<=16){i:Nat}{y:Nat}{b:Option Bx}(h:(y,b)∈M4 t l i):(∃j,j<i/\y=t+1+j)\/∃j m,j<i/\m<16/\y=t+16+16*j+m:=by
 obtain⟨j,x,h1,h2,h3⟩:=A5k h;rcases h3 with⟨h3,_⟩|h3
 ·exact .inl ⟨j,h1,h3⟩
 ·obtain⟨m,c,h4,_,h5,_⟩:=t8 h3;have:=h6 x (zg h2);exact .inr ⟨j,m,h1,by omega,h5⟩
theorem Q9{t:Nat}{l:List Tg}{S:Nat->Prop}(h6:∀x∈l,x.cells.length<=16)(i:Nat)(hi:i<=12)(hS1:∀j,j<i->S (t+1+j))(hS2:∀j m,j<i->m<16->S (t+16+16*j+m)):x7 S (M4 t l i):=by
 induction i with
 | zero=>exact x7.nil _
 | succ i ih =>
  rw[M4];have ih:=ih (by omega) (fun j hj=>hS1 j (by omega)) fun j m hj hm=>hS2 j m (by omega) hm;cases hx:l[i]? with
  | none=>exact ih
  | some x =>
   have hx6:=h6 x (zg hx);have ha:x7 S (A0w t i x.cells x.cells.length++M4 t l i):=(A4P _ fun m hm=>hS2 i m (by omega) (by omega)).append ih fun p hp p' hp' e=>by
    obtain⟨y,b⟩:=p;obtain⟨y',b'⟩:=p';simp only at e;subst e;obtain⟨m,c,h1,_,h2,_⟩:=t8 hp;rcases A04 h6 hp' with⟨j,h3,h4⟩|⟨j,m',h3,h4,h5⟩<;>omega
   refine ha.cons (hS1 i (by omega)) (fun p hp=>?_) (A0L fun m hm=>hS2 i m (by omega) (by omega));obtain⟨y,b⟩:=p;rcases zo.1 hp with hp|hp
   ·obtain⟨m,c,h1,_,h2,_⟩:=t8 hp;simp only; omega
   ·rcases A04 h6 hp with⟨j,h3,h4⟩|⟨j,m',h3,h4,h5⟩<;>(simp only; omega)
theorem A2S.of{R:Rn}{S:Nat->Prop}{bx':List (Nat×Option Bx)}{fin:Nat->Option Bx}:∀{l:List Nat},(∀y∈l,∀b',fin y=some b'->∃x b,R.ρ y=some x/\Am.bk bx' x=some b/\BxR R S b b')->A2S R S bx' fin l
 | [],_=>trivial
 | y::l,h=>by
  refine⟨?_,A2S.of fun z hz=>h z (zb _ hz)⟩;cases hf:fin y with
  | none=>trivial
  | some b'=>exact h y (za ..) b' hf
theorem Q3{B:Nat->Option Bx}:∀{wr:List (Nat×Option Bx)} {y:Nat},(∀q∈wr,q.1≠y)->F4 B wr y=B y
 | [],_,_=>rfl
 | (z,b)::l,y,h=>by
  rw[F4,Q3 fun q hq=>h q (zb _ hq)];exact B7 _ _ _ (fun e=>h (z,b) (za ..) e.symm)
theorem A4y{B:Nat->Option Bx}:∀{wr:List (Nat×Option Bx)} {y:Nat} {b:Option Bx},(wr.map Prod.fst).Nodup->(y,b)∈wr->F4 B wr y=b
 | [],_,_,_,h=>by cases h
 | (z,c)::l,y,b,hn,h=>by
  rw[ym,xc] at hn;rw[F4];rcases zh.1 h with e|h
  ·injection e with e1 e2
   subst e1 e2;rw[Q3 fun q hq e=>hn.1 (zu.2 ⟨q,hq,e⟩),C7]
  ·exact A4y hn.2 h
theorem A9o{B:Nat->Option Bx}:∀{wr:List (Nat×Option Bx)} {y:Nat} {b:Bx},F4 B wr y=some b->(y,some b)∈wr\/B y=some b
 | [],y,b,h=>.inr h
 | (z,c)::l,y,b,h=>by
  rw[F4] at h;rcases A9o h with h|h
  ·exact .inl (zb _ h)
  ·by_cases e:y=z
   ·subst e;rw[C7] at h;subst h;exact .inl (za ..)
   ·rw[B7 _ _ _ e] at h;exact .inr h
theorem A9p{id:Nat}{rd:List (Nat×Option Bx)}:∀{l:List (Nat×Option Bx)},(∀q∈l,J7 q.1 rd\/(id<=q.1/\q.1<id+1024))->A5V id rd l
 | [],_=>trivial
 | (y,b)::l,h=>⟨h _ (za ..),A9p fun q hq=>h q (zb _ hq)⟩
def B5X(R:Rn)(t t':Nat):Prop:=∀o,1<=o->o<1000->R.ρ (t'+o)=some (t+o)
theorem A5l{R:Rn}{S:Nat->Prop}{t t' q:Nat}{l:List Cl}(h:B5X R t t')(hq:q<12):∀k,k<=16->N8 R S (Z6 t q l k) (Z6 t' q l k)
 | 0,_=>.nil
 | k+1,hk=>by
  rw[Z6,Z6];cases hc:l[k]? with
  | none=>exact A5l h hq k (by omega)
  | some c =>
   refine s7 (A5l h hq k (by omega)) (.cons _ _ _ _ (.agg _ _ ?_) .nil);refine .cons _ _ _ _ (.same _ trivial) (.cons _ _ _ _ (.same _ trivial) (.cons _ _ _ _ (.bsl _ _ _ _ ?_) .nil));have:=h (16+16*q+k) (by omega) (by omega);rw[show t'+16+16*q+k=t'+(16+16*q+k) by omega,show t+16+16*q+k=t+(16+16*q+k) by omega];exact this
theorem A5m{R:Rn}{S:Nat->Prop}{t t':Nat}{l:List Tg}(h:B5X R t t'):∀i,i<=12->N8 R S (P8 t l i) (P8 t' l i)
 | 0,_=>.nil
 | i+1,hi=>by
  rw[P8,P8];cases hc:l[i]? with
  | none=>exact A5m h i (by omega)
  | some x =>
   refine s7 (A5m h i (by omega)) (.cons _ _ _ _ (.agg _ _ ?_) .nil);refine .cons _ _ _ _ (.same _ trivial) (.cons _ _ _ _ (.same _ trivial) (.cons _ _ _ _ (.bsl _ _ _ _ ?_) .nil));have:=h (1+i) (by omega) (by omega);rw[show t'+1+i=t'+(1+i) by omega,show t+1+i=t+(1+i) by omega];exact this
theorem A82{t t' q:Nat}{l:List Cl}:∀{k:Nat} {o:Nat} {b:Option Bx},(t'+o,b)∈A0w t' q l k->(t+o,b)∈A0w t q l k
 | 0,o,b,h=>by cases h
 | k+1,o,b,h=>by
  rw[A0w] at h ⊢;cases hc:l[k]? with
  | none=>rw[hc] at h; exact A82 h
  | some c =>
   rw[hc] at h;rcases zh.1 h with h|h
   ·injection h with h1 h2
    subst h2;have:o=16+16*q+k:=by omega
    subst this;rw[show t+(16+16*q+k)=t+16+16*q+k by omega];exact za ..
   ·exact zb _ (A82 h)
theorem A5n{R:Rn}{S:Nat->Prop}{t t':Nat}{l:List Tg}(h6:∀x∈l,x.cells.length<=16)(hR:B5X R t t'):∀{i:Nat} {y:Nat} {b:Bx},i<=12->(y,some b)∈M4 t' l i->∃o b0,1<=o/\o<1000/\y=t'+o/\(t+o,some b0)∈M4 t l i/\BxR R S b0 b
 | 0,y,b,_,h=>by cases h
 | i+1,y,b,hi,h=>by
  rw[M4] at h;rw[M4];cases hc:l[i]? with
  | none=>rw[hc] at h; exact A5n h6 hR (by omega) h
  | some x =>
   have hx6:=h6 x (zg hc);rw[hc] at h;rcases zh.1 h with h|h
   ·injection h with h1 h2
    injection h2 with h2
    subst h1 h2;refine⟨1+i,cBx t i x,by omega,by omega,by omega,?_,⟨A5l hR (by omega) _ hx6,rfl,rfl,rfl⟩⟩;rw[show t+(1+i)=t+1+i by omega];exact za ..
   ·rcases zo.1 h with h|h
    ·obtain⟨m,c,h1,h2,h3,h4⟩:=t8 h;injection h4 with h4
     subst h4 h3;refine⟨16+16*i+m,iBx c,by omega,by omega,by omega,zb _ (yp _ ?_),⟨C2 rfl (A17 _),rfl,rfl,rfl⟩⟩;exact A82 (t':=t') (by rw[show t'+(16+16*i+m)=t'+16+16*i+m by omega]; exact h)
    ·obtain⟨o,b0,q1,q2,q3,q4,q5⟩:=A5n h6 hR (by omega) h;exact⟨o,b0,q1,q2,q3,zb _ (yb _ q4),q5⟩
def A05(id a:Nat):Nat->List (Nat×Nat)
 | 0=>[]
 | n+1=>(id+(n+1),a+(n+1))::A05 id a n
theorem A4Q{id a:Nat}:∀{n:Nat} {q:Nat×Nat},q∈A05 id a n->∃o,1<=o/\o<=n/\q=(id+o,a+o)
 | 0,q,h=>by cases h
 | n+1,q,h=>by
  rw[A05] at h;rcases zh.1 h with h|h
  ·exact⟨n+1,by omega,by omega,h⟩
  ·obtain⟨o,h1,h2,h3⟩:=A4Q h;exact⟨o,h1,by omega,h3⟩
theorem A3K{id a b:Nat}:∀{n:Nat},(∀o,1<=o->o<=n->b≠a+o)->U0 (A05 id a n) b=false
 | 0,_=>rfl
 | n+1,h=>by
  rw[A05,U0,zf (h (n+1) (by omega) (by omega))];exact A3K fun o h1 h2=>h o h1 (by omega)
theorem A9q{id a:Nat}:∀n,H5 (A05 id a n)
 | 0=>trivial
 | n+1=>⟨A3K fun o h1 h2=>by omega,A9q n⟩
theorem A9r{id a o:Nat}:∀{n:Nat},1<=o->o<=n->lkN (A05 id a n) (id+o)=some (a+o)
 | 0,h1,h2=>by omega
 | n+1,h1,h2=>by
  rw[A05,lkN];by_cases e:o=n+1
  ·subst e; simp
  ·rw[zf (by omega)];exact A9r h1 (by omega)
theorem B2s{a b:Nat}:∀{l:List (Nat×Nat)},(∀q∈l,a<=q.1/\q.1<b)->A6D a b l
 | [],_=>trivial
 | (y,z)::l,h=>⟨h _ (za ..),B2s fun q hq=>h q (zb _ hq)⟩
theorem A9s{n0:Nat}{bx':List (Nat×Option Bx)}:∀{l:List (Nat×Nat)},(∀q∈l,n0<=q.2)->A34 n0 bx' l
 | [],_=>trivial
 | (y,z)::l,h=>⟨.inl (h _ (za ..)),A9s fun q hq=>h q (zb _ hq)⟩
end Go.Am
