/- Parts of the proof: an abstract machine for Go functions, and what functions of the program give back (St2, St3, St4, CcV, Vl1, Vl2, Vl3, Vl4, Vl5, Vl6, St0, St5, Ow1, Ow2). No condition. -/
import Derived.Test.YtphjabjjnncebaaGreatDoorXI
import Derived.Test.YtphjabjjnncebaaGreatDoorXG
import Derived.Test.YtphjabjjnncebaaGreatDoorXH
import Derived.Test.YtphjabjjnncebaaGreatDoorXF
set_option maxRecDepth 100000
set_option linter.all false
set_option maxHeartbeats 2000000
namespace Go.Am
open Go Go.Proofs Go.RowKit
theorem A9a(s:I4)(kind tid:Int)(id:Nat)(hl8:s.things.length<1000000):A2 Tryz.prog 71 [I2 s,.int .i64 kind,.int .i64 tid] [] id (.tup [.int .i64 (C8 s.things kind tid),.bool (F7 s.things kind tid)]) []:=by
 unfold I2;refine w71.e.1 fun E hP hR hl hid=>?_;simp[w71];(refine yH rfl (B0p s.things kind tid _ hl8) ?_; simp);exact yP hR
def A4n:List Int->Bool
 | a::b::r=>decide (a<b)&&A4n (b::r)
 | _=>true
theorem B6i{l:List Int}{i:Nat}{a b:Int}(h1:l[i]?=some a)(h2:l[i+1]?=some b):A4n (l.drop i)=(decide (a<b)&&A4n (l.drop (i+1))):=by
 have e1:l.drop i=a::l.drop (i+1):=by
  have hi:=(List.getElem?_eq_some_iff.1 h1).1;obtain⟨x,hx,hd⟩:=B6 hi;rw[h1] at hx; injection hx with hx; subst hx; exact hd
 have e2:l.drop (i+1)=b::l.drop (i+2):=by
  have hi:=(List.getElem?_eq_some_iff.1 h2).1;obtain⟨x,hx,hd⟩:=B6 hi;rw[h2] at hx; injection hx with hx; subst hx; exact hd
 rw[e1,e2]; rfl
theorem B8p{l:List Int}{i:Nat}(h:l.length<=i+1):A4n (l.drop i)=true:=by
 have:(l.drop i).length<=1:=by simp; omega
 match hm:l.drop i,this with
 | [],_=>rfl
 | [a],_=>rfl
def A6F(k:Int):Int:=if k=3 then 1 else 6
def A2i(f:Fd)(c:Cl):Int :=
 if (f.kind≠1/\c.n≠0)\/(f.kind≠2/\c.text≠[])\/(g9 f.kind=false/\c.ids≠[]) then 1
 else if ¬(-999999999<=c.n/\c.n<=999999999) then 3
 else if 40<c.text.length\/A6F f.kind<c.ids.length then 2
 else if A4n c.ids=true then 0 else 4
theorem C1Y(f:Fd)(c:Cl)(id:Nat):A2 Tryz.prog 130 [S7 f,eCl c] [] id (.int .i64 (A2i f c)) []:=by
 unfold S7 eCl;refine w130.e.1 fun E hP hR hl hid=>?_;simp[w130];refine E6 (fun h3=>?_) (fun h3=>?_)<;>simp;all_goals repeat' first
  | (refine And.intro ?_ ?_)
  | (refine E6 (fun h=>?_) (fun h=>?_)<;>simp)
  | (refine yH rfl (A7l _ _) ?_; simp)
  | (refine yH rfl (S2 _ _) ?_; simp)
 all_goals first
  | (rw[hR]; refine E9 (by simp<;>rfl) [] trivial (U3 ?_ (by simp) (by simp)); simp[A2i,g9,A6F] at *; first|done|grind)
  | (exfalso; simp_all; done)
  | skip
 all_goals
  have h6:c.ids.length<=6:=by simp at *; omega
  have hf:A2i f c=if A4n c.ids=true then 0 else 4:=by
   simp[g9] at *;unfold A2i;rw[if_neg (by simp[g9]; grind),if_neg (by omega),if_neg (by simp[A6F]; grind)]
  rw[hf] at hR;refine D3 (X:=Nat) (fun i=>⟨[(3,true,.ptr (E.n0+1024) 0 0),(6,true,.int .i64 (i+1))],[(E.n0+1024,some ⟨[.agg [.int .i64 c.n,.str c.text,.sl (c.ids.map eI)]],.agg [.int .i64 c.n,.str c.text,.sl (c.ids.map eI)],false,false⟩)],1025⟩) (fun i=>i<=c.ids.length/\A4n (c.ids.drop i)=A4n c.ids) (fun i=>c.ids.length - i) 0 ?_ ⟨by omega,rfl⟩ ?_
  ·refine yV [(E.n0+1024,E.n0+1024)] (by simp) fun hrn=>⟨?_,?_,?_,?_,?_⟩<;>(try simp)
  ·rintro i ⟨hi,ha⟩ p hp;have hw1:IntKind.i64.wrap (i:Int)=(i:Int):=A5 (by omega);have hw2:IntKind.i64.wrap ((i:Int)+1+1)=((i+1:Nat):Int)+1:=(by rw[A5 (by omega)]; omega);have hw3:(0:Int)<=(i:Int)+1:=(by omega);have hw4:((i:Int)+1).toNat=i+1:=(by omega);refine A3 4000 ?_;simp;refine E6 (fun h=>?_) (fun h=>?_)
   ·have h:=of_decide_eq_true h;obtain⟨a,hx⟩:∃a,c.ids[i]?=some a:=⟨_,List.getElem?_eq_getElem (by omega)⟩;obtain⟨b,hy⟩:∃b,c.ids[i+1]?=some b:=⟨_,List.getElem?_eq_getElem (by omega)⟩;have hst:=B6i hx hy;simp[hw1,hw3,hw4,hx,hy,eI];refine⟨by omega,by omega,?_⟩;refine E6 (fun h1=>?_) (fun h1=>?_)<;>simp
    ·exact yP hR (h1:=by simp; simp at h1; rw[←ha,hst]; simp; intro h2; omega)
    ·simp at h1;rw[hst] at ha;refine hp _ (i+1) ⟨by omega,by rw[←ha]; simp; intro _; exact h1⟩ (by omega) ?_;refine yV [(E.n0+1024,E.n0+1024)] (by simp[hw2]) fun hrn=>⟨?_,?_,?_,?_,?_⟩<;>(try simp[hw2])
   ·have h:=of_decide_eq_false h;have:A4n c.ids=true:=by rw[←ha]; exact B8p (by omega)
    simp;exact yP hR (h1:=by simp; exact this)
def D8(l:List Ty)(k:Int):List Fd:=((l[k.toNat]?).map Ty.fields).getD []
def A0L(fs:List Fd)(k:Nat)(c:Cl):Int:=match fs[k]? with
 | some f=>A2i f c
 | none=>0
def j0(l:List Ty)(t:Tg):Int :=
 if ¬(0<=t.type/\t.type<l.length) then 5 else if ¬(1<=t.id/\t.id<=999) then 3
 else if t.cells.length≠(D8 l t.type).length then 1 else E4 (fun k c=>A0L (D8 l t.type) k c) t.cells 0
theorem B8q(s:I4)(t:Tg)(id:Nat)(h5:s.types.length<=5)(h6:t.cells.length<=1000000\/∀x∈s.types,x.fields.length<=6):A2 Tryz.prog 66 [I2 s,X2 t] [] id (.int .i64 (j0 s.types t)) []:=by
 rw[A37 t];unfold I2;have hw:IntKind.i64.wrap ((s.types.length:Int) - 1)=(s.types.length:Int) - 1:=A5 (by omega);refine w66.e.1 fun E hP hR hl hid=>?_;simp[w66,hw];(refine yH rfl (F4 _ _ _ _) ?_; simp);refine E6 (fun h=>?_) (fun h=>?_)<;>simp
 ·exact yP hR (h1:=by simp; simp at h; unfold j0; rw[if_pos (by omega)])
 have h1:¬¬(0<=t.type/\t.type<s.types.length):=by simp at h; omega
 (refine yH rfl (F4 _ _ _ _) ?_; simp);refine E6 (fun h=>?_) (fun h=>?_)<;>simp
 ·exact yP hR (h1:=by simp; simp at h; unfold j0; rw[if_neg h1,if_pos (by omega)])
 have h2:¬¬(1<=t.id/\t.id<=999):=by simp at h; omega
 obtain⟨ty,hty⟩:∃ty,s.types[t.type.toNat]?=some ty:=⟨_,List.getElem?_eq_getElem (by omega)⟩;have hfl:D8 s.types t.type=ty.fields:=by simp[D8,hty]
 have hr1:0<=t.type:=by omega
 have hr2:t.type.toNat<s.types.length:=by omega
 simp[hty,J3];refine⟨⟨hr1,hr2⟩,?_⟩;refine E6 (fun h=>?_) (fun h=>?_)<;>simp
 ·exact yP hR (h1:=by simp; simp at h; unfold j0; rw[if_neg h1,if_neg h2,hfl,if_pos (by omega)])
 have h3:t.cells.length=ty.fields.length:=by simp at h; omega
 have hft:j0 s.types t=E4 (fun k c=>A0L ty.fields k c) t.cells 0:=by unfold j0; rw[if_neg h1,if_neg h2,hfl,if_neg (by omega)]
 rw[hft] at hR;have h7:t.cells.length<=1000000:=by
  rcases h6 with h6|h6
  ·exact h6
  ·have:=h6 ty (List.mem_of_getElem? hty); omega
 refine D3 (X:=Nat) (fun k=>⟨[(2,true,.ptr E.n0 0 0),(3,true,.ptr (E.n0+1024) 0 0),(36,true,.sl (t.cells.map eCl)),(37,true,.int .i64 t.cells.length),(38,true,.int .i64 k)],[(E.n0,some ⟨[.agg [.sl (s.types.map J3),.sl (s.things.map X2)]],.agg [.sl (s.types.map J3),.sl (s.things.map X2)],false,false⟩),(E.n0+1024,some ⟨[.agg [.int .i64 t.type,.int .i64 t.id,.sl (t.cells.map eCl)]],.agg [.int .i64 t.type,.int .i64 t.id,.sl (t.cells.map eCl)],false,false⟩)],1025⟩) (fun k=>k<=t.cells.length/\E4 (fun k c=>A0L ty.fields k c) (t.cells.drop k) k=E4 (fun k c=>A0L ty.fields k c) t.cells 0) (fun k=>t.cells.length - k) 0 ?_ ⟨by omega,rfl⟩ ?_
 ·refine yV [(E.n0,E.n0),(E.n0+1024,E.n0+1024)] (by simp) fun hrn=>⟨?_,?_,?_,?_,?_⟩<;>(try simp)
 ·rintro k ⟨hk,hf⟩ p hp;refine A3 4000 ?_;simp;refine E6 (fun h=>?_) (fun h=>?_)
  ·have h:=of_decide_eq_true h;obtain⟨x,hx,hd⟩:=B6 h;obtain⟨f,hfx⟩:∃f,ty.fields[k]?=some f:=⟨_,List.getElem?_eq_getElem (by omega)⟩;rw[hd] at hf;simp only[E4] at hf;have hca:A0L ty.fields k x=A2i f x:=(by simp only[A0L,hfx]);rw[hca] at hf;have hi1:IntKind.i64.wrap ((k:Int)+1)=((k+1:Nat):Int):=A5 (by omega);simp[hx,B0o x,hty,J3,hfx,S7];have hcx:=fun id=>C1Y f x id;simp only[S7,B0o x] at hcx;refine⟨h,⟨hr1,hr2⟩,by omega,?_⟩;(refine yH rfl (hcx _) ?_; simp);refine E6 (fun h1=>?_) (fun h1=>?_)
   ·simp;rw[if_pos (by simpa using h1)] at hf;exact yP hR (h1:=by simp; exact hf)
   ·simp;rw[if_neg (by simpa using h1)] at hf;refine hp _ (k+1) ⟨h,hf⟩ (by omega) ?_;refine yV [(E.n0,E.n0),(E.n0+1024,E.n0+1024)] (by simp[hi1]) fun hrn=>⟨?_,?_,?_,?_,?_⟩<;>(try simp[hi1])
  ·have h:=of_decide_eq_false h;simp;rw[List.drop_of_length_le (by omega)] at hf;exact yP hR (h1:=by simp; exact hf)
theorem A9b(s:I4):(I2 s).pureB=true:=by simp[I2]
@[simp] theorem B8r (R:Rn) (S:Nat->Prop) (f:Fd):O9 R S (S7 f) (S7 f):=K7 rfl (B2S f)
@[simp] theorem C5U (R:Rn) (S:Nat->Prop) (s:I4):O9 R S (I2 s) (I2 s):=K7 rfl (A9b s)
@[simp] theorem C5f (R:Rn) (S:Nat->Prop) (t:Tg):O9 R S (X2 t) (X2 t):=K7 rfl (A4m t)
def C4(l:List Ty)(n:List UInt8):Int:=C2 (fun t=>t.name==n) l 0
def L2(s:I4)(f:Fd)(x:Int):Bool:=F7 s.things (C4 s.types f.of) x
theorem x7(l:List Ty)(n:List UInt8):C2 (fun t=>t.name==n) l 0=C4 l n:=rfl
theorem B47(x:Int)(s:I4)(f:Fd)(js jf:Nat)(id:Nat)(h5:s.types.length<=5)(h12:s.things.length<=12)(d1:js≠jf):A2 Tryz.prog 70 [.int .i64 x,.ptr js 0 0,.ptr jf 0 0] [(js,⟨[I2 s],I2 s,false,false⟩),(jf,⟨[S7 f],S7 f,false,false⟩)] id (.bool (!L2 s f x)) []:=by
 have hF:=A9a s (C4 s.types f.of) x;unfold I2 S7 at *;refine w70.e.1 fun E hP hR hl hid=>?_;simp[w70];have hjs:=hl (js,_) (List.mem_cons_self ..);simp only at hjs;have js1:=lf hjs;have hjf:=hl (jf,_) (List.mem_cons_of_mem _ (List.mem_cons_self ..));simp only at hjf;have jf1:=lf hjf;try simp[js1,jf1,d1,d1.symm]
 (refine yC rfl (c8 s.types f.of _ (by omega)) ?_; simp[js1,jf1,d1,d1.symm,x7]);(refine yC rfl (hF _ (by omega)) ?_; simp[js1,jf1,d1,d1.symm,L2]);refine yE hR [] (by simp[js1,jf1,d1,d1.symm,L2,A4 hid]) fun hrn=>⟨?_,?_,?_,?_,?_,?_⟩<;>(try simp[js1,jf1,d1,d1.symm,L2,A4 hid])
theorem B2X(l:List Int)(s:I4)(f:Fd)(js jf:Nat)(id:Nat)(h5:s.types.length<=5)(h12:s.things.length<=12)(d1:js≠jf)(hl8:l.length<9223372036854775807):A2 Tryz.prog 131 [.sl (l.map eI),.fn 70 [.ptr js 0 0,.ptr jf 0 0]] [(js,⟨[I2 s],I2 s,false,false⟩),(jf,⟨[S7 f],S7 f,false,false⟩)] id (.int .i64 (C2 (fun x=>!L2 s f x) l 0)) []:=by
 refine w131.e.1 fun E hP hR hl hid=>?_;simp[w131];have hjs:=hl (js,_) (List.mem_cons_self ..);simp only at hjs;have js1:=lf hjs;have hjf:=hl (jf,_) (List.mem_cons_of_mem _ (List.mem_cons_self ..));simp only at hjf;have jf1:=lf hjf;refine D3 (X:=Nat) (fun i=>⟨[(0,true,.sl (l.map eI)),(1,true,.fn 70 [.ptr js 0 0,.ptr jf 0 0]),(7,true,.int .i64 l.length),(8,true,.int .i64 i)],[(js,some (⟨[I2 s],I2 s,false,false⟩)),(jf,some (⟨[S7 f],S7 f,false,false⟩))],0⟩) (fun i=>i<=l.length/\C2 (fun x=>!L2 s f x) (l.drop i) i=C2 (fun x=>!L2 s f x) l 0) (fun i=>l.length - i) 0 ?_ ⟨by omega,rfl⟩ ?_
 ·refine yV [] (by simp[js1,jf1,d1,d1.symm]) fun hrn=>⟨?_,?_,?_,?_,?_⟩<;>(try simp[js1,jf1,d1,d1.symm])
 ·rintro i ⟨hi,hf⟩ p hp;refine A3 4000 ?_;simp;refine E6 (fun h=>?_) (fun h=>?_)
  ·have h:=of_decide_eq_true h;obtain⟨x,hx,hd⟩:=B6 h;have hcl:=B47 x s f js jf;rw[hd] at hf;simp only[C2] at hf;have hi1:IntKind.i64.wrap ((i:Int)+1)=((i+1:Nat):Int):=A5 (by omega);simp[hx,eI];refine⟨h,?_⟩;refine L7 hP rfl rfl (hcl _ h5 h12 d1) (by simp) (by simp[js1,jf1,d1,d1.symm]<;>rfl) ?_;refine A3 4000 ?_;simp[js1,jf1,d1,d1.symm];refine E6 (fun h1=>?_) (fun h1=>?_)
   ·simp[js1,jf1,d1,d1.symm];rw[if_pos h1] at hf;rw[←hf] at hR;refine yE hR [] (by simp[js1,jf1,d1,d1.symm,C2,A4 hid]) fun hrn=>⟨?_,?_,?_,?_,?_,?_⟩<;>(try simp[js1,jf1,d1,d1.symm,C2,A4 hid])
   ·simp[js1,jf1,d1,d1.symm];rw[if_neg (by simpa using h1)] at hf;refine hp _ (i+1) ⟨h,hf⟩ (by omega) ?_;refine yV [] (by simp[hi1,js1,jf1,d1,d1.symm]) fun hrn=>⟨?_,?_,?_,?_,?_⟩<;>(try simp[hi1,js1,jf1,d1,d1.symm])
  ·have h:=of_decide_eq_false h;simp;rw[List.drop_of_length_le (by omega)] at hf;rw[←hf] at hR;refine yE hR [] (by simp[js1,jf1,d1,d1.symm,C2,A4 hid]) fun hrn=>⟨?_,?_,?_,?_,?_,?_⟩<;>(try simp[js1,jf1,d1,d1.symm,C2,A4 hid])
theorem B48(l:List Int)(s:I4)(f:Fd)(js jf:Nat)(id:Nat)(h5:s.types.length<=5)(h12:s.things.length<=12)(d1:js≠jf)(hl8:l.length<9223372036854775807):A2 Tryz.prog 69 [.sl (l.map eI),.fn 70 [.ptr js 0 0,.ptr jf 0 0]] [(js,⟨[I2 s],I2 s,false,false⟩),(jf,⟨[S7 f],S7 f,false,false⟩)] id (.bool (l.any fun x=>!L2 s f x)) []:=by
 refine w69.e.1 fun E hP hR hl hid=>?_;simp[w69];have hjs:=hl (js,_) (List.mem_cons_self ..);simp only at hjs;have js1:=lf hjs;have hjf:=hl (jf,_) (List.mem_cons_of_mem _ (List.mem_cons_self ..));simp only at hjf;have jf1:=lf hjf;try simp[js1,jf1,d1,d1.symm]
 (refine yC rfl (B2X l s f js jf _ h5 h12 d1 hl8) ?_; simp[js1,jf1,d1,d1.symm]);have hj:=U8 (fun x=>!L2 s f x) l 0;simp[hj];refine yE hR [] (by simp[js1,jf1,d1,d1.symm,A4 hid]) fun hrn=>⟨?_,?_,?_,?_,?_,?_⟩<;>(try simp[js1,jf1,d1,d1.symm,A4 hid])
theorem B6j(f:Fd)(c:Cl)(s:I4)(js:Nat)(id:Nat)(h5:s.types.length<=5)(h12:s.things.length<=12)(hl8:c.ids.length<9223372036854775807):A2 Tryz.prog 68 [S7 f,.cptr [.int .i64 c.n,.str c.text,.sl (c.ids.map eI)],.ptr js 0 0] [(js,⟨[I2 s],I2 s,false,false⟩)] id (.bool (!c.ids.any fun x=>!L2 s f x)) []:=by
 refine w68.e.1 fun E hP hR hl hid=>?_;simp[w68];have hjs:=hl (js,_) (List.mem_cons_self ..);simp only at hjs;have js1:=lf hjs;try simp[js1]
 have hne:js≠E.n0:=by omega
 (refine yC rfl (B48 c.ids s f js E.n0 _ h5 h12 hne hl8) ?_; simp[js1]);refine yE hR [] (by simp[js1,A4 hid]) fun hrn=>⟨?_,?_,?_,?_,?_,?_⟩<;>(try simp[js1,A4 hid])
def A1b(p:Fd->Cl->Bool):List Fd->List Cl->Bool
 | f::fs,c::cs=>p f c&&A1b p fs cs
 | _,_=>true
def U4(p:Fd->Cl->Bool)(l:List Ty)(ts:List Tg):Bool:=ts.all fun t=>A1b p (D8 l t.type) t.cells
theorem B5J(s:I4)(g j:Nat)(y:AV)(p:Fd->Cl->Bool)(hy:y.pureB=true)
  (hcl:∀f c id,c.ids.length<=6->A2 Tryz.prog g [S7 f,.cptr [.int .i64 c.n,.str c.text,.sl (c.ids.map eI)],.ptr j 0 0] [(j,⟨[y],y,false,false⟩)] id (.bool (p f c)) [])
  (hok:∀t∈s.things,0<=t.type/\t.type.toNat<s.types.length/\t.cells.length=(D8 s.types t.type).length/\t.cells.length<=1000000/\∀c∈t.cells,c.ids.length<=6) (h12:s.things.length<=1000000) (id:Nat) :
  A2 Tryz.prog 73 [I2 s,.fn g [.ptr j 0 0]] [(j,⟨[y],y,false,false⟩)] id (.bool (U4 p s.types s.things)) []:=by
 have hr:∀R S,O9 R S y y:=fun R S=>K7 rfl hy;have hn:∀S,B5 S y:=fun S=>I3 _ hy;unfold I2;refine w73.e.1 fun E hP hR hl hid=>?_;simp[w73];have hj:=hl (j,_) (List.mem_cons_self ..);simp only at hj;have j1:=lf hj;refine D3 (X:=Nat) (fun i=>⟨[(1,true,.fn g [.ptr j 0 0]),(2,true,.ptr E.n0 0 0),(9,true,.sl (s.things.map X2)),(10,true,.int .i64 s.things.length),(11,true,.int .i64 i)],[(j,some ⟨[y],y,false,false⟩),(E.n0,some ⟨[.agg [.sl (s.types.map J3),.sl (s.things.map X2)]],.agg [.sl (s.types.map J3),.sl (s.things.map X2)],false,false⟩)],1⟩) (fun i=>i<=s.things.length/\U4 p s.types (s.things.drop i)=U4 p s.types s.things) (fun i=>s.things.length - i) 0 ?_ ⟨by omega,rfl⟩ ?_
 ·refine yV [(E.n0,E.n0)] (by simp[j1,hr,hn]) fun hrn=>⟨?_,?_,?_,?_,?_⟩<;>(try simp[j1,hr,hn])
 ·rintro i ⟨hi,hf⟩ q hq;refine A3 4000 ?_;simp;refine E6 (fun h=>?_) (fun h=>?_)
  ·have h:=of_decide_eq_true h;obtain⟨t,hx,hd⟩:=B6 h;have hi1:IntKind.i64.wrap ((i:Int)+1)=((i+1:Nat):Int):=A5 (by omega);obtain⟨k1,k2,k3,k4,k5⟩:=hok t (List.mem_of_getElem? hx);obtain⟨ty,hty⟩:∃ty,s.types[t.type.toNat]?=some ty:=⟨_,List.getElem?_eq_getElem k2⟩;have hfl:D8 s.types t.type=ty.fields:=(by simp[D8,hty]);rw[hd,U4,List.all_cons,hfl] at hf;rw[hfl] at k3;simp[hx,A37 t,j1];refine⟨h,?_⟩;refine D3 (X:=Nat) (fun k=>⟨[(1,true,.fn g [.ptr j 0 0]),(2,true,.ptr E.n0 0 0),(6,true,.ptr (E.n0+1) 0 0),(9,true,.sl (s.things.map X2)),(10,true,.int .i64 s.things.length),(11,true,.int .i64 i),(16,true,.sl (t.cells.map eCl)),(17,true,.int .i64 t.cells.length),(18,true,.int .i64 k)],[(j,some ⟨[y],y,false,false⟩),(E.n0,some ⟨[.agg [.sl (s.types.map J3),.sl (s.things.map X2)]],.agg [.sl (s.types.map J3),.sl (s.things.map X2)],false,false⟩),(E.n0+1,some ⟨[.agg [.int .i64 t.type,.int .i64 t.id,.sl (t.cells.map eCl)]],.agg [.int .i64 0,.int .i64 0,.nils],false,false⟩)],2⟩) (fun k=>k<=t.cells.length/\A1b p (ty.fields.drop k) (t.cells.drop k)=A1b p ty.fields t.cells) (fun k=>t.cells.length - k) 0 ?_ ⟨by omega,rfl⟩ ?_
   ·refine yV [(E.n0,E.n0),(E.n0+1,E.n0+3073)] (by simp[j1,hr,hn]) fun hrn=>⟨?_,?_,?_,?_,?_⟩<;>(try simp[j1,hr,hn])
   ·rintro k ⟨hk,hf2⟩ q2 hq2;refine A3 4000 ?_;simp;refine E6 (fun h=>?_) (fun h=>?_)
    ·have h:=of_decide_eq_true h;obtain⟨c,hcx,hcd⟩:=B6 h;obtain⟨f,hfx,hfd⟩:=B6 (l:=ty.fields) (i:=k) (by omega);have hi2:IntKind.i64.wrap ((k:Int)+1)=((k+1:Nat):Int):=A5 (by omega);rw[hcd,hfd,A1b] at hf2;have hfc:=fun id=>hcl f c id (k5 c (List.mem_of_getElem? hcx));simp only[S7] at hfc;simp[hcx,hfx,B0o c,hty,J3,S7,j1];refine⟨⟨k1,k2⟩,by omega,h,?_⟩;refine L7 hP rfl rfl (hfc _) (by simp) (by simp[j1]<;>rfl) ?_;refine A3 4000 ?_;simp;refine E6 (fun h1=>?_) (fun h1=>?_)
     ·have h1:p f c=false:=(by simpa using h1);rw[h1,Bool.false_and] at hf2;rw[←hf2,Bool.false_and] at hf;rw[←hf] at hR;simp;refine yE hR [] (by simp[j1,hr,hn,A4 hid]) fun hrn=>⟨?_,?_,?_,?_,?_,?_⟩<;>(try simp[j1,hr,hn,A4 hid])
     ·have h1:p f c=true:=(by simpa using h1);rw[h1,Bool.true_and] at hf2;simp;refine hq2 _ (k+1) ⟨h,hf2⟩ (by omega) ?_;refine yV [(E.n0,E.n0),(E.n0+1,E.n0+1)] (by simp[hi2,j1,hr,hn]) fun hrn=>⟨?_,?_,?_,?_,?_⟩<;>(try simp[hi2,j1,hr,hn])
    ·have h:=of_decide_eq_false h;rw[List.drop_of_length_le (l:=t.cells) (by omega)] at hf2;have hb:A1b p ty.fields t.cells=true:=(by rw[←hf2]; cases ty.fields.drop k<;>rfl);rw[hb,Bool.true_and] at hf;simp;refine hq _ (i+1) ⟨by omega,hf⟩ (by omega) ?_;refine yV [(E.n0,E.n0)] (by simp[hi1,j1,hr,hn]) fun hrn=>⟨?_,?_,?_,?_,?_⟩<;>(try simp[hi1,j1,hr,hn])
  ·have h:=of_decide_eq_false h;simp;rw[List.drop_of_length_le (by omega)] at hf;have:U4 p s.types s.things=true:=by rw[←hf]; rfl
   rw[this] at hR;refine yE hR [] (by simp[j1,hr,hn,A4 hid]) fun hrn=>⟨?_,?_,?_,?_,?_,?_⟩<;>(try simp[j1,hr,hn,A4 hid])
end Go.Am
namespace Go.Am
end Go.Am
namespace Go.Am
open Go Go.Proofs Go.RowKit
structure Ag where
 name:List UInt8
 isText:Bool
 text:List UInt8
 n:Int
def q8(a:Ag):AV:=.agg [.str a.name,.bool a.isText,.str a.text,.int .i64 a.n]
theorem T7(a:Ag):q8 a = .agg [.str a.name,.bool a.isText,.str a.text,.int .i64 a.n]:=rfl
theorem B8s(f:Ag):(q8 f).pureB=true:=rfl
@[simp] theorem A39 (l:List Ag):F8 (l.map q8)=true:=E8 B8s l
@[simp] theorem C4K (S:Nat->Prop) (l:List Ag):F2 S (l.map q8):=B4 _ (A39 l)
@[simp] theorem C5V (R:Rn) (S:Nat->Prop) (l:List Ag):N7 R S (l.map q8) (l.map q8):=C1 rfl (A39 l)
inductive F5 where
 | mk (alias name:List UInt8) (args:List Ag) (kids:List F5)
def F5.alias:F5->List UInt8 | .mk a _ _ _=>a
def F5.name:F5->List UInt8 | .mk _ n _ _=>n
def F5.args:F5->List Ag | .mk _ _ x _=>x
def F5.kids:F5->List F5 | .mk _ _ _ k=>k
mutual
def D7:F5->AV
 | .mk a n x k=>.agg [.str a,.str n,.sl (x.map q8),.sl (A7m k)]
def A7m:List F5->List AV
 | []=>[]
 | s::r=>D7 s::A7m r
end
theorem A5b(l:List F5):A7m l=l.map D7:=by
 induction l with
 | nil=>rfl
 | cons s r ih=>simp[A7m,ih]
theorem H5(s:F5):D7 s = .agg [.str s.alias,.str s.name,.sl (s.args.map q8),.sl (s.kids.map D7)]:=by
 cases s with
 | mk a n x k=>simp[D7,A5b,F5.alias,F5.name,F5.args,F5.kids]
mutual
theorem A5c:∀s:F5,(D7 s).pureB=true
 | .mk a n x k=>by simp[D7,A7n k]
theorem A7n:∀l:List F5,F8 (A7m l)=true
 | []=>rfl
 | s::r=>by simp[A7m,A5c s,A7n r]
end
@[simp] theorem C5g (R:Rn) (S:Nat->Prop) (a:Ag):O9 R S (q8 a) (q8 a):=K7 rfl rfl
@[simp] theorem C5W (R:Rn) (S:Nat->Prop) (s:F5):O9 R S (D7 s) (D7 s):=K7 rfl (A5c s)
@[simp] theorem A3j (l:List F5):F8 (l.map D7)=true:=E8 A5c l
@[simp] theorem C3Q (S:Nat->Prop) (l:List F5):F2 S (l.map D7):=B4 _ (A3j l)
mutual
def F5.sz:F5->Nat
 | .mk _ _ x k=>1+x.length+szL k
def szL:List F5->Nat
 | []=>0
 | s::r=>s.sz+szL r
end
theorem A4o(s:F5):s.sz=1+s.args.length+szL s.kids:=by cases s; rfl
theorem A0i(l:List F5):l.length<=szL l:=by
 induction l with
 | nil=>simp[szL]
 | cons s r ih=>have:=A4o s; simp[szL]; omega
theorem A1M{l:List F5}{s:F5}(h:s∈l):s.sz<=szL l:=by
 induction l with
 | nil=>cases h
 | cons x r ih =>
  simp only[szL];rcases List.mem_cons.1 h with rfl|h
  ·omega
  ·have:=ih h; omega
theorem A7o{l:List F5}{s:F5}(h:s∈l):szL s.kids<szL l:=by
 have:=A1M h; have:=A4o s; omega
def D4(s:F5):List UInt8:=if s.alias≠[] then s.alias else s.name
def B49(a:Ag):Int :=
 if (a.isText=true/\a.n≠0)\/(a.isText=false/\a.text≠[]) then 1 else if 40<a.text.length then 2 else if ¬(-999999999<=a.n/\a.n<=999999999) then 3 else 0
def A2T(l:List Ag)(n:List UInt8):Bool:=l.any fun x=>x.name==n
def A3A(a:Ag)(ahead:List Ag):Int :=
 if L3 a.name≠0 then L3 a.name else if A2T ahead a.name=true then 6 else B49 a
def u9(l:List Ag):Int:=if 5<l.length then 2 else E4 (fun k a=>A3A a (l.take k)) l 0
theorem A3k(s:F5)(id:Nat):A2 Tryz.prog 170 [D7 s] [] id (.str (D4 s)) []:=by
 rw[H5];refine w170.e.1 fun E hP hR hl hid=>?_;simp[w170];refine E6 (fun h=>?_) (fun h=>?_)<;>simp
 ·exact yP hR (h1:=by simp; simp at h; unfold D4; rw[if_pos h])
 ·have h:¬s.alias≠[]:=by simpa using h
  exact yP hR (h1:=by simp; unfold D4; rw[if_neg h])
theorem B2Y(a:Ag)(id:Nat):A2 Tryz.prog 236 [q8 a] [] id (.int .i64 (B49 a)) []:=by
 unfold q8;refine w236.e.1 fun E hP hR hl hid=>?_;simp[w236];repeat' first
  | (refine And.intro ?_ ?_)
  | (refine E6 (fun h=>?_) (fun h=>?_)<;>simp)
  | (refine yH rfl (S2 _ _) ?_; simp)
 all_goals first
  | (rw[hR]; refine E9 (by simp<;>rfl) [] trivial (U3 ?_ (by simp) (by simp)); simp; done)
  | (rw[hR]; refine E9 (by simp<;>rfl) [] trivial (U3 ?_ (by simp) (by simp)); (try simp); simp[B49] at *; grind; done)
  | omega
  | (simp_all; done)
  | grind
theorem B8t(x:Ag)(j:Nat)(a:Ag)(id:Nat):A2 Tryz.prog 235 [q8 x,.ptr j 0 0] [(j,⟨[q8 a],.agg [.str [],.bool false,.str [],.int .i64 0],false,false⟩)] id (.bool (x.name==a.name)) []:=by
 unfold q8;refine w235.e.1 fun E hP hR hl hid=>?_;simp[w235];have hj:=hl (j,_) (List.mem_cons_self ..);simp only at hj;have j1:=lf hj;simp[j1];refine yE hR [] (by simp[j1,A4 hid]) fun hrn=>⟨?_,?_,?_,?_,?_,?_⟩<;>(try simp[j1,A4 hid])
theorem B4A(l:List Ag)(j:Nat)(a:Ag)(id:Nat)(hl8:l.length<9223372036854775807):A2 Tryz.prog 271 [.sl (l.map q8),.fn 235 [.ptr j 0 0]] [(j,⟨[q8 a],.agg [.str [],.bool false,.str [],.int .i64 0],false,false⟩)] id (.int .i64 (C2 (fun x=>x.name==a.name) l 0)) []:=by
 refine w271.e.1 fun E hP hR hl hid=>?_;simp[w271];have hj:=hl (j,_) (List.mem_cons_self ..);simp only at hj;have j1:=lf hj;refine D3 (X:=Nat) (fun i=>⟨[(0,true,.sl (l.map q8)),(1,true,.fn 235 [.ptr j 0 0]),(7,true,.int .i64 l.length),(8,true,.int .i64 i)],[(j,some (⟨[q8 a],.agg [.str [],.bool false,.str [],.int .i64 0],false,false⟩))],0⟩) (fun i=>i<=l.length/\C2 (fun x=>x.name==a.name) (l.drop i) i=C2 (fun x=>x.name==a.name) l 0) (fun i=>l.length - i) 0 ?_ ⟨by omega,rfl⟩ ?_
 ·refine yV [] (by simp[j1]) fun hrn=>⟨?_,?_,?_,?_,?_⟩<;>(try simp[j1])
 ·rintro i ⟨hi,hf⟩ p hp;refine A3 4000 ?_;simp;refine E6 (fun h=>?_) (fun h=>?_)
  ·have h:=of_decide_eq_true h;obtain⟨x,hx,hd⟩:=B6 h;have hcl:=B8t x j a;simp only[T7 x] at hcl;rw[hd] at hf;simp only[C2] at hf;have hi1:IntKind.i64.wrap ((i:Int)+1)=((i+1:Nat):Int):=A5 (by omega);simp[hx,T7 x];refine⟨h,?_⟩;refine L7 hP rfl rfl (hcl _) (by simp) (by simp[j1]<;>rfl) ?_;refine A3 4000 ?_;simp[j1];refine E6 (fun h1=>?_) (fun h1=>?_)
   ·simp[j1];rw[if_pos h1] at hf;rw[←hf] at hR;refine yE hR [] (by simp[j1,C2,A4 hid]) fun hrn=>⟨?_,?_,?_,?_,?_,?_⟩<;>(try simp[j1,C2,A4 hid])
   ·simp[j1];rw[if_neg (by simpa using h1)] at hf;refine hp _ (i+1) ⟨h,hf⟩ (by omega) ?_;refine yV [] (by simp[hi1,j1]) fun hrn=>⟨?_,?_,?_,?_,?_⟩<;>(try simp[hi1,j1])
  ·have h:=of_decide_eq_false h;simp;rw[List.drop_of_length_le (by omega)] at hf;rw[←hf] at hR;refine yE hR [] (by simp[j1,C2,A4 hid]) fun hrn=>⟨?_,?_,?_,?_,?_,?_⟩<;>(try simp[j1,C2,A4 hid])
theorem A8o(l:List Ag)(j:Nat)(a:Ag)(id:Nat)(hl8:l.length<9223372036854775807):A2 Tryz.prog 234 [.sl (l.map q8),.fn 235 [.ptr j 0 0]] [(j,⟨[q8 a],.agg [.str [],.bool false,.str [],.int .i64 0],false,false⟩)] id (.bool (A2T l a.name)) []:=by
 refine w234.e.1 fun E hP hR hl hid=>?_;simp[w234];have hj:=hl (j,_) (List.mem_cons_self ..);simp only at hj;have j1:=lf hj;(refine yC rfl (B4A l j a _ hl8) ?_; simp[j1]);refine yE hR [] (by simp[j1,A4 hid]) fun hrn=>⟨?_,?_,?_,?_,?_,?_⟩<;>(try simp[j1,A4 hid]);exact U8 _ l 0
theorem B6k(x:F5)(j:Nat)(s:F5)(id:Nat):A2 Tryz.prog 169 [D7 x,.ptr j 0 0] [(j,⟨[D7 s],.agg [.str [],.str [],.nils,.nils],false,false⟩)] id (.bool (D4 x==D4 s)) []:=by
 have h1:=A3k x;have h2:=A3k s;rw[H5] at h1 h2;rw[H5 x,H5 s];refine w169.e.1 fun E hP hR hl hid=>?_;simp[w169];have hj:=hl (j,_) (List.mem_cons_self ..);simp only at hj;have j1:=lf hj;(refine yC rfl (h1 _) ?_; simp[j1]);(refine yC rfl (h2 _) ?_; simp[j1]);refine yE hR [] (by simp[j1,A4 hid]) fun hrn=>⟨?_,?_,?_,?_,?_,?_⟩<;>(try simp[j1,A4 hid])
theorem B2Z(l:List F5)(j:Nat)(s:F5)(id:Nat)(hl8:l.length<9223372036854775807):A2 Tryz.prog 237 [.sl (l.map D7),.fn 169 [.ptr j 0 0]] [(j,⟨[D7 s],.agg [.str [],.str [],.nils,.nils],false,false⟩)] id (.int .i64 (C2 (fun x=>D4 x==D4 s) l 0)) []:=by
 refine w237.e.1 fun E hP hR hl hid=>?_;simp[w237];have hj:=hl (j,_) (List.mem_cons_self ..);simp only at hj;have j1:=lf hj;refine D3 (X:=Nat) (fun i=>⟨[(0,true,.sl (l.map D7)),(1,true,.fn 169 [.ptr j 0 0]),(7,true,.int .i64 l.length),(8,true,.int .i64 i)],[(j,some (⟨[D7 s],.agg [.str [],.str [],.nils,.nils],false,false⟩))],0⟩) (fun i=>i<=l.length/\C2 (fun x=>D4 x==D4 s) (l.drop i) i=C2 (fun x=>D4 x==D4 s) l 0) (fun i=>l.length - i) 0 ?_ ⟨by omega,rfl⟩ ?_
 ·refine yV [] (by simp[j1]) fun hrn=>⟨?_,?_,?_,?_,?_⟩<;>(try simp[j1])
 ·rintro i ⟨hi,hf⟩ p hp;refine A3 4000 ?_;simp;refine E6 (fun h=>?_) (fun h=>?_)
  ·have h:=of_decide_eq_true h;obtain⟨x,hx,hd⟩:=B6 h;have hcl:=B6k x j s;simp only[H5 x] at hcl;rw[hd] at hf;simp only[C2] at hf;have hi1:IntKind.i64.wrap ((i:Int)+1)=((i+1:Nat):Int):=A5 (by omega);simp[hx,H5 x];refine⟨h,?_⟩;refine L7 hP rfl rfl (hcl _) (by simp) (by simp[j1]<;>rfl) ?_;refine A3 4000 ?_;simp[j1];refine E6 (fun h1=>?_) (fun h1=>?_)
   ·simp[j1];rw[if_pos h1] at hf;rw[←hf] at hR;refine yE hR [] (by simp[j1,C2,A4 hid]) fun hrn=>⟨?_,?_,?_,?_,?_,?_⟩<;>(try simp[j1,C2,A4 hid])
   ·simp[j1];rw[if_neg (by simpa using h1)] at hf;refine hp _ (i+1) ⟨h,hf⟩ (by omega) ?_;refine yV [] (by simp[hi1,j1]) fun hrn=>⟨?_,?_,?_,?_,?_⟩<;>(try simp[hi1,j1])
  ·have h:=of_decide_eq_false h;simp;rw[List.drop_of_length_le (by omega)] at hf;rw[←hf] at hR;refine yE hR [] (by simp[j1,C2,A4 hid]) fun hrn=>⟨?_,?_,?_,?_,?_,?_⟩<;>(try simp[j1,C2,A4 hid])
theorem A7p(l:List F5)(j:Nat)(s:F5)(id:Nat)(hl8:l.length<9223372036854775807):A2 Tryz.prog 168 [.sl (l.map D7),.fn 169 [.ptr j 0 0]] [(j,⟨[D7 s],.agg [.str [],.str [],.nils,.nils],false,false⟩)] id (.bool (l.any fun x=>D4 x==D4 s)) []:=by
 refine w168.e.1 fun E hP hR hl hid=>?_;simp[w168];have hj:=hl (j,_) (List.mem_cons_self ..);simp only at hj;have j1:=lf hj;(refine yC rfl (B2Z l j s _ hl8) ?_; simp[j1]);refine yE hR [] (by simp[j1,A4 hid]) fun hrn=>⟨?_,?_,?_,?_,?_,?_⟩<;>(try simp[j1,A4 hid]);exact U8 _ l 0
theorem C1Z(l:List Ag)(id:Nat):A2 Tryz.prog 167 [.sl (l.map q8)] [] id (.int .i64 (u9 l)) []:=by
 refine w167.e.1 fun E hP hR hl hid=>?_;simp[w167];refine E6 (fun h=>?_) (fun h=>?_)<;>simp
 ·exact yP hR (h1:=by simp; simp at h; unfold u9; rw[if_pos (by omega)])
 have h5:¬5<l.length:=by simp at h; omega
 have hft:u9 l=E4 (fun k a=>A3A a (l.take k)) l 0:=by unfold u9; rw[if_neg h5]
 rw[hft] at hR;refine D3 (X:=Nat) (fun i=>⟨[(0,true,.sl (l.map q8)),(9,true,.sl (l.map q8)),(10,true,.int .i64 l.length),(11,true,.int .i64 i)],[],0⟩) (fun i=>i<=l.length/\E4 (fun k a=>A3A a (l.take k)) (l.drop i) i=E4 (fun k a=>A3A a (l.take k)) l 0) (fun i=>l.length - i) 0 ?_ ⟨by omega,rfl⟩ ?_
 ·refine yV [] (by simp) fun hrn=>⟨?_,?_,?_,?_,?_⟩<;>(try simp)
 ·rintro i ⟨hi,hf⟩ p hp;refine A3 4000 ?_;simp;refine E6 (fun h=>?_) (fun h=>?_)
  ·have h:=of_decide_eq_true h;obtain⟨x,hx,hd⟩:=B6 h;rw[hd] at hf;simp only[E4] at hf;have hi1:IntKind.i64.wrap ((i:Int)+1)=((i+1:Nat):Int):=A5 (by omega);have hC:=fun j=>A8o (l.take i) j x;simp only[List.map_take] at hC;have hA:=B2Y x;rw[T7] at hA;simp[hx,T7 x];refine⟨h,?_⟩;(refine yH rfl (A3h x.name _) ?_; simp);refine⟨fun h0=>⟨h0,fun a _=>rfl,hi⟩,?_⟩;refine I0 hP (by simp) rfl (fun hc=>⟨hC (E.n0+4096) _ (by simp; omega),by revert hc; simp; try grind,by simp<;>rfl⟩) ?_;refine A3 4000 ?_;simp;refine E6 (fun h1=>?_) (fun h1=>?_)<;>simp
   ·simp at h1;have hv:A3A x (l.take i)=6:=(by unfold A3A; rw[if_neg (by simp[h1.1]),if_pos h1.2]);rw[hv,if_pos (by decide)] at hf;exact yP hR (h1:=by simp; exact hf)
   ·refine E6 (fun h2=>?_) (fun h2=>?_)<;>simp
    ·simp at h1 h2;have hv:A3A x (l.take i)=B49 x:=(by unfold A3A; rw[if_neg (by simp[h2]),if_neg (by simp[h1 h2])]);rw[hv] at hf;(refine yH rfl (hA _) ?_; simp);refine E6 (fun h3=>?_) (fun h3=>?_)<;>simp
     ·rw[if_pos (by simpa using h3)] at hf;exact yP hR (h1:=by simp; exact hf)
     ·rw[if_neg (by simpa using h3)] at hf;refine hp _ (i+1) ⟨h,hf⟩ (by omega) ?_;refine yV [] (by simp[hi1]) fun hrn=>⟨?_,?_,?_,?_,?_⟩<;>(try simp[hi1])
    ·have h2:L3 x.name≠0:=(by simpa using h2);have hv:A3A x (l.take i)=L3 x.name:=(by unfold A3A; rw[if_pos h2]);rw[hv,if_pos h2] at hf;refine B2 (by simpa using h2) ?_;simp;exact yP hR (h1:=by simp; exact hf)
  ·have h:=of_decide_eq_false h;simp;rw[List.drop_of_length_le (by omega)] at hf;exact yP hR (h1:=by simp; exact hf)
def m7:Nat->List F5->Nat
 | 0,l=>l.length
 | m+1,l=>l.length+(l.map fun s=>m7 m s.kids).sum
def deepL:Nat->List F5->Nat
 | 0,l=>min l.length 1
 | m+1,l=>l.foldl (fun d s=>max d (deepL m s.kids+1)) (min l.length 1)
def A2j(m:Nat)(l:List F5)(i:Nat):Nat:=l.length+((l.take i).map fun s=>m7 m s.kids).sum
def A6G(m:Nat)(l:List F5)(i:Nat):Nat:=(l.take i).foldl (fun d s=>max d (deepL m s.kids+1)) (min l.length 1)
theorem A7q(m:Nat)(l:List F5):A2j m l 0=l.length:=by simp[A2j]
theorem A7r(m:Nat)(l:List F5):A6G m l 0=min l.length 1:=by simp[A6G]
theorem O2{α:Type}{l:List α}{i:Nat}{x:α}(hx:l[i]?=some x):l.take (i+1)=l.take i++[x]:=by rw[List.take_succ,hx]; rfl
theorem B4B{m:Nat}{l:List F5}{i:Nat}{x:F5}(hx:l[i]?=some x):A2j m l (i+1)=A2j m l i+m7 m x.kids:=by
 simp[A2j,O2 hx]; omega
theorem B4C{m:Nat}{l:List F5}{i:Nat}{x:F5}(hx:l[i]?=some x):A6G m l (i+1)=max (A6G m l i) (deepL m x.kids+1):=by
 simp[A6G,O2 hx]
theorem B6l{m:Nat}{l:List F5}{i:Nat}(h:l.length<=i):A2j m l i=m7 (m+1) l:=by simp[A2j,m7,List.take_of_length_le h]
theorem B6m{m:Nat}{l:List F5}{i:Nat}(h:l.length<=i):A6G m l i=deepL (m+1) l:=by simp[A6G,deepL,List.take_of_length_le h]
theorem A7s{m:Nat}(h:∀l,m7 m l<=szL l):∀l:List F5,l.length+(l.map fun s=>m7 m s.kids).sum<=szL l
 | []=>by simp
 | s::r=>by
  have h1:=A7s h r;have h2:=h s.kids;have h3:=A4o s;simp only[szL,List.length_cons,List.map_cons,List.sum_cons];omega
theorem B2a:∀(m:Nat) (l:List F5),m7 m l<=szL l
 | 0,l=>A0i l
 | m+1,l=>A7s (B2a m) l
theorem B8u(m:Nat)(l:List F5)(i:Nat):A2j m l i<=szL l:=by
 have h1:=A7s (B2a m) l;have h2:((l.take i).map fun s=>m7 m s.kids).sum+((l.drop i).map fun s=>m7 m s.kids).sum=(l.map fun s=>m7 m s.kids).sum:=by
  rw[←List.sum_append,←List.map_append,List.take_append_drop]
 unfold A2j;omega
theorem A9c{m k:Nat}(h:∀l,deepL m l<=k):∀(l:List F5) (a:Nat),a<=k+1->l.foldl (fun d s=>max d (deepL m s.kids+1)) a<=k+1
 | [],a,ha=>ha
 | s::r,a,ha=>by
  simp only[List.foldl_cons];exact A9c h r _ (by have:=h s.kids; omega)
theorem B2b:∀(m:Nat) (l:List F5),deepL m l<=m+1
 | 0,l=>by simp only[deepL]; omega
 | m+1,l=>A9c (B2b m) l _ (by omega)
theorem B5K:∀(m:Nat) (l:List F5) (id:Nat),m<=1000->szL l<=1099511627776->A2 Tryz.prog 99 [.sl (l.map D7),.int .i64 m] [] id (.tup [.int .i64 (m7 m l),.int .i64 (deepL m l)]) []
 | 0,l,id,hm,hl=>by
  have hlen:=A0i l;refine w99.e.1 fun E hP hR hl hid=>?_;simp[w99];refine D3 (X:=Unit) (fun _=>⟨[(0,true,.sl (l.map D7)),(1,true,.int .i64 0),(6,true,.int .i64 l.length),(7,true,.int .i64 (deepL 0 l)),(17,true,.sl (l.map D7)),(18,true,.int .i64 l.length),(19,true,.int .i64 0)],[],0⟩) (fun _=>True) (fun _=>0) () ?_ trivial ?_
  ·refine yV [] (by simp[deepL]) fun hrn=>⟨?_,?_,?_,?_,?_⟩<;>(try simp[deepL]);all_goals omega
  ·rintro i - p hp;refine A3 4000 ?_;simp;refine E6 (fun h=>?_) (fun h=>?_)
   ·have h:=of_decide_eq_true h;obtain⟨x,hx,hd⟩:=B6 (l:=l) (i:=0) (by omega);simp[hx,H5 x];refine⟨by omega,?_⟩;exact yP hR (h1:=by simp; simp[m7])
   ·simp;exact yP hR (h1:=by simp; simp[m7])
 | m+1,l,id,hm,hl=>by
  have hlen:=A0i l;refine w99.e.1 fun E hP hR hl hid=>?_;simp[w99];refine D3 (X:=Nat) (fun i=>⟨[(0,true,.sl (l.map D7)),(1,true,.int .i64 (m+1)),(6,true,.int .i64 (A2j m l i)),(7,true,.int .i64 (A6G m l i)),(17,true,.sl (l.map D7)),(18,true,.int .i64 l.length),(19,true,.int .i64 i)],[],0⟩) (fun i=>i<=l.length) (fun i=>l.length - i) 0 ?_ (by omega) ?_
  ·refine yV [] (by simp[A7q,A7r]) fun hrn=>⟨?_,?_,?_,?_,?_⟩<;>(try simp[A7q,A7r]);all_goals omega
  ·rintro i hi p hp;refine A3 4000 ?_;simp;refine E6 (fun h=>?_) (fun h=>?_)
   ·have h:=of_decide_eq_true h;obtain⟨x,hx,hd⟩:=B6 h;have hi1:IntKind.i64.wrap ((i:Int)+1)=((i+1:Nat):Int):=A5 (by omega);have hxm:x∈l:=List.mem_of_getElem? hx;have ih:=B5K m x.kids;simp[hx,H5 x];refine⟨h,A0 (by simp; omega) ?_⟩;have hm1:IntKind.i64.wrap (m:Int)=(m:Int):=A5 (by omega);have hsz:=A7o hxm;have hs:=B4B (m:=m) hx;have hsd:=B4C (m:=m) hx;have hs1:IntKind.i64.wrap ((A2j m l i:Int)+m7 m x.kids)=((A2j m l (i+1):Nat):Int):=(by rw[hs,A5 (by have:=B8u m l (i+1); omega)]; omega);have hs2:IntKind.i64.wrap ((deepL m x.kids:Int)+1)=((deepL m x.kids+1:Nat):Int):=A5 (by have:=B2b m x.kids; omega);simp[hm1];(refine yC rfl (ih _ (by omega) (by omega)) ?_; simp[hs1,hs2]);refine hp _ (i+1) (by omega) (by omega) ?_;refine yV [] (by simp[hi1,hsd]) fun hrn=>⟨?_,?_,?_,?_,?_⟩<;>(try simp[hi1,hsd]);all_goals trace "TAIL 1"
    all_goals trace_state
    all_goals omega
   ·have h:=of_decide_eq_false h;simp;exact yP hR (h1:=by simp; rw[B6l (by omega),B6m (by omega)]; exact⟨rfl,rfl⟩)
def A7t(s:F5)(ah:List F5):Int :=
 if L3 s.name≠0 then L3 s.name else if s.alias≠[]/\L3 s.alias≠0 then L3 s.alias else if u9 s.args≠0 then u9 s.args
 else if (ah.any fun x=>D4 x==D4 s)=true then 6 else 0
mutual
def B8v:F5->Int
 | .mk _ _ _ k=>v6 k []
def v6:List F5->List F5->Int
 | [],_=>0
 | s::r,ah=>if A7t s ah≠0 then A7t s ah else if B8v s≠0 then B8v s else v6 r (ah++[s])
end
def fNm(s:F5):Int:=if L3 s.name≠0 then L3 s.name else if s.alias≠[] then L3 s.alias else 0
theorem B2c(s:F5)(ah:List F5):A7t s ah=if fNm s≠0 then fNm s else if u9 s.args≠0 then u9 s.args else if (ah.any fun x=>D4 x==D4 s)=true then 6 else 0:=by
 unfold A7t fNm;split
 ·rfl
 ·split
  ·rename_i h; rw[if_pos h.1,if_pos h.2]
  ·rename_i h;by_cases ha:s.alias≠[]
   ·have:L3 s.alias=0:=Classical.byContradiction fun h0=>h ⟨ha,h0⟩;rw[if_pos ha,this]; rfl
   ·rw[if_neg ha]; rfl
theorem B2d(s:F5):B8v s=v6 s.kids []:=by cases s; rfl
theorem B2e:∀(n:Nat) (l:List F5) (id:Nat),szL l<n->szL l<=1099511627776->A2 Tryz.prog 100 [.sl (l.map D7)] [] id (.int .i64 (v6 l [])) []
 | 0,l,id,hn,hl=>by omega
 | n+1,l,id,hn,hl=>by
  have ih:=B2e n;have hlen:=A0i l;refine w100.e.1 fun E hP hR hl hid=>?_;simp[w100];refine D3 (X:=Nat) (fun i=>⟨[(0,true,.sl (l.map D7)),(6,true,.sl (l.map D7)),(7,true,.int .i64 l.length),(8,true,.int .i64 i)],[],0⟩) (fun i=>i<=l.length/\v6 (l.drop i) (l.take i)=v6 l []) (fun i=>l.length - i) 0 ?_ ⟨by omega,rfl⟩ ?_
  ·refine yV [] (by simp) fun hrn=>⟨?_,?_,?_,?_,?_⟩<;>(try simp)
  ·rintro i ⟨hi,hf⟩ p hp;refine A3 4000 ?_;simp;refine E6 (fun h=>?_) (fun h=>?_)
   ·have h:=of_decide_eq_true h;obtain⟨x,hx,hd⟩:=B6 h;rw[hd] at hf;simp only[v6] at hf;rw[←O2 hx] at hf;have hi1:IntKind.i64.wrap ((i:Int)+1)=((i+1:Nat):Int):=A5 (by omega);have hxm:x∈l:=List.mem_of_getElem? hx;have hsz:=A7o hxm;have hC:=fun j=>A7p (l.take i) j x;simp only[List.map_take] at hC;simp[hx,H5 x];refine⟨h,?_⟩;refine E0 hP rfl (A3h x.name _) (by simp) (by simp<;>rfl) ?_;refine C33 (X:=Int) (fun e=>⟨[(0,true,.sl (l.map D7)),(3,true,.int .i64 i),(4,true,.ptr E.n0 0 0),(5,true,.int .i64 e),(6,true,.sl (l.map D7)),(7,true,.int .i64 l.length),(8,true,.int .i64 i)],[(E.n0,some ⟨[.agg [.str x.alias,.str x.name,.sl (x.args.map q8),.sl (x.kids.map D7)]],.agg [.str [],.str [],.nils,.nils],false,false⟩)],1⟩) (fun e=>e=fNm x) (fun q hq=>?_) (fun e he=>?_)
    ·refine A3 4000 ?_;simp;refine E6 (fun h1=>?_) (fun h1=>?_)<;>simp
     ·simp at h1;(refine yH rfl (A3h x.alias _) ?_; simp);refine hq _ (L3 x.alias) (by unfold fNm; rw[if_neg (by simp[h1.1]),if_pos h1.2]) ?_;refine yV [(E.n0,E.n0+4096)] (by simp) fun hrn=>⟨?_,?_,?_,?_,?_⟩<;>(try simp)
     ·simp at h1;refine hq _ (L3 x.name) (by
       unfold fNm;split
       ·rfl
       ·rename_i h0;have h0:L3 x.name=0:=(by simpa using h0);rw[if_neg (by simp[h1 h0]),h0]) ?_
      refine yV [(E.n0,E.n0+4096)] (by simp) fun hrn=>⟨?_,?_,?_,?_,?_⟩<;>(try simp)
    ·subst he;rw[B2c] at hf;refine A3 4000 ?_;simp;refine E6 (fun h2=>?_) (fun h2=>?_)<;>simp
     ·have h2:fNm x=0:=(by simpa using h2);rw[h2] at hf;simp only[ne_eq,not_true_eq_false,if_false] at hf;(refine yH rfl (C1Z x.args _) ?_; simp);refine⟨fun h0=>⟨h0,fun a _=>by rw[H5]; rfl,hi⟩,?_⟩;refine I0 hP (by simp) rfl (fun hc=>⟨hC E.n0 _ (by simp; omega),by revert hc; simp; try grind,by simp[H5 x]<;>rfl⟩) ?_;refine A3 4000 ?_;simp;refine E6 (fun h3=>?_) (fun h3=>?_)<;>simp
      ·simp only[Bool.and_eq_true,beq_iff_eq] at h3;rw[h3.1] at hf;simp only[ne_eq,not_true_eq_false,if_false] at hf;rw[if_pos h3.2,if_pos (by decide)] at hf;exact yP hR (h1:=by simp; exact hf)
      ·refine E6 (fun h4=>?_) (fun h4=>?_)<;>simp
       ·have h4:u9 x.args=0:=(by simpa using h4);rw[h4] at hf;simp only[ne_eq,not_true_eq_false,if_false] at hf;have h3':¬((l.take i).any fun y=>D4 y==D4 x)=true:=by
         rw[h4] at h3;simpa using h3
        rw[if_neg h3'] at hf;simp only[ne_eq,not_true_eq_false,if_false] at hf;rw[B2d] at hf;(refine yH rfl (ih x.kids _ (by omega) (by omega)) ?_; simp);refine E6 (fun h5=>?_) (fun h5=>?_)<;>simp
        ·rw[if_pos (by simpa using h5)] at hf;exact yP hR (h1:=by simp; exact hf)
        ·rw[if_neg (by simpa using h5)] at hf;refine hp _ (i+1) ⟨h,hf⟩ (by omega) ?_;refine yV [] (by simp[hi1]) fun hrn=>⟨?_,?_,?_,?_,?_⟩<;>(try simp[hi1])
       ·have h4:u9 x.args≠0:=(by simpa using h4);rw[if_pos h4,if_pos h4] at hf;refine B2 (by simpa using h4) ?_;simp;exact yP hR (h1:=by simp; exact hf)
     ·have h2:fNm x≠0:=(by simpa using h2);rw[if_pos h2,if_pos h2] at hf;refine⟨fun h0=>(h2 h0).elim,?_⟩;refine A1E (.bool false) (by simp) (fun hg=>by simp at hg; exact (h2 hg).elim) (fun _=>?_);refine A3 4000 ?_;simp[h2];refine A0 (by simpa using h2) ?_;simp;refine B2 (by simpa using h2) ?_;simp;exact yP hR (h1:=by simp; exact hf)
   ·have h:=of_decide_eq_false h;simp;rw[List.drop_of_length_le (by omega)] at hf;exact yP hR (h1:=by simp; exact hf)
def V3(l:List F5):Int:=if l=[] then 5 else if 40<m7 5 l\/5<deepL 5 l then 2 else v6 l []
theorem B8w(l:List F5)(id:Nat)(h:szL l<=1099511627776):A2 Tryz.prog 99 [.sl (l.map D7),.int .i64 5] [] id (.tup [.int .i64 (m7 5 l),.int .i64 (deepL 5 l)]) []:=B5K 5 l id (by omega) h
theorem A9d(l:List F5)(id:Nat)(h:szL l<=1099511627776):A2 Tryz.prog 41 [.sl (l.map D7)] [] id (.int .i64 (V3 l)) []:=by
 refine w41.e.1 fun E hP hR hl hid=>?_;simp[w41];refine E6 (fun h1=>?_) (fun h1=>?_)<;>simp
 ·exact yP hR (h1:=by simp; simp at h1; unfold V3; rw[if_pos h1])
 have h1:¬l=[]:=by simpa using h1
 (refine yH rfl (B8w l _ h) ?_; simp);refine E6 (fun h2=>?_) (fun h2=>?_)<;>simp
 ·exact yP hR (h1:=by simp; simp at h2; unfold V3; rw[if_neg h1,if_pos (by omega)])
 ·have h2:¬(40<m7 5 l\/5<deepL 5 l):=by simp at h2; omega
  (refine yH rfl (B2e (szL l+1) l _ (by omega) h) ?_; simp);exact yP hR (h1:=by simp; unfold V3; rw[if_neg h1,if_neg h2])
theorem R0{α:Type}(p:α->Bool):∀(l:List α) (i:Nat),(l.find? p=none/\C2 p l i = -1)\/∃k x,l[k]?=some x/\C2 p l i=((i+k:Nat):Int)/\l.find? p=some x
 | [],i=>.inl ⟨rfl,rfl⟩
 | y::r,i=>by
  by_cases hy:p y=true
  ·exact .inr ⟨0,y,rfl,by simp[C2,hy],by simp[hy]⟩
  ·rcases R0 p r (i+1) with⟨h1,h2⟩|⟨k,x,h1,h2,h3⟩
   ·exact .inl ⟨by simp[hy,h1],by simp[C2,hy,h2]⟩
   ·refine .inr ⟨k+1,x,by simpa using h1,?_,by simp[hy,h3]⟩;rw[C2,if_neg hy,h2]; congr 1; omega
def A3B:List UInt8:=[102,105,114,115,116]
def A3u(name:List UInt8)(may:Bool)(least most:Int)(a:Ag):Int :=
 if a.name≠name\/may=false then 5 else if a.isText=true then 7 else if a.n<least\/most<a.n then 3 else 0
def V4(l:List Ag)(name:List UInt8)(may:Bool)(least most:Int):Int:=Q9 (A3u name may least most) l
def fieldAt(t:Ty)(name:List UInt8):Option Fd:=if name=tId then some ⟨tId,1,[]⟩ else t.fields.find? fun x=>x.name==name
def A2U(l:List Ty)(name:List UInt8):Option Ty:=l.find? fun x=>x.name==name
mutual
def B6n(l:List Ty)(t:Ty):F5->Int
 | .mk _ name args kids=>match fieldAt t name with
  | none=>5
  | some x=>if V4 args A3B (x.kind==4) 0 999999999≠0 then V4 args A3B (x.kind==4) 0 999999999
   else if ((x.kind==3||x.kind==4)==kids.isEmpty)=true then 4
   else if (x.kind==3||x.kind==4)=false then 0
   else match A2U l x.of with
    | none=>0
    | some t'=>A1N l t' kids
def A1N(l:List Ty)(t:Ty):List F5->Int
 | []=>0
 | s::r=>if B6n l t s≠0 then B6n l t s else A1N l t r
end
theorem A6o(l:List Ty)(t:Ty)(s:F5):B6n l t s=match fieldAt t s.name with
  | none=>5
  | some x=>if V4 s.args A3B (x.kind==4) 0 999999999≠0 then V4 s.args A3B (x.kind==4) 0 999999999
   else if ((x.kind==3||x.kind==4)==s.kids.isEmpty)=true then 4
   else if (x.kind==3||x.kind==4)=false then 0
   else match A2U l x.of with
    | none=>0
    | some t'=>A1N l t' s.kids:=by cases s; rfl
def A9e(l:List Ty)(s:F5):Int:=match A2U l s.name with
 | none=>5
 | some t=>if V4 s.args tId true 1 999≠0 then V4 s.args tId true 1 999 else if s.kids=[] then 4 else A1N l t s.kids
def A1w(l:List Ty)(q:List F5):Int:=Q9 (A9e l) q
def B0q(l:List Ty):Prop:=∀t∈l,∀f∈t.fields,(f.kind=3\/f.kind=4)->B0m l f.of=true
theorem B2f(l:List Ag)(name:List UInt8)(may:Bool)(least most:Int)(id:Nat)(hlen:l.length<9223372036854775807):A2 Tryz.prog 184 [.sl (l.map q8),.str name,.bool may,.int .i64 least,.int .i64 most] [] id (.int .i64 (V4 l name may least most)) []:=by
 refine w184.e.1 fun E hP hR hl hid=>?_;simp[w184];refine D3 (X:=Nat) (fun i=>⟨[(1,true,.str name),(2,true,.bool may),(3,true,.int .i64 least),(4,true,.int .i64 most),(13,true,.sl (l.map q8)),(14,true,.int .i64 l.length),(15,true,.int .i64 i)],[],0⟩) (fun i=>i<=l.length/\V4 (l.drop i) name may least most=V4 l name may least most) (fun i=>l.length - i) 0 ?_ ⟨by omega,rfl⟩ ?_
 ·refine yV [] (by simp) fun hrn=>⟨?_,?_,?_,?_,?_⟩<;>(try simp)
 ·rintro i ⟨hi,hf⟩ p hp;refine A3 4000 ?_;simp;refine E6 (fun h=>?_) (fun h=>?_)
  ·have h:=of_decide_eq_true h;obtain⟨x,hx,hd⟩:=B6 h;have hf':=hf;rw[hd] at hf;simp only[V4,Q9] at hf;have hi1:IntKind.i64.wrap ((i:Int)+1)=((i+1:Nat):Int):=A5 (by omega);simp[hx,T7 x];refine⟨h,?_⟩;refine E6 (fun h1=>?_) (fun h1=>?_)<;>simp
   ·have hv:A3u name may least most x=5:=(by simp at h1; unfold A3u; rw[if_pos h1]);rw[hv] at hf;exact yP hR (h1:=by simp; exact hf)
   refine E6 (fun h2=>?_) (fun h2=>?_)<;>simp
   ·have hv:A3u name may least most x=7:=(by simp at h1; unfold A3u; rw[if_neg (by simp[h1]),if_pos h2]);rw[hv] at hf;exact yP hR (h1:=by simp; exact hf)
   refine E6 (fun h3=>?_) (fun h3=>?_)<;>simp
   ·have hv:A3u name may least most x=3:=(by simp at h1 h3; unfold A3u; rw[if_neg (by simp[h1]),if_neg (by simp[h2]),if_pos h3]);rw[hv] at hf;exact yP hR (h1:=by simp; exact hf)
   ·have hv:A3u name may least most x=0:=(by simp at h1 h3; unfold A3u; rw[if_neg (by simp[h1]),if_neg (by simp[h2]),if_neg (by omega)]);rw[hv] at hf;refine hp _ (i+1) ⟨h,by simpa [V4] using hf⟩ (by omega) ?_;refine yV [] (by simp[hi1]) fun hrn=>⟨?_,?_,?_,?_,?_⟩<;>(try simp[hi1])
  ·have h:=of_decide_eq_false h;simp;rw[List.drop_of_length_le (by omega)] at hf;exact yP hR (h1:=by simp; exact hf)
theorem A6H(l:List Ag)(may:Bool)(id:Nat)(hlen:l.length<9223372036854775807):A2 Tryz.prog 184 [.sl (l.map q8),.str [102,105,114,115,116],.bool may,.int .i64 0,.int .i64 999999999] [] id (.int .i64 (V4 l A3B may 0 999999999)) []:=B2f l A3B may 0 999999999 id hlen
theorem B8x(l:List Ag)(id:Nat)(hlen:l.length<9223372036854775807):A2 Tryz.prog 184 [.sl (l.map q8),.str [105,100],.bool true,.int .i64 1,.int .i64 999] [] id (.int .i64 (V4 l tId true 1 999)) []:=B2f l tId true 1 999 id hlen
def bxF(l:List Ty):Bx:=⟨[.agg [.sl (l.map J3)]],.agg [.sl (l.map J3)],false,false⟩
theorem C3R(l:List Ty)(t:Ty)(s:F5)(j id:Nat)(hL:∀f∈t.fields,(f.kind=3\/f.kind=4)->B0m l f.of=true)(hl8:l.length<=1000)(ht8:t.fields.length<=1000)(hs8:s.args.length<9223372036854775807)
  (ih:∀k t' id,l[k]?=some t'->A2 Tryz.prog 185 [.ptr j 0 0,.int .i64 (k:Nat),.sl (s.kids.map D7)] [(j,bxF l)] id (.int .i64 (A1N l t' s.kids)) []) :
  A2 Tryz.prog 253 [.ptr j 0 0,J3 t,D7 s] [(j,bxF l)] id (.int .i64 (B6n l t s)) []:=by
 have hf8:t.fields.length<9223372036854775807:=by omega
 by_cases hn:s.name=tId
 ·have hV:=fun id=>A6H s.args false id hs8;rw[H5,A6o,fieldAt,if_pos hn];unfold J3;simp only[bxF,show ((1:Int)==4)=false from rfl,show ((1:Int)==3)=false from rfl,Bool.or_false] at ih hV ⊢;generalize V4 s.args A3B false 0 999999999=e1 at hV ⊢;rw[hn];unfold tId;refine w253.e.1 fun E hP hR hl hid=>?_;simp[w253];have hj:=hl (j,_) (List.mem_cons_self ..);simp only at hj;have j1:=lf hj;(refine yC rfl (hV _) ?_; simp[j1]);refine E6 (fun h1=>?_) (fun h1=>?_)
  ·simp[j1];rw[if_pos (by simpa using h1)] at hR;refine yE hR [] (by simp[j1,A4 hid]) fun hrn=>⟨?_,?_,?_,?_,?_,?_⟩<;>(try simp[j1,A4 hid])
  ·simp[j1];rw[if_neg (by simpa using h1)] at hR;refine E6 (fun h2=>?_) (fun h2=>?_)
   ·have hk0:s.kids.isEmpty=false:=(by simpa using h2);simp[j1];rw[hk0,if_pos (by rfl)] at hR;refine yE hR [] (by simp[j1,A4 hid]) fun hrn=>⟨?_,?_,?_,?_,?_,?_⟩<;>(try simp[j1,A4 hid])
   ·have hk0:s.kids.isEmpty=true:=(by simpa using h2);simp[j1];rw[hk0,if_neg (by decide),if_pos (by first|rfl|trivial)] at hR;refine yE hR [] (by simp[j1,A4 hid]) fun hrn=>⟨?_,?_,?_,?_,?_,?_⟩<;>(try simp[j1,A4 hid])
 ·rcases R0 (fun x=>x.name==s.name) t.fields 0 with⟨q1,q2⟩|⟨k,x,q1,q2,q3⟩
  ·have hF:=A13 t.fields t.name s.name;rw[H5,A6o,fieldAt,if_neg hn,q1];rw[q2] at hF;have hn':¬s.name=[105,100]:=hn;unfold J3;simp only[bxF] at ih ⊢;refine w253.e.1 fun E hP hR hl hid=>?_;simp[w253];have hj:=hl (j,_) (List.mem_cons_self ..);simp only at hj;have j1:=lf hj;refine B2 (by simpa using hn') ?_;simp[j1];(refine yC rfl (hF _ hf8) ?_; simp[j1]);refine yE hR [] (by simp[j1,A4 hid]) fun hrn=>⟨?_,?_,?_,?_,?_,?_⟩<;>(try simp[j1,A4 hid])
  ·have hF:=A13 t.fields t.name s.name;have hk:=(List.getElem?_eq_some_iff.1 q1).1;have hxm:=List.mem_of_getElem? q1;have hV:=fun id=>A6H s.args (x.kind==4) id hs8;rw[H5,A6o,fieldAt,if_neg hn,q3];rw[q2] at hF;have hn':¬s.name=[105,100]:=hn;unfold J3;simp only[bxF,Nat.zero_add] at ih hV hF ⊢;generalize V4 s.args A3B (x.kind==4) 0 999999999=e1 at hV ⊢;refine w253.e.1 fun E hP hR hl hid=>?_;simp[w253];have hj:=hl (j,_) (List.mem_cons_self ..);simp only at hj;have j1:=lf hj;refine B2 (by simpa using hn') ?_;simp[j1];(refine yC rfl (hF _ hf8) ?_; simp[j1]);refine A0 (by simp) ?_;simp[j1,q1,S7];refine⟨hk,?_⟩;(refine yC rfl (hV _) ?_; simp[j1]);refine E6 (fun h1=>?_) (fun h1=>?_)
   ·simp[j1];try simp only at hR
    rw[if_pos (by simpa using h1)] at hR;refine yE hR [] (by simp[j1,A4 hid]) fun hrn=>⟨?_,?_,?_,?_,?_,?_⟩<;>(try simp[j1,A4 hid])
   ·simp[j1];try simp only at hR
    rw[if_neg (by simpa using h1)] at hR;have hlk:((s.kids.length:Int)==0)=s.kids.isEmpty:=(by rw[Bool.eq_iff_iff]; simp);simp only[hlk];refine E6 (fun h2=>?_) (fun h2=>?_)
    ·try simp[j1]
     rw[if_pos (by simpa using h2)] at hR;refine yE hR [] (by simp[j1,A4 hid]) fun hrn=>⟨?_,?_,?_,?_,?_,?_⟩<;>(try simp[j1,A4 hid])
    ·try simp[j1]
     rw[if_neg (by simpa using h2)] at hR;refine E6 (fun h3=>?_) (fun h3=>?_)
     ·try simp[j1]
      rw[if_pos (by simpa using h3)] at hR;refine yE hR [] (by simp[j1,A4 hid]) fun hrn=>⟨?_,?_,?_,?_,?_,?_⟩<;>(try simp[j1,A4 hid])
     ·try simp[j1]
      rw[if_neg (by simpa using h3)] at hR;have hkd:x.kind=3\/x.kind=4:=(by simp at h3; omega);have hof:=hL x hxm hkd;rcases R0 (fun t=>t.name==x.of) l 0 with⟨r1,r2⟩|⟨k2,t',r1,r2,r3⟩
      ·exact absurd hof (by rw[←A7k,r2]; decide)
      ·have hX:=c8 l x.of;rw[r2,Nat.zero_add] at hX;rw[A2U,r3] at hR;(refine yC rfl (hX _ (by omega)) ?_; simp[j1]);(refine yC rfl (ih k2 t' _ r1) ?_; simp[j1]);refine yE hR [] (by simp[j1,A4 hid]) fun hrn=>⟨?_,?_,?_,?_,?_,?_⟩<;>(try simp[j1,A4 hid])
theorem B5L(l:List Ty)(hL:B0q l)(hl8:l.length<=1000)(ht8:∀t∈l,t.fields.length<=1000):∀(n:Nat) (q:List F5) (j k:Nat) (t:Ty) (id:Nat),szL q<n->szL q<=1099511627776->l[k]?=some t ->
  A2 Tryz.prog 185 [.ptr j 0 0,.int .i64 (k:Nat),.sl (q.map D7)] [(j,bxF l)] id (.int .i64 (A1N l t q)) []
 | 0,q,j,k,t,id,hn,hq8,hk=>by omega
 | n+1,q,j,k,t,id,hn,hq8,hk=>by
  have ih:=B5L l hL hl8 ht8 n;have hlen:=A0i q;have htm:=List.mem_of_getElem? hk;have hkl:=(List.getElem?_eq_some_iff.1 hk).1;simp only[bxF] at ih ⊢;refine w185.e.1 fun E hP hR hl hid=>?_;simp[w185];have hj:=hl (j,_) (List.mem_cons_self ..);simp only at hj;have j1:=lf hj;refine D3 (X:=Nat) (fun i=>⟨[(0,true,.ptr j 0 0),(1,true,.int .i64 k),(10,true,.sl (q.map D7)),(11,true,.int .i64 q.length),(12,true,.int .i64 i)],[(j,some ⟨[.agg [.sl (l.map J3)]],.agg [.sl (l.map J3)],false,false⟩)],0⟩) (fun i=>i<=q.length/\A1N l t (q.drop i)=A1N l t q) (fun i=>q.length - i) 0 ?_ ⟨by omega,rfl⟩ ?_
  ·refine yV [] (by simp[j1]) fun hrn=>⟨?_,?_,?_,?_,?_⟩<;>(try simp[j1])
  ·rintro i ⟨hi,hf⟩ p hp;refine A3 4000 ?_;simp[j1];refine E6 (fun h=>?_) (fun h=>?_)
   ·have h:=of_decide_eq_true h;obtain⟨x,hx,hd⟩:=B6 h;have hxm:x∈q:=List.mem_of_getElem? hx;have hsz:=A7o hxm;have hsx:=A1M hxm;have hse:=A4o x;have hK:=fun id=>C3R l t x j id (hL t htm) hl8 (ht8 t htm) (by omega) (fun k t' id hk=>ih x.kids j k t' id (by omega) (by omega) hk);rw[hd] at hf;simp only[A1N] at hf;have hi1:IntKind.i64.wrap ((i:Int)+1)=((i+1:Nat):Int):=A5 (by omega);rw[H5] at hK;simp only[J3,bxF] at hK;simp[hx,hk,H5 x,J3,j1];refine⟨h,hkl,?_⟩;(refine yC rfl (hK _) ?_; simp[j1]);refine E6 (fun h1=>?_) (fun h1=>?_)
    ·simp[j1];rw[if_pos (by simpa using h1)] at hf;rw[←hf] at hR;refine yE hR [] (by simp[j1,A4 hid]) fun hrn=>⟨?_,?_,?_,?_,?_,?_⟩<;>(try simp[j1,A4 hid])
    ·simp[j1];rw[if_neg (by simpa using h1)] at hf;refine hp _ (i+1) ⟨h,hf⟩ (by omega) ?_;refine yV [] (by simp[hi1,j1]) fun hrn=>⟨?_,?_,?_,?_,?_⟩<;>(try simp[hi1,j1])
   ·have h:=of_decide_eq_false h;simp[j1];rw[List.drop_of_length_le (by omega)] at hf;rw[←hf] at hR;refine yE hR [] (by simp[j1,A1N,A4 hid]) fun hrn=>⟨?_,?_,?_,?_,?_,?_⟩<;>(try simp[j1,A1N,A4 hid])
theorem Q4{α:Type}(f:Nat->α->Int):∀(l:List α) (i:Nat),E4 f l i=0->∀k x,l[k]?=some x->f (i+k) x=0
 | [],i,h,k,x,hx=>by simp at hx
 | y::r,i,h,k,x,hx=>by
  simp only[E4] at h;split at h
  ·rename_i h0; exact (h0 h).elim
  ·rename_i h0;cases k with
   | zero=>simp at hx; subst hx; exact Classical.byContradiction h0
   | succ k=>have:=Q4 f r (i+1) h k x (by simpa using hx); rw[show i+(k+1)=i+1+k by omega]; exact this
structure A6I(l:List Ty):Prop where
 ne:l≠[]
 len:l.length<=5
 linked:B0q l
 fields:∀t∈l,t.fields.length<=6
 names:∀t∈l,L3 t.name=0
 kinds:∀t∈l,∀f∈t.fields,1<=f.kind/\f.kind<=4
 fnames:∀t∈l,∀f∈t.fields,L3 f.name=0/\f.name≠tId
theorem A6J{l:List Ty}(h:J0 l=0):A6I l:=by
 unfold J0 at h;split at h
 ·simp at h
 rename_i h1;split at h
 ·simp at h
 rename_i h2;have hT:∀t∈l,∃i,A1L l i t=0:=fun t ht=>by
  obtain⟨i,hi⟩:=List.mem_iff_getElem?.1 ht;exact⟨0+i,Q4 _ _ _ h i t hi⟩
 have hT2:∀t∈l,L3 t.name=0/\t.fields.length<=6/\E4 (fun k f=>p9 l f (t.fields.take k)) t.fields 0=0:=fun t ht=>by
  obtain⟨i,hi⟩:=hT t ht;unfold A1L at hi;repeat' split at hi
  all_goals first|omega|(exact⟨by simp_all,by omega,hi⟩)|simp_all
 have hF:∀t∈l,∀f∈t.fields,(L3 f.name=0/\f.name≠tId)/\(1<=f.kind/\f.kind<=4)/\((f.kind=3\/f.kind=4)->B0m l f.of=true):=fun t ht f hf=>by
  obtain⟨k,hk⟩:=List.mem_iff_getElem?.1 hf;have h0:=Q4 _ _ _ (hT2 t ht).2.2 k f hk;unfold p9 at h0;repeat' split at h0
  all_goals first|omega|skip
  all_goals try (simp_all; done)
  rename_i g1 g2 g3 g4 g5 g6;refine⟨⟨Classical.byContradiction g1,g2⟩,by omega,fun hk=>Classical.byContradiction fun hn=>g6 ⟨by omega,hn⟩⟩
 exact⟨h1,by omega,fun t ht f hf=>(hF t ht f hf).2.2,fun t ht=>(hT2 t ht).2.1,fun t ht=>(hT2 t ht).1,fun t ht f hf=>(hF t ht f hf).2.1,fun t ht f hf=>(hF t ht f hf).1⟩
theorem C1a(l:List Ty)(s:F5)(j id:Nat)(hL:B0q l)(hl8:l.length<=1000)(ht8:∀t∈l,t.fields.length<=1000)(hs8:s.sz<=1099511627776):
  A2 Tryz.prog 118 [.ptr j 0 0,D7 s] [(j,bxF l)] id (.int .i64 (A9e l s)) []:=by
 have hse:=A4o s;rcases R0 (fun t=>t.name==s.name) l 0 with⟨r1,r2⟩|⟨k,t,r1,r2,r3⟩
 ·have hX:=c8 l s.name;rw[r2] at hX;rw[H5,A9e,A2U,r1];simp only[bxF];refine w118.e.1 fun E hP hR hl hid=>?_;simp[w118];have hj:=hl (j,_) (List.mem_cons_self ..);simp only at hj;have j1:=lf hj;simp[j1];(refine yC rfl (hX _ (by omega)) ?_; simp[j1]);refine yE hR [] (by simp[j1,A4 hid]) fun hrn=>⟨?_,?_,?_,?_,?_,?_⟩<;>(try simp[j1,A4 hid])
 ·have hX:=c8 l s.name;rw[r2,Nat.zero_add] at hX;rw[H5,A9e,A2U,r3];have hV:=fun id=>B8x s.args id (by omega);have hK:=fun id=>B5L l hL hl8 ht8 (szL s.kids+1) s.kids j k t id (by omega) (by omega) r1;generalize V4 s.args tId true 1 999=e1 at hV ⊢;simp only[bxF] at hK ⊢;refine w118.e.1 fun E hP hR hl hid=>?_;simp[w118];have hj:=hl (j,_) (List.mem_cons_self ..);simp only at hj;have j1:=lf hj;simp[j1];(refine yC rfl (hX _ (by omega)) ?_; simp[j1]);refine A0 (by simp) ?_;simp[j1];(refine yC rfl (hV _) ?_; simp[j1]);refine E6 (fun h1=>?_) (fun h1=>?_)
  ·simp[j1];rw[if_pos (by simpa using h1)] at hR;refine yE hR [] (by simp[j1,A4 hid]) fun hrn=>⟨?_,?_,?_,?_,?_,?_⟩<;>(try simp[j1,A4 hid])
  ·simp[j1];rw[if_neg (by simpa using h1)] at hR;refine E6 (fun h2=>?_) (fun h2=>?_)
   ·simp[j1];rw[if_pos (by simpa using h2)] at hR;refine yE hR [] (by simp[j1,A4 hid]) fun hrn=>⟨?_,?_,?_,?_,?_,?_⟩<;>(try simp[j1,A4 hid])
   ·simp[j1];rw[if_neg (by simpa using h2)] at hR;(refine yC rfl (hK _) ?_; simp[j1]);refine yE hR [] (by simp[j1,A4 hid]) fun hrn=>⟨?_,?_,?_,?_,?_,?_⟩<;>(try simp[j1,A4 hid])
theorem C1b(l:List Ty)(q:List F5)(id:Nat)(hL:B0q l)(hl8:l.length<=1000)(ht8:∀t∈l,t.fields.length<=1000)(hq8:szL q<=1099511627776):
  A2 Tryz.prog 57 [.sl (l.map J3),.sl (q.map D7)] [] id (.int .i64 (A1w l q)) []:=by
 have hlen:=A0i q;refine w57.e.1 fun E hP hR hl hid=>?_;simp[w57];refine D3 (X:=Nat) (fun i=>⟨[(5,true,.ptr E.n0 0 0),(12,true,.sl (q.map D7)),(13,true,.int .i64 q.length),(14,true,.int .i64 i)],[(E.n0,some ⟨[.agg [.sl (l.map J3)]],.agg [.sl (l.map J3)],false,false⟩)],1⟩) (fun i=>i<=q.length/\A1w l (q.drop i)=A1w l q) (fun i=>q.length - i) 0 ?_ ⟨by omega,rfl⟩ ?_
 ·refine yV [(E.n0,E.n0+3072)] (by simp) fun hrn=>⟨?_,?_,?_,?_,?_⟩<;>(try simp)
 ·rintro i ⟨hi,hf⟩ p hp;refine A3 4000 ?_;simp;refine E6 (fun h=>?_) (fun h=>?_)
  ·have h:=of_decide_eq_true h;obtain⟨x,hx,hd⟩:=B6 h;have hxm:x∈q:=List.mem_of_getElem? hx;have hsx:=A1M hxm;have hK:=fun id=>C1a l x E.n0 id hL hl8 ht8 (by omega);rw[hd] at hf;simp only[A1w,Q9] at hf;have hi1:IntKind.i64.wrap ((i:Int)+1)=((i+1:Nat):Int):=A5 (by omega);rw[H5] at hK;simp only[bxF] at hK;simp[hx,H5 x];refine⟨h,?_⟩;(refine yH rfl (hK _) ?_; simp);refine E6 (fun h1=>?_) (fun h1=>?_)
   ·simp;rw[if_pos (by simpa using h1)] at hf;rw[←show _=A1w l q from hf] at hR;exact yP hR
   ·simp;rw[if_neg (by simpa using h1)] at hf;refine hp _ (i+1) ⟨h,hf⟩ (by omega) ?_;refine yV [(E.n0,E.n0)] (by simp[hi1]) fun hrn=>⟨?_,?_,?_,?_,?_⟩<;>(try simp[hi1])
  ·have h:=of_decide_eq_false h;simp;rw[List.drop_of_length_le (by omega)] at hf;rw[←hf] at hR;exact yP hR (h1:=by simp; rfl)
end Go.Am
namespace Go.Am
end Go.Am
namespace Go.Am
open Go Go.Proofs Go.RowKit
def A19(s:I4)(i:Nat)(t:Tg):Int :=
 if j0 s.types t≠0 then j0 s.types t else if 0<i/\0<=L8 s.things t.type t.id (i - 1) then 4 else 0
def fSt(s:I4):Int :=
 if J0 s.types≠0 then J0 s.types else if 12<s.things.length then 2
 else if E4 (fun i t=>A19 s i t) s.things 0≠0 then E4 (fun i t=>A19 s i t) s.things 0
 else if U4 (fun f c=>!c.ids.any fun x=>!L2 s f x) s.types s.things=true then 0 else 5
structure A4B(s:I4)(t:Tg):Prop where
 ty0:0<=t.type
 ty1:t.type.toNat<s.types.length
 id1:1<=t.id
 id2:t.id<=999
 len:t.cells.length=(D8 s.types t.type).length
 cell:∀(k:Nat) c,t.cells[k]?=some c->A0L (D8 s.types t.type) k c=0
theorem C3S{s:I4}{t:Tg}(h:j0 s.types t=0):A4B s t:=by
 unfold j0 at h;repeat' split at h
 all_goals first|(exfalso; omega)|skip
 rename_i h1 h2 h3;refine⟨by omega,by omega,by omega,by omega,by omega,fun k c hc=>?_⟩;have:=Q4 _ _ _ h k c hc
 rwa [Nat.zero_add] at this
structure B6o(f:Fd)(c:Cl):Prop where
 n0:f.kind≠1->c.n=0
 t0:f.kind≠2->c.text=[]
 i0:g9 f.kind=false->c.ids=[]
 n1 : -999999999<=c.n/\c.n<=999999999
 t1:c.text.length<=40
 i1:c.ids.length<=6
 i3:f.kind=3->c.ids.length<=1
 asc:A4n c.ids=true
theorem C5h{f:Fd}{c:Cl}(h:A2i f c=0):B6o f c:=by
 unfold A2i at h;repeat' split at h
 all_goals first|(exfalso; omega)|skip
 rename_i h1 h2 h3 h4;have hm:A6F f.kind<=6:=by unfold A6F; split<;>omega
 have hm3:f.kind=3->A6F f.kind=1:=fun e=>by unfold A6F; rw[if_pos e]
 refine⟨by grind,by grind,by grind,by omega,by omega,by omega,fun e=>by have:=hm3 e; omega,h4⟩
theorem A4B.cellOk{s:I4}{t:Tg}(h:A4B s t){k:Nat}{c:Cl}(hc:t.cells[k]?=some c):∃f,(D8 s.types t.type)[k]?=some f/\B6o f c:=by
 obtain⟨f,hf⟩:∃f,(D8 s.types t.type)[k]?=some f:=⟨_,List.getElem?_eq_getElem (by rw[←h.len]; exact (List.getElem?_eq_some_iff.1 hc).1)⟩;refine⟨f,hf,C5h ?_⟩;have:=h.cell k c hc;simpa only[A0L,hf] using this
theorem A4B.cells6{s:I4}(hS:A6I s.types){t:Tg}(h:A4B s t):t.cells.length<=6:=by
 rw[h.len];obtain⟨ty,hty⟩:∃ty,s.types[t.type.toNat]?=some ty:=⟨_,List.getElem?_eq_getElem h.ty1⟩;simpa [D8,hty] using hS.fields ty (List.mem_of_getElem? hty)
theorem A7u(s:I4)(id:Nat):A2 Tryz.prog 24 [I2 s] [] id (.int .i64 (fSt s)) []:=by
 unfold I2;refine w24.e.1 fun E hP hR hl hid=>?_;simp[w24];(refine yH rfl (A5a _ _) ?_; simp);refine E6 (fun h=>?_) (fun h=>?_)<;>simp
 ·exact yP hR (h1:=by simp; simp at h; unfold fSt; rw[if_pos h])
 have h1:J0 s.types=0:=by simpa using h
 refine E6 (fun h=>?_) (fun h=>?_)<;>simp
 ·exact yP hR (h1:=by simp; simp at h; unfold fSt; rw[if_neg (by omega),if_pos (by omega)])
 have h2:¬12<s.things.length:=by simp at h; omega
 have hS:=A6J h1;have hft:fSt s=if E4 (fun i t=>A19 s i t) s.things 0≠0 then E4 (fun i t=>A19 s i t) s.things 0
   else if U4 (fun f c=>!c.ids.any fun x=>!L2 s f x) s.types s.things=true then 0 else 5:=by unfold fSt; rw[if_neg (by omega),if_neg h2]
 refine D3 (X:=Nat) (fun i=>⟨[(1,true,.ptr E.n0 0 0),(19,true,.sl (s.things.map X2)),(20,true,.int .i64 s.things.length),(21,true,.int .i64 i)],[(E.n0,some ⟨[.agg [.sl (s.types.map J3),.sl (s.things.map X2)]],.agg [.sl (s.types.map J3),.sl (s.things.map X2)],false,false⟩)],1⟩) (fun i=>i<=s.things.length/\E4 (fun i t=>A19 s i t) (s.things.drop i) i=E4 (fun i t=>A19 s i t) s.things 0) (fun i=>s.things.length - i) 0 ?_ ⟨by omega,rfl⟩ ?_
 ·refine yV [(E.n0,E.n0)] (by simp) fun hrn=>⟨?_,?_,?_,?_,?_⟩<;>(try simp)
 ·rintro i ⟨hi,hf⟩ p hp;refine A3 4000 ?_;simp;refine E6 (fun h=>?_) (fun h=>?_)
  ·have h:=of_decide_eq_true h;obtain⟨t,hx,hd⟩:=B6 h;rw[hd] at hf;simp only[E4] at hf;have hi1:IntKind.i64.wrap ((i:Int)+1)=((i+1:Nat):Int):=A5 (by omega);have hth:=fun id=>B8q s t id hS.len (.inr hS.fields);unfold I2 at hth;rw[A37 t] at hth;simp[hx,A37 t];refine⟨h,?_⟩;(refine yH rfl (hth _) ?_; simp);refine E6 (fun h1=>?_) (fun h1=>?_)<;>simp
   ·have h1:j0 s.types t≠0:=(by simpa using h1);have e:A19 s i t=j0 s.types t:=(by unfold A19; rw[if_pos h1]);rw[e,if_pos h1] at hf;exact yP hR (h1:=by simp; rw[hft,←hf,if_pos h1])
   have h1:j0 s.types t=0:=(by simpa using h1);rcases Nat.eq_zero_or_pos i with hz|hz
   ·subst hz;have e:A19 s 0 t=0:=(by unfold A19; rw[if_neg (by omega),if_neg (by omega)]);rw[e,if_neg (by omega)] at hf;simp;refine A1E (.int .i64 0) (by simp) (fun hg=>by simp at hg) (fun _=>?_);refine A3 4000 ?_;simp;refine hp _ 1 ⟨by omega,hf⟩ (by omega) ?_;have h01:IntKind.i64.wrap 1=1:=A5 (by omega);refine yV [(E.n0,E.n0)] (by simp[h01]) fun hrn=>⟨?_,?_,?_,?_,?_⟩<;>(try simp[h01])
   ·obtain⟨m,rfl⟩:∃m,i=m+1:=⟨i - 1,by omega⟩;obtain⟨u,hu⟩:∃u,s.things[m]?=some u:=⟨_,List.getElem?_eq_getElem (by omega)⟩;have hwm:IntKind.i64.wrap (m:Int)=(m:Int):=A5 (by omega);have hmi:IntKind.i64.wrap ((m:Int)+1+1)=((m+1+1:Nat):Int):=(by rw[A5 (by omega)]; omega);have e:A19 s (m+1) t=if 0<=A2S u.type u.id t.type t.id then 4 else 0:=by
     unfold A19;rw[if_neg (by omega)];simp[L8,hu]
    have hlt:m<s.things.length:=(by omega);rw[e] at hf;have hug:s.things[m]=u:=(by rw[List.getElem?_eq_getElem hlt] at hu; injection hu);simp[hwm,hug,A37 u,hlt];refine A1E (.int .i64 0) (by simp) (fun _=>?_) (fun hg=>by simp at hg);(refine yH rfl (A38 _ _ _ _ _ _ _) ?_; simp);refine E6 (fun h3=>?_) (fun h3=>?_)<;>simp
    ·have h3:0<=A2S u.type u.id t.type t.id:=(by simpa using h3);rw[if_pos h3,if_pos (by omega)] at hf;exact yP hR (h1:=by simp; rw[hft,←hf,if_pos (by omega)])
    ·have h3:¬0<=A2S u.type u.id t.type t.id:=(by simpa using h3);rw[if_neg h3,if_neg (by omega)] at hf;refine hp _ (m+1+1) ⟨h,hf⟩ (by omega) ?_;refine yV [(E.n0,E.n0)] (by simp[hmi]) fun hrn=>⟨?_,?_,?_,?_,?_⟩<;>(try simp[hmi])
  ·have h:=of_decide_eq_false h;simp;rw[List.drop_of_length_le (by omega)] at hf;have hz:E4 (fun i t=>A19 s i t) s.things 0=0:=(by rw[←hf]; rfl);have hall:∀t∈s.things,A4B s t:=fun t ht=>by
    obtain⟨k,hk⟩:=List.mem_iff_getElem?.1 ht;have h0:=Q4 _ _ _ hz k t hk;refine C3S ?_;unfold A19 at h0;split at h0
    ·rename_i g; exact (g h0).elim
    ·rename_i g; exact Classical.byContradiction g
   rw[hft,hz,if_neg (by omega)] at hR;have hE:=fun id=>B5J s 68 E.n0 (I2 s) (fun f c=>!c.ids.any fun x=>!L2 s f x) (A9b s) (fun f c id h6=>B6j f c s E.n0 id hS.len (by omega) (by omega))
    (fun t ht=>⟨(hall t ht).ty0,(hall t ht).ty1,(hall t ht).len,by have:=(hall t ht).cells6 hS; omega,fun c hc=>by
     obtain⟨k,hk⟩:=List.mem_iff_getElem?.1 hc;obtain⟨f,_,hco⟩:=(hall t ht).cellOk hk;exact hco.i1⟩) (by omega) id
   unfold I2 at hE;(refine yH rfl (hE _) ?_; simp);refine E6 (fun h=>?_) (fun h=>?_)<;>simp
   ·have h:U4 (fun f c=>!c.ids.any fun x=>!L2 s f x) s.types s.things=false:=(by simpa using h);exact yP hR (h1:=by simp; rw[h])
   ·have h:U4 (fun f c=>!c.ids.any fun x=>!L2 s f x) s.types s.things=true:=(by simpa using h);exact yP hR (h1:=by simp; rw[h])
theorem B4D(l:List Fd)(id:Nat)(hl8:l.length<=1000000):A2 Tryz.prog 252 [.sl (l.map S7)] [] id (.bsl id 0 l.length) [(id,some ⟨l.map S7,.agg [.str [],.int .i64 0,.str []],false,false⟩)]:=by
 refine A5Q w252.hf w252.hc w252.hn w252.hr (by simp[Tryz.ntmps252]) fun E hP hR hl hid=>?_;refine A3 9 ?_;simp[w252];refine B8P (s:=0) (d:=3) (e:=4) (xs:=l.map S7) (by simp) (by decide) (fun hx=>?_) ?_
 ·refine A3 10 ?_;simp;have hx:l=[]:=by simpa using hx
  subst hx;refine A5O (E5.voidSlot 2 (x:=.nils) (y:=.bsl (E.n0+4096) 0 0) (by simp) .nils (.agg [.str [],.int .i64 0,.str []])) ?_;refine A3 4000 ?_;simp;refine yE hR [(id,E.n0+4096)] (by simp[A4 hid]) fun hrn=>⟨?_,?_,?_,?_,?_,?_⟩<;>(try simp[A4 hid])
 ·refine A3 4000 ?_;simp;refine⟨⟨fun a _=>by simp[S7],by omega,by omega⟩,?_⟩;refine yE hR [(id,E.n0+5120)] (by simp[A4 hid]) fun hrn=>⟨?_,?_,?_,?_,?_,?_⟩<;>(try simp[A4 hid])
theorem B2g(l:List Int)(id:Nat)(hl8:l.length<=1000000):A2 Tryz.prog 183 [.sl (l.map eI)] [] id (.bsl id 0 l.length) [(id,some ⟨l.map eI,.int .i64 0,false,false⟩)]:=by
 refine A5Q w183.hf w183.hc w183.hn w183.hr (by simp[Tryz.ntmps183]) fun E hP hR hl hid=>?_;refine A3 9 ?_;simp[w183];refine B8P (s:=0) (d:=3) (e:=4) (xs:=l.map eI) (by simp) (by decide) (fun hx=>?_) ?_
 ·refine A3 10 ?_;simp;have hx:l=[]:=by simpa using hx
  subst hx;refine A5O (E5.voidSlot 2 (x:=.nils) (y:=.bsl (E.n0+4096) 0 0) (by simp) .nils (.int .i64 0)) ?_;refine A3 4000 ?_;simp;refine yE hR [(id,E.n0+4096)] (by simp[A4 hid]) fun hrn=>⟨?_,?_,?_,?_,?_,?_⟩<;>(try simp[A4 hid])
 ·refine A3 4000 ?_;simp;refine⟨⟨fun a _=>by simp[eI],by omega,by omega⟩,?_⟩;refine yE hR [(id,E.n0+5120)] (by simp[A4 hid]) fun hrn=>⟨?_,?_,?_,?_,?_,?_⟩<;>(try simp[A4 hid])
theorem A9f(l:List Ty)(id:Nat)(hl8:l.length<=1000)(hf8:∀t∈l,t.fields.length<=1000):A2 Tryz.prog 182 [.sl (l.map J3)] [] id (.sl (l.map J3)) []:=by
 refine w182.e.1 fun E hP hR hl hid=>?_;simp[w182];refine D3 (X:=Nat) (fun i=>⟨[(3,true,.bsl E.n0 0 i),(6,true,.sl (l.map J3)),(7,true,.int .i64 l.length),(8,true,.int .i64 i)],[(E.n0,some ⟨(l.map J3).take i,.agg [.str [],.nils],false,false⟩)],1⟩) (fun i=>i<=l.length) (fun i=>l.length - i) 0 ?_ (by omega) ?_
 ·refine E5.trans (E5.voidSlot 3 (x:=.nils) (y:=.bsl (E.n0+5120) 0 0) (by simp) .nils (.agg [.str [],.nils])) ?_;refine yV [(E.n0,E.n0+5120)] (by simp) fun hrn=>⟨?_,?_,?_,?_,?_⟩<;>(try simp)
 ·rintro i hi p hp;refine A3 4000 ?_;simp;refine E6 (fun h=>?_) (fun h=>?_)
  ·have h:=of_decide_eq_true h;obtain⟨x,hx,hd⟩:=B6 h;have hi1:IntKind.i64.wrap ((i:Int)+1)=((i+1:Nat):Int):=A5 (by omega);have hx6:=hf8 x (List.mem_of_getElem? hx);have htk:(l.map J3).take (i+1)=(l.map J3).take i++[.agg [.str x.name,.sl (x.fields.map S7)]]:=(by rw[List.take_succ,List.getElem?_map,hx]; rfl);simp[hx,J3];refine⟨h,?_⟩;(refine yH rfl (B4D x.fields _ (by omega)) ?_; simp);refine⟨⟨by omega,by omega,by omega⟩,?_⟩;refine hp _ (i+1) (by omega) (by omega) ?_;refine yV [(E.n0,E.n0+13313)] (by simp[hi1,htk]) fun hrn=>⟨?_,?_,?_,?_,?_⟩<;>(try simp[hi1,htk]);all_goals exact C1 rfl (by rw[←List.map_take]; exact C3 (B2U _) (by simp))
  ·have h:=of_decide_eq_false h;simp;have:l.take i=l:=List.take_of_length_le (by omega);have hil:i=l.length:=(by omega);subst hil;have hrn:H2 []:=(by simp[A4 hid]);rw[hR];refine K5 (by simp<;>rfl) (by simp[A4 hid]<;>exact⟨rfl,rfl⟩) [] hrn ⟨?_,?_,?_,?_,?_,?_⟩<;>(try simp[A4 hid])
def zC:AV:=.agg [.int .i64 0,.str [],.nils]
def zT:AV:=.agg [.int .i64 0,.int .i64 0,.nils]
def eCo(t q k:Nat)(c:Cl):AV:=.agg [.int .i64 c.n,.str c.text,.bsl (t+16+16*q+k) 0 c.ids.length]
def Y9(t q:Nat)(l:List Cl):Nat->List AV
 | 0=>[]
 | k+1=>match l[k]? with
  | some c=>Y9 t q l k++[eCo t q k c]
  | none=>Y9 t q l k
def eTo(t q:Nat)(x:Tg):AV:=.agg [.int .i64 x.type,.int .i64 x.id,.bsl (t+1+q) 0 x.cells.length]
def S9(t:Nat)(l:List Tg):Nat->List AV
 | 0=>[]
 | i+1=>match l[i]? with
  | some x=>S9 t l i++[eTo t i x]
  | none=>S9 t l i
def iBx(c:Cl):Bx:=⟨c.ids.map eI,.int .i64 0,false,false⟩
def cBx(t q:Nat)(x:Tg):Bx:=⟨Y9 t q x.cells x.cells.length,zC,false,false⟩
def A0j(t q:Nat)(l:List Cl):Nat->List (Nat×Option Bx)
 | 0=>[]
 | k+1=>match l[k]? with
  | some c=>(t+16+16*q+k,some (iBx c))::A0j t q l k
  | none=>A0j t q l k
def P7(t:Nat)(l:List Tg):Nat->List (Nat×Option Bx)
 | 0=>[]
 | i+1=>match l[i]? with
  | some x=>(t+1+i,some (cBx t i x))::(A0j t i x.cells x.cells.length++P7 t l i)
  | none=>P7 t l i
theorem A9g(t q:Nat)(l:List Cl):∀k,k<=l.length->(Y9 t q l k).length=k
 | 0,_=>rfl
 | k+1,h=>by
  rw[Y9,List.getElem?_eq_getElem (by omega)];simp[A9g t q l k (by omega)]
theorem A9h(t:Nat)(l:List Tg):∀k,k<=l.length->(S9 t l k).length=k
 | 0,_=>rfl
 | k+1,h=>by
  rw[S9,List.getElem?_eq_getElem (by omega)];simp[A9h t l k (by omega)]
theorem q9{t q:Nat}{l:List Cl}:∀{k:Nat} {y:Nat} {b:Option Bx},(y,b)∈A0j t q l k->∃m c,m<k/\l[m]?=some c/\y=t+16+16*q+m/\b=some (iBx c)
 | 0,y,b,h=>by cases h
 | k+1,y,b,h=>by
  rw[A0j] at h;cases hc:l[k]? with
  | none =>
   rw[hc] at h;obtain⟨m,c,h1,h2⟩:=q9 h;exact⟨m,c,by omega,h2⟩
  | some c =>
   rw[hc] at h;rcases List.mem_cons.1 h with h|h
   ·injection h with h1 h2
    exact⟨k,c,by omega,hc,h1,h2⟩
   ·obtain⟨m,c,h1,h2⟩:=q9 h;exact⟨m,c,by omega,h2⟩
theorem A5d{t:Nat}{l:List Tg}:∀{i:Nat} {y:Nat} {b:Option Bx},(y,b)∈P7 t l i->∃j x,j<i/\l[j]?=some x/\((y=t+1+j/\b=some (cBx t j x))\/(y,b)∈A0j t j x.cells x.cells.length)
 | 0,y,b,h=>by cases h
 | i+1,y,b,h=>by
  rw[P7] at h;cases hx:l[i]? with
  | none =>
   rw[hx] at h;obtain⟨j,x,h1,h2⟩:=A5d h;exact⟨j,x,by omega,h2⟩
  | some x =>
   rw[hx] at h;rcases List.mem_cons.1 h with h|h
   ·injection h with h1 h2
    exact⟨i,x,by omega,hx,.inl ⟨h1,h2⟩⟩
   ·rcases List.mem_append.1 h with h|h
    ·exact⟨i,x,by omega,hx,.inr h⟩
    ·obtain⟨j,x,h1,h2⟩:=A5d h;exact⟨j,x,by omega,h2⟩
theorem B2h(S:Nat->Prop)(l:List Int):∀x∈l.map eI,B5 S x:=fun x hx=>by
 obtain⟨n,_,rfl⟩:=List.mem_map.1 hx;exact I3 _ rfl
theorem A0B{t q:Nat}{l:List Cl}{S:Nat->Prop}:∀{k:Nat},(∀m,m<k->S (t+16+16*q+m))->∀x∈Y9 t q l k,B5 S x
 | 0,_,x,h=>by cases h
 | k+1,hS,x,h=>by
  rw[Y9] at h;cases hc:l[k]? with
  | none=>rw[hc] at h; exact A0B (fun m hm=>hS m (by omega)) x h
  | some c =>
   rw[hc] at h;rcases List.mem_append.1 h with h|h
   ·exact A0B (fun m hm=>hS m (by omega)) x h
   ·simp at h;subst h;simp only[eCo,B5,F2];exact⟨trivial,trivial,hS k (by omega),trivial⟩
theorem A0C{t:Nat}{l:List Tg}{S:Nat->Prop}:∀{i:Nat},(∀m,m<i->S (t+1+m))->∀x∈S9 t l i,B5 S x
 | 0,_,x,h=>by cases h
 | i+1,hS,x,h=>by
  rw[S9] at h;cases hc:l[i]? with
  | none=>rw[hc] at h; exact A0C (fun m hm=>hS m (by omega)) x h
  | some c =>
   rw[hc] at h;rcases List.mem_append.1 h with h|h
   ·exact A0C (fun m hm=>hS m (by omega)) x h
   ·simp at h;subst h;simp only[eTo,B5,F2];exact⟨trivial,trivial,hS i (by omega),trivial⟩
theorem A4C{t q:Nat}{l:List Cl}{S:Nat->Prop}(k:Nat)(hS:∀m,m<k->S (t+16+16*q+m)):u7 S (A0j t q l k):=by
 induction k with
 | zero=>exact u7.nil _
 | succ k ih =>
  rw[A0j];cases hc:l[k]? with
  | none=>exact ih fun m hm=>hS m (by omega)
  | some c =>
   refine (ih fun m hm=>hS m (by omega)).cons (hS k (by omega)) (fun p hp=>?_) (B2h _ _);obtain⟨y,b⟩:=p;obtain⟨m,c,h1,_,h2,_⟩:=q9 hp;simp only; omega
theorem A1x{t:Nat}{l:List Tg}(h6:∀x∈l,x.cells.length<=16){i:Nat}{y:Nat}{b:Option Bx}(h:(y,b)∈P7 t l i):(∃j,j<i/\y=t+1+j)\/∃j m,j<i/\m<16/\y=t+16+16*j+m:=by
 obtain⟨j,x,h1,h2,h3⟩:=A5d h;rcases h3 with⟨h3,_⟩|h3
 ·exact .inl ⟨j,h1,h3⟩
 ·obtain⟨m,c,h4,_,h5,_⟩:=q9 h3;have:=h6 x (List.mem_of_getElem? h2);exact .inr ⟨j,m,h1,by omega,h5⟩
theorem X3{t:Nat}{l:List Tg}{S:Nat->Prop}(h6:∀x∈l,x.cells.length<=16)(i:Nat)(hi:i<=12)(hS1:∀j,j<i->S (t+1+j))(hS2:∀j m,j<i->m<16->S (t+16+16*j+m)):u7 S (P7 t l i):=by
 induction i with
 | zero=>exact u7.nil _
 | succ i ih =>
  rw[P7];have ih:=ih (by omega) (fun j hj=>hS1 j (by omega)) fun j m hj hm=>hS2 j m (by omega) hm;cases hx:l[i]? with
  | none=>exact ih
  | some x =>
   have hx6:=h6 x (List.mem_of_getElem? hx);have ha:u7 S (A0j t i x.cells x.cells.length++P7 t l i):=(A4C _ fun m hm=>hS2 i m (by omega) (by omega)).append ih fun p hp p' hp' e=>by
    obtain⟨y,b⟩:=p;obtain⟨y',b'⟩:=p';simp only at e;subst e;obtain⟨m,c,h1,_,h2,_⟩:=q9 hp;rcases A1x h6 hp' with⟨j,h3,h4⟩|⟨j,m',h3,h4,h5⟩<;>omega
   refine ha.cons (hS1 i (by omega)) (fun p hp=>?_) (A0B fun m hm=>hS2 i m (by omega) (by omega));obtain⟨y,b⟩:=p;rcases List.mem_append.1 hp with hp|hp
   ·obtain⟨m,c,h1,_,h2,_⟩:=q9 hp;simp only; omega
   ·rcases A1x h6 hp with⟨j,h3,h4⟩|⟨j,m',h3,h4,h5⟩<;>(simp only; omega)
theorem A2H.of{R:Rn}{S:Nat->Prop}{bx':List (Nat×Option Bx)}{fin:Nat->Option Bx}:∀{l:List Nat},(∀y∈l,∀b',fin y=some b'->∃x b,R.ρ y=some x/\Am.bk bx' x=some b/\BxR R S b b')->A2H R S bx' fin l
 | [],_=>trivial
 | y::l,h=>by
  refine⟨?_,A2H.of fun z hz=>h z (List.mem_cons_of_mem _ hz)⟩;cases hf:fin y with
  | none=>trivial
  | some b'=>exact h y (List.mem_cons_self ..) b' hf
theorem x8{B:Nat->Option Bx}:∀{wr:List (Nat×Option Bx)} {y:Nat},(∀q∈wr,q.1≠y)->F3 B wr y=B y
 | [],_,_=>rfl
 | (z,b)::l,y,h=>by
  rw[F3,x8 fun q hq=>h q (List.mem_cons_of_mem _ hq)];exact B8 _ _ _ (fun e=>h (z,b) (List.mem_cons_self ..) e.symm)
theorem B2i{B:Nat->Option Bx}:∀{wr:List (Nat×Option Bx)} {y:Nat} {b:Option Bx},(wr.map Prod.fst).Nodup->(y,b)∈wr->F3 B wr y=b
 | [],_,_,_,h=>by cases h
 | (z,c)::l,y,b,hn,h=>by
  rw[List.map_cons,List.nodup_cons] at hn;rw[F3];rcases List.mem_cons.1 h with e|h
  ·injection e with e1 e2
   subst e1 e2;rw[x8 fun q hq e=>hn.1 (List.mem_map.2 ⟨q,hq,e⟩),C7]
  ·exact B2i hn.2 h
theorem A9i{B:Nat->Option Bx}:∀{wr:List (Nat×Option Bx)} {y:Nat} {b:Bx},F3 B wr y=some b->(y,some b)∈wr\/B y=some b
 | [],y,b,h=>.inr h
 | (z,c)::l,y,b,h=>by
  rw[F3] at h;rcases A9i h with h|h
  ·exact .inl (List.mem_cons_of_mem _ h)
  ·by_cases e:y=z
   ·subst e;rw[C7] at h;subst h;exact .inl (List.mem_cons_self ..)
   ·rw[B8 _ _ _ e] at h;exact .inr h
theorem A9j{id:Nat}{rd:List (Nat×Option Bx)}:∀{l:List (Nat×Option Bx)},(∀q∈l,J7 q.1 rd\/(id<=q.1/\q.1<id+1024))->A5P id rd l
 | [],_=>trivial
 | (y,b)::l,h=>⟨h _ (List.mem_cons_self ..),A9j fun q hq=>h q (List.mem_cons_of_mem _ hq)⟩
def B5M(R:Rn)(t t':Nat):Prop:=∀o,1<=o->o<1000->R.ρ (t'+o)=some (t+o)
theorem A5e{R:Rn}{S:Nat->Prop}{t t' q:Nat}{l:List Cl}(h:B5M R t t')(hq:q<12):∀k,k<=16->N7 R S (Y9 t q l k) (Y9 t' q l k)
 | 0,_=>.nil
 | k+1,hk=>by
  rw[Y9,Y9];cases hc:l[k]? with
  | none=>exact A5e h hq k (by omega)
  | some c =>
   refine p6 (A5e h hq k (by omega)) (.cons _ _ _ _ (.agg _ _ ?_) .nil);refine .cons _ _ _ _ (.same _ trivial) (.cons _ _ _ _ (.same _ trivial) (.cons _ _ _ _ (.bsl _ _ _ _ ?_) .nil));have:=h (16+16*q+k) (by omega) (by omega);rw[show t'+16+16*q+k=t'+(16+16*q+k) by omega,show t+16+16*q+k=t+(16+16*q+k) by omega];exact this
theorem A5f{R:Rn}{S:Nat->Prop}{t t':Nat}{l:List Tg}(h:B5M R t t'):∀i,i<=12->N7 R S (S9 t l i) (S9 t' l i)
 | 0,_=>.nil
 | i+1,hi=>by
  rw[S9,S9];cases hc:l[i]? with
  | none=>exact A5f h i (by omega)
  | some x =>
   refine p6 (A5f h i (by omega)) (.cons _ _ _ _ (.agg _ _ ?_) .nil);refine .cons _ _ _ _ (.same _ trivial) (.cons _ _ _ _ (.same _ trivial) (.cons _ _ _ _ (.bsl _ _ _ _ ?_) .nil));have:=h (1+i) (by omega) (by omega);rw[show t'+1+i=t'+(1+i) by omega,show t+1+i=t+(1+i) by omega];exact this
theorem A7v{t t' q:Nat}{l:List Cl}:∀{k:Nat} {o:Nat} {b:Option Bx},(t'+o,b)∈A0j t' q l k->(t+o,b)∈A0j t q l k
 | 0,o,b,h=>by cases h
 | k+1,o,b,h=>by
  rw[A0j] at h ⊢;cases hc:l[k]? with
  | none=>rw[hc] at h; exact A7v h
  | some c =>
   rw[hc] at h;rcases List.mem_cons.1 h with h|h
   ·injection h with h1 h2
    subst h2;have:o=16+16*q+k:=by omega
    subst this;rw[show t+(16+16*q+k)=t+16+16*q+k by omega];exact List.mem_cons_self ..
   ·exact List.mem_cons_of_mem _ (A7v h)
theorem A5g{R:Rn}{S:Nat->Prop}{t t':Nat}{l:List Tg}(h6:∀x∈l,x.cells.length<=16)(hR:B5M R t t'):∀{i:Nat} {y:Nat} {b:Bx},i<=12->(y,some b)∈P7 t' l i->∃o b0,1<=o/\o<1000/\y=t'+o/\(t+o,some b0)∈P7 t l i/\BxR R S b0 b
 | 0,y,b,_,h=>by cases h
 | i+1,y,b,hi,h=>by
  rw[P7] at h;rw[P7];cases hc:l[i]? with
  | none=>rw[hc] at h; exact A5g h6 hR (by omega) h
  | some x =>
   have hx6:=h6 x (List.mem_of_getElem? hc);rw[hc] at h;rcases List.mem_cons.1 h with h|h
   ·injection h with h1 h2
    injection h2 with h2
    subst h1 h2;refine⟨1+i,cBx t i x,by omega,by omega,by omega,?_,⟨A5e hR (by omega) _ hx6,rfl,rfl,rfl⟩⟩;rw[show t+(1+i)=t+1+i by omega];exact List.mem_cons_self ..
   ·rcases List.mem_append.1 h with h|h
    ·obtain⟨m,c,h1,h2,h3,h4⟩:=q9 h;injection h4 with h4
     subst h4 h3;refine⟨16+16*i+m,iBx c,by omega,by omega,by omega,List.mem_cons_of_mem _ (List.mem_append_left _ ?_),⟨C1 rfl (A0v _),rfl,rfl,rfl⟩⟩;exact A7v (t':=t') (by rw[show t'+(16+16*i+m)=t'+16+16*i+m by omega]; exact h)
    ·obtain⟨o,b0,q1,q2,q3,q4,q5⟩:=A5g h6 hR (by omega) h;exact⟨o,b0,q1,q2,q3,List.mem_cons_of_mem _ (List.mem_append_right _ q4),q5⟩
def x9(id a:Nat):Nat->List (Nat×Nat)
 | 0=>[]
 | n+1=>(id+(n+1),a+(n+1))::x9 id a n
theorem A4D{id a:Nat}:∀{n:Nat} {q:Nat×Nat},q∈x9 id a n->∃o,1<=o/\o<=n/\q=(id+o,a+o)
 | 0,q,h=>by cases h
 | n+1,q,h=>by
  rw[x9] at h;rcases List.mem_cons.1 h with h|h
  ·exact⟨n+1,by omega,by omega,h⟩
  ·obtain⟨o,h1,h2,h3⟩:=A4D h;exact⟨o,h1,by omega,h3⟩
theorem A3C{id a b:Nat}:∀{n:Nat},(∀o,1<=o->o<=n->b≠a+o)->S8 (x9 id a n) b=false
 | 0,_=>rfl
 | n+1,h=>by
  rw[x9,S8,if_neg (h (n+1) (by omega) (by omega))];exact A3C fun o h1 h2=>h o h1 (by omega)
theorem A9k{id a:Nat}:∀n,H2 (x9 id a n)
 | 0=>trivial
 | n+1=>⟨A3C fun o h1 h2=>by omega,A9k n⟩
theorem A9l{id a o:Nat}:∀{n:Nat},1<=o->o<=n->lkN (x9 id a n) (id+o)=some (a+o)
 | 0,h1,h2=>by omega
 | n+1,h1,h2=>by
  rw[x9,lkN];by_cases e:o=n+1
  ·subst e; simp
  ·rw[if_neg (by omega)];exact A9l h1 (by omega)
theorem B2j{a b:Nat}:∀{l:List (Nat×Nat)},(∀q∈l,a<=q.1/\q.1<b)->A66 a b l
 | [],_=>trivial
 | (y,z)::l,h=>⟨h _ (List.mem_cons_self ..),B2j fun q hq=>h q (List.mem_cons_of_mem _ hq)⟩
theorem A9m{n0:Nat}{bx':List (Nat×Option Bx)}:∀{l:List (Nat×Nat)},(∀q∈l,n0<=q.2)->A2w n0 bx' l
 | [],_=>trivial
 | (y,z)::l,h=>⟨.inl (h _ (List.mem_cons_self ..)),A9m fun q hq=>h q (List.mem_cons_of_mem _ hq)⟩
end Go.Am
