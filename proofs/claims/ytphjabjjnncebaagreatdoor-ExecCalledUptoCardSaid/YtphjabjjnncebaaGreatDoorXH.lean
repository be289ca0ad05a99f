/- Parts of the proof: an abstract machine for Go functions, and what functions of the program give back (Rf1, Sc1, Sc2, Sc3, Sc4, Vl1, Vl2, Vl3, Vl4, Vl5, Vl6, Lt1, Am64). No condition. -/
import Derived.Test.YtphjabjjnncebaaGreatDoorXG
import Derived.Test.YtphjabjjnncebaaGreatDoorXE
set_option maxRecDepth 100000
set_option linter.all false
set_option maxHeartbeats 4000000
namespace Go.Am
open Go Go.Proofs Go.RowKit
structure Fd where
 name:List UInt8
 kind:Int
 of:List UInt8
structure Ty where
 name:List UInt8
 fields:List Fd
def M4(f:Fd):AV:=.agg [.str f.name,.int .i64 f.kind,.str f.of]
def H6(t:Ty):AV:=.agg [.str t.name,.sl (t.fields.map M4)]
theorem A7L(f:Fd):(M4 f).pureB=true:=rfl
@[simp] theorem A7M (l:List Fd):E7 (l.map M4)=true:=D6 A7L l
@[simp] theorem B5b (S:Nat->Prop) (l:List Fd):D9 S (l.map M4):=A5 _ (A7M l)
@[simp] theorem B6O (R:Rn) (S:Nat->Prop) (l:List Fd):K2 R S (l.map M4) (l.map M4):=F7 rfl (A7M l)
theorem B1j(t:Ty):(H6 t).pureB=true:=by simp[H6]
@[simp] theorem A7N (l:List Ty):E7 (l.map H6)=true:=D6 B1j l
@[simp] theorem B5c (S:Nat->Prop) (l:List Ty):D9 S (l.map H6):=A5 _ (A7N l)
def B7{α:Type}(p:α->Bool):List α->Nat->Int
 | [],_=>-1
 | x::l,i=>if p x then (i:Int) else B7 p l (i+1)
theorem S0{α:Type}(p:α->Bool):∀(l:List α) (i:Nat),decide (0<=B7 p l i)=l.any p
 | [],i=>by simp[B7]
 | x::l,i=>by
  simp only[B7,List.any_cons];by_cases hx:p x=true
  ·simp[hx]
  ·simp[hx,S0 p l (i+1)]
theorem A7O(f:Fd)(j:Nat)(name:List UInt8)(id:Nat):A2 Tryz.prog 274 [M4 f,.ptr j 0 0] [(j,⟨[.str name],.str name,false,false⟩)] id (.bool (f.name==name)) []:=by
 unfold M4;refine w274.e.1 fun E hP hR hl hid=>?_;simp[w274];have hj:=hl (j,_) (zb ..);simp only at hj;have j1:=lf hj;simp[j1];refine yE hR [] (by simp[j1,B7,B2 hid]) fun hrn=>⟨?_,?_,?_,?_,?_,?_⟩<;>(try simp[j1,B7,B2 hid])
theorem B1k(t:Ty)(j:Nat)(name:List UInt8)(id:Nat):A2 Tryz.prog 134 [H6 t,.ptr j 0 0] [(j,⟨[.str name],.str name,false,false⟩)] id (.bool (t.name==name)) []:=by
 unfold H6;refine w134.e.1 fun E hP hR hl hid=>?_;simp[w134];have hj:=hl (j,_) (zb ..);simp only at hj;have j1:=lf hj;simp[j1];refine yE hR [] (by simp[j1,B7,B2 hid]) fun hrn=>⟨?_,?_,?_,?_,?_,?_⟩<;>(try simp[j1,B7,B2 hid])
theorem A8T(l:List Fd)(j:Nat)(name:List UInt8)(id:Nat)(hl8:l.length<9223372036854775807):A2 Tryz.prog 273 [.sl (l.map M4),.fn 274 [.ptr j 0 0]] [(j,⟨[.str name],.str name,false,false⟩)] id (.int .i64 (B7 (fun x=>x.name==name) l 0)) []:=by
 refine w273.e.1 fun E hP hR hl hid=>?_;simp[w273];have hj:=hl (j,_) (zb ..);simp only at hj;have j1:=lf hj;refine C8 (X:=Nat) (fun i=>⟨[(0,true,.sl (l.map M4)),(1,true,.fn 274 [.ptr j 0 0]),(7,true,.int .i64 l.length),(8,true,.int .i64 i)],[(j,some (⟨[.str name],.str name,false,false⟩))],0⟩) (fun i=>i<=l.length/\B7 (fun x=>x.name==name) (l.drop i) i=B7 (fun x=>x.name==name) l 0) (fun i=>l.length - i) 0 ?_ ⟨by omega,rfl⟩ ?_
 ·refine yV [] (by simp[j1]) fun hrn=>⟨?_,?_,?_,?_,?_⟩<;>(try simp[j1])
 ·rintro i ⟨hi,hf⟩ p hp;refine A6 4000 ?_;simp;refine C9 (fun h=>?_) (fun h=>?_)
  ·have h:=zp h;obtain⟨x,hx,hd⟩:=B6 h;have hcl:=A7O x j name;simp only[M4] at hcl;rw[hd] at hf;simp only[B7] at hf;have hi1:IntKind.i64.wrap ((i:Int)+1)=((i+1:Nat):Int):=wrap64 (by omega);simp[hx,M4];refine⟨h,?_⟩;refine P2 hP rfl rfl (hcl _) (by simp) (by simp[j1]<;>rfl) ?_;refine A6 4000 ?_;simp[j1];refine C9 (fun h1=>?_) (fun h1=>?_)
   ·simp[j1];rw[zk h1] at hf;rw[←hf] at hR;refine yE hR [] (by simp[j1,B7,B2 hid]) fun hrn=>⟨?_,?_,?_,?_,?_,?_⟩<;>(try simp[j1,B7,B2 hid])
   ·simp[j1];rw[zh (by simpa using h1)] at hf;refine hp _ (i+1) ⟨h,hf⟩ (by omega) ?_;refine yV [] (by simp[hi1,j1]) fun hrn=>⟨?_,?_,?_,?_,?_⟩<;>(try simp[hi1,j1])
  ·have h:=zq h;simp;rw[zt (by omega)] at hf;rw[←hf] at hR;refine yE hR [] (by simp[j1,B7,B2 hid]) fun hrn=>⟨?_,?_,?_,?_,?_,?_⟩<;>(try simp[j1,B7,B2 hid])
theorem A8U(l:List Ty)(j:Nat)(name:List UInt8)(id:Nat)(hl8:l.length<9223372036854775807):A2 Tryz.prog 133 [.sl (l.map H6),.fn 134 [.ptr j 0 0]] [(j,⟨[.str name],.str name,false,false⟩)] id (.int .i64 (B7 (fun x=>x.name==name) l 0)) []:=by
 refine w133.e.1 fun E hP hR hl hid=>?_;simp[w133];have hj:=hl (j,_) (zb ..);simp only at hj;have j1:=lf hj;refine C8 (X:=Nat) (fun i=>⟨[(0,true,.sl (l.map H6)),(1,true,.fn 134 [.ptr j 0 0]),(7,true,.int .i64 l.length),(8,true,.int .i64 i)],[(j,some (⟨[.str name],.str name,false,false⟩))],0⟩) (fun i=>i<=l.length/\B7 (fun x=>x.name==name) (l.drop i) i=B7 (fun x=>x.name==name) l 0) (fun i=>l.length - i) 0 ?_ ⟨by omega,rfl⟩ ?_
 ·refine yV [] (by simp[j1]) fun hrn=>⟨?_,?_,?_,?_,?_⟩<;>(try simp[j1])
 ·rintro i ⟨hi,hf⟩ p hp;refine A6 4000 ?_;simp;refine C9 (fun h=>?_) (fun h=>?_)
  ·have h:=zp h;obtain⟨x,hx,hd⟩:=B6 h;have hcl:=B1k x j name;simp only[H6] at hcl;rw[hd] at hf;simp only[B7] at hf;have hi1:IntKind.i64.wrap ((i:Int)+1)=((i+1:Nat):Int):=wrap64 (by omega);simp[hx,H6];refine⟨h,?_⟩;refine P2 hP rfl rfl (hcl _) (by simp) (by simp[j1]<;>rfl) ?_;refine A6 4000 ?_;simp[j1];refine C9 (fun h1=>?_) (fun h1=>?_)
   ·simp[j1];rw[zk h1] at hf;rw[←hf] at hR;refine yE hR [] (by simp[j1,B7,B2 hid]) fun hrn=>⟨?_,?_,?_,?_,?_,?_⟩<;>(try simp[j1,B7,B2 hid])
   ·simp[j1];rw[zh (by simpa using h1)] at hf;refine hp _ (i+1) ⟨h,hf⟩ (by omega) ?_;refine yV [] (by simp[hi1,j1]) fun hrn=>⟨?_,?_,?_,?_,?_⟩<;>(try simp[hi1,j1])
  ·have h:=zq h;simp;rw[zt (by omega)] at hf;rw[←hf] at hR;refine yE hR [] (by simp[j1,B7,B2 hid]) fun hrn=>⟨?_,?_,?_,?_,?_,?_⟩<;>(try simp[j1,B7,B2 hid])
theorem A05(l:List Fd)(n name:List UInt8)(id:Nat)(hl8:l.length<9223372036854775807):A2 Tryz.prog 229 [.agg [.str n,.sl (l.map M4)],.str name] [] id (.int .i64 (B7 (fun x=>x.name==name) l 0)) []:=by
 refine w229.e.1 fun E hP hR hl hid=>?_;simp[w229];(refine yH rfl (A8T l (E.n0+1024) name _ hl8) ?_; simp);exact yP hR
theorem T2(l:List Ty)(name:List UInt8)(id:Nat)(hl8:l.length<9223372036854775807):A2 Tryz.prog 72 [.sl (l.map H6),.str name] [] id (.int .i64 (B7 (fun x=>x.name==name) l 0)) []:=by
 refine w72.e.1 fun E hP hR hl hid=>?_;simp[w72];(refine yH rfl (A8U l E.n0 name _ hl8) ?_; simp);exact yP hR
def A8V(c:UInt8):Bool:=(decide (97<=c.toNat)&&decide (c.toNat<=122))||(decide (65<=c.toNat)&&decide (c.toNat<=90))||decide (c.toNat=95)
def B0A(c:UInt8):Bool:=decide (48<=c.toNat)&&decide (c.toNat<=57)
def anC(c:UInt8):Bool:=A8V c||B0A c
def A8W:List UInt8->Bool
 | []=>false
 | c::r=>A8V c&&r.all anC
def F2(s:List UInt8):Int:=if 12<s.length then 2 else if A8W s=true then 0 else 1
theorem B0B(c:UInt8)(id:Nat):A2 Tryz.prog 232 [.int .u8 c.toNat] [] id (.bool (A8V c)) []:=by
 refine w232.e.1 fun E hP hR hl hid=>?_;simp[w232];refine⟨by grind,by grind,by grind,?_⟩;exact yP hR (h1:=by simp; unfold A8V; rw[xp]; simp; omega)
theorem B1l(c:UInt8)(id:Nat):A2 Tryz.prog 233 [.int .u8 c.toNat] [] id (.bool (B0A c)) []:=by
 refine w233.e.1 fun E hP hR hl hid=>?_;simp[w233];exact yP hR (h1:=by simp; unfold B0A; rw[xp]; simp; omega)
def okN:List UInt8->Bool->Bool
 | [],_=>true
 | c::r,fst=>(A8V c||(!fst&&B0A c))&&okN r false
theorem B0C(l:List UInt8):okN l false=l.all anC:=by
 induction l with
 | nil=>rfl
 | cons c r ih=>simp[okN,ih,anC]
theorem A7P(s:List UInt8)(h:s≠[]):okN s true=A8W s:=by
 cases s with
 | nil=>exact (h rfl).elim
 | cons c r=>simp[okN,A8W,B0C]
theorem o6(s:List UInt8)(id:Nat):A2 Tryz.prog 166 [.str s] [] id (.int .i64 (F2 s)) []:=by
 refine w166.e.1 fun E hP hR hl hid=>?_;simp[w166];refine C9 (fun h=>?_) (fun h=>?_)
 ·simp;exact yP hR (h1:=by simp; simp at h; unfold F2; rw[zk (by omega)])
 ·simp;have h12:¬12<s.length:=by simp at h; omega
  refine C8 (X:=Nat) (fun i=>⟨[(0,true,.str s),(8,true,.int .i64 s.length),(9,true,.int .i64 i)],[],0⟩) (fun i=>i<=s.length/\okN (s.drop i) (decide (i=0))=okN s true) (fun i=>s.length - i) 0 ?_ ⟨by omega,rfl⟩ ?_
  ·refine yV [] (by simp) fun hrn=>⟨?_,?_,?_,?_,?_⟩<;>(try simp)
  ·rintro i ⟨hi,hf⟩ p hp;refine A6 4000 ?_;simp;refine C9 (fun h=>?_) (fun h=>?_)
   ·have h:=zp h;obtain⟨x,hx,hd⟩:=B6 h;rw[hd] at hf;simp only[okN] at hf;have hi1:IntKind.i64.wrap ((i:Int)+1)=((i+1:Nat):Int):=wrap64 (by omega);simp[hx];refine⟨h,?_⟩;(refine yC rfl (B0B x _) ?_; simp[hx]);refine⟨fun h1 h2=>⟨⟨h1,h2⟩,h⟩,?_⟩;(refine K3 hP (by simp[hx]) rfl (fun hc=>⟨B1l x _,by revert hc; simp[hx]; try grind,by simp[hx]⟩) ?_; refine A6 4000 ?_; simp[hx]);refine⟨by grind,?_⟩;have hb:(A8V x||(!decide (i=0)&&B0A x))=!(!A8V x&&(((i:Int)==0)||!B0A x)):=by
     have:decide (i=0)=((i:Int)==0):=by rw[xp]; simp
     rw[this]; simp
    rw[hb] at hf;refine C9 (fun h1=>?_) (fun h1=>?_)
    ·simp;rw[h1] at hf;simp at hf;have hne:s≠[]:=(by rintro rfl; simp at h);exact yP hR (h1:=by simp; unfold F2; rw[zh h12,←A7P s hne,hf]; rfl)
    ·simp;rw[h1] at hf;simp at hf;refine hp _ (i+1) ⟨h,by simpa using hf⟩ (by omega) ?_;refine yV [] (by simp[hi1]) fun hrn=>⟨?_,?_,?_,?_,?_⟩<;>(try simp[hi1])
   ·have h:=zq h;simp;rw[zt (by omega)] at hf;simp only[okN] at hf;refine C9 (fun h=>?_) (fun h=>?_)
    ·simp;exact yP hR (h1:=by simp; simp at h; subst h; rfl)
    ·simp;have hne:s≠[]:=(by simpa using h);exact yP hR (h1:=by simp; unfold F2; rw[zh h12,←A7P s hne,←hf]; rfl)
def o7:List UInt8:=[105,100]
def A3E:List UInt8:=[78,117,109,98,101,114]
def A9H:List UInt8:=[84,101,120,116]
def B59(l:List Fd)(n:List UInt8):Bool:=l.any fun x=>x.name==n
def A4U(l:List Ty)(n:List UInt8):Bool:=l.any fun x=>x.name==n
def R4(l:List Ty)(f:Fd)(ahead:List Fd):Int :=
 if F2 f.name≠0 then F2 f.name else if f.name=o7 then 4 else if B59 ahead f.name=true then 6
 else if ¬(1<=f.kind/\f.kind<=4) then 7 else if (f.kind=1\/f.kind=2)/\f.of≠[] then 1
 else if ¬(f.kind=1\/f.kind=2)/\¬A4U l f.of=true then 5 else 0
def B9{α:Type}(f:Nat->α->Int):List α->Nat->Int
 | [],_=>0
 | x::l,i=>if f i x≠0 then f i x else B9 f l (i+1)
def j3(l:List Ty)(i:Nat)(t:Ty):Int :=
 if F2 t.name≠0 then F2 t.name else if t.name=A3E\/t.name=A9H then 4 else if A4U (l.take i) t.name=true then 6
 else if t.fields=[] then 5 else if 6<t.fields.length then 2 else B9 (fun k f=>R4 l f (t.fields.take k)) t.fields 0
def F8(l:List Ty):Int :=
 if l=[] then 5 else if 5<l.length then 2 else B9 (fun i t=>j3 l i t) l 0
theorem A3k(l:List Fd)(n:List UInt8):decide (0<=B7 (fun x=>x.name==n) l 0)=B59 l n:=S0 _ l 0
theorem A3l(l:List Ty)(n:List UInt8):decide (0<=B7 (fun x=>x.name==n) l 0)=A4U l n:=S0 _ l 0
theorem A0t(l:List Ty)(n:List UInt8):decide (B7 (fun x=>x.name==n) l 0<0)=!A4U l n:=by
 rw[←A3l,xp]; simp
theorem A4V(l:List Ty)(f:Fd)(ahead:List Fd)(id:Nat)(hl:l.length<=1000000)(ha:ahead.length<=1000000):A2 Tryz.prog 197 [.sl (l.map H6),M4 f,.sl (ahead.map M4)] [] id (.int .i64 (R4 l f ahead)) []:=by
 have hF:=fun n=>A05 ahead [] n;simp only[M4];refine w197.e.1 fun E hP hR hl hid=>?_;simp[w197];(refine yH rfl (o6 _ _) ?_; simp);refine C9 (fun h=>?_) (fun h=>?_)<;>simp
 ·exact yP hR (h1:=by simp; simp at h; unfold R4; rw[zk h])
 have h1:¬F2 f.name≠0:=by simpa using h
 refine C9 (fun h=>?_) (fun h=>?_)<;>simp
 ·exact yP hR (h1:=by simp; simp at h; unfold R4; rw[zh h1,zk (show f.name=o7 from h)])
 have h2:¬f.name=o7:=by simpa [o7] using h
 (refine C6 hP rfl (hF _ _ (by omega)) (by simp[A3k]) (by simp[A3k]<;>rfl) ?_; refine A6 4000 ?_; simp[A3k]);refine C9 (fun h=>?_) (fun h=>?_)<;>simp
 ·exact yP hR (h1:=by simp; unfold R4; rw[zh h1,zh h2,zk h])
 have h3:¬B59 ahead f.name=true:=by simpa using h
 refine C9 (fun h=>?_) (fun h=>?_)<;>simp
 ·exact yP hR (h1:=by simp; simp at h; unfold R4; rw[zh h1,zh h2,zh h3,zk (by omega)])
 have h4:¬¬(1<=f.kind/\f.kind<=4):=by simp at h; omega
 refine C9 (fun h=>?_) (fun h=>?_)<;>simp
 ·exact yP hR (h1:=by simp; simp at h; unfold R4; rw[zh h1,zh h2,zh h3,zh h4,zk h])
 have h5:¬((f.kind=1\/f.kind=2)/\f.of≠[]):=by simpa using h
 (repeat (refine And.intro (by first|assumption|omega|(simp; omega)|(simp_all; done)) ?_));(refine K3 hP (by simp[A0t]) rfl (fun hc=>⟨T2 l f.of _ (by omega),by revert hc; simp[A0t]; try grind,by simp[A0t]⟩) ?_; refine A6 4000 ?_; simp[A0t]);refine C9 (fun h=>?_) (fun h=>?_)<;>simp
 ·exact yP hR (h1:=by simp; simp at h; unfold R4; rw[zh h1,zh h2,zh h3,zh h4,zh h5,zk (by simpa using h)])
 have h6:¬(¬(f.kind=1\/f.kind=2)/\¬A4U l f.of=true):=by simpa using h
 exact yP hR (h1:=by simp; unfold R4; rw[zh h1,zh h2,zh h3,zh h4,zh h5,zh h6])
theorem A68(l:List Ty)(i:Nat)(t:Ty)(id:Nat)(hl5:l.length<=5)(hi:l[i]?=some t):A2 Tryz.prog 128 [.sl (l.map H6),.int .i64 i] [] id (.int .i64 (j3 l i t)) []:=by
 have hin:i<l.length:=(ze.1 hi).1;have hF:=T2 (l.take i) t.name;rw[yr] at hF;have hFd:=fun f k id h=>A4V l f (t.fields.take k) id (by omega) h;simp only[M4,yr] at hFd;refine w128.e.1 fun E hP hR hl hid=>?_;simp[w128,hi,H6];refine⟨hin,?_⟩;(refine yH rfl (o6 _ _) ?_; simp);refine C9 (fun h=>?_) (fun h=>?_)<;>simp
 ·exact yP hR (h1:=by simp; simp at h; unfold j3; rw[zk h])
 have h1:¬F2 t.name≠0:=by simpa using h
 refine C9 (fun h=>?_) (fun h=>?_)<;>simp
 ·exact yP hR (h1:=by simp; simp at h; unfold j3; rw[zh h1,zk (show t.name=A3E\/t.name=A9H from h)])
 have h2:¬(t.name=A3E\/t.name=A9H):=by simpa [A3E,A9H] using h
 refine⟨⟨fun a _=>rfl,by omega⟩,?_⟩;(refine yC rfl (hF _ (by simp; omega)) ?_; simp[A3l]);refine C9 (fun h=>?_) (fun h=>?_)<;>simp
 ·exact yP hR (h1:=by simp; unfold j3; rw[zh h1,zh h2,zk h])
 have h3:¬A4U (l.take i) t.name=true:=by simpa using h
 refine C9 (fun h=>?_) (fun h=>?_)<;>simp
 ·exact yP hR (h1:=by simp; simp at h; unfold j3; rw[zh h1,zh h2,zh h3,zk h])
 have h4:¬t.fields=[]:=by simpa using h
 refine C9 (fun h=>?_) (fun h=>?_)<;>simp
 ·exact yP hR (h1:=by simp; simp at h; unfold j3; rw[zh h1,zh h2,zh h3,zh h4,zk (by omega)])
 have h5:¬6<t.fields.length:=by simp at h; omega
 have hft:j3 l i t=B9 (fun k f=>R4 l f (t.fields.take k)) t.fields 0:=by unfold j3; rw[zh h1,zh h2,zh h3,zh h4,zh h5]
 rw[hft] at hR;refine C8 (X:=Nat) (fun k=>⟨[(0,true,.sl (l.map H6)),(5,true,.ptr E.n0 0 0),(48,true,.sl (t.fields.map M4)),(49,true,.int .i64 t.fields.length),(50,true,.int .i64 k)],[(E.n0,some ⟨[.agg [.str t.name,.sl (t.fields.map M4)]],.agg [.str [],.nils],false,false⟩)],1⟩) (fun k=>k<=t.fields.length/\B9 (fun k f=>R4 l f (t.fields.take k)) (t.fields.drop k) k=B9 (fun k f=>R4 l f (t.fields.take k)) t.fields 0) (fun k=>t.fields.length - k) 0 ?_ ⟨by omega,rfl⟩ ?_
 ·refine yV [(E.n0,E.n0+5120)] (by simp) fun hrn=>⟨?_,?_,?_,?_,?_⟩<;>(try simp)
 ·rintro k ⟨hk,hf⟩ p hp;refine A6 4000 ?_;simp;refine C9 (fun h=>?_) (fun h=>?_)
  ·have h:=zp h;obtain⟨x,hx,hd⟩:=B6 h;rw[hd] at hf;simp only[B9] at hf;have hi1:IntKind.i64.wrap ((k:Int)+1)=((k+1:Nat):Int):=wrap64 (by omega);simp[hx,M4];refine⟨h,hk,?_⟩;(refine yH rfl (hFd x k _ (by simp; omega)) ?_; simp);refine C9 (fun h1=>?_) (fun h1=>?_)
   ·simp;rw[zk (by simpa using h1)] at hf;exact yP hR (h1:=by simp; exact hf)
   ·simp;rw[zh (by simpa using h1)] at hf;refine hp _ (k+1) ⟨h,hf⟩ (by omega) ?_;refine yV [(E.n0,E.n0)] (by simp[hi1]) fun hrn=>⟨?_,?_,?_,?_,?_⟩<;>(try simp[hi1])
  ·have h:=zq h;simp;rw[zt (by omega)] at hf;exact yP hR (h1:=by simp; exact hf)
theorem A25(l:List Ty)(id:Nat):A2 Tryz.prog 65 [.sl (l.map H6)] [] id (.int .i64 (F8 l)) []:=by
 refine w65.e.1 fun E hP hR hl hid=>?_;simp[w65];refine C9 (fun h=>?_) (fun h=>?_)<;>simp
 ·exact yP hR (h1:=by simp; simp at h; unfold F8; rw[zk h])
 have h1:¬l=[]:=by simpa using h
 refine C9 (fun h=>?_) (fun h=>?_)<;>simp
 ·exact yP hR (h1:=by simp; simp at h; unfold F8; rw[zh h1,zk (by omega)])
 have h2:¬5<l.length:=by simp at h; omega
 have hft:F8 l=B9 (fun i t=>j3 l i t) l 0:=by unfold F8; rw[zh h1,zh h2]
 rw[hft] at hR;refine C8 (X:=Nat) (fun i=>⟨[(0,true,.sl (l.map H6)),(14,true,.int .i64 l.length),(15,true,.int .i64 i)],[],0⟩) (fun i=>i<=l.length/\B9 (fun i t=>j3 l i t) (l.drop i) i=B9 (fun i t=>j3 l i t) l 0) (fun i=>l.length - i) 0 ?_ ⟨by omega,rfl⟩ ?_
 ·refine yV [] (by simp) fun hrn=>⟨?_,?_,?_,?_,?_⟩<;>(try simp)
 ·rintro i ⟨hi,hf⟩ p hp;refine A6 4000 ?_;simp;refine C9 (fun h=>?_) (fun h=>?_)
  ·have h:=zp h;obtain⟨x,hx,hd⟩:=B6 h;rw[hd] at hf;simp only[B9] at hf;have hi1:IntKind.i64.wrap ((i:Int)+1)=((i+1:Nat):Int):=wrap64 (by omega);simp;(refine yH rfl (A68 l i x _ (by omega) hx) ?_; simp);refine C9 (fun h1=>?_) (fun h1=>?_)
   ·simp;rw[zk (by simpa using h1)] at hf;exact yP hR (h1:=by simp; exact hf)
   ·simp;rw[zh (by simpa using h1)] at hf;refine hp _ (i+1) ⟨h,hf⟩ (by omega) ?_;refine yV [] (by simp[hi1]) fun hrn=>⟨?_,?_,?_,?_,?_⟩<;>(try simp[hi1])
  ·have h:=zq h;simp;rw[zt (by omega)] at hf;exact yP hR (h1:=by simp; exact hf)
structure Ag where
 name:List UInt8
 isText:Bool
 text:List UInt8
 n:Int
def x1(a:Ag):AV:=.agg [.str a.name,.bool a.isText,.str a.text,.int .i64 a.n]
theorem A26(a:Ag):x1 a = .agg [.str a.name,.bool a.isText,.str a.text,.int .i64 a.n]:=rfl
theorem B1m(f:Ag):(x1 f).pureB=true:=rfl
@[simp] theorem B1n (l:List Ag):E7 (l.map x1)=true:=D6 B1m l
@[simp] theorem B5d (S:Nat->Prop) (l:List Ag):D9 S (l.map x1):=A5 _ (B1n l)
inductive D7 where
 | mk (alias name:List UInt8) (args:List Ag) (kids:List D7)
def D7.alias:D7->List UInt8 | .mk a _ _ _=>a
def D7.name:D7->List UInt8 | .mk _ n _ _=>n
def D7.args:D7->List Ag | .mk _ _ x _=>x
def D7.kids:D7->List D7 | .mk _ _ _ k=>k
mutual
def D0:D7->AV
 | .mk a n x k=>.agg [.str a,.str n,.sl (x.map x1),.sl (A5D k)]
def A5D:List D7->List AV
 | []=>[]
 | s::r=>D0 s::A5D r
end
theorem B0D(l:List D7):A5D l=l.map D0:=by
 induction l with
 | nil=>rfl
 | cons s r ih=>simp[A5D,ih]
theorem C7(s:D7):D0 s = .agg [.str s.alias,.str s.name,.sl (s.args.map x1),.sl (s.kids.map D0)]:=by
 cases s with
 | mk a n x k=>simp[D0,B0D,D7.alias,D7.name,D7.args,D7.kids]
mutual
theorem A27:∀s:D7,(D0 s).pureB=true
 | .mk a n x k=>by simp[D0,A3m k]
theorem A3m:∀l:List D7,E7 (A5D l)=true
 | []=>rfl
 | s::r=>by simp[A5D,A27 s,A3m r]
end
@[simp] theorem B6W (R:Rn) (S:Nat->Prop) (a:Ag):J8 R S (x1 a) (x1 a):=U7 rfl rfl
@[simp] theorem B6P (R:Rn) (S:Nat->Prop) (s:D7):J8 R S (D0 s) (D0 s):=U7 rfl (A27 s)
@[simp] theorem B0E (l:List D7):E7 (l.map D0)=true:=D6 A27 l
@[simp] theorem B5A (S:Nat->Prop) (l:List D7):D9 S (l.map D0):=A5 _ (B0E l)
mutual
def D7.sz:D7->Nat
 | .mk _ _ x k=>1+x.length+o8 k
def o8:List D7->Nat
 | []=>0
 | s::r=>s.sz+o8 r
end
theorem A1i(s:D7):s.sz=1+s.args.length+o8 s.kids:=by cases s; rfl
theorem W4(l:List D7):l.length<=o8 l:=by
 induction l with
 | nil=>simp[o8]
 | cons s r ih=>have:=A1i s; simp[o8]; omega
theorem Z6{l:List D7}{s:D7}(h:s∈l):s.sz<=o8 l:=by
 induction l with
 | nil=>cases h
 | cons x r ih =>
  simp only[o8];rcases zi.1 h with rfl|h
  ·omega
  ·have:=ih h; omega
theorem A0Y{l:List D7}{s:D7}(h:s∈l):o8 s.kids<o8 l:=by
 have:=Z6 h; have:=A1i s; omega
def B8(s:D7):List UInt8:=if s.alias≠[] then s.alias else s.name
def B1o(a:Ag):Int :=
 if (a.isText=true/\a.n≠0)\/(a.isText=false/\a.text≠[]) then 1 else if 40<a.text.length then 2 else if ¬(-999999999<=a.n/\a.n<=999999999) then 3 else 0
def B5B(l:List Ag)(n:List UInt8):Bool:=l.any fun x=>x.name==n
def A0Z(a:Ag)(ahead:List Ag):Int :=
 if F2 a.name≠0 then F2 a.name else if B5B ahead a.name=true then 6 else B1o a
def U3(l:List Ag):Int:=if 5<l.length then 2 else B9 (fun k a=>A0Z a (l.take k)) l 0
theorem x2(s:D7)(id:Nat):A2 Tryz.prog 170 [D0 s] [] id (.str (B8 s)) []:=by
 rw[C7];refine w170.e.1 fun E hP hR hl hid=>?_;simp[w170];refine C9 (fun h=>?_) (fun h=>?_)<;>simp
 ·exact yP hR (h1:=by simp; simp at h; unfold B8; rw[zk h])
 ·have h:¬s.alias≠[]:=by simpa using h
  exact yP hR (h1:=by simp; unfold B8; rw[zh h])
theorem A7Q(a:Ag)(id:Nat):A2 Tryz.prog 236 [x1 a] [] id (.int .i64 (B1o a)) []:=by
 unfold x1;refine w236.e.1 fun E hP hR hl hid=>?_;simp[w236];repeat' first
  | (refine And.intro ?_ ?_)
  | (refine C9 (fun h=>?_) (fun h=>?_)<;>simp)
  | (refine yH rfl (w8 _ _) ?_; simp)
 all_goals first
  | (rw[hR]; refine H2 (by simp<;>rfl) [] trivial (X3 ?_ (by simp) (by simp)); simp; done)
  | (rw[hR]; refine H2 (by simp<;>rfl) [] trivial (X3 ?_ (by simp) (by simp)); (try simp); simp[B1o] at *; grind; done)
  | omega
  | (simp_all; done)
  | grind
theorem B1p(x:Ag)(j:Nat)(a:Ag)(id:Nat):A2 Tryz.prog 235 [x1 x,.ptr j 0 0] [(j,⟨[x1 a],.agg [.str [],.bool false,.str [],.int .i64 0],false,false⟩)] id (.bool (x.name==a.name)) []:=by
 unfold x1;refine w235.e.1 fun E hP hR hl hid=>?_;simp[w235];have hj:=hl (j,_) (zb ..);simp only at hj;have j1:=lf hj;simp[j1];refine yE hR [] (by simp[j1,B2 hid]) fun hrn=>⟨?_,?_,?_,?_,?_,?_⟩<;>(try simp[j1,B2 hid])
theorem A8X(l:List Ag)(j:Nat)(a:Ag)(id:Nat)(hl8:l.length<9223372036854775807):A2 Tryz.prog 271 [.sl (l.map x1),.fn 235 [.ptr j 0 0]] [(j,⟨[x1 a],.agg [.str [],.bool false,.str [],.int .i64 0],false,false⟩)] id (.int .i64 (B7 (fun x=>x.name==a.name) l 0)) []:=by
 refine w271.e.1 fun E hP hR hl hid=>?_;simp[w271];have hj:=hl (j,_) (zb ..);simp only at hj;have j1:=lf hj;refine C8 (X:=Nat) (fun i=>⟨[(0,true,.sl (l.map x1)),(1,true,.fn 235 [.ptr j 0 0]),(7,true,.int .i64 l.length),(8,true,.int .i64 i)],[(j,some (⟨[x1 a],.agg [.str [],.bool false,.str [],.int .i64 0],false,false⟩))],0⟩) (fun i=>i<=l.length/\B7 (fun x=>x.name==a.name) (l.drop i) i=B7 (fun x=>x.name==a.name) l 0) (fun i=>l.length - i) 0 ?_ ⟨by omega,rfl⟩ ?_
 ·refine yV [] (by simp[j1]) fun hrn=>⟨?_,?_,?_,?_,?_⟩<;>(try simp[j1])
 ·rintro i ⟨hi,hf⟩ p hp;refine A6 4000 ?_;simp;refine C9 (fun h=>?_) (fun h=>?_)
  ·have h:=zp h;obtain⟨x,hx,hd⟩:=B6 h;have hcl:=B1p x j a;simp only[A26 x] at hcl;rw[hd] at hf;simp only[B7] at hf;have hi1:IntKind.i64.wrap ((i:Int)+1)=((i+1:Nat):Int):=wrap64 (by omega);simp[hx,A26 x];refine⟨h,?_⟩;refine P2 hP rfl rfl (hcl _) (by simp) (by simp[j1]<;>rfl) ?_;refine A6 4000 ?_;simp[j1];refine C9 (fun h1=>?_) (fun h1=>?_)
   ·simp[j1];rw[zk h1] at hf;rw[←hf] at hR;refine yE hR [] (by simp[j1,B7,B2 hid]) fun hrn=>⟨?_,?_,?_,?_,?_,?_⟩<;>(try simp[j1,B7,B2 hid])
   ·simp[j1];rw[zh (by simpa using h1)] at hf;refine hp _ (i+1) ⟨h,hf⟩ (by omega) ?_;refine yV [] (by simp[hi1,j1]) fun hrn=>⟨?_,?_,?_,?_,?_⟩<;>(try simp[hi1,j1])
  ·have h:=zq h;simp;rw[zt (by omega)] at hf;rw[←hf] at hR;refine yE hR [] (by simp[j1,B7,B2 hid]) fun hrn=>⟨?_,?_,?_,?_,?_,?_⟩<;>(try simp[j1,B7,B2 hid])
theorem A4W(l:List Ag)(j:Nat)(a:Ag)(id:Nat)(hl8:l.length<9223372036854775807):A2 Tryz.prog 234 [.sl (l.map x1),.fn 235 [.ptr j 0 0]] [(j,⟨[x1 a],.agg [.str [],.bool false,.str [],.int .i64 0],false,false⟩)] id (.bool (B5B l a.name)) []:=by
 refine w234.e.1 fun E hP hR hl hid=>?_;simp[w234];have hj:=hl (j,_) (zb ..);simp only at hj;have j1:=lf hj;(refine yC rfl (A8X l j a _ hl8) ?_; simp[j1]);refine yE hR [] (by simp[j1,B2 hid]) fun hrn=>⟨?_,?_,?_,?_,?_,?_⟩<;>(try simp[j1,B2 hid]);exact S0 _ l 0
theorem B0F(x:D7)(j:Nat)(s:D7)(id:Nat):A2 Tryz.prog 169 [D0 x,.ptr j 0 0] [(j,⟨[D0 s],.agg [.str [],.str [],.nils,.nils],false,false⟩)] id (.bool (B8 x==B8 s)) []:=by
 have h1:=x2 x;have h2:=x2 s;rw[C7] at h1 h2;rw[C7 x,C7 s];refine w169.e.1 fun E hP hR hl hid=>?_;simp[w169];have hj:=hl (j,_) (zb ..);simp only at hj;have j1:=lf hj;(refine yC rfl (h1 _) ?_; simp[j1]);(refine yC rfl (h2 _) ?_; simp[j1]);refine yE hR [] (by simp[j1,B2 hid]) fun hrn=>⟨?_,?_,?_,?_,?_,?_⟩<;>(try simp[j1,B2 hid])
theorem A7R(l:List D7)(j:Nat)(s:D7)(id:Nat)(hl8:l.length<9223372036854775807):A2 Tryz.prog 237 [.sl (l.map D0),.fn 169 [.ptr j 0 0]] [(j,⟨[D0 s],.agg [.str [],.str [],.nils,.nils],false,false⟩)] id (.int .i64 (B7 (fun x=>B8 x==B8 s) l 0)) []:=by
 refine w237.e.1 fun E hP hR hl hid=>?_;simp[w237];have hj:=hl (j,_) (zb ..);simp only at hj;have j1:=lf hj;refine C8 (X:=Nat) (fun i=>⟨[(0,true,.sl (l.map D0)),(1,true,.fn 169 [.ptr j 0 0]),(7,true,.int .i64 l.length),(8,true,.int .i64 i)],[(j,some (⟨[D0 s],.agg [.str [],.str [],.nils,.nils],false,false⟩))],0⟩) (fun i=>i<=l.length/\B7 (fun x=>B8 x==B8 s) (l.drop i) i=B7 (fun x=>B8 x==B8 s) l 0) (fun i=>l.length - i) 0 ?_ ⟨by omega,rfl⟩ ?_
 ·refine yV [] (by simp[j1]) fun hrn=>⟨?_,?_,?_,?_,?_⟩<;>(try simp[j1])
 ·rintro i ⟨hi,hf⟩ p hp;refine A6 4000 ?_;simp;refine C9 (fun h=>?_) (fun h=>?_)
  ·have h:=zp h;obtain⟨x,hx,hd⟩:=B6 h;have hcl:=B0F x j s;simp only[C7 x] at hcl;rw[hd] at hf;simp only[B7] at hf;have hi1:IntKind.i64.wrap ((i:Int)+1)=((i+1:Nat):Int):=wrap64 (by omega);simp[hx,C7 x];refine⟨h,?_⟩;refine P2 hP rfl rfl (hcl _) (by simp) (by simp[j1]<;>rfl) ?_;refine A6 4000 ?_;simp[j1];refine C9 (fun h1=>?_) (fun h1=>?_)
   ·simp[j1];rw[zk h1] at hf;rw[←hf] at hR;refine yE hR [] (by simp[j1,B7,B2 hid]) fun hrn=>⟨?_,?_,?_,?_,?_,?_⟩<;>(try simp[j1,B7,B2 hid])
   ·simp[j1];rw[zh (by simpa using h1)] at hf;refine hp _ (i+1) ⟨h,hf⟩ (by omega) ?_;refine yV [] (by simp[hi1,j1]) fun hrn=>⟨?_,?_,?_,?_,?_⟩<;>(try simp[hi1,j1])
  ·have h:=zq h;simp;rw[zt (by omega)] at hf;rw[←hf] at hR;refine yE hR [] (by simp[j1,B7,B2 hid]) fun hrn=>⟨?_,?_,?_,?_,?_,?_⟩<;>(try simp[j1,B7,B2 hid])
theorem A3n(l:List D7)(j:Nat)(s:D7)(id:Nat)(hl8:l.length<9223372036854775807):A2 Tryz.prog 168 [.sl (l.map D0),.fn 169 [.ptr j 0 0]] [(j,⟨[D0 s],.agg [.str [],.str [],.nils,.nils],false,false⟩)] id (.bool (l.any fun x=>B8 x==B8 s)) []:=by
 refine w168.e.1 fun E hP hR hl hid=>?_;simp[w168];have hj:=hl (j,_) (zb ..);simp only at hj;have j1:=lf hj;(refine yC rfl (A7R l j s _ hl8) ?_; simp[j1]);refine yE hR [] (by simp[j1,B2 hid]) fun hrn=>⟨?_,?_,?_,?_,?_,?_⟩<;>(try simp[j1,B2 hid]);exact S0 _ l 0
theorem A69(l:List Ag)(id:Nat):A2 Tryz.prog 167 [.sl (l.map x1)] [] id (.int .i64 (U3 l)) []:=by
 refine w167.e.1 fun E hP hR hl hid=>?_;simp[w167];refine C9 (fun h=>?_) (fun h=>?_)<;>simp
 ·exact yP hR (h1:=by simp; simp at h; unfold U3; rw[zk (by omega)])
 have h5:¬5<l.length:=by simp at h; omega
 have hft:U3 l=B9 (fun k a=>A0Z a (l.take k)) l 0:=by unfold U3; rw[zh h5]
 rw[hft] at hR;refine C8 (X:=Nat) (fun i=>⟨[(0,true,.sl (l.map x1)),(9,true,.sl (l.map x1)),(10,true,.int .i64 l.length),(11,true,.int .i64 i)],[],0⟩) (fun i=>i<=l.length/\B9 (fun k a=>A0Z a (l.take k)) (l.drop i) i=B9 (fun k a=>A0Z a (l.take k)) l 0) (fun i=>l.length - i) 0 ?_ ⟨by omega,rfl⟩ ?_
 ·refine yV [] (by simp) fun hrn=>⟨?_,?_,?_,?_,?_⟩<;>(try simp)
 ·rintro i ⟨hi,hf⟩ p hp;refine A6 4000 ?_;simp;refine C9 (fun h=>?_) (fun h=>?_)
  ·have h:=zp h;obtain⟨x,hx,hd⟩:=B6 h;rw[hd] at hf;simp only[B9] at hf;have hi1:IntKind.i64.wrap ((i:Int)+1)=((i+1:Nat):Int):=wrap64 (by omega);have hC:=fun j=>A4W (l.take i) j x;simp only[yr] at hC;have hA:=A7Q x;rw[A26] at hA;simp[hx,A26 x];refine⟨h,?_⟩;(refine yH rfl (o6 x.name _) ?_; simp);refine⟨fun h0=>⟨h0,fun a _=>rfl,hi⟩,?_⟩;refine K3 hP (by simp) rfl (fun hc=>⟨hC (E.n0+4096) _ (by simp; omega),by revert hc; simp; try grind,by simp<;>rfl⟩) ?_;refine A6 4000 ?_;simp;refine C9 (fun h1=>?_) (fun h1=>?_)<;>simp
   ·simp at h1;have hv:A0Z x (l.take i)=6:=(by unfold A0Z; rw[zh (by simp[h1.1]),zk h1.2]);rw[hv,zk (by decide)] at hf;exact yP hR (h1:=by simp; exact hf)
   ·refine C9 (fun h2=>?_) (fun h2=>?_)<;>simp
    ·simp at h1 h2;have hv:A0Z x (l.take i)=B1o x:=(by unfold A0Z; rw[zh (by simp[h2]),zh (by simp[h1 h2])]);rw[hv] at hf;(refine yH rfl (hA _) ?_; simp);refine C9 (fun h3=>?_) (fun h3=>?_)<;>simp
     ·rw[zk (by simpa using h3)] at hf;exact yP hR (h1:=by simp; exact hf)
     ·rw[zh (by simpa using h3)] at hf;refine hp _ (i+1) ⟨h,hf⟩ (by omega) ?_;refine yV [] (by simp[hi1]) fun hrn=>⟨?_,?_,?_,?_,?_⟩<;>(try simp[hi1])
    ·have h2:F2 x.name≠0:=(by simpa using h2);have hv:A0Z x (l.take i)=F2 x.name:=(by unfold A0Z; rw[zk h2]);rw[hv,zk h2] at hf;refine D5 (by simpa using h2) ?_;simp;exact yP hR (h1:=by simp; exact hf)
  ·have h:=zq h;simp;rw[zt (by omega)] at hf;exact yP hR (h1:=by simp; exact hf)
def N2:Nat->List D7->Nat
 | 0,l=>l.length
 | m+1,l=>l.length+(l.map fun s=>N2 m s.kids).sum
def J2:Nat->List D7->Nat
 | 0,l=>min l.length 1
 | m+1,l=>l.foldl (fun d s=>max d (J2 m s.kids+1)) (min l.length 1)
def Y7(m:Nat)(l:List D7)(i:Nat):Nat:=l.length+((l.take i).map fun s=>N2 m s.kids).sum
def A14(m:Nat)(l:List D7)(i:Nat):Nat:=(l.take i).foldl (fun d s=>max d (J2 m s.kids+1)) (min l.length 1)
theorem A06(m:Nat)(l:List D7):Y7 m l 0=l.length:=by simp[Y7]
theorem A07(m:Nat)(l:List D7):A14 m l 0=min l.length 1:=by simp[A14]
theorem I7{α:Type}{l:List α}{i:Nat}{x:α}(hx:l[i]?=some x):l.take (i+1)=l.take i++[x]:=by rw[xw,hx]; rfl
theorem A3o{m:Nat}{l:List D7}{i:Nat}{x:D7}(hx:l[i]?=some x):Y7 m l (i+1)=Y7 m l i+N2 m x.kids:=by
 simp[Y7,I7 hx]; omega
theorem A3p{m:Nat}{l:List D7}{i:Nat}{x:D7}(hx:l[i]?=some x):A14 m l (i+1)=max (A14 m l i) (J2 m x.kids+1):=by
 simp[A14,I7 hx]
theorem A5E{m:Nat}{l:List D7}{i:Nat}(h:l.length<=i):Y7 m l i=N2 (m+1) l:=by simp[Y7,N2,zn h]
theorem A5F{m:Nat}{l:List D7}{i:Nat}(h:l.length<=i):A14 m l i=J2 (m+1) l:=by simp[A14,J2,zn h]
theorem A3q{m:Nat}(h:∀l,N2 m l<=o8 l):∀l:List D7,l.length+(l.map fun s=>N2 m s.kids).sum<=o8 l
 | []=>by simp
 | s::r=>by
  have h1:=A3q h r;have h2:=h s.kids;have h3:=A1i s;simp only[o8,yz,yd,ud];omega
theorem A7S:∀(m:Nat) (l:List D7),N2 m l<=o8 l
 | 0,l=>W4 l
 | m+1,l=>A3q (A7S m) l
theorem A7T(m:Nat)(l:List D7)(i:Nat):Y7 m l i<=o8 l:=by
 have h1:=A3q (A7S m) l;have h2:((l.take i).map fun s=>N2 m s.kids).sum+((l.drop i).map fun s=>N2 m s.kids).sum=(l.map fun s=>N2 m s.kids).sum:=by
  rw[←uz,←xu,xa]
 unfold Y7;omega
theorem A5G{m k:Nat}(h:∀l,J2 m l<=k):∀(l:List D7) (a:Nat),a<=k+1->l.foldl (fun d s=>max d (J2 m s.kids+1)) a<=k+1
 | [],a,ha=>ha
 | s::r,a,ha=>by
  simp only[wv];exact A5G h r _ (by have:=h s.kids; omega)
theorem A3r:∀(m:Nat) (l:List D7),J2 m l<=m+1
 | 0,l=>by simp only[J2]; omega
 | m+1,l=>A5G (A3r m) l _ (by omega)
theorem A6A:∀(m:Nat) (l:List D7) (id:Nat),m<=1000->o8 l<=1099511627776->A2 Tryz.prog 99 [.sl (l.map D0),.int .i64 m] [] id (.tup [.int .i64 (N2 m l),.int .i64 (J2 m l)]) []
 | 0,l,id,hm,hl=>by
  have hlen:=W4 l;refine w99.e.1 fun E hP hR hl hid=>?_;simp[w99];refine C8 (X:=Unit) (fun _=>⟨[(0,true,.sl (l.map D0)),(1,true,.int .i64 0),(6,true,.int .i64 l.length),(7,true,.int .i64 (J2 0 l)),(17,true,.sl (l.map D0)),(18,true,.int .i64 l.length),(19,true,.int .i64 0)],[],0⟩) (fun _=>True) (fun _=>0) () ?_ trivial ?_
  ·refine yV [] (by simp[J2]) fun hrn=>⟨?_,?_,?_,?_,?_⟩<;>(try simp[J2]);all_goals omega
  ·rintro i - p hp;refine A6 4000 ?_;simp;refine C9 (fun h=>?_) (fun h=>?_)
   ·have h:=zp h;obtain⟨x,hx,hd⟩:=B6 (l:=l) (i:=0) (by omega);simp[hx,C7 x];refine⟨by omega,?_⟩;exact yP hR (h1:=by simp; simp[N2])
   ·simp;exact yP hR (h1:=by simp; simp[N2])
 | m+1,l,id,hm,hl=>by
  have hlen:=W4 l;refine w99.e.1 fun E hP hR hl hid=>?_;simp[w99];refine C8 (X:=Nat) (fun i=>⟨[(0,true,.sl (l.map D0)),(1,true,.int .i64 (m+1)),(6,true,.int .i64 (Y7 m l i)),(7,true,.int .i64 (A14 m l i)),(17,true,.sl (l.map D0)),(18,true,.int .i64 l.length),(19,true,.int .i64 i)],[],0⟩) (fun i=>i<=l.length) (fun i=>l.length - i) 0 ?_ (by omega) ?_
  ·refine yV [] (by simp[A06,A07]) fun hrn=>⟨?_,?_,?_,?_,?_⟩<;>(try simp[A06,A07]);all_goals omega
  ·rintro i hi p hp;refine A6 4000 ?_;simp;refine C9 (fun h=>?_) (fun h=>?_)
   ·have h:=zp h;obtain⟨x,hx,hd⟩:=B6 h;have hi1:IntKind.i64.wrap ((i:Int)+1)=((i+1:Nat):Int):=wrap64 (by omega);have hxm:x∈l:=zf hx;have ih:=A6A m x.kids;simp[hx,C7 x];refine⟨h,A0 (by simp; omega) ?_⟩;have hm1:IntKind.i64.wrap (m:Int)=(m:Int):=wrap64 (by omega);have hsz:=A0Y hxm;have hs:=A3o (m:=m) hx;have hsd:=A3p (m:=m) hx;have hs1:IntKind.i64.wrap ((Y7 m l i:Int)+N2 m x.kids)=((Y7 m l (i+1):Nat):Int):=(by rw[hs,wrap64 (by have:=A7T m l (i+1); omega)]; omega);have hs2:IntKind.i64.wrap ((J2 m x.kids:Int)+1)=((J2 m x.kids+1:Nat):Int):=wrap64 (by have:=A3r m x.kids; omega);simp[hm1];(refine yC rfl (ih _ (by omega) (by omega)) ?_; simp[hs1,hs2]);refine hp _ (i+1) (by omega) (by omega) ?_;refine yV [] (by simp[hi1,hsd]) fun hrn=>⟨?_,?_,?_,?_,?_⟩<;>(try simp[hi1,hsd]);all_goals trace "TAIL 1"
    all_goals trace_state
    all_goals omega
   ·have h:=zq h;simp;exact yP hR (h1:=by simp; rw[A5E (by omega),A5F (by omega)]; exact⟨rfl,rfl⟩)
def A2k(s:D7)(ah:List D7):Int :=
 if F2 s.name≠0 then F2 s.name else if s.alias≠[]/\F2 s.alias≠0 then F2 s.alias else if U3 s.args≠0 then U3 s.args
 else if (ah.any fun x=>B8 x==B8 s)=true then 6 else 0
mutual
def B1q:D7->Int
 | .mk _ _ _ k=>N7 k []
def N7:List D7->List D7->Int
 | [],_=>0
 | s::r,ah=>if A2k s ah≠0 then A2k s ah else if B1q s≠0 then B1q s else N7 r (ah++[s])
end
def fNm(s:D7):Int:=if F2 s.name≠0 then F2 s.name else if s.alias≠[] then F2 s.alias else 0
theorem A3s(s:D7)(ah:List D7):A2k s ah=if fNm s≠0 then fNm s else if U3 s.args≠0 then U3 s.args else if (ah.any fun x=>B8 x==B8 s)=true then 6 else 0:=by
 unfold A2k fNm;split
 ·rfl
 ·split
  ·rename_i h; rw[zk h.1,zk h.2]
  ·rename_i h;by_cases ha:s.alias≠[]
   ·have:F2 s.alias=0:=zm fun h0=>h ⟨ha,h0⟩;rw[zk ha,this]; rfl
   ·rw[zh ha]; rfl
theorem A1j(s:D7):B1q s=N7 s.kids []:=by cases s; rfl
theorem A3t:∀(n:Nat) (l:List D7) (id:Nat),o8 l<n->o8 l<=1099511627776->A2 Tryz.prog 100 [.sl (l.map D0)] [] id (.int .i64 (N7 l [])) []
 | 0,l,id,hn,hl=>by omega
 | n+1,l,id,hn,hl=>by
  have ih:=A3t n;have hlen:=W4 l;refine w100.e.1 fun E hP hR hl hid=>?_;simp[w100];refine C8 (X:=Nat) (fun i=>⟨[(0,true,.sl (l.map D0)),(6,true,.sl (l.map D0)),(7,true,.int .i64 l.length),(8,true,.int .i64 i)],[],0⟩) (fun i=>i<=l.length/\N7 (l.drop i) (l.take i)=N7 l []) (fun i=>l.length - i) 0 ?_ ⟨by omega,rfl⟩ ?_
  ·refine yV [] (by simp) fun hrn=>⟨?_,?_,?_,?_,?_⟩<;>(try simp)
  ·rintro i ⟨hi,hf⟩ p hp;refine A6 4000 ?_;simp;refine C9 (fun h=>?_) (fun h=>?_)
   ·have h:=zp h;obtain⟨x,hx,hd⟩:=B6 h;rw[hd] at hf;simp only[N7] at hf;rw[←I7 hx] at hf;have hi1:IntKind.i64.wrap ((i:Int)+1)=((i+1:Nat):Int):=wrap64 (by omega);have hxm:x∈l:=zf hx;have hsz:=A0Y hxm;have hC:=fun j=>A3n (l.take i) j x;simp only[yr] at hC;simp[hx,C7 x];refine⟨h,?_⟩;refine C6 hP rfl (o6 x.name _) (by simp) (by simp<;>rfl) ?_;refine B1d (X:=Int) (fun e=>⟨[(0,true,.sl (l.map D0)),(3,true,.int .i64 i),(4,true,.ptr E.n0 0 0),(5,true,.int .i64 e),(6,true,.sl (l.map D0)),(7,true,.int .i64 l.length),(8,true,.int .i64 i)],[(E.n0,some ⟨[.agg [.str x.alias,.str x.name,.sl (x.args.map x1),.sl (x.kids.map D0)]],.agg [.str [],.str [],.nils,.nils],false,false⟩)],1⟩) (fun e=>e=fNm x) (fun q hq=>?_) (fun e he=>?_)
    ·refine A6 4000 ?_;simp;refine C9 (fun h1=>?_) (fun h1=>?_)<;>simp
     ·simp at h1;(refine yH rfl (o6 x.alias _) ?_; simp);refine hq _ (F2 x.alias) (by unfold fNm; rw[zh (by simp[h1.1]),zk h1.2]) ?_;refine yV [(E.n0,E.n0+4096)] (by simp) fun hrn=>⟨?_,?_,?_,?_,?_⟩<;>(try simp)
     ·simp at h1;refine hq _ (F2 x.name) (by
       unfold fNm;split
       ·rfl
       ·rename_i h0;have h0:F2 x.name=0:=(by simpa using h0);rw[zh (by simp[h1 h0]),h0]) ?_
      refine yV [(E.n0,E.n0+4096)] (by simp) fun hrn=>⟨?_,?_,?_,?_,?_⟩<;>(try simp)
    ·subst he;rw[A3s] at hf;refine A6 4000 ?_;simp;refine C9 (fun h2=>?_) (fun h2=>?_)<;>simp
     ·have h2:fNm x=0:=(by simpa using h2);rw[h2] at hf;simp only[ne_eq,not_true_eq_false,if_false] at hf;(refine yH rfl (A69 x.args _) ?_; simp);refine⟨fun h0=>⟨h0,fun a _=>by rw[C7]; rfl,hi⟩,?_⟩;refine K3 hP (by simp) rfl (fun hc=>⟨hC E.n0 _ (by simp; omega),by revert hc; simp; try grind,by simp[C7 x]<;>rfl⟩) ?_;refine A6 4000 ?_;simp;refine C9 (fun h3=>?_) (fun h3=>?_)<;>simp
      ·simp only[yh,beq_iff_eq] at h3;rw[h3.1] at hf;simp only[ne_eq,not_true_eq_false,if_false] at hf;rw[zk h3.2,zk (by decide)] at hf;exact yP hR (h1:=by simp; exact hf)
      ·refine C9 (fun h4=>?_) (fun h4=>?_)<;>simp
       ·have h4:U3 x.args=0:=(by simpa using h4);rw[h4] at hf;simp only[ne_eq,not_true_eq_false,if_false] at hf;have h3':¬((l.take i).any fun y=>B8 y==B8 x)=true:=by
         rw[h4] at h3;simpa using h3
        rw[zh h3'] at hf;simp only[ne_eq,not_true_eq_false,if_false] at hf;rw[A1j] at hf;(refine yH rfl (ih x.kids _ (by omega) (by omega)) ?_; simp);refine C9 (fun h5=>?_) (fun h5=>?_)<;>simp
        ·rw[zk (by simpa using h5)] at hf;exact yP hR (h1:=by simp; exact hf)
        ·rw[zh (by simpa using h5)] at hf;refine hp _ (i+1) ⟨h,hf⟩ (by omega) ?_;refine yV [] (by simp[hi1]) fun hrn=>⟨?_,?_,?_,?_,?_⟩<;>(try simp[hi1])
       ·have h4:U3 x.args≠0:=(by simpa using h4);rw[zk h4,zk h4] at hf;refine D5 (by simpa using h4) ?_;simp;exact yP hR (h1:=by simp; exact hf)
     ·have h2:fNm x≠0:=(by simpa using h2);rw[zk h2,zk h2] at hf;refine⟨fun h0=>(h2 h0).elim,?_⟩;refine o5 (.bool false) (by simp) (fun hg=>by simp at hg; exact (h2 hg).elim) (fun _=>?_);refine A6 4000 ?_;simp[h2];refine A0 (by simpa using h2) ?_;simp;refine D5 (by simpa using h2) ?_;simp;exact yP hR (h1:=by simp; exact hf)
   ·have h:=zq h;simp;rw[zt (by omega)] at hf;exact yP hR (h1:=by simp; exact hf)
def N6(l:List D7):Int:=if l=[] then 5 else if 40<N2 5 l\/5<J2 5 l then 2 else N7 l []
theorem B1r(l:List D7)(id:Nat)(h:o8 l<=1099511627776):A2 Tryz.prog 99 [.sl (l.map D0),.int .i64 5] [] id (.tup [.int .i64 (N2 5 l),.int .i64 (J2 5 l)]) []:=A6A 5 l id (by omega) h
theorem B0G(l:List D7)(id:Nat)(h:o8 l<=1099511627776):A2 Tryz.prog 41 [.sl (l.map D0)] [] id (.int .i64 (N6 l)) []:=by
 refine w41.e.1 fun E hP hR hl hid=>?_;simp[w41];refine C9 (fun h1=>?_) (fun h1=>?_)<;>simp
 ·exact yP hR (h1:=by simp; simp at h1; unfold N6; rw[zk h1])
 have h1:¬l=[]:=by simpa using h1
 (refine yH rfl (B1r l _ h) ?_; simp);refine C9 (fun h2=>?_) (fun h2=>?_)<;>simp
 ·exact yP hR (h1:=by simp; simp at h2; unfold N6; rw[zh h1,zk (by omega)])
 ·have h2:¬(40<N2 5 l\/5<J2 5 l):=by simp at h2; omega
  (refine yH rfl (A3t (o8 l+1) l _ (by omega) h) ?_; simp);exact yP hR (h1:=by simp; unfold N6; rw[zh h1,zh h2])
theorem L5{α:Type}(p:α->Bool):∀(l:List α) (i:Nat),(l.find? p=none/\B7 p l i = -1)\/∃k x,l[k]?=some x/\B7 p l i=((i+k:Nat):Int)/\l.find? p=some x
 | [],i=>.inl ⟨rfl,rfl⟩
 | y::r,i=>by
  by_cases hy:p y=true
  ·exact .inr ⟨0,y,rfl,by simp[B7,hy],by simp[hy]⟩
  ·rcases L5 p r (i+1) with⟨h1,h2⟩|⟨k,x,h1,h2,h3⟩
   ·exact .inl ⟨by simp[hy,h1],by simp[B7,hy,h2]⟩
   ·refine .inr ⟨k+1,x,by simpa using h1,?_,by simp[hy,h3]⟩;rw[B7,zh hy,h2]; congr 1; omega
def A0a:List UInt8:=[102,105,114,115,116]
def A0b(name:List UInt8)(may:Bool)(least most:Int)(a:Ag):Int :=
 if a.name≠name\/may=false then 5 else if a.isText=true then 7 else if a.n<least\/most<a.n then 3 else 0
def J3(l:List Ag)(name:List UInt8)(may:Bool)(least most:Int):Int:=U9 (A0b name may least most) l
def fieldAt(t:Ty)(name:List UInt8):Option Fd:=if name=o7 then some ⟨o7,1,[]⟩ else t.fields.find? fun x=>x.name==name
def V0(l:List Ty)(name:List UInt8):Option Ty:=l.find? fun x=>x.name==name
mutual
def A8Y(l:List Ty)(t:Ty):D7->Int
 | .mk _ name args kids=>match fieldAt t name with
  | none=>5
  | some x=>if J3 args A0a (x.kind==4) 0 999999999≠0 then J3 args A0a (x.kind==4) 0 999999999
   else if ((x.kind==3||x.kind==4)==kids.isEmpty)=true then 4
   else if (x.kind==3||x.kind==4)=false then 0
   else match V0 l x.of with
    | none=>0
    | some t'=>X4 l t' kids
def X4(l:List Ty)(t:Ty):List D7->Int
 | []=>0
 | s::r=>if A8Y l t s≠0 then A8Y l t s else X4 l t r
end
theorem A3F(l:List Ty)(t:Ty)(s:D7):A8Y l t s=match fieldAt t s.name with
  | none=>5
  | some x=>if J3 s.args A0a (x.kind==4) 0 999999999≠0 then J3 s.args A0a (x.kind==4) 0 999999999
   else if ((x.kind==3||x.kind==4)==s.kids.isEmpty)=true then 4
   else if (x.kind==3||x.kind==4)=false then 0
   else match V0 l x.of with
    | none=>0
    | some t'=>X4 l t' s.kids:=by cases s; rfl
def A1k(l:List Ty)(s:D7):Int:=match V0 l s.name with
 | none=>5
 | some t=>if J3 s.args o7 true 1 999≠0 then J3 s.args o7 true 1 999 else if s.kids=[] then 4 else X4 l t s.kids
def Y8(l:List Ty)(q:List D7):Int:=U9 (A1k l) q
def M0(l:List Ty)(q:List D7):Int:=if F8 l≠0 then F8 l else if N6 q≠0 then N6 q else Y8 l q
def A3u(l:List Ty):Prop:=∀t∈l,∀f∈t.fields,(f.kind=3\/f.kind=4)->A4U l f.of=true
theorem A7U(l:List Ag)(name:List UInt8)(may:Bool)(least most:Int)(id:Nat)(hlen:l.length<9223372036854775807):A2 Tryz.prog 184 [.sl (l.map x1),.str name,.bool may,.int .i64 least,.int .i64 most] [] id (.int .i64 (J3 l name may least most)) []:=by
 refine w184.e.1 fun E hP hR hl hid=>?_;simp[w184];refine C8 (X:=Nat) (fun i=>⟨[(1,true,.str name),(2,true,.bool may),(3,true,.int .i64 least),(4,true,.int .i64 most),(13,true,.sl (l.map x1)),(14,true,.int .i64 l.length),(15,true,.int .i64 i)],[],0⟩) (fun i=>i<=l.length/\J3 (l.drop i) name may least most=J3 l name may least most) (fun i=>l.length - i) 0 ?_ ⟨by omega,rfl⟩ ?_
 ·refine yV [] (by simp) fun hrn=>⟨?_,?_,?_,?_,?_⟩<;>(try simp)
 ·rintro i ⟨hi,hf⟩ p hp;refine A6 4000 ?_;simp;refine C9 (fun h=>?_) (fun h=>?_)
  ·have h:=zp h;obtain⟨x,hx,hd⟩:=B6 h;have hf':=hf;rw[hd] at hf;simp only[J3,U9] at hf;have hi1:IntKind.i64.wrap ((i:Int)+1)=((i+1:Nat):Int):=wrap64 (by omega);simp[hx,A26 x];refine⟨h,?_⟩;refine C9 (fun h1=>?_) (fun h1=>?_)<;>simp
   ·have hv:A0b name may least most x=5:=(by simp at h1; unfold A0b; rw[zk h1]);rw[hv] at hf;exact yP hR (h1:=by simp; exact hf)
   refine C9 (fun h2=>?_) (fun h2=>?_)<;>simp
   ·have hv:A0b name may least most x=7:=(by simp at h1; unfold A0b; rw[zh (by simp[h1]),zk h2]);rw[hv] at hf;exact yP hR (h1:=by simp; exact hf)
   refine C9 (fun h3=>?_) (fun h3=>?_)<;>simp
   ·have hv:A0b name may least most x=3:=(by simp at h1 h3; unfold A0b; rw[zh (by simp[h1]),zh (by simp[h2]),zk h3]);rw[hv] at hf;exact yP hR (h1:=by simp; exact hf)
   ·have hv:A0b name may least most x=0:=(by simp at h1 h3; unfold A0b; rw[zh (by simp[h1]),zh (by simp[h2]),zh (by omega)]);rw[hv] at hf;refine hp _ (i+1) ⟨h,by simpa [J3] using hf⟩ (by omega) ?_;refine yV [] (by simp[hi1]) fun hrn=>⟨?_,?_,?_,?_,?_⟩<;>(try simp[hi1])
  ·have h:=zq h;simp;rw[zt (by omega)] at hf;exact yP hR (h1:=by simp; exact hf)
theorem A2l(l:List Ag)(may:Bool)(id:Nat)(hlen:l.length<9223372036854775807):A2 Tryz.prog 184 [.sl (l.map x1),.str [102,105,114,115,116],.bool may,.int .i64 0,.int .i64 999999999] [] id (.int .i64 (J3 l A0a may 0 999999999)) []:=A7U l A0a may 0 999999999 id hlen
theorem B1s(l:List Ag)(id:Nat)(hlen:l.length<9223372036854775807):A2 Tryz.prog 184 [.sl (l.map x1),.str [105,100],.bool true,.int .i64 1,.int .i64 999] [] id (.int .i64 (J3 l o7 true 1 999)) []:=A7U l o7 true 1 999 id hlen
def bxF(l:List Ty):Bx:=⟨[.agg [.sl (l.map H6)]],.agg [.sl (l.map H6)],false,false⟩
theorem B5C(l:List Ty)(t:Ty)(s:D7)(j id:Nat)(hL:∀f∈t.fields,(f.kind=3\/f.kind=4)->A4U l f.of=true)(hl8:l.length<=1000)(ht8:t.fields.length<=1000)(hs8:s.args.length<9223372036854775807)
  (ih:∀k t' id,l[k]?=some t'->A2 Tryz.prog 185 [.ptr j 0 0,.int .i64 (k:Nat),.sl (s.kids.map D0)] [(j,bxF l)] id (.int .i64 (X4 l t' s.kids)) []) :
  A2 Tryz.prog 253 [.ptr j 0 0,H6 t,D0 s] [(j,bxF l)] id (.int .i64 (A8Y l t s)) []:=by
 have hf8:t.fields.length<9223372036854775807:=by omega
 by_cases hn:s.name=o7
 ·have hV:=fun id=>A2l s.args false id hs8;rw[C7,A3F,fieldAt,zk hn];unfold H6;simp only[bxF,show ((1:Int)==4)=false from rfl,show ((1:Int)==3)=false from rfl,ti] at ih hV ⊢;generalize J3 s.args A0a false 0 999999999=e1 at hV ⊢;rw[hn];unfold o7;refine w253.e.1 fun E hP hR hl hid=>?_;simp[w253];have hj:=hl (j,_) (zb ..);simp only at hj;have j1:=lf hj;(refine yC rfl (hV _) ?_; simp[j1]);refine C9 (fun h1=>?_) (fun h1=>?_)
  ·simp[j1];rw[zk (by simpa using h1)] at hR;refine yE hR [] (by simp[j1,B2 hid]) fun hrn=>⟨?_,?_,?_,?_,?_,?_⟩<;>(try simp[j1,B2 hid])
  ·simp[j1];rw[zh (by simpa using h1)] at hR;refine C9 (fun h2=>?_) (fun h2=>?_)
   ·have hk0:s.kids.isEmpty=false:=(by simpa using h2);simp[j1];rw[hk0,zk (by rfl)] at hR;refine yE hR [] (by simp[j1,B2 hid]) fun hrn=>⟨?_,?_,?_,?_,?_,?_⟩<;>(try simp[j1,B2 hid])
   ·have hk0:s.kids.isEmpty=true:=(by simpa using h2);simp[j1];rw[hk0,zh (by decide),zk (by first|rfl|trivial)] at hR;refine yE hR [] (by simp[j1,B2 hid]) fun hrn=>⟨?_,?_,?_,?_,?_,?_⟩<;>(try simp[j1,B2 hid])
 ·rcases L5 (fun x=>x.name==s.name) t.fields 0 with⟨q1,q2⟩|⟨k,x,q1,q2,q3⟩
  ·have hF:=A05 t.fields t.name s.name;rw[C7,A3F,fieldAt,zh hn,q1];rw[q2] at hF;have hn':¬s.name=[105,100]:=hn;unfold H6;simp only[bxF] at ih ⊢;refine w253.e.1 fun E hP hR hl hid=>?_;simp[w253];have hj:=hl (j,_) (zb ..);simp only at hj;have j1:=lf hj;refine D5 (by simpa using hn') ?_;simp[j1];(refine yC rfl (hF _ hf8) ?_; simp[j1]);refine yE hR [] (by simp[j1,B2 hid]) fun hrn=>⟨?_,?_,?_,?_,?_,?_⟩<;>(try simp[j1,B2 hid])
  ·have hF:=A05 t.fields t.name s.name;have hk:=(ze.1 q1).1;have hxm:=zf q1;have hV:=fun id=>A2l s.args (x.kind==4) id hs8;rw[C7,A3F,fieldAt,zh hn,q3];rw[q2] at hF;have hn':¬s.name=[105,100]:=hn;unfold H6;simp only[bxF,yu] at ih hV hF ⊢;generalize J3 s.args A0a (x.kind==4) 0 999999999=e1 at hV ⊢;refine w253.e.1 fun E hP hR hl hid=>?_;simp[w253];have hj:=hl (j,_) (zb ..);simp only at hj;have j1:=lf hj;refine D5 (by simpa using hn') ?_;simp[j1];(refine yC rfl (hF _ hf8) ?_; simp[j1]);refine A0 (by simp) ?_;simp[j1,q1,M4];refine⟨hk,?_⟩;(refine yC rfl (hV _) ?_; simp[j1]);refine C9 (fun h1=>?_) (fun h1=>?_)
   ·simp[j1];try simp only at hR
    rw[zk (by simpa using h1)] at hR;refine yE hR [] (by simp[j1,B2 hid]) fun hrn=>⟨?_,?_,?_,?_,?_,?_⟩<;>(try simp[j1,B2 hid])
   ·simp[j1];try simp only at hR
    rw[zh (by simpa using h1)] at hR;have hlk:((s.kids.length:Int)==0)=s.kids.isEmpty:=(by rw[xp]; simp);simp only[hlk];refine C9 (fun h2=>?_) (fun h2=>?_)
    ·try simp[j1]
     rw[zk (by simpa using h2)] at hR;refine yE hR [] (by simp[j1,B2 hid]) fun hrn=>⟨?_,?_,?_,?_,?_,?_⟩<;>(try simp[j1,B2 hid])
    ·try simp[j1]
     rw[zh (by simpa using h2)] at hR;refine C9 (fun h3=>?_) (fun h3=>?_)
     ·try simp[j1]
      rw[zk (by simpa using h3)] at hR;refine yE hR [] (by simp[j1,B2 hid]) fun hrn=>⟨?_,?_,?_,?_,?_,?_⟩<;>(try simp[j1,B2 hid])
     ·try simp[j1]
      rw[zh (by simpa using h3)] at hR;have hkd:x.kind=3\/x.kind=4:=(by simp at h3; omega);have hof:=hL x hxm hkd;rcases L5 (fun t=>t.name==x.of) l 0 with⟨r1,r2⟩|⟨k2,t',r1,r2,r3⟩
      ·exact absurd hof (by rw[←A3l,r2]; decide)
      ·have hX:=T2 l x.of;rw[r2,yu] at hX;rw[V0,r3] at hR;(refine yC rfl (hX _ (by omega)) ?_; simp[j1]);(refine yC rfl (ih k2 t' _ r1) ?_; simp[j1]);refine yE hR [] (by simp[j1,B2 hid]) fun hrn=>⟨?_,?_,?_,?_,?_,?_⟩<;>(try simp[j1,B2 hid])
theorem A9I(l:List Ty)(hL:A3u l)(hl8:l.length<=1000)(ht8:∀t∈l,t.fields.length<=1000):∀(n:Nat) (q:List D7) (j k:Nat) (t:Ty) (id:Nat),o8 q<n->o8 q<=1099511627776->l[k]?=some t ->
  A2 Tryz.prog 185 [.ptr j 0 0,.int .i64 (k:Nat),.sl (q.map D0)] [(j,bxF l)] id (.int .i64 (X4 l t q)) []
 | 0,q,j,k,t,id,hn,hq8,hk=>by omega
 | n+1,q,j,k,t,id,hn,hq8,hk=>by
  have ih:=A9I l hL hl8 ht8 n;have hlen:=W4 q;have htm:=zf hk;have hkl:=(ze.1 hk).1;simp only[bxF] at ih ⊢;refine w185.e.1 fun E hP hR hl hid=>?_;simp[w185];have hj:=hl (j,_) (zb ..);simp only at hj;have j1:=lf hj;refine C8 (X:=Nat) (fun i=>⟨[(0,true,.ptr j 0 0),(1,true,.int .i64 k),(10,true,.sl (q.map D0)),(11,true,.int .i64 q.length),(12,true,.int .i64 i)],[(j,some ⟨[.agg [.sl (l.map H6)]],.agg [.sl (l.map H6)],false,false⟩)],0⟩) (fun i=>i<=q.length/\X4 l t (q.drop i)=X4 l t q) (fun i=>q.length - i) 0 ?_ ⟨by omega,rfl⟩ ?_
  ·refine yV [] (by simp[j1]) fun hrn=>⟨?_,?_,?_,?_,?_⟩<;>(try simp[j1])
  ·rintro i ⟨hi,hf⟩ p hp;refine A6 4000 ?_;simp[j1];refine C9 (fun h=>?_) (fun h=>?_)
   ·have h:=zp h;obtain⟨x,hx,hd⟩:=B6 h;have hxm:x∈q:=zf hx;have hsz:=A0Y hxm;have hsx:=Z6 hxm;have hse:=A1i x;have hK:=fun id=>B5C l t x j id (hL t htm) hl8 (ht8 t htm) (by omega) (fun k t' id hk=>ih x.kids j k t' id (by omega) (by omega) hk);rw[hd] at hf;simp only[X4] at hf;have hi1:IntKind.i64.wrap ((i:Int)+1)=((i+1:Nat):Int):=wrap64 (by omega);rw[C7] at hK;simp only[H6,bxF] at hK;simp[hx,hk,C7 x,H6,j1];refine⟨h,hkl,?_⟩;(refine yC rfl (hK _) ?_; simp[j1]);refine C9 (fun h1=>?_) (fun h1=>?_)
    ·simp[j1];rw[zk (by simpa using h1)] at hf;rw[←hf] at hR;refine yE hR [] (by simp[j1,B2 hid]) fun hrn=>⟨?_,?_,?_,?_,?_,?_⟩<;>(try simp[j1,B2 hid])
    ·simp[j1];rw[zh (by simpa using h1)] at hf;refine hp _ (i+1) ⟨h,hf⟩ (by omega) ?_;refine yV [] (by simp[hi1,j1]) fun hrn=>⟨?_,?_,?_,?_,?_⟩<;>(try simp[hi1,j1])
   ·have h:=zq h;simp[j1];rw[zt (by omega)] at hf;rw[←hf] at hR;refine yE hR [] (by simp[j1,X4,B2 hid]) fun hrn=>⟨?_,?_,?_,?_,?_,?_⟩<;>(try simp[j1,X4,B2 hid])
theorem N0{α:Type}(f:Nat->α->Int):∀(l:List α) (i:Nat),B9 f l i=0->∀k x,l[k]?=some x->f (i+k) x=0
 | [],i,h,k,x,hx=>by simp at hx
 | y::r,i,h,k,x,hx=>by
  simp only[B9] at h;split at h
  ·rename_i h0; exact (h0 h).elim
  ·rename_i h0;cases k with
   | zero=>simp at hx; subst hx; exact zm h0
   | succ k=>have:=N0 f r (i+1) h k x (by simpa using hx); rw[show i+(k+1)=i+1+k by omega]; exact this
structure A3v(l:List Ty):Prop where
 ne:l≠[]
 len:l.length<=5
 linked:A3u l
 fields:∀t∈l,t.fields.length<=6
 names:∀t∈l,F2 t.name=0
 kinds:∀t∈l,∀f∈t.fields,1<=f.kind/\f.kind<=4
 fnames:∀t∈l,∀f∈t.fields,F2 f.name=0/\f.name≠o7
theorem A5H{l:List Ty}(h:F8 l=0):A3v l:=by
 unfold F8 at h;split at h
 ·simp at h
 rename_i h1;split at h
 ·simp at h
 rename_i h2;have hT:∀t∈l,∃i,j3 l i t=0:=fun t ht=>by
  obtain⟨i,hi⟩:=yk.1 ht;exact⟨0+i,N0 _ _ _ h i t hi⟩
 have hT2:∀t∈l,F2 t.name=0/\t.fields.length<=6/\B9 (fun k f=>R4 l f (t.fields.take k)) t.fields 0=0:=fun t ht=>by
  obtain⟨i,hi⟩:=hT t ht;unfold j3 at hi;repeat' split at hi
  all_goals first|omega|(exact⟨by simp_all,by omega,hi⟩)|simp_all
 have hF:∀t∈l,∀f∈t.fields,(F2 f.name=0/\f.name≠o7)/\(1<=f.kind/\f.kind<=4)/\((f.kind=3\/f.kind=4)->A4U l f.of=true):=fun t ht f hf=>by
  obtain⟨k,hk⟩:=yk.1 hf;have h0:=N0 _ _ _ (hT2 t ht).2.2 k f hk;unfold R4 at h0;repeat' split at h0
  all_goals first|omega|skip
  all_goals try (simp_all; done)
  rename_i g1 g2 g3 g4 g5 g6;refine⟨⟨zm g1,g2⟩,by omega,fun hk=>zm fun hn=>g6 ⟨by omega,hn⟩⟩
 exact⟨h1,by omega,fun t ht f hf=>(hF t ht f hf).2.2,fun t ht=>(hT2 t ht).2.1,fun t ht=>(hT2 t ht).1,fun t ht f hf=>(hF t ht f hf).2.1,fun t ht f hf=>(hF t ht f hf).1⟩
theorem A9J(l:List Ty)(s:D7)(j id:Nat)(hL:A3u l)(hl8:l.length<=1000)(ht8:∀t∈l,t.fields.length<=1000)(hs8:s.sz<=1099511627776):
  A2 Tryz.prog 118 [.ptr j 0 0,D0 s] [(j,bxF l)] id (.int .i64 (A1k l s)) []:=by
 have hse:=A1i s;rcases L5 (fun t=>t.name==s.name) l 0 with⟨r1,r2⟩|⟨k,t,r1,r2,r3⟩
 ·have hX:=T2 l s.name;rw[r2] at hX;rw[C7,A1k,V0,r1];simp only[bxF];refine w118.e.1 fun E hP hR hl hid=>?_;simp[w118];have hj:=hl (j,_) (zb ..);simp only at hj;have j1:=lf hj;simp[j1];(refine yC rfl (hX _ (by omega)) ?_; simp[j1]);refine yE hR [] (by simp[j1,B2 hid]) fun hrn=>⟨?_,?_,?_,?_,?_,?_⟩<;>(try simp[j1,B2 hid])
 ·have hX:=T2 l s.name;rw[r2,yu] at hX;rw[C7,A1k,V0,r3];have hV:=fun id=>B1s s.args id (by omega);have hK:=fun id=>A9I l hL hl8 ht8 (o8 s.kids+1) s.kids j k t id (by omega) (by omega) r1;generalize J3 s.args o7 true 1 999=e1 at hV ⊢;simp only[bxF] at hK ⊢;refine w118.e.1 fun E hP hR hl hid=>?_;simp[w118];have hj:=hl (j,_) (zb ..);simp only at hj;have j1:=lf hj;simp[j1];(refine yC rfl (hX _ (by omega)) ?_; simp[j1]);refine A0 (by simp) ?_;simp[j1];(refine yC rfl (hV _) ?_; simp[j1]);refine C9 (fun h1=>?_) (fun h1=>?_)
  ·simp[j1];rw[zk (by simpa using h1)] at hR;refine yE hR [] (by simp[j1,B2 hid]) fun hrn=>⟨?_,?_,?_,?_,?_,?_⟩<;>(try simp[j1,B2 hid])
  ·simp[j1];rw[zh (by simpa using h1)] at hR;refine C9 (fun h2=>?_) (fun h2=>?_)
   ·simp[j1];rw[zk (by simpa using h2)] at hR;refine yE hR [] (by simp[j1,B2 hid]) fun hrn=>⟨?_,?_,?_,?_,?_,?_⟩<;>(try simp[j1,B2 hid])
   ·simp[j1];rw[zh (by simpa using h2)] at hR;(refine yC rfl (hK _) ?_; simp[j1]);refine yE hR [] (by simp[j1,B2 hid]) fun hrn=>⟨?_,?_,?_,?_,?_,?_⟩<;>(try simp[j1,B2 hid])
theorem B3k(l:List Ty)(q:List D7)(id:Nat)(hL:A3u l)(hl8:l.length<=1000)(ht8:∀t∈l,t.fields.length<=1000)(hq8:o8 q<=1099511627776):
  A2 Tryz.prog 57 [.sl (l.map H6),.sl (q.map D0)] [] id (.int .i64 (Y8 l q)) []:=by
 have hlen:=W4 q;refine w57.e.1 fun E hP hR hl hid=>?_;simp[w57];refine C8 (X:=Nat) (fun i=>⟨[(5,true,.ptr E.n0 0 0),(12,true,.sl (q.map D0)),(13,true,.int .i64 q.length),(14,true,.int .i64 i)],[(E.n0,some ⟨[.agg [.sl (l.map H6)]],.agg [.sl (l.map H6)],false,false⟩)],1⟩) (fun i=>i<=q.length/\Y8 l (q.drop i)=Y8 l q) (fun i=>q.length - i) 0 ?_ ⟨by omega,rfl⟩ ?_
 ·refine yV [(E.n0,E.n0+3072)] (by simp) fun hrn=>⟨?_,?_,?_,?_,?_⟩<;>(try simp)
 ·rintro i ⟨hi,hf⟩ p hp;refine A6 4000 ?_;simp;refine C9 (fun h=>?_) (fun h=>?_)
  ·have h:=zp h;obtain⟨x,hx,hd⟩:=B6 h;have hxm:x∈q:=zf hx;have hsx:=Z6 hxm;have hK:=fun id=>A9J l x E.n0 id hL hl8 ht8 (by omega);rw[hd] at hf;simp only[Y8,U9] at hf;have hi1:IntKind.i64.wrap ((i:Int)+1)=((i+1:Nat):Int):=wrap64 (by omega);rw[C7] at hK;simp only[bxF] at hK;simp[hx,C7 x];refine⟨h,?_⟩;(refine yH rfl (hK _) ?_; simp);refine C9 (fun h1=>?_) (fun h1=>?_)
   ·simp;rw[zk (by simpa using h1)] at hf;rw[←show _=Y8 l q from hf] at hR;exact yP hR
   ·simp;rw[zh (by simpa using h1)] at hf;refine hp _ (i+1) ⟨h,hf⟩ (by omega) ?_;refine yV [(E.n0,E.n0)] (by simp[hi1]) fun hrn=>⟨?_,?_,?_,?_,?_⟩<;>(try simp[hi1])
  ·have h:=zq h;simp;rw[zt (by omega)] at hf;rw[←hf] at hR;exact yP hR (h1:=by simp; rfl)
theorem B0H(l:List Ty)(q:List D7)(id:Nat)(hq8:o8 q<=1099511627776):
  A2 Tryz.prog 62 [.sl (l.map H6),.sl (q.map D0)] [] id (.int .i64 (M0 l q)) []:=by
 refine w62.e.1 fun E hP hR hl hid=>?_;simp[w62];(refine yH rfl (A25 l _) ?_; simp);refine C9 (fun h1=>?_) (fun h1=>?_)<;>simp
 ·have h1:F8 l=0:=by simpa using h1
  have hs:=A5H h1;(refine yH rfl (B0G q _ hq8) ?_; simp);refine C9 (fun h2=>?_) (fun h2=>?_)<;>simp
  ·have h2:N6 q=0:=(by simpa using h2);(refine yH rfl (B3k l q _ hs.linked (by have:=hs.len; omega) (fun t ht=>by have:=hs.fields t ht; omega) hq8) ?_; simp);exact yP hR (h1:=by simp; unfold M0; rw[zh (by simp[h1]),zh (by simp[h2])])
  ·have h2:N6 q≠0:=(by simpa using h2);exact yP hR (h1:=by simp; unfold M0; rw[zh (by simp[h1]),zk h2])
 ·have h1:F8 l≠0:=by simpa using h1
  refine A0 (by simpa using h1) ?_;simp;exact yP hR (h1:=by simp; unfold M0; rw[zk h1])
def mB(x:D7):Bx:=⟨[D0 x],.agg [.str [],.str [],.nils,.nils],false,false⟩
theorem A0c(x:D7):mB x=⟨[.agg [.str x.alias,.str x.name,.sl (x.args.map x1),.sl (x.kids.map D0)]],.agg [.str [],.str [],.nils,.nils],false,false⟩:=by
 unfold mB; rw[C7]
theorem B0I(x:D7)(M:Nat)(id:Nat)(hl:o8 [x]<=1099511627776):A2 Tryz.prog 99 [.bsl M 0 1,.int .i64 5] [(M,mB x)] id (.tup [.int .i64 (N2 5 [x]),.int .i64 (J2 5 [x])]) []:=by
 have hsz:=A0Y (l:=[x]) (s:=x) (by simp);rw[A0c];refine w99.e.1 fun E hP hR hl hid=>?_;simp[w99];have hM:=hl (M,_) (zb ..);simp only at hM;have M1:=lf hM;refine C8 (X:=Nat) (fun i=>⟨[(0,true,.bsl M 0 1),(1,true,.int .i64 5),(6,true,.int .i64 (Y7 4 [x] i)),(7,true,.int .i64 (A14 4 [x] i)),(17,true,.bsl M 0 1),(18,true,.int .i64 1),(19,true,.int .i64 i)],[(M,some ⟨[.agg [.str x.alias,.str x.name,.sl (x.args.map x1),.sl (x.kids.map D0)]],.agg [.str [],.str [],.nils,.nils],false,false⟩)],0⟩) (fun i=>i<=1) (fun i=>1 - i) 0 ?_ (by omega) ?_
 ·refine yV [] (by simp[A06,A07,M1]) fun hrn=>⟨?_,?_,?_,?_,?_⟩<;>(try simp[A06,A07,M1])
 ·rintro i hi p hp;by_cases h:i=0
  ·subst h;have ih:=A6A 4 x.kids;have hx:([x]:List D7)[0]?=some x:=rfl;have hs:Y7 4 [x] 1=_:=A3o (m:=4) hx;have hsd:A14 4 [x] 1=_:=A3p (m:=4) hx;have hs1:IntKind.i64.wrap ((Y7 4 [x] 0:Int)+N2 4 x.kids)=((Y7 4 [x] 1:Nat):Int):=(by rw[hs,wrap64 (by have:=A7T 4 [x] 1; omega)]; omega);have hs2:IntKind.i64.wrap ((J2 4 x.kids:Int)+1)=((J2 4 x.kids+1:Nat):Int):=wrap64 (by have:=A3r 4 x.kids; omega);refine A6 4000 ?_;simp[M1];(refine yC rfl (ih _ (by omega) (by omega)) ?_; simp[hs1,hs2,M1]);refine hp _ 1 (by omega) (by omega) ?_;refine yV [] (by simp[hsd,M1]) fun hrn=>⟨?_,?_,?_,?_,?_⟩<;>(try simp[hsd,M1]);exact⟨by omega,wrap64 (by omega)⟩
  ·have h:i=1:=(by omega);subst h;refine A6 4000 ?_;simp[M1];refine yE hR [] (by simp[M1,B2 hid]) fun hrn=>⟨?_,?_,?_,?_,?_,?_⟩<;>(try simp[M1,B2 hid]);rw[A5E (by simp),A5F (by simp)]; exact⟨rfl,rfl⟩
end Go.Am
namespace Go.Am
open Go Go.RowKit
theorem B1t{P:Program}{op:Op}{n:Nat}{x hi:G7}(h:I3 P op=some (.sli n x none (some hi))):∃(t:TypeId) (X H:Operand) (e:TypeId),op = .slice t X none (some H) none/\opd X=some x/\opd H=some hi/\P.underlying t=some (.slice e)/\u5 P e=some n:=by
 unfold I3 at h;split at h
 all_goals try simp only[L8,V7,V8,Y2,V9,W3] at h
 all_goals repeat' split at h
 all_goals first|cases h; done|(refine (A0R h ?_).elim; intro a h; cases h; done)|skip
 rename_i t X LO HI _ _ _ _ xo loo hio e hX hL hH ht;obtain⟨m,hm,h2⟩:=zj.1 h;injection h2 with e1 e2 e3 e4
 subst e1 e2 e3 e4;cases LO with
 | some L =>
  simp only[A6e,zj] at hL;obtain⟨_,_,hL⟩:=hL;cases hL
 | none =>
  cases HI with
  | none=>simp[A6e] at hH
  | some H =>
   simp only[A6e,zj] at hH;obtain⟨hi',h3,h4⟩:=hH;injection h4 with h4
   subst h4;exact⟨t,X,H,e,rfl,hX,h3,ht,hm⟩
theorem B3l{P:Program}{n:Nat}{x hi:G7}{J off len l:Nat}{b:Bx}{id:Nat}(hl:l<=len)(h1:0<len)(hb:off+len<=b.xs.length)(hsz:∀z∈b.xs,z.cells.length=n):
  B1D P (.sli n x none (some hi)) [.bsl J off len,.int .i64 l] [(J,b)] id (.bsl J off l) []:=by
 intro op hcomp C ρ G bx w ve o hρ ho ha hs hh hu hr;obtain⟨t,X,L,e,rfl,hX,hL,ht,hz⟩:=B1t hcomp;simp only[W6.args,Option.toList_some,Option.toList_none,yd,ww,List.cons.injEq,and_true,xi] at ha;have rX:RV G w (.bsl J off len) (ρ X):=by
  rw[←ha.1]; exact hr X (by simp[Op.operands]) x hX
 have rL:RV G w (.int .i64 l) (ρ L):=by
  rw[←ha.2]; exact hr L (by simp[Op.operands]) hi hL
 have hbJ:=hh _ (xm.2 rfl);simp only at hbJ;obtain⟨z0,hz0⟩:∃z0,b.xs[0]?=some z0:=⟨_,zd (by omega)⟩;obtain⟨blk,s,cur,el,k1,k2,k3,⟨k4,k5⟩,k6,k7⟩:=hs.box J b hbJ (hs.lies hbJ hz0);have hs1:s=n:=by rw[←(k6 0 z0 hz0).1]; exact hsz z0 (zf hz0)
 subst hs1;cases rX with|bsl _ _ _ _ hone hu2 hbm hnl =>
 obtain⟨cp,cur',el',hv,hlc,hcm,hh2,hz2⟩:=hbm blk s k1;have hbd:=A17 (P:=P) (isS:=true) (cap:=cp) (w:=w) (G:=G) (len:=len) (hi:=some (.int .i64 l)) (lo:=none) (h:=l) hlc (by simp[A2W]; omega) (l:=0) (by simp[A0N]) (hiv:=some (ρ L)) (lov:=none) trivial rL;have hne:cp≠0:=by omega
 have hrun:(Instr.sliceAt t (ρ X) none (some (ρ L)) none).run P w = .ok (.slice (some ⟨blk,off*s,none⟩) l cp) w:=by
  rw[hv];simp only[Instr.sliceAt,Sem.run_bind,run_underlying ht,Result.andThen_ok,Instr.slice,hbd,K0 hz,Sem.run_pure];rw[zh hne];simp[Addr.add_lit]
 have hexec:(execOp ρ o).run P w = .ok (.value (.slice (some ⟨blk,off*s,none⟩) l cp)) w:=by
  unfold execOp;simp only[ho,vf,Option.map_none,Sem.run_bind,hrun,Result.andThen_ok,Sem.run_pure]
 refine J0.still hs hexec (.bsl J off l _ rfl hu2 (fun b' s' hb'=>?_) fun hn=>?_) _
 ·rw[k1] at hb';injection hb' with hb'
  injection hb' with e1 e2
  subst e1 e2;exact⟨cp,cur',el',rfl,by omega,hcm,hh2,hz2⟩
 ·exact absurd hn (hs.lies hbJ hz0)
section
variable {E:R9} {σ:St} {k:List Itm} {P:Program}
theorem B5D(hP:E.P=P){op:W6}(hk:op.isRaw=true){dst:Option Nat}{g:Option (Nat×Bool)}{us:List Nat}{l:List CR}{j:Nat}{acc:List RR}{ps:List (Nat×Nat)}{args:List AV}{rd:List (Nat×Bx)}{v:AV}{wr:List (Nat×Option Bx)}
  (hg:A0Q (lk σ.fr) g) (hc:Q8 (lk σ.fr) g=true) (ha:op.args.map (H9 (lk σ.fr))=args) (hr:B1D P op args rd (E.n0+(σ.k+1024*j)) v wr) (hu:A03 (lk σ.fr) us) (hh:X2 (bk σ.bx) rd) (h:Wk E (.ops l (j+1) (j0 ps ⟨true,v,rd,wr⟩ acc) ps::k) (σ.app dst ⟨true,v,rd,wr⟩)) :
  Wk E (.ops (⟨dst,g,us,op⟩::l) j acc ps::k) σ:=by
 subst hP ha;refine A2x (r:=⟨true,v,rd,wr⟩) ⟨hg,hc.symm,fun _=>.raw op _ hk hu ?_ hh.has,fun h=>by cases h⟩ (Y5 h);rw[yx]; exact hr
end
theorem A6B{E:R9}{σ:St}{k:List Itm}{dst:Option Nat}{g:Option (Nat×Bool)}{us:List Nat}{op:W6}{l:List CR}{j:Nat}{acc:List RR}{ps:List (Nat×Nat)}(hg:A0Q (lk σ.fr) g)(hc:Q8 (lk σ.fr) g=false)
  (h:Wk E (.ops l (j+1) (j0 ps ⟨false,.nilp,[],[]⟩ acc) ps::k) (σ.app dst ⟨false,.nilp,[],[]⟩)):Wk E (.ops (⟨dst,g,us,op⟩::l) j acc ps::k) σ :=
 A2x (r:=⟨false,.nilp,[],[]⟩) ⟨hg,hc.symm,(fun h=>by cases h),fun _=>rfl⟩ (Y5 h)
end Go.Am
