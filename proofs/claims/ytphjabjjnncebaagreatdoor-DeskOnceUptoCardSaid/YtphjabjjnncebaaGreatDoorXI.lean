/- Parts of the proof: an abstract machine for Go functions, and what functions of the program give back (Dk5, Dk6, Dk7, Dkp, Dk9, Dk12, CcS, Sc1, Dw1, Sc2, Sc3, Sc4, St1). No condition. -/
import Derived.Test.YtphjabjjnncebaaGreatDoorXH
import Derived.Test.YtphjabjjnncebaaGreatDoorXG
import Derived.Test.YtphjabjjnncebaaGreatDoorXE
import Derived.Test.YtphjabjjnncebaaGreatDoorXF
set_option maxRecDepth 100000
set_option linter.all false
set_option maxHeartbeats 1000000
namespace Go.Am
open Go Go.Proofs Go.RowKit
def H3(l:List (List UInt8)):List Bt:=l.flatMap fun s=>(C6 s 0).bs
theorem B8t(s:List UInt8):(C6 s 0).bs.length<=s.length:=by
 have:=(A4u s).2.2;have:=(M9 s 0 (by omega)).2.2.2.2.2.1;omega
theorem C1l(l:List (List UInt8))(syn:Int)(id:Nat)(hl8:l.length<=8)(h4:∀s∈l,s.length<=400):A2 Tryz.prog 155 [.agg [.sl (l.map AV.str),.int .i64 syn]] [] id (.sl ((H3 l).map Y9)) []:=by
 refine w155.e.1 fun E hP hR hl hid=>?_;simp[w155];refine D0 (X:=Nat×List Bt) (fun x=>⟨[(3,true,.bsl E.n0 0 x.2.length),(10,true,.sl (l.map AV.str)),(11,true,.int .i64 l.length),(12,true,.int .i64 x.1)],[(E.n0,some ⟨x.2.map Y9,.agg [.int .i64 0,.nils],false,false⟩)],1⟩)
  (fun x=>x.1<=l.length/\x.2++H3 (l.drop x.1)=H3 l/\x.2.length<=400*x.1) (fun x=>l.length - x.1) (0,[]) ?_ ⟨by simp,rfl,by simp⟩ ?_
 ·refine E4.trans (E4.voidSlot 3 (x:=.nils) (y:=.bsl (E.n0+7168) 0 0) (by simp) .nils (.agg [.int .i64 0,.nils])) ?_;refine yV [(E.n0,E.n0+7168)] (by simp) fun hrn=>⟨?_,?_,?_,?_,?_⟩<;>(try simp)
 ·rintro⟨i,bs⟩ ⟨hi,hf,hbl⟩ p hp;simp only at hi hf hbl hp;refine A3 4000 ?_;simp;refine E5 (fun h=>?_) (fun h=>?_)
  ·have h:=zr h;obtain⟨x,hx,hd⟩:=B2 h;have hi1:IntKind.i64.wrap ((i:Int)+1)=((i+1:Nat):Int):=A5 (by omega);have hx4:=h4 x (zg hx);have hcb:=B8t x;simp[hx];refine⟨h,?_⟩;(refine yH rfl (B49 x _ hx4) ?_; simp);refine⟨⟨fun a _=>⟨rfl,fun y hy=>?_⟩,by omega,by omega⟩,hp _ (i+1,bs++(C6 x 0).bs) ⟨h,?_,by simp; omega⟩ (by simp only[]; omega) ?_⟩
   ·have hy:y∈(Y9 a).cells:=hy;simp only[Y9,AV.cells,zh,yn,or_false] at hy;rcases hy with rfl|rfl<;>rfl
   ·rw[←hf,hd]; simp[H3]
   ·refine yV [(E.n0,E.n0+15361)] (by simp[hi1]) fun hrn=>⟨?_,?_,?_,?_,?_⟩<;>(try simp[hi1]);exact C2 rfl (C4 (A4t _) (A4t _))
  ·have h:=zp h;simp;rw[zn (by omega)] at hf;have hf:bs=H3 l:=(by simpa [H3] using hf);rw[←hf] at hR;have hrn:H5 []:=(by simp[A4 hid]);rw[hR];refine L6 (by simp<;>rfl) (by simp[A4 hid]<;>exact⟨rfl,rfl⟩) [] hrn ⟨?_,?_,?_,?_,?_,?_⟩<;>(try simp[A4 hid])
@[simp] theorem C56 (l:List (List UInt8)) (s:List UInt8):(A1E l s).length=l.length:=by simp[A1E]
@[simp] theorem C4e (l:List (List UInt8)) (n:Nat):(A2s l n).length=l.length:=by simp[A2s]
@[simp] theorem C4f (l:List (List UInt8)) (s:List UInt8) (f:List UInt8->AV):List.take l.length ((A1E l s).map f)=(A1E l s).map f:=zq (by simp)
@[simp] theorem C3k (l:List (List UInt8)) (n:Nat) (f:List UInt8->AV):List.take l.length ((A2s l n).map f)=(A2s l n).map f:=zq (by simp)
structure WhS where
 seg:List (List UInt8)
 syn:Nat
def whole(l:List (List UInt8)):WhS:=⟨A2s l (C6 (B6 l) 0).last,(C6 (B6 l) 0).last⟩
theorem A7l(l:List (List UInt8))(syn:Int)(id:Nat)(hl8:l.length<=8)(h4:(B6 l).length<=400):A2 Tryz.prog 50 [.agg [.sl (l.map AV.str),.int .i64 syn]] [] id (.agg [.sl ((whole l).seg.map AV.str),.int .i64 (whole l).syn]) []:=by
 have hown:=B4A l syn;have hend:=fun k j id (h:k≠j)=>B5P k j l syn id hl8 h4 h;have htrim:=fun k j id (h:k≠j)=>C1h k j l (C6 (B6 l) 0).last (C6 (B6 l) 0).last id hl8 (M9 (B6 l) 0 (by omega)).2.1 h4 h;simp only[bxK,bxS] at hown hend htrim;refine w50.e.1 fun E hP hR hl hid=>?_;simp[w50];(refine yH rfl (hown _ (by omega)) ?_; simp);simp[yq];(refine yC rfl (hend (E.n0+3072) (E.n0+3073) _ (by simp)) ?_; simp[yq]);(refine yC rfl (htrim (E.n0+3072) (E.n0+3073) _ (by simp)) ?_; simp[yq]);have hrn:H5 []:=by simp[whole,A4 hid]
 rw[hR];refine L6 (by simp<;>rfl) (by simp[whole,A4 hid]<;>exact⟨rfl,rfl⟩) [] hrn ⟨?_,?_,?_,?_,?_,?_⟩<;>(try simp[whole,A4 hid])
theorem A02{d:Dk}(h:F2 d≠2):d.seg.length<=8/\∀s∈d.seg,s.length<=400:=by
 unfold F2 at h;split at h
 ·exact (h rfl).elim
 ·rename_i h1;simp at h1;exact⟨h1.1,h1.2⟩
theorem B6s{l:List (List UInt8)}(h:l≠[]):B6 l∈l:=zg (o7 h)
theorem A3D{l:List (List UInt8)}(h:∀s∈l,s.length<=400):(B6 l).length<=400:=by
 by_cases hl:l=[]
 ·subst hl; simp[B6]
 ·exact h _ (B6s hl)
theorem C1m(d:Dk)(id:Nat):A2 Tryz.prog 89 [eDk d] [] id (.tup [.sl ((if F2 d=0 then H3 d.seg else []).map Y9),eDk (if F2 d=0 then ⟨(whole d.seg).seg,(whole d.seg).syn⟩ else ⟨[],0⟩),.int .i64 (F2 d)]) []:=by
 have hck:=A5e d;simp only[eDk] at hck ⊢;refine w89.e.1 fun E hP hR hl hid=>?_;simp[w89];(refine yH rfl (hck _) ?_; simp);refine E5 (fun h=>?_) (fun h=>?_)
 ·simp;have h':¬F2 d=0:=by simpa using h
  simp only[zf h'] at hR;refine yE hR [] (by simp[A4 hid]) fun hrn=>⟨?_,?_,?_,?_,?_,?_⟩<;>(try simp[A4 hid])
 ·simp;have h':F2 d=0:=by simpa using h
  simp only[zj h'] at hR;obtain⟨h8,h4⟩:=A02 (by rw[h']; decide);(refine yH rfl (C1l d.seg d.syn _ h8 h4) ?_; simp);(refine yH rfl (A7l d.seg d.syn _ h8 (A3D h4)) ?_; simp);refine yE hR [] (by simp[h',A4 hid]) fun hrn=>⟨?_,?_,?_,?_,?_,?_⟩<;>(try simp[h',A4 hid])
structure ApS where
 d:Dk
 e:Int
def H7(d:Dk)(b:Bt):ApS :=
 if F2 d≠0 then ⟨⟨[],0⟩,F2 d⟩
 else if I2 b≠0 then ⟨⟨[],0⟩,I2 b⟩
 else if (C6 (B6 d.seg) 0).last<(B6 d.seg).length then ⟨⟨[],0⟩,4⟩
 else if d.seg≠[]/\(B6 d.seg).length+(C5 b).length<=400 then ⟨⟨A1E d.seg (B6 d.seg++C5 b),d.syn⟩,0⟩
 else if d.seg.length=8 then ⟨⟨[],0⟩,2⟩
 else ⟨⟨d.seg++[C5 b],0⟩,0⟩
theorem B6t(d:Dk)(b:Bt)(id:Nat):A2 Tryz.prog 87 [eDk d,Y9 b] [] id (.tup [eDk (H7 d b).d,.int .i64 (H7 d b).e]) []:=by
 have hck:=A5e d;have hbk:=A9X b;have hby:=fun id (h:I2 b=0)=>B8q b id (A0t h).2.2.2 (A0t h).2.2.1;have hown:=B4A d.seg d.syn;have htorn:=fun k j id (h8:d.seg.length<=8) (h4:(B6 d.seg).length<=400) (h:k≠j)=>B5Q k j d.seg d.syn id h8 h4 h;have hpa:=fun k j id (h1) (h2) (h3) (h:k≠j)=>C1i k j d.seg d.syn (C5 b) id h1 h2 h3 h;have hpb:=fun k j id (h1) (h2) (h3) (h4) (h:k≠j)=>C1j k j d.seg d.syn (C5 b) id h1 h2 h3 h4 h;have hpc:=fun k j id (h1) (h2) (h3) (h4) (h:k≠j)=>C1k k j d.seg d.syn (C5 b) id h1 h2 h3 h4 h;simp only[eDk,Y9,bxK,bxS] at *;refine w87.e.1 fun E hP hR hl hid=>?_;simp[w87];(refine yH rfl (hck _) ?_; simp);refine E5 (fun h=>?_) (fun h=>?_)
 ·have h':F2 d=0:=by simpa using h
  obtain⟨h8,h4⟩:=A02 (by rw[h']; decide);have hl4:=A3D h4;simp;(refine yH rfl (hbk _) ?_; simp);refine E5 (fun h1=>?_) (fun h1=>?_)
  ·simp;have h1':I2 b≠0:=(by simpa using h1);have hv:H7 d b=⟨⟨[],0⟩,I2 b⟩:=(by unfold H7; rw[zf (by simp[h']),zj h1']);rw[hv] at hR;refine yE hR [] (by simp[A4 hid]) fun hrn=>⟨?_,?_,?_,?_,?_,?_⟩<;>(try simp[A4 hid])
  ·simp;have h1':I2 b=0:=(by simpa using h1);have hbl:(C5 b).length<=400:=(by have:=A1U b h1'; simp[C5]; omega);(refine yC rfl (hown _ (by omega)) ?_; simp[yq]);(refine yC rfl (htorn (E.n0+15360) (E.n0+15361) _ h8 hl4 (by simp)) ?_; simp[yq]);refine E5 (fun h2=>?_) (fun h2=>?_)
   ·simp;have h2':=zr h2;have hv:H7 d b=⟨⟨[],0⟩,4⟩:=(by unfold H7; rw[zf (by simp[h']),zf (by simp[h1']),zj h2']);rw[hv] at hR;refine yE hR [] (by simp[A4 hid]) fun hrn=>⟨?_,?_,?_,?_,?_,?_⟩<;>(try simp[A4 hid])
   ·simp;have h2':=zp h2;(refine yH rfl (hby _ h1') ?_; simp);by_cases hp:d.seg≠[]/\(B6 d.seg).length+(C5 b).length<=400
    ·have hv:H7 d b=⟨⟨A1E d.seg (B6 d.seg++C5 b),d.syn⟩,0⟩:=(by unfold H7; rw[zf (by simp[h']),zf (by simp[h1']),zf h2',zj hp]);rw[hv] at hR;(refine yC rfl (hpa (E.n0+15360) (E.n0+15361) _ h8 hp.1 hp.2 (by simp)) ?_; simp[yq]);have hrn:H5 []:=(by simp[A4 hid]);rw[hR];refine L6 (by simp<;>rfl) (by simp[A4 hid]<;>exact⟨rfl,rfl⟩) [] hrn ⟨?_,?_,?_,?_,?_,?_⟩<;>(try simp[A4 hid])
    ·by_cases h88:d.seg.length=8
     ·have hv:H7 d b=⟨⟨[],0⟩,2⟩:=(by unfold H7; rw[zf (by simp[h']),zf (by simp[h1']),zf h2',zf hp,zj h88]);rw[hv] at hR;have hne:d.seg≠[]:=(by intro h0; rw[h0] at h88; simp at h88);(refine yC rfl (hpb (E.n0+15360) (E.n0+15361) _ h88 (fun h0=>hp ⟨hne,h0⟩) hl4 (by omega) (by simp)) ?_; simp[yq]);refine yE hR [] (by simp[A4 hid]) fun hrn=>⟨?_,?_,?_,?_,?_,?_⟩<;>(try simp[A4 hid])
     ·have hv:H7 d b=⟨⟨d.seg++[C5 b],0⟩,0⟩:=(by unfold H7; rw[zf (by simp[h']),zf (by simp[h1']),zf h2',zf hp,zf h88]);rw[hv] at hR;have hor:d.seg=[]\/¬(B6 d.seg).length+(C5 b).length<=400:=by
       by_cases hne:d.seg=[]
       ·exact .inl hne
       ·exact .inr fun h0=>hp ⟨hne,h0⟩
      (refine yC rfl (hpc (E.n0+15360) (E.n0+15361) _ (by omega) hor hl4 (by omega) (by simp)) ?_; simp[yq]);have hrn:H5 []:=(by simp[A4 hid]);rw[hR];refine L6 (by simp<;>rfl) (by simp[A4 hid]<;>exact⟨rfl,rfl⟩) [] hrn ⟨?_,?_,?_,?_,?_,?_⟩<;>(try simp[A4 hid]);exact⟨zq (by simp),by rw[zq (by simp)]; exact B3 _ (C4 (A16 _) rfl)⟩
 ·have h':¬F2 d=0:=by simpa using h
  simp;refine A9 (by simpa using h') ?_;simp;have hv:H7 d b=⟨⟨[],0⟩,F2 d⟩:=by unfold H7; rw[zj h']
  rw[hv] at hR;refine yE hR [] (by simp[A4 hid]) fun hrn=>⟨?_,?_,?_,?_,?_,?_⟩<;>(try simp[A4 hid])
def A1W(d:Dk):ApS :=
 if F2 d≠0 then ⟨⟨[],0⟩,F2 d⟩
 else if (C6 (B6 d.seg) 0).last<(B6 d.seg).length then ⟨⟨[],0⟩,4⟩
 else ⟨⟨d.seg,(B6 d.seg).length⟩,0⟩
theorem C1n(d:Dk)(id:Nat):A2 Tryz.prog 90 [eDk d] [] id (.tup [eDk (A1W d).d,.int .i64 (A1W d).e]) []:=by
 have hck:=A5e d;have hown:=B4A d.seg d.syn;have htorn:=fun k j id (h8:d.seg.length<=8) (h4:(B6 d.seg).length<=400) (h:k≠j)=>B5Q k j d.seg d.syn id h8 h4 h;have hla:=C1f d.seg d.syn;simp only[eDk,bxK,bxS] at *;refine w90.e.1 fun E hP hR hl hid=>?_;simp[w90];(refine yH rfl (hck _) ?_; simp);refine E5 (fun h=>?_) (fun h=>?_)
 ·have h':¬F2 d=0:=by simpa using h
  simp;have hv:A1W d=⟨⟨[],0⟩,F2 d⟩:=by unfold A1W; rw[zj h']
  rw[hv] at hR;refine yE hR [] (by simp[A4 hid]) fun hrn=>⟨?_,?_,?_,?_,?_,?_⟩<;>(try simp[A4 hid])
 ·have h':F2 d=0:=by simpa using h
  obtain⟨h8,h4⟩:=A02 (by rw[h']; decide);have hl4:=A3D h4;simp;(refine yC rfl (hown _ (by omega)) ?_; simp[yq]);(refine yC rfl (htorn (E.n0+9216) (E.n0+9217) _ h8 hl4 (by simp)) ?_; simp[yq]);refine E5 (fun h2=>?_) (fun h2=>?_)
  ·simp;have h2':=zr h2;have hv:A1W d=⟨⟨[],0⟩,4⟩:=(by unfold A1W; rw[zf (by simp[h']),zj h2']);rw[hv] at hR;refine yE hR [] (by simp[A4 hid]) fun hrn=>⟨?_,?_,?_,?_,?_,?_⟩<;>(try simp[A4 hid])
  ·simp;have h2':=zp h2;have hv:A1W d=⟨⟨d.seg,(B6 d.seg).length⟩,0⟩:=(by unfold A1W; rw[zf (by simp[h']),zf h2']);rw[hv] at hR;(refine yC rfl (hla _ (by omega)) ?_; simp[yq]);have hrn:H5 []:=(by simp[A4 hid]);rw[hR];refine L6 (by simp<;>rfl) (by simp[A4 hid]<;>exact⟨rfl,rfl⟩) [] hrn ⟨?_,?_,?_,?_,?_,?_⟩<;>(try simp[A4 hid])
theorem B4B(s:List UInt8)(r:List (List UInt8)):B6 (s::r)=if r=[] then s else B6 r:=by
 cases r with
 | nil=>rfl
 | cons a r=>simp[B6,List.getLast?_cons_cons]
theorem A7m:∀(l:List (List UInt8)) (e0:List Nat),(Z5 l e0).e=0->(∀s∈l,(C6 s 0).e=5)/\(Z5 l e0).ends=(if l=[] then e0 else (C6 (B6 l) 0).ends)/\(∀(i:Nat) s,i+1<l.length->l[i]?=some s->(C6 s 0).last=s.length)
 | [],e0,_=>⟨by simp,rfl,by simp⟩
 | s::r,e0,h=>by
  simp only[Z5] at h ⊢;split at h
  ·exact ((M9 s 0 (by omega)).2.2.2.2.1 h).elim
  ·rename_i h1;rw[zf h1];split at h
   ·simp at h
   ·rename_i h2;rw[zf h2];obtain⟨i1,i2,i3⟩:=A7m r _ h;have h5:(C6 s 0).e=5:=zl h1;refine⟨fun x hx=>?_,?_,fun i x hi hx=>?_⟩
    ·rcases zh.1 hx with rfl|hx
     ·exact h5
     ·exact i1 x hx
    ·rw[i2,B4B];simp only[reduceCtorEq,if_false];split<;>rfl
    ·cases i with
     | zero =>
      simp at hx;subst hx;have hr:r≠[]:=(by intro h0; subst h0; simp at hi);have:=(M9 s 0 (by omega)).2.1;have:¬(C6 s 0).last<s.length:=fun h0=>h2 ⟨hr,h0⟩;omega
     | succ i=>exact i3 i x (by simpa using hi) (by simpa using hx)
theorem A6u:C6 [] 0=⟨[],[0],0,5⟩:=by
 rw[P1 (by decide)];have:(A8 (List.drop 0 [])).e=5:=by decide
 rw[this]
theorem A9c(l:List (List UInt8))(h:(Z5 l [0]).e=0):(Z5 l [0]).ends=(C6 (B6 l) 0).ends:=by
 rw[(A7m l [0] h).2.1];split
 ·rename_i h0; subst h0;rw[show B6 []=[] from rfl,A6u]
 ·rfl
theorem A4v{d:Dk}(h:F2 d=0):(Z5 d.seg [0]).e=0/\0<=d.syn/\d.syn<=(B6 d.seg).length/\d.syn.toNat∈(C6 (B6 d.seg) 0).ends:=by
 unfold F2 at h;split at h
 ·simp at h
 ·split at h
  ·rename_i h1; exact (h1 h).elim
  ·rename_i h1;have h1:(Z5 d.seg [0]).e=0:=zl h1;split at h
   ·rename_i h2;rw[A9c _ h1] at h2;simp only[vg,beq_iff_eq] at h2;obtain⟨x,hx,hs⟩:=h2;have hf:=M9 (B6 d.seg) 0 (by omega);have:=hf.2.2.2.1 x hx;refine⟨h1,by omega,by omega,?_⟩;rw[hs,wb]; exact hx
   ·simp at h
def A2b(a b:Dk):Bool:=a.syn==b.syn&&Z4 (fun x y=>x==y) a.seg b.seg
theorem A7n(a b:Dk):A2b a b=true↔a=b:=by
 obtain⟨l,n⟩:=a;obtain⟨l',n'⟩:=b;simp[A2b,A3p (f:=fun (x y:List UInt8)=>x==y) (by simp),and_comm]
theorem A6L(a b:Dk)(id:Nat)(hl:a.seg.length<9223372036854775807):A2 Tryz.prog 34 [eDk a,eDk b] [] id (.bool (A2b a b)) []:=by
 simp only[eDk];refine w34.e.1 fun E hP hR hl hid=>?_;simp[w34];refine E5 (fun h=>?_) (fun h=>?_)
 ·simp;have hv:A2b a b=false:=by
   unfold A2b;by_cases h1:a.syn=b.syn
   ·have h2:a.seg.length≠b.seg.length:=(by simp[h1] at h; omega);rw[A4s h2]; simp
   ·simp[h1]
  rw[hv] at hR;exact yP hR
 ·simp;have h1:a.syn=b.syn:=by simp at h; exact h.1
  have h2:a.seg.length=b.seg.length:=by simp[h1] at h; omega
  have hv:A2b a b=Z4 (fun x y=>x==y) a.seg b.seg:=by simp[A2b,h1]
  rw[hv] at hR;refine D0 (X:=Nat) (fun i=>⟨[(2,true,.ptr E.n0 0 0),(3,true,.ptr (E.n0+1) 0 0),(5,true,.int .i64 i)],[(E.n0,some ⟨[.agg [.sl (a.seg.map AV.str),.int .i64 a.syn]],.agg [.nils,.int .i64 0],false,false⟩),(E.n0+1,some ⟨[.agg [.sl (b.seg.map AV.str),.int .i64 b.syn]],.agg [.nils,.int .i64 0],false,false⟩)],2⟩)
   (fun i=>i<=a.seg.length/\Z4 (fun x y=>x==y) (a.seg.drop i) (b.seg.drop i)=Z4 (fun x y=>x==y) a.seg b.seg) (fun i=>a.seg.length - i) 0 ?_ ⟨by omega,rfl⟩ ?_
  ·refine yV [(E.n0,E.n0),(E.n0+1,E.n0+1024)] (by simp) fun hrn=>⟨?_,?_,?_,?_,?_⟩<;>(try simp)
  ·rintro i ⟨hi,hf⟩ p hp;refine A3 4000 ?_;simp;refine E5 (fun h=>?_) (fun h=>?_)
   ·have h:=zr h;obtain⟨x,hx,hd⟩:=B2 h;obtain⟨y,hy,hd'⟩:=B2 (l:=b.seg) (i:=i) (by omega);rw[hd,hd'] at hf;simp only[Z4] at hf;have hi1:IntKind.i64.wrap ((i:Int)+1)=((i+1:Nat):Int):=A5 (by omega);simp[hx,hy];(repeat (refine And.intro (by first|assumption|omega|(simp; omega)|(simp_all; done)) ?_));refine E5 (fun h3=>?_) (fun h3=>?_)
    ·simp;have h3':(x==y)=false:=(by simpa using h3);rw[h3',vv] at hf;exact yP hR (h1:=by simp; exact hf.symm)
    ·simp;have h3':(x==y)=true:=(by simpa using h3);rw[h3',vt] at hf;refine hp _ (i+1) ⟨h,hf⟩ (by omega) ?_;refine yV [(E.n0,E.n0),(E.n0+1,E.n0+1)] (by simp[hi1]) fun hrn=>⟨?_,?_,?_,?_,?_⟩<;>(try simp[hi1])
   ·have h:=zp h;simp;rw[zn (by omega),zn (by omega)] at hf;exact yP hR (h1:=by simp; exact hf.symm)
def B2Y(s:List UInt8):List UInt8:=s.take (C6 s 0).last
end Go.Am
namespace Go.Am
open Go Go.RowKit
theorem A5f{l:List (List UInt8)}(h:l≠[]):l=l.dropLast++[B6 l]:=by
 have h1:=List.dropLast_concat_getLast h;have h2:B6 l=l.getLast h:=by unfold B6; rw[List.getLast?_eq_some_getLast h]; rfl
 rw[h2,h1]
theorem B0r{l:List (List UInt8)}(h:l≠[])(s:List UInt8):A1E l s=l.dropLast++[s]:=by
 have hp:=xw.2 h;unfold A1E;conv=>lhs; arg 1; rw[A5f h]
 rw[List.set_append];simp
theorem A9d(l:List (List UInt8)):A1E l (B6 l)=l:=by
 by_cases h:l=[]
 ·subst h; rfl
 ·rw[B0r h,←A5f h]
theorem A7o{l:List (List UInt8)}(h:l≠[])(s:List UInt8):B6 (A1E l s)=s:=by
 rw[B0r h]; simp[B6]
theorem A7p(l:List (List UInt8))(s:List UInt8):B6 (l++[s])=s:=by simp[B6]
/-! ### The examples of diskBegun -/
theorem C1o(b:Bt)(h:I2 b=0):C6 (C5 b) 0=⟨[b],[0,(C5 b).length],(C5 b).length,5⟩:=by
 have hd:=A3q b h [];rw[xr] at hd;have h0:(A8 ((C5 b).drop 0)).e=0:=by rw[wh,hd]
 rw[Z0 h0,wh,hd];simp only[wb,yy];have h5:(A8 ((C5 b).drop (C5 b).length)).e=5:=by rw[List.drop_length]; decide
 rw[P1 (by rw[h5]; decide),h5]
end Go.Am
namespace Go.Am
open Go Go.Proofs Go.RowKit
/-! ### The plain law: what is open,what is behind,a crash -/
theorem B8u(s:List UInt8):C6 (B2Y s) 0=⟨(C6 s 0).bs,(C6 s 0).ends,(C6 s 0).last,(C6 (B2Y s) 0).e⟩/\(C6 (B2Y s) 0).e=5:=by
 have hl:=(M9 s 0 (by omega)).2.1;have key:=A2a (s:=s) (p:=fun a=>a<=s.length->∀k,(C6 s a).last=k->C6 (s.take k) a=⟨(C6 s a).bs,(C6 s a).ends,(C6 s a).last,(C6 (s.take k) a).e⟩/\(C6 (s.take k) a).e=5) (fun a hd ha k hk=>?_) (fun a hd hle ih ha k hk=>?_) (s.length+1) 0 (by omega) (by omega) _ rfl
 ·exact key
 ·rw[P1 hd] at hk ⊢;simp only at hk ⊢;subst hk;have h5:(A8 ((s.take a).drop a)).e=5:=by
   rw[sy (by simp; omega)]; decide
  rw[P1 (by rw[h5]; decide)];exact⟨rfl,h5⟩
 ·rw[Z0 hd] at hk ⊢;simp only at hk ⊢;have hadv:=X7 hd;have hge:=(M9 s (a+(A8 (s.drop a)).n.toNat) hle).1;have hle2:=(M9 s (a+(A8 (s.drop a)).n.toNat) hle).2.1;have e:A8 ((s.take k).drop a)=A8 (s.drop a):=by
   rw[ul]; exact A6K hd (by omega)
  have hd':(A8 ((s.take k).drop a)).e=0:=by rw[e]; exact hd
  obtain⟨i1,i2⟩:=ih hle k hk;rw[Z0 hd',e];simp only;rw[i1];exact⟨by simp only[i2],i2⟩
theorem C1p(s:List UInt8)(b:Bt)(hb:I2 b=0)(h:(C6 s 0).last=s.length):(C6 (s++C5 b) 0).bs=(C6 s 0).bs++[b]/\(C6 (s++C5 b) 0).last=(s++C5 b).length/\(C6 (s++C5 b) 0).e=5:=by
 have hdl:∀a,a<=s.length->(s++C5 b).drop a=s.drop a++C5 b:=fun a ha=>by rw[List.drop_append_of_le_length ha]
 have key:=A2a (s:=s) (p:=fun a=>a<=s.length->(C6 s a).last=s.length->(C6 (s++C5 b) a).bs=(C6 s a).bs++[b]/\(C6 (s++C5 b) a).last=(s++C5 b).length/\(C6 (s++C5 b) a).e=5) (fun a hd ha hk=>?_) (fun a hd hle ih ha hk=>?_) (s.length+1) 0 (by omega) (by omega) h
 ·exact key
 ·rw[P1 hd] at hk ⊢;simp only at hk ⊢;subst hk;have hdd:(s++C5 b).drop s.length=C5 b:=by rw[sg]
  have hdc:=A3q b hb [];rw[xr] at hdc;have h0:(A8 ((s++C5 b).drop s.length)).e=0:=by rw[hdd,hdc]
  rw[Z0 h0,hdd,hdc];simp only[wb];have h5:(A8 ((s++C5 b).drop (s.length+(C5 b).length))).e=5:=by
   rw[sy (by simp)]; decide
  rw[P1 (by rw[h5]; decide)];simp only[yl];exact⟨rfl,trivial,h5⟩
 ·rw[Z0 hd] at hk ⊢;simp only at hk ⊢;have e:A8 ((s++C5 b).drop a)=A8 (s.drop a):=by rw[hdl a ha]; exact A3C hd _
  have h0:(A8 ((s++C5 b).drop a)).e=0:=by rw[e]; exact hd
  rw[Z0 h0,e];simp only;obtain⟨i1,i2,i3⟩:=ih hle hk;rw[i1,i2,i3];exact⟨rfl,rfl,rfl⟩
theorem A9e{l:List (List UInt8)}(h:l=[]):whole l=⟨[],0⟩:=by
 subst h;unfold whole;simp only[show B6 []=[] from rfl,A6u];rfl
theorem B4C{l:List (List UInt8)}(h:l≠[]):B6 (whole l).seg=B2Y (B6 l):=A7o h _
theorem B2Z:∀(l:List (List UInt8)) (e0:List Nat),(∀s∈l,(C6 s 0).e=5)->(∀(i:Nat) s,i+1<l.length->l[i]?=some s->(C6 s 0).last=s.length)->(Z5 l e0).e=0
 | [],e0,_,_=>rfl
 | s::r,e0,h1,h2=>by
  simp only[Z5];rw[zf (by rw[h1 s (by simp)]; simp),zf]
  ·exact B2Z r _ (fun x hx=>h1 x (by simp[hx])) fun i x hi hx=>h2 (i+1) x (by simpa using hi) (by simpa using hx)
  ·rintro⟨hr,hlt⟩;have:=h2 0 s (by have:=xw.2 hr; simp; omega) rfl;omega
theorem B8v{d:Dk}(h8:d.seg.length<=8)(h4:∀s∈d.seg,s.length<=400)(h1:∀s∈d.seg,(C6 s 0).e=5)(h2:∀(i:Nat) s,i+1<d.seg.length->d.seg[i]?=some s->(C6 s 0).last=s.length)(n:Nat)(hn:d.syn=n)(h3:n∈(C6 (B6 d.seg) 0).ends):F2 d=0:=by
 have h0:=B2Z d.seg [0] h1 h2;unfold F2;rw[zf,zf (by rw[h0]; simp),zj]
 ·rw[A9c _ h0,vg];exact⟨n,h3,by simp[hn]⟩
 ·rintro (h|h)
  ·omega
  ·rw[vg] at h;obtain⟨s,hs,h⟩:=h;have:=h4 s hs;simp at h;omega
theorem B2a(s:List UInt8):(C6 s 0).last∈(C6 s 0).ends:=by
 have:=(A4u s).1;exact zg this
structure A2c(l:List (List UInt8)):Prop where
 h8:l.length<=8
 h4:∀s∈l,s.length<=400
 h5:∀s∈l,(C6 s 0).e=5
 hf:∀(i:Nat) s,i+1<l.length->l[i]?=some s->(C6 s 0).last=s.length
theorem B5R{d:Dk}(h:F2 d=0):A2c d.seg:=by
 obtain⟨h8,h4⟩:=A02 (by rw[h]; decide);obtain⟨g1,g2,g3⟩:=A7m _ _ (A4v h).1;exact⟨h8,h4,g1,g3⟩
theorem A2c.check{l:List (List UInt8)}(g:A2c l)(n:Nat)(h:n∈(C6 (B6 l) 0).ends):F2 ⟨l,n⟩=0:=B8v g.h8 g.h4 g.h5 g.hf n rfl h
theorem A7q{l:List (List UInt8)}{s:List UInt8}{i:Nat}{x:List UInt8}(h:(A1E l s)[i]?=some x):(i+1<l.length/\l[i]?=some x)\/(i+1=l.length/\x=s):=by
 unfold A1E at h;rw[ug] at h;split at h
 ·rename_i e;split at h
  ·injection h with h; exact .inr ⟨by omega,h.symm⟩
  ·cases h
 ·have hi:=(ze.1 h).1;exact .inl ⟨by omega,h⟩
theorem A2c.set{l:List (List UInt8)}(g:A2c l){s:List UInt8}(h1:s.length<=400)(h2:(C6 s 0).e=5):A2c (A1E l s):=by
 refine⟨by simpa using g.h8,fun x hx=>?_,fun x hx=>?_,fun i x hi hx=>?_⟩
 ·obtain⟨i,hi⟩:=ui hx;rcases A7q hi with⟨_,h⟩|⟨_,rfl⟩
  ·exact g.h4 x (zg h)
  ·exact h1
 ·obtain⟨i,hi⟩:=ui hx;rcases A7q hi with⟨_,h⟩|⟨_,rfl⟩
  ·exact g.h5 x (zg h)
  ·exact h2
 ·simp at hi;rcases A7q hx with⟨_,h⟩|⟨h,_⟩
  ·exact g.hf i x hi h
  ·omega
theorem A2c.snoc{l:List (List UInt8)}(g:A2c l){s:List UInt8}(h8:l.length<8)(h1:s.length<=400)(h2:(C6 s 0).e=5)(h3:l≠[]->(C6 (B6 l) 0).last=(B6 l).length):A2c (l++[s]):=by
 refine⟨by simp; omega,fun x hx=>?_,fun x hx=>?_,fun i x hi hx=>?_⟩
 ·rcases zo.1 hx with hx|hx
  ·exact g.h4 x hx
  ·simp at hx; subst hx; exact h1
 ·rcases zo.1 hx with hx|hx
  ·exact g.h5 x hx
  ·simp at hx; subst hx; exact h2
 ·simp at hi;rw[yf (by omega)] at hx;by_cases hl:i+1<l.length
  ·exact g.hf i x hl hx
  ·have hne:l≠[]:=(by intro h0; subst h0; simp at hi);have:=o7 hne;rw[show l.length - 1=i by omega,hx] at this;injection this with this
   subst this;exact h3 hne
theorem A2c.last4{l:List (List UInt8)}(g:A2c l):(B6 l).length<=400:=A3D g.h4
theorem B2b{l:List (List UInt8)}(h:l≠[])(s:List UInt8):H3 (A1E l s)=H3 l.dropLast++(C6 s 0).bs:=by
 rw[B0r h]; simp[H3]
theorem A9f{l:List (List UInt8)}(h:l≠[]):H3 l=H3 l.dropLast++(C6 (B6 l) 0).bs:=by
 conv=>lhs; rw[A5f h]
 simp[H3]
theorem B4D{l:List (List UInt8)}(g:A2c l):A2c (whole l).seg/\F2 ⟨(whole l).seg,(whole l).syn⟩=0/\H3 (whole l).seg=H3 l/\whole (whole l).seg=whole l/\(C6 (B6 (whole l).seg) 0).last=(B6 (whole l).seg).length/\(whole l).syn=(B6 (whole l).seg).length:=by
 by_cases h:l=[]
 ·rw[A9e h];subst h;have hg:A2c []:=⟨by simp,by simp,by simp,by simp⟩;refine⟨hg,hg.check 0 (by rw[show B6 []=[] from rfl,A6u]; simp),rfl,A9e rfl,?_,rfl⟩;rw[show B6 []=[] from rfl,A6u]; rfl
 ·have hl:=B4C h;have h4:=g.last4;have hll:=(M9 (B6 l) 0 (by omega)).2.1;obtain⟨c1,c2⟩:=B8u (B6 l);have hlen:(B2Y (B6 l)).length=(C6 (B6 l) 0).last:=by simp[B2Y]; omega
  have g':A2c (whole l).seg:=g.set (by rw[←B2Y] at *; omega) c2;have hlast:(C6 (B6 (whole l).seg) 0).last=(B6 (whole l).seg).length:=by rw[hl,c1,hlen]
  have hsyn:(whole l).syn=(B6 (whole l).seg).length:=by rw[hl,hlen]; rfl
  refine⟨g',g'.check _ ?_,?_,?_,hlast,hsyn⟩
  ·rw[hsyn,←hlast]; exact B2a _
  ·show H3 (A1E l _)=_;rw[B2b h,A9f h];show _++(C6 (B2Y (B6 l)) 0).bs=_;rw[c1]
  ·show (⟨A2s (whole l).seg _,_⟩:WhS)=_;rw[hlast];unfold A2s;rw[uo,A9d,←hsyn]
structure Fd where
 name:List UInt8
 kind:Int
 of:List UInt8
structure Ty where
 name:List UInt8
 fields:List Fd
def T2(f:Fd):AV:=.agg [.str f.name,.int .i64 f.kind,.str f.of]
def I8(t:Ty):AV:=.agg [.str t.name,.sl (t.fields.map T2)]
theorem B2c(f:Fd):(T2 f).pureB=true:=rfl
@[simp] theorem B2d (l:List Fd):F9 (l.map T2)=true:=E7 B2c l
@[simp] theorem C4g (S:Nat->Prop) (l:List Fd):F3 S (l.map T2):=B3 _ (B2d l)
@[simp] theorem C5y (R:Rn) (S:Nat->Prop) (l:List Fd):N8 R S (l.map T2) (l.map T2):=C2 rfl (B2d l)
theorem B8w(t:Ty):(I8 t).pureB=true:=by simp[I8]
@[simp] theorem B2e (l:List Ty):F9 (l.map I8)=true:=E7 B8w l
@[simp] theorem C4h (S:Nat->Prop) (l:List Ty):F3 S (l.map I8):=B3 _ (B2e l)
def B8{α:Type}(p:α->Bool):List α->Nat->Int
 | [],_=>-1
 | x::l,i=>if p x then (i:Int) else B8 p l (i+1)
theorem T3{α:Type}(p:α->Bool):∀(l:List α) (i:Nat),decide (0<=B8 p l i)=l.any p
 | [],i=>by simp[B8]
 | x::l,i=>by
  simp only[B8,tz];by_cases hx:p x=true
  ·simp[hx]
  ·simp[hx,T3 p l (i+1)]
theorem B2f(f:Fd)(j:Nat)(name:List UInt8)(id:Nat):A2 Tryz.prog 274 [T2 f,.ptr j 0 0] [(j,⟨[.str name],.str name,false,false⟩)] id (.bool (f.name==name)) []:=by
 unfold T2;refine w274.e.1 fun E hP hR hl hid=>?_;simp[w274];have hj:=hl (j,_) (za ..);simp only at hj;have j1:=lf hj;simp[j1];refine yE hR [] (by simp[j1,B8,A4 hid]) fun hrn=>⟨?_,?_,?_,?_,?_,?_⟩<;>(try simp[j1,B8,A4 hid])
theorem B8x(t:Ty)(j:Nat)(name:List UInt8)(id:Nat):A2 Tryz.prog 134 [I8 t,.ptr j 0 0] [(j,⟨[.str name],.str name,false,false⟩)] id (.bool (t.name==name)) []:=by
 unfold I8;refine w134.e.1 fun E hP hR hl hid=>?_;simp[w134];have hj:=hl (j,_) (za ..);simp only at hj;have j1:=lf hj;simp[j1];refine yE hR [] (by simp[j1,B8,A4 hid]) fun hrn=>⟨?_,?_,?_,?_,?_,?_⟩<;>(try simp[j1,B8,A4 hid])
theorem B4E(l:List Fd)(j:Nat)(name:List UInt8)(id:Nat)(hl8:l.length<9223372036854775807):A2 Tryz.prog 273 [.sl (l.map T2),.fn 274 [.ptr j 0 0]] [(j,⟨[.str name],.str name,false,false⟩)] id (.int .i64 (B8 (fun x=>x.name==name) l 0)) []:=by
 refine w273.e.1 fun E hP hR hl hid=>?_;simp[w273];have hj:=hl (j,_) (za ..);simp only at hj;have j1:=lf hj;refine D0 (X:=Nat) (fun i=>⟨[(0,true,.sl (l.map T2)),(1,true,.fn 274 [.ptr j 0 0]),(7,true,.int .i64 l.length),(8,true,.int .i64 i)],[(j,some (⟨[.str name],.str name,false,false⟩))],0⟩) (fun i=>i<=l.length/\B8 (fun x=>x.name==name) (l.drop i) i=B8 (fun x=>x.name==name) l 0) (fun i=>l.length - i) 0 ?_ ⟨by omega,rfl⟩ ?_
 ·refine yV [] (by simp[j1]) fun hrn=>⟨?_,?_,?_,?_,?_⟩<;>(try simp[j1])
 ·rintro i ⟨hi,hf⟩ p hp;refine A3 4000 ?_;simp;refine E5 (fun h=>?_) (fun h=>?_)
  ·have h:=zr h;obtain⟨x,hx,hd⟩:=B2 h;have hcl:=B2f x j name;simp only[T2] at hcl;rw[hd] at hf;simp only[B8] at hf;have hi1:IntKind.i64.wrap ((i:Int)+1)=((i+1:Nat):Int):=A5 (by omega);simp[hx,T2];refine⟨h,?_⟩;refine L5 hP rfl rfl (hcl _) (by simp) (by simp[j1]<;>rfl) ?_;refine A3 4000 ?_;simp[j1];refine E5 (fun h1=>?_) (fun h1=>?_)
   ·simp[j1];rw[zj h1] at hf;rw[←hf] at hR;refine yE hR [] (by simp[j1,B8,A4 hid]) fun hrn=>⟨?_,?_,?_,?_,?_,?_⟩<;>(try simp[j1,B8,A4 hid])
   ·simp[j1];rw[zf (by simpa using h1)] at hf;refine hp _ (i+1) ⟨h,hf⟩ (by omega) ?_;refine yV [] (by simp[hi1,j1]) fun hrn=>⟨?_,?_,?_,?_,?_⟩<;>(try simp[hi1,j1])
  ·have h:=zp h;simp;rw[zn (by omega)] at hf;rw[←hf] at hR;refine yE hR [] (by simp[j1,B8,A4 hid]) fun hrn=>⟨?_,?_,?_,?_,?_,?_⟩<;>(try simp[j1,B8,A4 hid])
theorem B4F(l:List Ty)(j:Nat)(name:List UInt8)(id:Nat)(hl8:l.length<9223372036854775807):A2 Tryz.prog 133 [.sl (l.map I8),.fn 134 [.ptr j 0 0]] [(j,⟨[.str name],.str name,false,false⟩)] id (.int .i64 (B8 (fun x=>x.name==name) l 0)) []:=by
 refine w133.e.1 fun E hP hR hl hid=>?_;simp[w133];have hj:=hl (j,_) (za ..);simp only at hj;have j1:=lf hj;refine D0 (X:=Nat) (fun i=>⟨[(0,true,.sl (l.map I8)),(1,true,.fn 134 [.ptr j 0 0]),(7,true,.int .i64 l.length),(8,true,.int .i64 i)],[(j,some (⟨[.str name],.str name,false,false⟩))],0⟩) (fun i=>i<=l.length/\B8 (fun x=>x.name==name) (l.drop i) i=B8 (fun x=>x.name==name) l 0) (fun i=>l.length - i) 0 ?_ ⟨by omega,rfl⟩ ?_
 ·refine yV [] (by simp[j1]) fun hrn=>⟨?_,?_,?_,?_,?_⟩<;>(try simp[j1])
 ·rintro i ⟨hi,hf⟩ p hp;refine A3 4000 ?_;simp;refine E5 (fun h=>?_) (fun h=>?_)
  ·have h:=zr h;obtain⟨x,hx,hd⟩:=B2 h;have hcl:=B8x x j name;simp only[I8] at hcl;rw[hd] at hf;simp only[B8] at hf;have hi1:IntKind.i64.wrap ((i:Int)+1)=((i+1:Nat):Int):=A5 (by omega);simp[hx,I8];refine⟨h,?_⟩;refine L5 hP rfl rfl (hcl _) (by simp) (by simp[j1]<;>rfl) ?_;refine A3 4000 ?_;simp[j1];refine E5 (fun h1=>?_) (fun h1=>?_)
   ·simp[j1];rw[zj h1] at hf;rw[←hf] at hR;refine yE hR [] (by simp[j1,B8,A4 hid]) fun hrn=>⟨?_,?_,?_,?_,?_,?_⟩<;>(try simp[j1,B8,A4 hid])
   ·simp[j1];rw[zf (by simpa using h1)] at hf;refine hp _ (i+1) ⟨h,hf⟩ (by omega) ?_;refine yV [] (by simp[hi1,j1]) fun hrn=>⟨?_,?_,?_,?_,?_⟩<;>(try simp[hi1,j1])
  ·have h:=zp h;simp;rw[zn (by omega)] at hf;rw[←hf] at hR;refine yE hR [] (by simp[j1,B8,A4 hid]) fun hrn=>⟨?_,?_,?_,?_,?_,?_⟩<;>(try simp[j1,B8,A4 hid])
theorem A1F(l:List Fd)(n name:List UInt8)(id:Nat)(hl8:l.length<9223372036854775807):A2 Tryz.prog 229 [.agg [.str n,.sl (l.map T2)],.str name] [] id (.int .i64 (B8 (fun x=>x.name==name) l 0)) []:=by
 refine w229.e.1 fun E hP hR hl hid=>?_;simp[w229];(refine yH rfl (B4E l (E.n0+1024) name _ hl8) ?_; simp);exact yP hR
theorem j8(l:List Ty)(name:List UInt8)(id:Nat)(hl8:l.length<9223372036854775807):A2 Tryz.prog 72 [.sl (l.map I8),.str name] [] id (.int .i64 (B8 (fun x=>x.name==name) l 0)) []:=by
 refine w72.e.1 fun E hP hR hl hid=>?_;simp[w72];(refine yH rfl (B4F l E.n0 name _ hl8) ?_; simp);exact yP hR
theorem B8y(x b:Bt)(j:Nat)(id:Nat):A2 Tryz.prog 104 [Y9 x,.ptr j 0 0] [(j,⟨[Y9 b],.agg [.int .i64 0,.nils],false,false⟩)] id (.bool (x.number==b.number)) []:=by
 unfold Y9;refine w104.e.1 fun E hP hR hl hid=>?_;simp[w104];have hj:=hl (j,_) (za ..);simp only at hj;have j1:=lf hj;simp[j1];refine yE hR [] (by simp[j1,A4 hid]) fun hrn=>⟨?_,?_,?_,?_,?_,?_⟩<;>(try simp[j1,A4 hid])
theorem C1q(x:Bt)(n:Int)(j:Nat)(id:Nat):A2 Tryz.prog 49 [Y9 x,.ptr j 0 0] [(j,⟨[.int .i64 n],.int .i64 n,false,false⟩)] id (.bool (x.number==n)) []:=by
 unfold Y9;refine w49.e.1 fun E hP hR hl hid=>?_;simp[w49];have hj:=hl (j,_) (za ..);simp only at hj;have j1:=lf hj;simp[j1];refine yE hR [] (by simp[j1,A4 hid]) fun hrn=>⟨?_,?_,?_,?_,?_,?_⟩<;>(try simp[j1,A4 hid])
theorem B4G(g j:Nat)(c d:AV)(n:Int)(hc:c.pureB=true)(hg:∀(x:Bt) id,A2 Tryz.prog g [Y9 x,.ptr j 0 0] [(j,⟨[c],d,false,false⟩)] id (.bool (x.number==n)) [])(l:List Bt)(id:Nat)(hl8:l.length<=1000000):A2 Tryz.prog 106 [.sl (l.map Y9),.fn g [.ptr j 0 0]] [(j,⟨[c],d,false,false⟩)] id (.int .i64 (B8 (fun x=>x.number==n) l 0)) []:=by
 refine w106.e.1 fun E hP hR hl hid=>?_;simp[w106];have hj:=hl (j,_) (za ..);simp only at hj;have j1:=lf hj;refine D0 (X:=Nat) (fun i=>⟨[(0,true,.sl (l.map Y9)),(1,true,.fn g [.ptr j 0 0]),(7,true,.int .i64 l.length),(8,true,.int .i64 i)],[(j,some ⟨[c],d,false,false⟩)],0⟩) (fun i=>i<=l.length/\B8 (fun x=>x.number==n) (l.drop i) i=B8 (fun x=>x.number==n) l 0) (fun i=>l.length - i) 0 ?_ ⟨by omega,rfl⟩ ?_
 ·refine yV [] (by simp[j1]) fun hrn=>⟨?_,?_,?_,?_,?_⟩<;>(try simp[j1]);all_goals exact K9 rfl hc
 ·rintro i ⟨hi,hf⟩ p hp;refine A3 4000 ?_;simp;refine E5 (fun h=>?_) (fun h=>?_)
  ·have h:=zr h;obtain⟨x,hx,hd⟩:=B2 h;have hcl:=fun id=>hg x id;simp only[Y9] at hcl;rw[hd] at hf;simp only[B8] at hf;have hi1:IntKind.i64.wrap ((i:Int)+1)=((i+1:Nat):Int):=A5 (by omega);simp[hx,Y9];refine⟨h,?_⟩;refine L5 hP rfl rfl (hcl _) (by simp) (by simp[j1]<;>rfl) ?_;refine A3 4000 ?_;simp[j1];refine E5 (fun h1=>?_) (fun h1=>?_)
   ·simp[j1];rw[zj h1] at hf;rw[←hf] at hR;refine yE hR [] (by simp[j1,B8,A4 hid]) fun hrn=>⟨?_,?_,?_,?_,?_,?_⟩<;>(try simp[j1,B8,A4 hid]);all_goals exact K9 rfl hc
   ·simp[j1];rw[zf (by simpa using h1)] at hf;refine hp _ (i+1) ⟨h,hf⟩ (by omega) ?_;refine yV [] (by simp[hi1,j1]) fun hrn=>⟨?_,?_,?_,?_,?_⟩<;>(try simp[hi1,j1]);all_goals exact K9 rfl hc
  ·have h:=zp h;simp;rw[zn (by omega)] at hf;rw[←hf] at hR;refine yE hR [] (by simp[j1,B8,A4 hid]) fun hrn=>⟨?_,?_,?_,?_,?_,?_⟩<;>(try simp[j1,B8,A4 hid]);all_goals exact K9 rfl hc
theorem A9g(g j:Nat)(c d:AV)(n:Int)(hc:c.pureB=true)(hg:∀(x:Bt) id,A2 Tryz.prog g [Y9 x,.ptr j 0 0] [(j,⟨[c],d,false,false⟩)] id (.bool (x.number==n)) [])(l:List Bt)(id:Nat)(hl8:l.length<=1000000):A2 Tryz.prog 48 [.sl (l.map Y9),.fn g [.ptr j 0 0]] [(j,⟨[c],d,false,false⟩)] id (.bool (l.any fun x=>x.number==n)) []:=by
 have hI:=fun id=>B4G g j c d n hc hg l id hl8;rw[←T3 _ l 0];refine w48.e.1 fun E hP hR hl hid=>?_;simp[w48];have hj:=hl (j,_) (za ..);simp only at hj;have j1:=lf hj;(refine yC rfl (hI _) ?_; simp[j1]);refine yE hR [] (by simp[j1,A4 hid]) fun hrn=>⟨?_,?_,?_,?_,?_,?_⟩<;>(try simp[j1,A4 hid]);all_goals exact K9 rfl hc
def A6f(c:UInt8):Bool:=(decide (97<=c.toNat)&&decide (c.toNat<=122))||(decide (65<=c.toNat)&&decide (c.toNat<=90))||decide (c.toNat=95)
def c8(c:UInt8):Bool:=decide (48<=c.toNat)&&decide (c.toNat<=57)
def anC(c:UInt8):Bool:=A6f c||c8 c
def B4H:List UInt8->Bool
 | []=>false
 | c::r=>A6f c&&r.all anC
def L7(s:List UInt8):Int:=if 12<s.length then 2 else if B4H s=true then 0 else 1
theorem A5g(c:UInt8)(id:Nat):A2 Tryz.prog 232 [.int .u8 c.toNat] [] id (.bool (A6f c)) []:=by
 refine w232.e.1 fun E hP hR hl hid=>?_;simp[w232];refine⟨by grind,by grind,by grind,?_⟩;exact yP hR (h1:=by simp; unfold A6f; rw[wa]; simp; omega)
theorem A4w(c:UInt8)(id:Nat):A2 Tryz.prog 233 [.int .u8 c.toNat] [] id (.bool (c8 c)) []:=by
 refine w233.e.1 fun E hP hR hl hid=>?_;simp[w233];exact yP hR (h1:=by simp; unfold c8; rw[wa]; simp; omega)
def okN:List UInt8->Bool->Bool
 | [],_=>true
 | c::r,fst=>(A6f c||(!fst&&c8 c))&&okN r false
theorem B6u(l:List UInt8):okN l false=l.all anC:=by
 induction l with
 | nil=>rfl
 | cons c r ih=>simp[okN,ih,anC]
theorem B2g(s:List UInt8)(h:s≠[]):okN s true=B4H s:=by
 cases s with
 | nil=>exact (h rfl).elim
 | cons c r=>simp[okN,B4H,B6u]
theorem A3r(s:List UInt8)(id:Nat):A2 Tryz.prog 166 [.str s] [] id (.int .i64 (L7 s)) []:=by
 refine w166.e.1 fun E hP hR hl hid=>?_;simp[w166];refine E5 (fun h=>?_) (fun h=>?_)
 ·simp;exact yP hR (h1:=by simp; simp at h; unfold L7; rw[zj (by omega)])
 ·simp;have h12:¬12<s.length:=by simp at h; omega
  refine D0 (X:=Nat) (fun i=>⟨[(0,true,.str s),(8,true,.int .i64 s.length),(9,true,.int .i64 i)],[],0⟩) (fun i=>i<=s.length/\okN (s.drop i) (decide (i=0))=okN s true) (fun i=>s.length - i) 0 ?_ ⟨by omega,rfl⟩ ?_
  ·refine yV [] (by simp) fun hrn=>⟨?_,?_,?_,?_,?_⟩<;>(try simp)
  ·rintro i ⟨hi,hf⟩ p hp;refine A3 4000 ?_;simp;refine E5 (fun h=>?_) (fun h=>?_)
   ·have h:=zr h;obtain⟨x,hx,hd⟩:=B2 h;rw[hd] at hf;simp only[okN] at hf;have hi1:IntKind.i64.wrap ((i:Int)+1)=((i+1:Nat):Int):=A5 (by omega);simp[hx];refine⟨h,?_⟩;(refine yC rfl (A5g x _) ?_; simp[hx]);refine⟨fun h1 h2=>⟨⟨h1,h2⟩,h⟩,?_⟩;(refine I3 hP (by simp[hx]) rfl (fun hc=>⟨A4w x _,by revert hc; simp[hx]; try grind,by simp[hx]⟩) ?_; refine A3 4000 ?_; simp[hx]);refine⟨by grind,?_⟩;have hb:(A6f x||(!decide (i=0)&&c8 x))=!(!A6f x&&(((i:Int)==0)||!c8 x)):=by
     have:decide (i=0)=((i:Int)==0):=by rw[wa]; simp
     rw[this]; simp
    rw[hb] at hf;refine E5 (fun h1=>?_) (fun h1=>?_)
    ·simp;rw[h1] at hf;simp at hf;have hne:s≠[]:=(by rintro rfl; simp at h);exact yP hR (h1:=by simp; unfold L7; rw[zf h12,←B2g s hne,hf]; rfl)
    ·simp;rw[h1] at hf;simp at hf;refine hp _ (i+1) ⟨h,by simpa using hf⟩ (by omega) ?_;refine yV [] (by simp[hi1]) fun hrn=>⟨?_,?_,?_,?_,?_⟩<;>(try simp[hi1])
   ·have h:=zp h;simp;rw[zn (by omega)] at hf;simp only[okN] at hf;refine E5 (fun h=>?_) (fun h=>?_)
    ·simp;exact yP hR (h1:=by simp; simp at h; subst h; rfl)
    ·simp;have hne:s≠[]:=(by simpa using h);exact yP hR (h1:=by simp; unfold L7; rw[zf h12,←B2g s hne,←hf]; rfl)
def tId:List UInt8:=[105,100]
def A6v:List UInt8:=[78,117,109,98,101,114]
def B5S:List UInt8:=[84,101,120,116]
def C3l(l:List Fd)(n:List UInt8):Bool:=l.any fun x=>x.name==n
def B0s(l:List Ty)(n:List UInt8):Bool:=l.any fun x=>x.name==n
def s8(l:List Ty)(f:Fd)(ahead:List Fd):Int :=
 if L7 f.name≠0 then L7 f.name else if f.name=tId then 4 else if C3l ahead f.name=true then 6
 else if ¬(1<=f.kind/\f.kind<=4) then 7 else if (f.kind=1\/f.kind=2)/\f.of≠[] then 1
 else if ¬(f.kind=1\/f.kind=2)/\¬B0s l f.of=true then 5 else 0
def D9{α:Type}(f:Nat->α->Int):List α->Nat->Int
 | [],_=>0
 | x::l,i=>if f i x≠0 then f i x else D9 f l (i+1)
def A1X(l:List Ty)(i:Nat)(t:Ty):Int :=
 if L7 t.name≠0 then L7 t.name else if t.name=A6v\/t.name=B5S then 4 else if B0s (l.take i) t.name=true then 6
 else if t.fields=[] then 5 else if 6<t.fields.length then 2 else D9 (fun k f=>s8 l f (t.fields.take k)) t.fields 0
def J2(l:List Ty):Int :=
 if l=[] then 5 else if 5<l.length then 2 else D9 (fun i t=>A1X l i t) l 0
theorem A7r(l:List Fd)(n:List UInt8):decide (0<=B8 (fun x=>x.name==n) l 0)=C3l l n:=T3 _ l 0
theorem A7s(l:List Ty)(n:List UInt8):decide (0<=B8 (fun x=>x.name==n) l 0)=B0s l n:=T3 _ l 0
theorem A3s(l:List Ty)(n:List UInt8):decide (B8 (fun x=>x.name==n) l 0<0)=!B0s l n:=by
 rw[←A7s,wa]; simp
theorem A8t(l:List Ty)(f:Fd)(ahead:List Fd)(id:Nat)(hl:l.length<=1000000)(ha:ahead.length<=1000000):A2 Tryz.prog 197 [.sl (l.map I8),T2 f,.sl (ahead.map T2)] [] id (.int .i64 (s8 l f ahead)) []:=by
 have hF:=fun n=>A1F ahead [] n;simp only[T2];refine w197.e.1 fun E hP hR hl hid=>?_;simp[w197];(refine yH rfl (A3r _ _) ?_; simp);refine E5 (fun h=>?_) (fun h=>?_)<;>simp
 ·exact yP hR (h1:=by simp; simp at h; unfold s8; rw[zj h])
 have h1:¬L7 f.name≠0:=by simpa using h
 refine E5 (fun h=>?_) (fun h=>?_)<;>simp
 ·exact yP hR (h1:=by simp; simp at h; unfold s8; rw[zf h1,zj (show f.name=tId from h)])
 have h2:¬f.name=tId:=by simpa [tId] using h
 (refine D8 hP rfl (hF _ _ (by omega)) (by simp[A7r]) (by simp[A7r]<;>rfl) ?_; refine A3 4000 ?_; simp[A7r]);refine E5 (fun h=>?_) (fun h=>?_)<;>simp
 ·exact yP hR (h1:=by simp; unfold s8; rw[zf h1,zf h2,zj h])
 have h3:¬C3l ahead f.name=true:=by simpa using h
 refine E5 (fun h=>?_) (fun h=>?_)<;>simp
 ·exact yP hR (h1:=by simp; simp at h; unfold s8; rw[zf h1,zf h2,zf h3,zj (by omega)])
 have h4:¬¬(1<=f.kind/\f.kind<=4):=by simp at h; omega
 refine E5 (fun h=>?_) (fun h=>?_)<;>simp
 ·exact yP hR (h1:=by simp; simp at h; unfold s8; rw[zf h1,zf h2,zf h3,zf h4,zj h])
 have h5:¬((f.kind=1\/f.kind=2)/\f.of≠[]):=by simpa using h
 (repeat (refine And.intro (by first|assumption|omega|(simp; omega)|(simp_all; done)) ?_));(refine I3 hP (by simp[A3s]) rfl (fun hc=>⟨j8 l f.of _ (by omega),by revert hc; simp[A3s]; try grind,by simp[A3s]⟩) ?_; refine A3 4000 ?_; simp[A3s]);refine E5 (fun h=>?_) (fun h=>?_)<;>simp
 ·exact yP hR (h1:=by simp; simp at h; unfold s8; rw[zf h1,zf h2,zf h3,zf h4,zf h5,zj (by simpa using h)])
 have h6:¬(¬(f.kind=1\/f.kind=2)/\¬B0s l f.of=true):=by simpa using h
 exact yP hR (h1:=by simp; unfold s8; rw[zf h1,zf h2,zf h3,zf h4,zf h5,zf h6])
theorem B0t(l:List Ty)(i:Nat)(t:Ty)(id:Nat)(hl5:l.length<=5)(hi:l[i]?=some t):A2 Tryz.prog 128 [.sl (l.map I8),.int .i64 i] [] id (.int .i64 (A1X l i t)) []:=by
 have hin:i<l.length:=(ze.1 hi).1;have hF:=j8 (l.take i) t.name;rw[yu] at hF;have hFd:=fun f k id h=>A8t l f (t.fields.take k) id (by omega) h;simp only[T2,yu] at hFd;refine w128.e.1 fun E hP hR hl hid=>?_;simp[w128,hi,I8];refine⟨hin,?_⟩;(refine yH rfl (A3r _ _) ?_; simp);refine E5 (fun h=>?_) (fun h=>?_)<;>simp
 ·exact yP hR (h1:=by simp; simp at h; unfold A1X; rw[zj h])
 have h1:¬L7 t.name≠0:=by simpa using h
 refine E5 (fun h=>?_) (fun h=>?_)<;>simp
 ·exact yP hR (h1:=by simp; simp at h; unfold A1X; rw[zf h1,zj (show t.name=A6v\/t.name=B5S from h)])
 have h2:¬(t.name=A6v\/t.name=B5S):=by simpa [A6v,B5S] using h
 refine⟨⟨fun a _=>rfl,by omega⟩,?_⟩;(refine yC rfl (hF _ (by simp; omega)) ?_; simp[A7s]);refine E5 (fun h=>?_) (fun h=>?_)<;>simp
 ·exact yP hR (h1:=by simp; unfold A1X; rw[zf h1,zf h2,zj h])
 have h3:¬B0s (l.take i) t.name=true:=by simpa using h
 refine E5 (fun h=>?_) (fun h=>?_)<;>simp
 ·exact yP hR (h1:=by simp; simp at h; unfold A1X; rw[zf h1,zf h2,zf h3,zj h])
 have h4:¬t.fields=[]:=by simpa using h
 refine E5 (fun h=>?_) (fun h=>?_)<;>simp
 ·exact yP hR (h1:=by simp; simp at h; unfold A1X; rw[zf h1,zf h2,zf h3,zf h4,zj (by omega)])
 have h5:¬6<t.fields.length:=by simp at h; omega
 have hft:A1X l i t=D9 (fun k f=>s8 l f (t.fields.take k)) t.fields 0:=by unfold A1X; rw[zf h1,zf h2,zf h3,zf h4,zf h5]
 rw[hft] at hR;refine D0 (X:=Nat) (fun k=>⟨[(0,true,.sl (l.map I8)),(5,true,.ptr E.n0 0 0),(48,true,.sl (t.fields.map T2)),(49,true,.int .i64 t.fields.length),(50,true,.int .i64 k)],[(E.n0,some ⟨[.agg [.str t.name,.sl (t.fields.map T2)]],.agg [.str [],.nils],false,false⟩)],1⟩) (fun k=>k<=t.fields.length/\D9 (fun k f=>s8 l f (t.fields.take k)) (t.fields.drop k) k=D9 (fun k f=>s8 l f (t.fields.take k)) t.fields 0) (fun k=>t.fields.length - k) 0 ?_ ⟨by omega,rfl⟩ ?_
 ·refine yV [(E.n0,E.n0+5120)] (by simp) fun hrn=>⟨?_,?_,?_,?_,?_⟩<;>(try simp)
 ·rintro k ⟨hk,hf⟩ p hp;refine A3 4000 ?_;simp;refine E5 (fun h=>?_) (fun h=>?_)
  ·have h:=zr h;obtain⟨x,hx,hd⟩:=B2 h;rw[hd] at hf;simp only[D9] at hf;have hi1:IntKind.i64.wrap ((k:Int)+1)=((k+1:Nat):Int):=A5 (by omega);simp[hx,T2];refine⟨h,hk,?_⟩;(refine yH rfl (hFd x k _ (by simp; omega)) ?_; simp);refine E5 (fun h1=>?_) (fun h1=>?_)
   ·simp;rw[zj (by simpa using h1)] at hf;exact yP hR (h1:=by simp; exact hf)
   ·simp;rw[zf (by simpa using h1)] at hf;refine hp _ (k+1) ⟨h,hf⟩ (by omega) ?_;refine yV [(E.n0,E.n0)] (by simp[hi1]) fun hrn=>⟨?_,?_,?_,?_,?_⟩<;>(try simp[hi1])
  ·have h:=zp h;simp;rw[zn (by omega)] at hf;exact yP hR (h1:=by simp; exact hf)
theorem A5h(l:List Ty)(id:Nat):A2 Tryz.prog 65 [.sl (l.map I8)] [] id (.int .i64 (J2 l)) []:=by
 refine w65.e.1 fun E hP hR hl hid=>?_;simp[w65];refine E5 (fun h=>?_) (fun h=>?_)<;>simp
 ·exact yP hR (h1:=by simp; simp at h; unfold J2; rw[zj h])
 have h1:¬l=[]:=by simpa using h
 refine E5 (fun h=>?_) (fun h=>?_)<;>simp
 ·exact yP hR (h1:=by simp; simp at h; unfold J2; rw[zf h1,zj (by omega)])
 have h2:¬5<l.length:=by simp at h; omega
 have hft:J2 l=D9 (fun i t=>A1X l i t) l 0:=by unfold J2; rw[zf h1,zf h2]
 rw[hft] at hR;refine D0 (X:=Nat) (fun i=>⟨[(0,true,.sl (l.map I8)),(14,true,.int .i64 l.length),(15,true,.int .i64 i)],[],0⟩) (fun i=>i<=l.length/\D9 (fun i t=>A1X l i t) (l.drop i) i=D9 (fun i t=>A1X l i t) l 0) (fun i=>l.length - i) 0 ?_ ⟨by omega,rfl⟩ ?_
 ·refine yV [] (by simp) fun hrn=>⟨?_,?_,?_,?_,?_⟩<;>(try simp)
 ·rintro i ⟨hi,hf⟩ p hp;refine A3 4000 ?_;simp;refine E5 (fun h=>?_) (fun h=>?_)
  ·have h:=zr h;obtain⟨x,hx,hd⟩:=B2 h;rw[hd] at hf;simp only[D9] at hf;have hi1:IntKind.i64.wrap ((i:Int)+1)=((i+1:Nat):Int):=A5 (by omega);simp;(refine yH rfl (B0t l i x _ (by omega) hx) ?_; simp);refine E5 (fun h1=>?_) (fun h1=>?_)
   ·simp;rw[zj (by simpa using h1)] at hf;exact yP hR (h1:=by simp; exact hf)
   ·simp;rw[zf (by simpa using h1)] at hf;refine hp _ (i+1) ⟨h,hf⟩ (by omega) ?_;refine yV [] (by simp[hi1]) fun hrn=>⟨?_,?_,?_,?_,?_⟩<;>(try simp[hi1])
  ·have h:=zp h;simp;rw[zn (by omega)] at hf;exact yP hR (h1:=by simp; exact hf)
structure Cl where
 n:Int
 text:List UInt8
 ids:List Int
structure Tg where
 type:Int
 id:Int
 cells:List Cl
structure H0 where
 types:List Ty
 things:List Tg
def eI(n:Int):AV:=.int .i64 n
def eCl(c:Cl):AV:=.agg [.int .i64 c.n,.str c.text,.sl (c.ids.map eI)]
def T4(t:Tg):AV:=.agg [.int .i64 t.type,.int .i64 t.id,.sl (t.cells.map eCl)]
def D7(s:H0):AV:=.agg [.sl (s.types.map I8),.sl (s.things.map T4)]
theorem C2p(n:Int):eI n = .int .i64 n:=rfl
theorem B0u(c:Cl):eCl c = .agg [.int .i64 c.n,.str c.text,.sl (c.ids.map eI)]:=rfl
theorem A3E(t:Tg):T4 t = .agg [.int .i64 t.type,.int .i64 t.id,.sl (t.cells.map eCl)]:=rfl
theorem C1r(n:Int):(eI n).pureB=true:=rfl
@[simp] theorem A17 (l:List Int):F9 (l.map eI)=true:=E7 C1r l
@[simp] theorem C3m (S:Nat->Prop) (l:List Int):F3 S (l.map eI):=B3 _ (A17 l)
@[simp] theorem B8z (R:Rn) (S:Nat->Prop) (l:List Int):N8 R S (l.map eI) (l.map eI):=C2 rfl (A17 l)
theorem B90(c:Cl):(eCl c).pureB=true:=by simp[eCl]
@[simp] theorem B91 (l:List Cl):F9 (l.map eCl)=true:=E7 B90 l
@[simp] theorem C4i (S:Nat->Prop) (l:List Cl):F3 S (l.map eCl):=B3 _ (B91 l)
theorem A3F(t:Tg):(T4 t).pureB=true:=by simp[T4]
@[simp] theorem B92 (l:List Tg):F9 (l.map T4)=true:=E7 A3F l
@[simp] theorem C4j (S:Nat->Prop) (l:List Tg):F3 S (l.map T4):=B3 _ (B92 l)
def x4(ta ia tb ib:Int):Int:=if ta≠tb then IntKind.i64.wrap (ta - tb) else IntKind.i64.wrap (ia - ib)
theorem A3G(ta ia tb ib:Int)(x y:AV)(id:Nat):A2 Tryz.prog 67 [.agg [.int .i64 ta,.int .i64 ia,x],.agg [.int .i64 tb,.int .i64 ib,y]] [] id (.int .i64 (x4 ta ia tb ib)) []:=by
 refine w67.e.1 fun E hP hR hl hid=>?_;simp[w67];refine E5 (fun h=>?_) (fun h=>?_)<;>simp
 ·exact yP hR (h1:=by simp; simp at h; unfold x4; rw[zj h])
 ·exact yP hR (h1:=by simp; simp at h; unfold x4; rw[zf (by simpa using h)])
theorem F5(n a b:Int)(id:Nat):A2 Tryz.prog 129 [.int .i64 n,.int .i64 a,.int .i64 b] [] id (.bool (decide (a<=n)&&decide (n<=b))) []:=by
 refine w129.e.1 fun E hP hR hl hid=>?_;simp[w129];(repeat (refine And.intro (by first|assumption|omega|(simp; omega)|(simp_all; done)) ?_));exact yP hR
def R8(k:Int):Bool:=decide (k=3)||decide (k=4)
theorem A7t(k:Int)(id:Nat):A2 Tryz.prog 198 [.int .i64 k] [] id (.bool (R8 k)) []:=by
 refine w198.e.1 fun E hP hR hl hid=>?_;simp[w198];(repeat (refine And.intro (by first|assumption|omega|(simp; omega)|(simp_all; done)) ?_));exact yP hR (h1:=by simp; unfold R8; rw[wa]; simp)
def bs(f:Nat->Int)(i j:Nat):Nat:=if h:i<j then (if f ((i+j) / 2)<0 then bs f ((i+j) / 2+1) j else bs f i ((i+j) / 2)) else i
termination_by j - i
theorem B5T(f:Nat->Int)(i j:Nat)(h:i<=j):i<=bs f i j/\bs f i j<=j:=by
 fun_induction bs f i j with
 | case1 i j h hf ih=>have:=ih (by omega); omega
 | case2 i j h hf ih=>have:=ih (by omega); omega
 | case3 i j h=>omega
def I5(l:List Tg)(kind id:Int)(k:Nat):Int:=match l[k]? with
 | some t=>x4 t.type t.id kind id
 | none=>0
def B9(l:List Tg)(kind id:Int):Nat:=bs (I5 l kind id) 0 l.length
def E9(l:List Tg)(kind id:Int):Bool:=decide (B9 l kind id<l.length)&&decide (I5 l kind id (B9 l kind id)=0)
theorem B93{i j:Nat}(hi:i<1000000)(hj:j<1000000):IntKind.i64.wrap (IntKind.u64.wrap (IntKind.i64.wrap ((i:Int)+j)) / 2)=(((i+j) / 2:Nat):Int):=by
 have a:IntKind.i64.wrap ((i:Int)+j)=((i+j:Nat):Int):=by rw[A5 (by omega)]; omega
 have b:IntKind.u64.wrap ((i+j:Nat):Int)=((i+j:Nat):Int):=IntWalk.u64_in _ (by omega);rw[a,b,A5 (by omega)];omega
theorem B0v(l:List Tg)(kind tid:Int)(id:Nat)(hl:l.length<1000000):A2 Tryz.prog 132 [.sl (l.map T4),.agg [.int .i64 kind,.int .i64 tid,.nils],.fn 67 []] [] id (.tup [.int .i64 (B9 l kind tid),.bool (E9 l kind tid)]) []:=by
 refine w132.e.1 fun E hP hR hl hid=>?_;simp[w132];refine D0 (X:=Nat×Nat) (fun q=>⟨[(0,true,.sl (l.map T4)),(2,true,.fn 67 []),(4,true,.ptr E.n0 0 0),(8,true,.int .i64 l.length),(9,true,.int .i64 q.1),(10,true,.int .i64 q.2)],[(E.n0,some ⟨[.agg [.int .i64 kind,.int .i64 tid,.nils]],.agg [.int .i64 0,.int .i64 0,.nils],false,false⟩)],1⟩) (fun q=>q.1<=q.2/\q.2<=l.length/\bs (I5 l kind tid) q.1 q.2=B9 l kind tid) (fun q=>q.2 - q.1) (0,l.length) ?_ ⟨by simp,by simp,rfl⟩ ?_
 ·refine yV [(E.n0,E.n0)] (by simp) fun hrn=>⟨?_,?_,?_,?_,?_⟩<;>(try simp)
 ·rintro⟨i,j⟩ ⟨hij,hj,hf⟩ p hp;simp only at hij hj hf;refine A3 4000 ?_;simp;refine E5 (fun h=>?_) (fun h=>?_)
  ·have h:=zr h;have h':i<j:=(by omega);have hk:(i+j) / 2<l.length:=(by omega);obtain⟨t,ht⟩:∃t,l[(i+j) / 2]?=some t:=⟨_,zc hk⟩;have hh:=B93 (i:=i) (j:=j) (by omega) (by omega);have h64:(1:Int)<=↑IntKind.u64.bits:=(by decide);generalize hm:(i+j) / 2=m at hh hk ht;simp[hh,ht,A3E t];refine⟨h64,hk,?_⟩;refine L5 hP rfl rfl (A3G t.type t.id kind tid (.sl (t.cells.map eCl)) .nils _) (by simp) (by simp<;>rfl) ?_;refine A3 4000 ?_;have hfo:I5 l kind tid m=x4 t.type t.id kind tid:=(by simp only[I5,ht]);rw[bs,dif_pos h',hm,hfo] at hf;simp;refine E5 (fun h1=>?_) (fun h1=>?_)
   ·have hm1:IntKind.i64.wrap ((m:Int)+1)=((m+1:Nat):Int):=A5 (by omega);simp at h1;rw[zj h1] at hf;simp;refine hp _ (m+1,j) ⟨by simp only; omega,hj,hf⟩ (by simp only; omega) ?_;refine yV [(E.n0,E.n0)] (by simp[hm1]) fun hrn=>⟨?_,?_,?_,?_,?_⟩<;>(try simp[hm1])
   ·simp at h1;rw[zf (by omega)] at hf;simp;refine hp _ (i,m) ⟨by simp only; omega,by simp only; omega,hf⟩ (by simp only; omega) ?_;refine yV [(E.n0,E.n0)] (by simp) fun hrn=>⟨?_,?_,?_,?_,?_⟩<;>(try simp)
  ·have h:=zp h;have he:i=B9 l kind tid:=(by rw[←hf,bs,dif_neg (by omega)]);simp;by_cases hi:i<l.length
   ·obtain⟨t,ht⟩:∃t,l[i]?=some t:=⟨_,zc hi⟩;have hfo:I5 l kind tid i=x4 t.type t.id kind tid:=(by simp only[I5,ht]);have hg:l[i]=t:=(by rw[zc hi] at ht; injection ht);simp[hi,hg,A3E t];refine A1Q (.int .i64 0) (by simp) (fun _=>?_) (fun hg=>by simp at hg);refine L5 hP rfl rfl (A3G t.type t.id kind tid (.sl (t.cells.map eCl)) .nils _) (by simp) (by simp<;>rfl) ?_;refine A3 4000 ?_;simp;exact yP hR (h1:=by simp; rw[←he]; refine⟨rfl,?_⟩; unfold E9; rw[←he,hfo,wa]; simp[hi])
   ·have ht:l[i]?=none:=wl (by omega);simp[hi,ht];refine A1Q (.int .i64 0) (by simp) (fun hg=>by simp at hg) (fun _=>?_);refine A3 4000 ?_;simp;exact yP hR (h1:=by simp; rw[←he]; exact⟨rfl,by unfold E9; rw[←he]; simp[hi]⟩)
end Go.Am
