/- Parts of the proof: an abstract machine for Go functions, and what functions of the program give back (Dk5, Dk6, Dk7, Dkp, Dk9, Dk12, CcS, Sc1, Dw1, Sc2, Sc3, Sc4, St1). No condition. -/
import Derived.Test.YtphjabjjnncebaaGreatDoorXH
import Derived.Test.YtphjabjjnncebaaGreatDoorXG
import Derived.Test.YtphjabjjnncebaaGreatDoorXE
import Derived.Test.YtphjabjjnncebaaGreatDoorXF
set_option maxRecDepth 100000
set_option linter.all false
set_option maxHeartbeats 1000000
namespace Go.Am
open Go Go.Proofs Go.RowKit
def H0(l:List (List UInt8)):List Bt:=l.flatMap fun s=>(C5 s 0).bs
theorem B8c(s:List UInt8):(C5 s 0).bs.length<=s.length:=by
 have:=(A4i s).2.2;have:=(M8 s 0 (by omega)).2.2.2.2.2.1;omega
theorem C1U(l:List (List UInt8))(syn:Int)(id:Nat)(hl8:l.length<=8)(h4:∀s∈l,s.length<=400):A2 Tryz.prog 155 [.agg [.sl (l.map AV.str),.int .i64 syn]] [] id (.sl ((H0 l).map p7)) []:=by
 refine w155.e.1 fun E hP hR hl hid=>?_;simp[w155];refine D3 (X:=Nat×List Bt) (fun x=>⟨[(3,true,.bsl E.n0 0 x.2.length),(10,true,.sl (l.map AV.str)),(11,true,.int .i64 l.length),(12,true,.int .i64 x.1)],[(E.n0,some ⟨x.2.map p7,.agg [.int .i64 0,.nils],false,false⟩)],1⟩)
  (fun x=>x.1<=l.length/\x.2++H0 (l.drop x.1)=H0 l/\x.2.length<=400*x.1) (fun x=>l.length - x.1) (0,[]) ?_ ⟨by simp,rfl,by simp⟩ ?_
 ·refine E5.trans (E5.voidSlot 3 (x:=.nils) (y:=.bsl (E.n0+7168) 0 0) (by simp) .nils (.agg [.int .i64 0,.nils])) ?_;refine yV [(E.n0,E.n0+7168)] (by simp) fun hrn=>⟨?_,?_,?_,?_,?_⟩<;>(try simp)
 ·rintro⟨i,bs⟩ ⟨hi,hf,hbl⟩ p hp;simp only at hi hf hbl hp;refine A3 4000 ?_;simp;refine E6 (fun h=>?_) (fun h=>?_)
  ·have h:=of_decide_eq_true h;obtain⟨x,hx,hd⟩:=B6 h;have hi1:IntKind.i64.wrap ((i:Int)+1)=((i+1:Nat):Int):=A5 (by omega);have hx4:=h4 x (List.mem_of_getElem? hx);have hcb:=B8c x;simp[hx];refine⟨h,?_⟩;(refine yH rfl (B3w x _ hx4) ?_; simp);refine⟨⟨fun a _=>⟨rfl,fun y hy=>?_⟩,by omega,by omega⟩,hp _ (i+1,bs++(C5 x 0).bs) ⟨h,?_,by simp; omega⟩ (by simp only[]; omega) ?_⟩
   ·have hy:y∈(p7 a).cells:=hy;simp only[p7,AV.cells,List.mem_cons,List.not_mem_nil,or_false] at hy;rcases hy with rfl|rfl<;>rfl
   ·rw[←hf,hd]; simp[H0]
   ·refine yV [(E.n0,E.n0+15361)] (by simp[hi1]) fun hrn=>⟨?_,?_,?_,?_,?_⟩<;>(try simp[hi1]);exact C1 rfl (C3 (A4h _) (A4h _))
  ·have h:=of_decide_eq_false h;simp;rw[List.drop_of_length_le (by omega)] at hf;have hf:bs=H0 l:=(by simpa [H0] using hf);rw[←hf] at hR;have hrn:H2 []:=(by simp[A4 hid]);rw[hR];refine K5 (by simp<;>rfl) (by simp[A4 hid]<;>exact⟨rfl,rfl⟩) [] hrn ⟨?_,?_,?_,?_,?_,?_⟩<;>(try simp[A4 hid])
@[simp] theorem C4g (l:List (List UInt8)) (s:List UInt8):(A0h l s).length=l.length:=by simp[A0h]
@[simp] theorem C4E (l:List (List UInt8)) (n:Nat):(A12 l n).length=l.length:=by simp[A12]
@[simp] theorem C4F (l:List (List UInt8)) (s:List UInt8) (f:List UInt8->AV):List.take l.length ((A0h l s).map f)=(A0h l s).map f:=List.take_of_length_le (by simp)
@[simp] theorem C3I (l:List (List UInt8)) (n:Nat) (f:List UInt8->AV):List.take l.length ((A12 l n).map f)=(A12 l n).map f:=List.take_of_length_le (by simp)
structure WhS where
 seg:List (List UInt8)
 syn:Nat
def whole(l:List (List UInt8)):WhS:=⟨A12 l (C5 (B3 l) 0).last,(C5 (B3 l) 0).last⟩
theorem A7b(l:List (List UInt8))(syn:Int)(id:Nat)(hl8:l.length<=8)(h4:(B3 l).length<=400):A2 Tryz.prog 50 [.agg [.sl (l.map AV.str),.int .i64 syn]] [] id (.agg [.sl ((whole l).seg.map AV.str),.int .i64 (whole l).syn]) []:=by
 have hown:=B0k l syn;have hend:=fun k j id (h:k≠j)=>B59 k j l syn id hl8 h4 h;have htrim:=fun k j id (h:k≠j)=>B5B k j l (C5 (B3 l) 0).last (C5 (B3 l) 0).last id hl8 (M8 (B3 l) 0 (by omega)).2.1 h4 h;simp only[bxK,bxS] at hown hend htrim;refine w50.e.1 fun E hP hR hl hid=>?_;simp[w50];(refine yH rfl (hown _ (by omega)) ?_; simp);simp[Nat.add_assoc];(refine yC rfl (hend (E.n0+3072) (E.n0+3073) _ (by simp)) ?_; simp[Nat.add_assoc]);(refine yC rfl (htrim (E.n0+3072) (E.n0+3073) _ (by simp)) ?_; simp[Nat.add_assoc]);have hrn:H2 []:=by simp[whole,A4 hid]
 rw[hR];refine K5 (by simp<;>rfl) (by simp[whole,A4 hid]<;>exact⟨rfl,rfl⟩) [] hrn ⟨?_,?_,?_,?_,?_,?_⟩<;>(try simp[whole,A4 hid])
theorem x6{d:Dk}(h:C6 d≠2):d.seg.length<=8/\∀s∈d.seg,s.length<=400:=by
 unfold C6 at h;split at h
 ·exact (h rfl).elim
 ·rename_i h1;simp at h1;exact⟨h1.1,h1.2⟩
theorem B6f{l:List (List UInt8)}(h:l≠[]):B3 l∈l:=List.mem_of_getElem? (m6 h)
theorem A1v{l:List (List UInt8)}(h:∀s∈l,s.length<=400):(B3 l).length<=400:=by
 by_cases hl:l=[]
 ·subst hl; simp[B3]
 ·exact h _ (B6f hl)
theorem B5C(d:Dk)(id:Nat):A2 Tryz.prog 89 [eDk d] [] id (.tup [.sl ((if C6 d=0 then H0 d.seg else []).map p7),eDk (if C6 d=0 then ⟨(whole d.seg).seg,(whole d.seg).syn⟩ else ⟨[],0⟩),.int .i64 (C6 d)]) []:=by
 have hck:=A1u d;simp only[eDk] at hck ⊢;refine w89.e.1 fun E hP hR hl hid=>?_;simp[w89];(refine yH rfl (hck _) ?_; simp);refine E6 (fun h=>?_) (fun h=>?_)
 ·simp;have h':¬C6 d=0:=by simpa using h
  simp only[if_neg h'] at hR;refine yE hR [] (by simp[A4 hid]) fun hrn=>⟨?_,?_,?_,?_,?_,?_⟩<;>(try simp[A4 hid])
 ·simp;have h':C6 d=0:=by simpa using h
  simp only[if_pos h'] at hR;obtain⟨h8,h4⟩:=x6 (by rw[h']; decide);(refine yH rfl (C1U d.seg d.syn _ h8 h4) ?_; simp);(refine yH rfl (A7b d.seg d.syn _ h8 (A1v h4)) ?_; simp);refine yE hR [] (by simp[h',A4 hid]) fun hrn=>⟨?_,?_,?_,?_,?_,?_⟩<;>(try simp[h',A4 hid])
structure ApS where
 d:Dk
 e:Int
def F1(d:Dk)(b:Bt):ApS :=
 if C6 d≠0 then ⟨⟨[],0⟩,C6 d⟩
 else if H8 b≠0 then ⟨⟨[],0⟩,H8 b⟩
 else if (C5 (B3 d.seg) 0).last<(B3 d.seg).length then ⟨⟨[],0⟩,4⟩
 else if d.seg≠[]/\(B3 d.seg).length+(A7 b).length<=400 then ⟨⟨A0h d.seg (B3 d.seg++A7 b),d.syn⟩,0⟩
 else if d.seg.length=8 then ⟨⟨[],0⟩,2⟩
 else ⟨⟨d.seg++[A7 b],0⟩,0⟩
theorem A5X(d:Dk)(b:Bt)(id:Nat):A2 Tryz.prog 87 [eDk d,p7 b] [] id (.tup [eDk (F1 d b).d,.int .i64 (F1 d b).e]) []:=by
 have hck:=A1u d;have hbk:=A9P b;have hby:=fun id (h:H8 b=0)=>B8Z b id (A0g h).2.2.2 (A0g h).2.2.1;have hown:=B0k d.seg d.syn;have htorn:=fun k j id (h8:d.seg.length<=8) (h4:(B3 d.seg).length<=400) (h:k≠j)=>B5A k j d.seg d.syn id h8 h4 h;have hpa:=fun k j id (h1) (h2) (h3) (h:k≠j)=>C1R k j d.seg d.syn (A7 b) id h1 h2 h3 h;have hpb:=fun k j id (h1) (h2) (h3) (h4) (h:k≠j)=>C1S k j d.seg d.syn (A7 b) id h1 h2 h3 h4 h;have hpc:=fun k j id (h1) (h2) (h3) (h4) (h:k≠j)=>C1T k j d.seg d.syn (A7 b) id h1 h2 h3 h4 h;simp only[eDk,p7,bxK,bxS] at *;refine w87.e.1 fun E hP hR hl hid=>?_;simp[w87];(refine yH rfl (hck _) ?_; simp);refine E6 (fun h=>?_) (fun h=>?_)
 ·have h':C6 d=0:=by simpa using h
  obtain⟨h8,h4⟩:=x6 (by rw[h']; decide);have hl4:=A1v h4;simp;(refine yH rfl (hbk _) ?_; simp);refine E6 (fun h1=>?_) (fun h1=>?_)
  ·simp;have h1':H8 b≠0:=(by simpa using h1);have hv:F1 d b=⟨⟨[],0⟩,H8 b⟩:=(by unfold F1; rw[if_neg (by simp[h']),if_pos h1']);rw[hv] at hR;refine yE hR [] (by simp[A4 hid]) fun hrn=>⟨?_,?_,?_,?_,?_,?_⟩<;>(try simp[A4 hid])
  ·simp;have h1':H8 b=0:=(by simpa using h1);have hbl:(A7 b).length<=400:=(by have:=A1J b h1'; simp[A7]; omega);(refine yC rfl (hown _ (by omega)) ?_; simp[Nat.add_assoc]);(refine yC rfl (htorn (E.n0+15360) (E.n0+15361) _ h8 hl4 (by simp)) ?_; simp[Nat.add_assoc]);refine E6 (fun h2=>?_) (fun h2=>?_)
   ·simp;have h2':=of_decide_eq_true h2;have hv:F1 d b=⟨⟨[],0⟩,4⟩:=(by unfold F1; rw[if_neg (by simp[h']),if_neg (by simp[h1']),if_pos h2']);rw[hv] at hR;refine yE hR [] (by simp[A4 hid]) fun hrn=>⟨?_,?_,?_,?_,?_,?_⟩<;>(try simp[A4 hid])
   ·simp;have h2':=of_decide_eq_false h2;(refine yH rfl (hby _ h1') ?_; simp);by_cases hp:d.seg≠[]/\(B3 d.seg).length+(A7 b).length<=400
    ·have hv:F1 d b=⟨⟨A0h d.seg (B3 d.seg++A7 b),d.syn⟩,0⟩:=(by unfold F1; rw[if_neg (by simp[h']),if_neg (by simp[h1']),if_neg h2',if_pos hp]);rw[hv] at hR;(refine yC rfl (hpa (E.n0+15360) (E.n0+15361) _ h8 hp.1 hp.2 (by simp)) ?_; simp[Nat.add_assoc]);have hrn:H2 []:=(by simp[A4 hid]);rw[hR];refine K5 (by simp<;>rfl) (by simp[A4 hid]<;>exact⟨rfl,rfl⟩) [] hrn ⟨?_,?_,?_,?_,?_,?_⟩<;>(try simp[A4 hid])
    ·by_cases h88:d.seg.length=8
     ·have hv:F1 d b=⟨⟨[],0⟩,2⟩:=(by unfold F1; rw[if_neg (by simp[h']),if_neg (by simp[h1']),if_neg h2',if_neg hp,if_pos h88]);rw[hv] at hR;have hne:d.seg≠[]:=(by intro h0; rw[h0] at h88; simp at h88);(refine yC rfl (hpb (E.n0+15360) (E.n0+15361) _ h88 (fun h0=>hp ⟨hne,h0⟩) hl4 (by omega) (by simp)) ?_; simp[Nat.add_assoc]);refine yE hR [] (by simp[A4 hid]) fun hrn=>⟨?_,?_,?_,?_,?_,?_⟩<;>(try simp[A4 hid])
     ·have hv:F1 d b=⟨⟨d.seg++[A7 b],0⟩,0⟩:=(by unfold F1; rw[if_neg (by simp[h']),if_neg (by simp[h1']),if_neg h2',if_neg hp,if_neg h88]);rw[hv] at hR;have hor:d.seg=[]\/¬(B3 d.seg).length+(A7 b).length<=400:=by
       by_cases hne:d.seg=[]
       ·exact .inl hne
       ·exact .inr fun h0=>hp ⟨hne,h0⟩
      (refine yC rfl (hpc (E.n0+15360) (E.n0+15361) _ (by omega) hor hl4 (by omega) (by simp)) ?_; simp[Nat.add_assoc]);have hrn:H2 []:=(by simp[A4 hid]);rw[hR];refine K5 (by simp<;>rfl) (by simp[A4 hid]<;>exact⟨rfl,rfl⟩) [] hrn ⟨?_,?_,?_,?_,?_,?_⟩<;>(try simp[A4 hid]);exact⟨List.take_of_length_le (by simp),by rw[List.take_of_length_le (by simp)]; exact B4 _ (C3 (A0u _) rfl)⟩
 ·have h':¬C6 d=0:=by simpa using h
  simp;refine B2 (by simpa using h') ?_;simp;have hv:F1 d b=⟨⟨[],0⟩,C6 d⟩:=by unfold F1; rw[if_pos h']
  rw[hv] at hR;refine yE hR [] (by simp[A4 hid]) fun hrn=>⟨?_,?_,?_,?_,?_,?_⟩<;>(try simp[A4 hid])
def A0S(d:Dk):ApS :=
 if C6 d≠0 then ⟨⟨[],0⟩,C6 d⟩
 else if (C5 (B3 d.seg) 0).last<(B3 d.seg).length then ⟨⟨[],0⟩,4⟩
 else ⟨⟨d.seg,(B3 d.seg).length⟩,0⟩
theorem B5D(d:Dk)(id:Nat):A2 Tryz.prog 90 [eDk d] [] id (.tup [eDk (A0S d).d,.int .i64 (A0S d).e]) []:=by
 have hck:=A1u d;have hown:=B0k d.seg d.syn;have htorn:=fun k j id (h8:d.seg.length<=8) (h4:(B3 d.seg).length<=400) (h:k≠j)=>B5A k j d.seg d.syn id h8 h4 h;have hla:=B58 d.seg d.syn;simp only[eDk,bxK,bxS] at *;refine w90.e.1 fun E hP hR hl hid=>?_;simp[w90];(refine yH rfl (hck _) ?_; simp);refine E6 (fun h=>?_) (fun h=>?_)
 ·have h':¬C6 d=0:=by simpa using h
  simp;have hv:A0S d=⟨⟨[],0⟩,C6 d⟩:=by unfold A0S; rw[if_pos h']
  rw[hv] at hR;refine yE hR [] (by simp[A4 hid]) fun hrn=>⟨?_,?_,?_,?_,?_,?_⟩<;>(try simp[A4 hid])
 ·have h':C6 d=0:=by simpa using h
  obtain⟨h8,h4⟩:=x6 (by rw[h']; decide);have hl4:=A1v h4;simp;(refine yC rfl (hown _ (by omega)) ?_; simp[Nat.add_assoc]);(refine yC rfl (htorn (E.n0+9216) (E.n0+9217) _ h8 hl4 (by simp)) ?_; simp[Nat.add_assoc]);refine E6 (fun h2=>?_) (fun h2=>?_)
  ·simp;have h2':=of_decide_eq_true h2;have hv:A0S d=⟨⟨[],0⟩,4⟩:=(by unfold A0S; rw[if_neg (by simp[h']),if_pos h2']);rw[hv] at hR;refine yE hR [] (by simp[A4 hid]) fun hrn=>⟨?_,?_,?_,?_,?_,?_⟩<;>(try simp[A4 hid])
  ·simp;have h2':=of_decide_eq_false h2;have hv:A0S d=⟨⟨d.seg,(B3 d.seg).length⟩,0⟩:=(by unfold A0S; rw[if_neg (by simp[h']),if_neg h2']);rw[hv] at hR;(refine yC rfl (hla _ (by omega)) ?_; simp[Nat.add_assoc]);have hrn:H2 []:=(by simp[A4 hid]);rw[hR];refine K5 (by simp<;>rfl) (by simp[A4 hid]<;>exact⟨rfl,rfl⟩) [] hrn ⟨?_,?_,?_,?_,?_,?_⟩<;>(try simp[A4 hid])
def T6(d:Dk)(keep:Int):ApS :=
 if C6 d≠0 then ⟨⟨[],0⟩,C6 d⟩
 else if keep<0 then ⟨⟨[],0⟩,3⟩
 else ⟨⟨A12 d.seg (d.syn+min keep ((B3 d.seg).length - d.syn)).toNat,d.syn⟩,0⟩
theorem B8d(d:Dk)(keep:Int)(id:Nat)(hsy:C6 d=0->0<=d.syn/\d.syn<=(B3 d.seg).length):A2 Tryz.prog 33 [eDk d,.int .i64 keep] [] id (.tup [eDk (T6 d keep).d,.int .i64 (T6 d keep).e]) []:=by
 have hck:=A1u d;have hown:=B0k d.seg d.syn;have hla:=B58 d.seg d.syn;have htrim:=fun k j n id (h8:d.seg.length<=8) (hn:n<=(B3 d.seg).length) (h4:(B3 d.seg).length<=400) (h:k≠j)=>B5B k j d.seg d.syn n id h8 hn h4 h;simp only[eDk,bxK,bxS] at *;refine w33.e.1 fun E hP hR hl hid=>?_;simp[w33];(refine yH rfl (hck _) ?_; simp);refine E6 (fun h=>?_) (fun h=>?_)
 ·have h':C6 d=0/\keep<0:=by simpa using h
  simp;have hv:T6 d keep=⟨⟨[],0⟩,3⟩:=by unfold T6; rw[if_neg (by simp[h'.1]),if_pos h'.2]
  rw[hv] at hR;refine yE hR [] (by simp[A4 hid]) fun hrn=>⟨?_,?_,?_,?_,?_,?_⟩<;>(try simp[A4 hid])
 ·simp;refine E6 (fun h1=>?_) (fun h1=>?_)
  ·simp;have h1':¬C6 d=0:=(by simpa using h1);have hv:T6 d keep=⟨⟨[],0⟩,C6 d⟩:=(by unfold T6; rw[if_pos h1']);rw[hv] at hR;refine yE hR [] (by simp[A4 hid]) fun hrn=>⟨?_,?_,?_,?_,?_,?_⟩<;>(try simp[A4 hid])
  ·simp;have h1':C6 d=0:=(by simpa using h1);have hk:¬keep<0:=(by simpa [h1'] using h);obtain⟨h8,h4⟩:=x6 (by rw[h1']; decide);have hl4:=A1v h4;obtain⟨hs0,hs1⟩:=hsy h1';have hv:T6 d keep=⟨⟨A12 d.seg (d.syn+min keep ((B3 d.seg).length - d.syn)).toNat,d.syn⟩,0⟩:=(by unfold T6; rw[if_neg (by simp[h1']),if_neg hk]);rw[hv] at hR;have hm:0<=min keep ((B3 d.seg).length - d.syn)/\min keep ((B3 d.seg).length - d.syn)<=(B3 d.seg).length - d.syn:=(by omega);have hw1:IntKind.i64.wrap (((B3 d.seg).length:Int) - d.syn)=(B3 d.seg).length - d.syn:=A5 (by omega);have hw2:IntKind.i64.wrap (d.syn+min keep ((B3 d.seg).length - d.syn))=(((d.syn+min keep ((B3 d.seg).length - d.syn)).toNat:Nat):Int):=(by rw[A5 (by omega)]; omega);have hN:(d.syn+min keep ((B3 d.seg).length - d.syn)).toNat<=(B3 d.seg).length:=(by omega);generalize (d.syn+min keep ((B3 d.seg).length - d.syn)).toNat=N at *;(refine yC rfl (hown _ (by omega)) ?_; simp[Nat.add_assoc]);(refine yC rfl (hla _ (by omega)) ?_; simp[hw1,hw2,Nat.add_assoc]);(refine yC rfl (htrim (E.n0+15360) (E.n0+15361) N _ h8 hN hl4 (by simp)) ?_; simp[hw1,hw2,Nat.add_assoc]);have hrn:H2 []:=(by simp[A4 hid]);rw[hR];refine K5 (by simp<;>rfl) (by simp[A4 hid]<;>exact⟨rfl,rfl⟩) [] hrn ⟨?_,?_,?_,?_,?_,?_⟩<;>(try simp[A4 hid])
theorem B3x(s:List UInt8)(r:List (List UInt8)):B3 (s::r)=if r=[] then s else B3 r:=by
 cases r with
 | nil=>rfl
 | cons a r=>simp[B3,List.getLast?_cons_cons]
theorem A7c:∀(l:List (List UInt8)) (e0:List Nat),(V7 l e0).e=0->(∀s∈l,(C5 s 0).e=5)/\(V7 l e0).ends=(if l=[] then e0 else (C5 (B3 l) 0).ends)/\(∀(i:Nat) s,i+1<l.length->l[i]?=some s->(C5 s 0).last=s.length)
 | [],e0,_=>⟨by simp,rfl,by simp⟩
 | s::r,e0,h=>by
  simp only[V7] at h ⊢;split at h
  ·exact ((M8 s 0 (by omega)).2.2.2.2.1 h).elim
  ·rename_i h1;rw[if_neg h1];split at h
   ·simp at h
   ·rename_i h2;rw[if_neg h2];obtain⟨i1,i2,i3⟩:=A7c r _ h;have h5:(C5 s 0).e=5:=Classical.byContradiction h1;refine⟨fun x hx=>?_,?_,fun i x hi hx=>?_⟩
    ·rcases List.mem_cons.1 hx with rfl|hx
     ·exact h5
     ·exact i1 x hx
    ·rw[i2,B3x];simp only[reduceCtorEq,if_false];split<;>rfl
    ·cases i with
     | zero =>
      simp at hx;subst hx;have hr:r≠[]:=(by intro h0; subst h0; simp at hi);have:=(M8 s 0 (by omega)).2.1;have:¬(C5 s 0).last<s.length:=fun h0=>h2 ⟨hr,h0⟩;omega
     | succ i=>exact i3 i x (by simpa using hi) (by simpa using hx)
theorem A4j:C5 [] 0=⟨[],[0],0,5⟩:=by
 rw[O1 (by decide)];have:(A9 (List.drop 0 [])).e=5:=by decide
 rw[this]
theorem A9V(l:List (List UInt8))(h:(V7 l [0]).e=0):(V7 l [0]).ends=(C5 (B3 l) 0).ends:=by
 rw[(A7c l [0] h).2.1];split
 ·rename_i h0; subst h0;rw[show B3 []=[] from rfl,A4j]
 ·rfl
theorem p8{d:Dk}(h:C6 d=0):(V7 d.seg [0]).e=0/\0<=d.syn/\d.syn<=(B3 d.seg).length/\d.syn.toNat∈(C5 (B3 d.seg) 0).ends:=by
 unfold C6 at h;split at h
 ·simp at h
 ·split at h
  ·rename_i h1; exact (h1 h).elim
  ·rename_i h1;have h1:(V7 d.seg [0]).e=0:=Classical.byContradiction h1;split at h
   ·rename_i h2;rw[A9V _ h1] at h2;simp only[List.any_eq_true,beq_iff_eq] at h2;obtain⟨x,hx,hs⟩:=h2;have hf:=M8 (B3 d.seg) 0 (by omega);have:=hf.2.2.2.1 x hx;refine⟨h1,by omega,by omega,?_⟩;rw[hs,Int.toNat_natCast]; exact hx
   ·simp at h
def A36(a b:Dk):Bool:=a.syn==b.syn&&A1t (fun x y=>x==y) a.seg b.seg
theorem A7d(a b:Dk):A36 a b=true↔a=b:=by
 obtain⟨l,n⟩:=a;obtain⟨l',n'⟩:=b;simp[A36,A9Q (f:=fun (x y:List UInt8)=>x==y) (by simp),and_comm]
theorem A6E(a b:Dk)(id:Nat)(hl:a.seg.length<9223372036854775807):A2 Tryz.prog 34 [eDk a,eDk b] [] id (.bool (A36 a b)) []:=by
 simp only[eDk];refine w34.e.1 fun E hP hR hl hid=>?_;simp[w34];refine E6 (fun h=>?_) (fun h=>?_)
 ·simp;have hv:A36 a b=false:=by
   unfold A36;by_cases h1:a.syn=b.syn
   ·have h2:a.seg.length≠b.seg.length:=(by simp[h1] at h; omega);rw[B2F h2]; simp
   ·simp[h1]
  rw[hv] at hR;exact yP hR
 ·simp;have h1:a.syn=b.syn:=by simp at h; exact h.1
  have h2:a.seg.length=b.seg.length:=by simp[h1] at h; omega
  have hv:A36 a b=A1t (fun x y=>x==y) a.seg b.seg:=by simp[A36,h1]
  rw[hv] at hR;refine D3 (X:=Nat) (fun i=>⟨[(2,true,.ptr E.n0 0 0),(3,true,.ptr (E.n0+1) 0 0),(5,true,.int .i64 i)],[(E.n0,some ⟨[.agg [.sl (a.seg.map AV.str),.int .i64 a.syn]],.agg [.nils,.int .i64 0],false,false⟩),(E.n0+1,some ⟨[.agg [.sl (b.seg.map AV.str),.int .i64 b.syn]],.agg [.nils,.int .i64 0],false,false⟩)],2⟩)
   (fun i=>i<=a.seg.length/\A1t (fun x y=>x==y) (a.seg.drop i) (b.seg.drop i)=A1t (fun x y=>x==y) a.seg b.seg) (fun i=>a.seg.length - i) 0 ?_ ⟨by omega,rfl⟩ ?_
  ·refine yV [(E.n0,E.n0),(E.n0+1,E.n0+1024)] (by simp) fun hrn=>⟨?_,?_,?_,?_,?_⟩<;>(try simp)
  ·rintro i ⟨hi,hf⟩ p hp;refine A3 4000 ?_;simp;refine E6 (fun h=>?_) (fun h=>?_)
   ·have h:=of_decide_eq_true h;obtain⟨x,hx,hd⟩:=B6 h;obtain⟨y,hy,hd'⟩:=B6 (l:=b.seg) (i:=i) (by omega);rw[hd,hd'] at hf;simp only[A1t] at hf;have hi1:IntKind.i64.wrap ((i:Int)+1)=((i+1:Nat):Int):=A5 (by omega);simp[hx,hy];(repeat (refine And.intro (by first|assumption|omega|(simp; omega)|(simp_all; done)) ?_));refine E6 (fun h3=>?_) (fun h3=>?_)
    ·simp;have h3':(x==y)=false:=(by simpa using h3);rw[h3',Bool.false_and] at hf;exact yP hR (h1:=by simp; exact hf.symm)
    ·simp;have h3':(x==y)=true:=(by simpa using h3);rw[h3',Bool.true_and] at hf;refine hp _ (i+1) ⟨h,hf⟩ (by omega) ?_;refine yV [(E.n0,E.n0),(E.n0+1,E.n0+1)] (by simp[hi1]) fun hrn=>⟨?_,?_,?_,?_,?_⟩<;>(try simp[hi1])
   ·have h:=of_decide_eq_false h;simp;rw[List.drop_of_length_le (by omega),List.drop_of_length_le (by omega)] at hf;exact yP hR (h1:=by simp; exact hf.symm)
def B2O(s:List UInt8):List UInt8:=s.take (C5 s 0).last
def A7e(d:Dk)(keep:Int):Dk:=if d.seg≠[]/\keep<(B3 d.seg).length - d.syn then ⟨A0h d.seg ((B3 d.seg).take (d.syn+keep).toNat),d.syn⟩ else d
end Go.Am
namespace Go.Am
open Go Go.RowKit
theorem A5Y{l:List (List UInt8)}(h:l≠[]):l=l.dropLast++[B3 l]:=by
 have h1:=List.dropLast_concat_getLast h;have h2:B3 l=l.getLast h:=by unfold B3; rw[List.getLast?_eq_some_getLast h]; rfl
 rw[h2,h1]
theorem B0l{l:List (List UInt8)}(h:l≠[])(s:List UInt8):A0h l s=l.dropLast++[s]:=by
 have hp:=List.length_pos_iff.2 h;unfold A0h;conv=>lhs; arg 1; rw[A5Y h]
 rw[List.set_append];simp
theorem A9W(l:List (List UInt8)):A0h l (B3 l)=l:=by
 by_cases h:l=[]
 ·subst h; rfl
 ·rw[B0l h,←A5Y h]
theorem A7f{l:List (List UInt8)}(h:l≠[])(s:List UInt8):B3 (A0h l s)=s:=by
 rw[B0l h]; simp[B3]
theorem A7g(l:List (List UInt8))(s:List UInt8):B3 (l++[s])=s:=by simp[B3]
theorem B8e{d:Dk}{keep:Int}(h:C6 d=0)(hk:0<=keep):T6 d keep=⟨A7e d keep,0⟩:=by
 obtain⟨h1,h2,h3,h4⟩:=p8 h;unfold T6 A7e;rw[if_neg (by simp[h]),if_neg (by omega)];by_cases hc:d.seg≠[]/\keep<(B3 d.seg).length - d.syn
 ·rw[if_pos hc];unfold A12;rw[show d.syn+min keep ((B3 d.seg).length - d.syn)=d.syn+keep by omega]
 ·rw[if_neg hc];by_cases hne:d.seg=[]
  ·obtain⟨seg,syn⟩:=d;simp only at hne;subst hne;rfl
  ·have:¬keep<(B3 d.seg).length - d.syn:=fun h0=>hc ⟨hne,h0⟩;rw[show d.syn+min keep ((B3 d.seg).length - d.syn)=(B3 d.seg).length by omega];unfold A12;rw[Int.toNat_natCast,List.take_length,A9W]
/-! ### The examples of diskBegun -/
theorem B5E(b:Bt)(h:H8 b=0):C5 (A7 b) 0=⟨[b],[0,(A7 b).length],(A7 b).length,5⟩:=by
 have hd:=A3g b h [];rw[List.append_nil] at hd;have h0:(A9 ((A7 b).drop 0)).e=0:=by rw[List.drop_zero,hd]
 rw[Y4 h0,List.drop_zero,hd];simp only[Int.toNat_natCast,Nat.zero_add];have h5:(A9 ((A7 b).drop (A7 b).length)).e=5:=by rw[List.drop_length]; decide
 rw[O1 (by rw[h5]; decide),h5]
theorem B6g:C6 ⟨[],0⟩=0:=by decide
theorem A7h:(A7 P4).length=17:=by decide
theorem B5F:C5 (A7 P4) 0=⟨[P4],[0,17],17,5⟩:=by rw[B5E P4 (by decide),A7h]
theorem A4k:C5 ((A7 P4).take 5) 0=⟨[],[0],0,5⟩:=by
 rw[O1 (by decide)];have:(A9 (List.drop 0 ((A7 P4).take 5))).e=5:=by decide
 rw[this]
theorem C3J:F1 ⟨[],0⟩ P4=⟨⟨[A7 P4],0⟩,0⟩:=by
 unfold F1;rw[B6g,if_neg (by decide),if_neg (by decide)];simp only[show B3 []=[] from rfl,A4j];rw[if_neg (by decide),if_neg (by decide),if_neg (by decide)];rfl
theorem B3y(n:Int)(h:n=0\/n=17):C6 ⟨[A7 P4],n⟩=0:=by
 unfold C6;simp only[V7,B5F,List.length_singleton,List.any_cons,A7h];rcases h with rfl|rfl<;>simp
theorem B3z:C6 ⟨[(A7 P4).take 5],0⟩=0:=by
 unfold C6;simp only[V7,A4k,List.length_singleton,List.any_cons];simp[A7h]
theorem C3K:T6 ⟨[A7 P4],0⟩ 5=⟨⟨[(A7 P4).take 5],0⟩,0⟩:=by
 unfold T6;rw[B3y 0 (.inl rfl),if_neg (by decide),if_neg (by decide)];simp only[show B3 [A7 P4]=A7 P4 from rfl,A7h];rfl
theorem C3L:F1 ⟨[(A7 P4).take 5],0⟩ P4=⟨⟨[],0⟩,4⟩:=by
 unfold F1;rw[B3z,if_neg (by decide),if_neg (by decide)];simp only[show B3 [(A7 P4).take 5]=(A7 P4).take 5 from rfl,A4k];rw[if_pos (by decide)]
theorem B40:(whole [(A7 P4).take 5]).seg=[[]]/\(whole [(A7 P4).take 5]).syn=0/\H0 [(A7 P4).take 5]=[]:=by
 unfold whole;simp only[show B3 [(A7 P4).take 5]=(A7 P4).take 5 from rfl,A4k];refine⟨rfl,trivial,?_⟩;simp[H0,A4k]
theorem C3M:A0S ⟨[A7 P4],0⟩=⟨⟨[A7 P4],17⟩,0⟩:=by
 unfold A0S;rw[B3y 0 (.inl rfl),if_neg (by decide)];simp only[show B3 [A7 P4]=A7 P4 from rfl,B5F,A7h];rw[if_neg (by decide)];rfl
theorem C3N:T6 ⟨[A7 P4],17⟩ 0=⟨⟨[A7 P4],17⟩,0⟩:=by
 unfold T6;rw[B3y 17 (.inr rfl),if_neg (by decide),if_neg (by decide)];simp only[show B3 [A7 P4]=A7 P4 from rfl,A7h];have:(A7 P4).take 17=A7 P4:=List.take_of_length_le (by rw[A7h]; omega);show (⟨⟨[(A7 P4).take 17],17⟩,0⟩:ApS)=_;rw[this]
end Go.Am
namespace Go.Am
open Go Go.Proofs Go.RowKit
/-! ### The plain law: what is open,what is behind,a crash -/
theorem B8f(s:List UInt8):C5 (B2O s) 0=⟨(C5 s 0).bs,(C5 s 0).ends,(C5 s 0).last,(C5 (B2O s) 0).e⟩/\(C5 (B2O s) 0).e=5:=by
 have hl:=(M8 s 0 (by omega)).2.1;have key:=A2Q (s:=s) (p:=fun a=>a<=s.length->∀k,(C5 s a).last=k->C5 (s.take k) a=⟨(C5 s a).bs,(C5 s a).ends,(C5 s a).last,(C5 (s.take k) a).e⟩/\(C5 (s.take k) a).e=5) (fun a hd ha k hk=>?_) (fun a hd hle ih ha k hk=>?_) (s.length+1) 0 (by omega) (by omega) _ rfl
 ·exact key
 ·rw[O1 hd] at hk ⊢;simp only at hk ⊢;subst hk;have h5:(A9 ((s.take a).drop a)).e=5:=by
   rw[List.drop_eq_nil_of_le (by simp; omega)]; decide
  rw[O1 (by rw[h5]; decide)];exact⟨rfl,h5⟩
 ·rw[Y4 hd] at hk ⊢;simp only at hk ⊢;have hadv:=X1 hd;have hge:=(M8 s (a+(A9 (s.drop a)).n.toNat) hle).1;have hle2:=(M8 s (a+(A9 (s.drop a)).n.toNat) hle).2.1;have e:A9 ((s.take k).drop a)=A9 (s.drop a):=by
   rw[List.drop_take]; exact A6D hd (by omega)
  have hd':(A9 ((s.take k).drop a)).e=0:=by rw[e]; exact hd
  obtain⟨i1,i2⟩:=ih hle k hk;rw[Y4 hd',e];simp only;rw[i1];exact⟨by simp only[i2],i2⟩
theorem C1V(s:List UInt8)(b:Bt)(hb:H8 b=0)(h:(C5 s 0).last=s.length):(C5 (s++A7 b) 0).bs=(C5 s 0).bs++[b]/\(C5 (s++A7 b) 0).last=(s++A7 b).length/\(C5 (s++A7 b) 0).e=5:=by
 have hdl:∀a,a<=s.length->(s++A7 b).drop a=s.drop a++A7 b:=fun a ha=>by rw[List.drop_append_of_le_length ha]
 have key:=A2Q (s:=s) (p:=fun a=>a<=s.length->(C5 s a).last=s.length->(C5 (s++A7 b) a).bs=(C5 s a).bs++[b]/\(C5 (s++A7 b) a).last=(s++A7 b).length/\(C5 (s++A7 b) a).e=5) (fun a hd ha hk=>?_) (fun a hd hle ih ha hk=>?_) (s.length+1) 0 (by omega) (by omega) h
 ·exact key
 ·rw[O1 hd] at hk ⊢;simp only at hk ⊢;subst hk;have hdd:(s++A7 b).drop s.length=A7 b:=by rw[List.drop_left]
  have hdc:=A3g b hb [];rw[List.append_nil] at hdc;have h0:(A9 ((s++A7 b).drop s.length)).e=0:=by rw[hdd,hdc]
  rw[Y4 h0,hdd,hdc];simp only[Int.toNat_natCast];have h5:(A9 ((s++A7 b).drop (s.length+(A7 b).length))).e=5:=by
   rw[List.drop_eq_nil_of_le (by simp)]; decide
  rw[O1 (by rw[h5]; decide)];simp only[List.length_append];exact⟨rfl,trivial,h5⟩
 ·rw[Y4 hd] at hk ⊢;simp only at hk ⊢;have e:A9 ((s++A7 b).drop a)=A9 (s.drop a):=by rw[hdl a ha]; exact A35 hd _
  have h0:(A9 ((s++A7 b).drop a)).e=0:=by rw[e]; exact hd
  rw[Y4 h0,e];simp only;obtain⟨i1,i2,i3⟩:=ih hle hk;rw[i1,i2,i3];exact⟨rfl,rfl,rfl⟩
theorem A9X{l:List (List UInt8)}(h:l=[]):whole l=⟨[],0⟩:=by
 subst h;unfold whole;simp only[show B3 []=[] from rfl,A4j];rfl
theorem B41{l:List (List UInt8)}(h:l≠[]):B3 (whole l).seg=B2O (B3 l):=A7f h _
theorem B2P:∀(l:List (List UInt8)) (e0:List Nat),(∀s∈l,(C5 s 0).e=5)->(∀(i:Nat) s,i+1<l.length->l[i]?=some s->(C5 s 0).last=s.length)->(V7 l e0).e=0
 | [],e0,_,_=>rfl
 | s::r,e0,h1,h2=>by
  simp only[V7];rw[if_neg (by rw[h1 s (by simp)]; simp),if_neg]
  ·exact B2P r _ (fun x hx=>h1 x (by simp[hx])) fun i x hi hx=>h2 (i+1) x (by simpa using hi) (by simpa using hx)
  ·rintro⟨hr,hlt⟩;have:=h2 0 s (by have:=List.length_pos_iff.2 hr; simp; omega) rfl;omega
theorem B8g{d:Dk}(h8:d.seg.length<=8)(h4:∀s∈d.seg,s.length<=400)(h1:∀s∈d.seg,(C5 s 0).e=5)(h2:∀(i:Nat) s,i+1<d.seg.length->d.seg[i]?=some s->(C5 s 0).last=s.length)(n:Nat)(hn:d.syn=n)(h3:n∈(C5 (B3 d.seg) 0).ends):C6 d=0:=by
 have h0:=B2P d.seg [0] h1 h2;unfold C6;rw[if_neg,if_neg (by rw[h0]; simp),if_pos]
 ·rw[A9V _ h0,List.any_eq_true];exact⟨n,h3,by simp[hn]⟩
 ·rintro (h|h)
  ·omega
  ·rw[List.any_eq_true] at h;obtain⟨s,hs,h⟩:=h;have:=h4 s hs;simp at h;omega
theorem B2Q(s:List UInt8):(C5 s 0).last∈(C5 s 0).ends:=by
 have:=(A4i s).1;exact List.mem_of_getElem? this
structure A2R(l:List (List UInt8)):Prop where
 h8:l.length<=8
 h4:∀s∈l,s.length<=400
 h5:∀s∈l,(C5 s 0).e=5
 hf:∀(i:Nat) s,i+1<l.length->l[i]?=some s->(C5 s 0).last=s.length
theorem B5G{d:Dk}(h:C6 d=0):A2R d.seg:=by
 obtain⟨h8,h4⟩:=x6 (by rw[h]; decide);obtain⟨g1,g2,g3⟩:=A7c _ _ (p8 h).1;exact⟨h8,h4,g1,g3⟩
theorem A2R.check{l:List (List UInt8)}(g:A2R l)(n:Nat)(h:n∈(C5 (B3 l) 0).ends):C6 ⟨l,n⟩=0:=B8g g.h8 g.h4 g.h5 g.hf n rfl h
theorem A7i{l:List (List UInt8)}{s:List UInt8}{i:Nat}{x:List UInt8}(h:(A0h l s)[i]?=some x):(i+1<l.length/\l[i]?=some x)\/(i+1=l.length/\x=s):=by
 unfold A0h at h;rw[List.getElem?_set] at h;split at h
 ·rename_i e;split at h
  ·injection h with h; exact .inr ⟨by omega,h.symm⟩
  ·cases h
 ·have hi:=(List.getElem?_eq_some_iff.1 h).1;exact .inl ⟨by omega,h⟩
theorem A2R.set{l:List (List UInt8)}(g:A2R l){s:List UInt8}(h1:s.length<=400)(h2:(C5 s 0).e=5):A2R (A0h l s):=by
 refine⟨by simpa using g.h8,fun x hx=>?_,fun x hx=>?_,fun i x hi hx=>?_⟩
 ·obtain⟨i,hi⟩:=List.getElem?_of_mem hx;rcases A7i hi with⟨_,h⟩|⟨_,rfl⟩
  ·exact g.h4 x (List.mem_of_getElem? h)
  ·exact h1
 ·obtain⟨i,hi⟩:=List.getElem?_of_mem hx;rcases A7i hi with⟨_,h⟩|⟨_,rfl⟩
  ·exact g.h5 x (List.mem_of_getElem? h)
  ·exact h2
 ·simp at hi;rcases A7i hx with⟨_,h⟩|⟨h,_⟩
  ·exact g.hf i x hi h
  ·omega
theorem A2R.snoc{l:List (List UInt8)}(g:A2R l){s:List UInt8}(h8:l.length<8)(h1:s.length<=400)(h2:(C5 s 0).e=5)(h3:l≠[]->(C5 (B3 l) 0).last=(B3 l).length):A2R (l++[s]):=by
 refine⟨by simp; omega,fun x hx=>?_,fun x hx=>?_,fun i x hi hx=>?_⟩
 ·rcases List.mem_append.1 hx with hx|hx
  ·exact g.h4 x hx
  ·simp at hx; subst hx; exact h1
 ·rcases List.mem_append.1 hx with hx|hx
  ·exact g.h5 x hx
  ·simp at hx; subst hx; exact h2
 ·simp at hi;rw[List.getElem?_append_left (by omega)] at hx;by_cases hl:i+1<l.length
  ·exact g.hf i x hl hx
  ·have hne:l≠[]:=(by intro h0; subst h0; simp at hi);have:=m6 hne;rw[show l.length - 1=i by omega,hx] at this;injection this with this
   subst this;exact h3 hne
theorem A2R.last4{l:List (List UInt8)}(g:A2R l):(B3 l).length<=400:=A1v g.h4
theorem B2R{l:List (List UInt8)}(h:l≠[])(s:List UInt8):H0 (A0h l s)=H0 l.dropLast++(C5 s 0).bs:=by
 rw[B0l h]; simp[H0]
theorem A9Y{l:List (List UInt8)}(h:l≠[]):H0 l=H0 l.dropLast++(C5 (B3 l) 0).bs:=by
 conv=>lhs; rw[A5Y h]
 simp[H0]
theorem B42{l:List (List UInt8)}(g:A2R l):A2R (whole l).seg/\C6 ⟨(whole l).seg,(whole l).syn⟩=0/\H0 (whole l).seg=H0 l/\whole (whole l).seg=whole l/\(C5 (B3 (whole l).seg) 0).last=(B3 (whole l).seg).length/\(whole l).syn=(B3 (whole l).seg).length:=by
 by_cases h:l=[]
 ·rw[A9X h];subst h;have hg:A2R []:=⟨by simp,by simp,by simp,by simp⟩;refine⟨hg,hg.check 0 (by rw[show B3 []=[] from rfl,A4j]; simp),rfl,A9X rfl,?_,rfl⟩;rw[show B3 []=[] from rfl,A4j]; rfl
 ·have hl:=B41 h;have h4:=g.last4;have hll:=(M8 (B3 l) 0 (by omega)).2.1;obtain⟨c1,c2⟩:=B8f (B3 l);have hlen:(B2O (B3 l)).length=(C5 (B3 l) 0).last:=by simp[B2O]; omega
  have g':A2R (whole l).seg:=g.set (by rw[←B2O] at *; omega) c2;have hlast:(C5 (B3 (whole l).seg) 0).last=(B3 (whole l).seg).length:=by rw[hl,c1,hlen]
  have hsyn:(whole l).syn=(B3 (whole l).seg).length:=by rw[hl,hlen]; rfl
  refine⟨g',g'.check _ ?_,?_,?_,hlast,hsyn⟩
  ·rw[hsyn,←hlast]; exact B2Q _
  ·show H0 (A0h l _)=_;rw[B2R h,A9Y h];show _++(C5 (B2O (B3 l)) 0).bs=_;rw[c1]
  ·show (⟨A12 (whole l).seg _,_⟩:WhS)=_;rw[hlast];unfold A12;rw[List.take_length,A9W,←hsyn]
structure Fd where
 name:List UInt8
 kind:Int
 of:List UInt8
structure Ty where
 name:List UInt8
 fields:List Fd
def S7(f:Fd):AV:=.agg [.str f.name,.int .i64 f.kind,.str f.of]
def J3(t:Ty):AV:=.agg [.str t.name,.sl (t.fields.map S7)]
theorem B2S(f:Fd):(S7 f).pureB=true:=rfl
@[simp] theorem B2T (l:List Fd):F8 (l.map S7)=true:=E8 B2S l
@[simp] theorem C4G (S:Nat->Prop) (l:List Fd):F2 S (l.map S7):=B4 _ (B2T l)
@[simp] theorem C5T (R:Rn) (S:Nat->Prop) (l:List Fd):N7 R S (l.map S7) (l.map S7):=C1 rfl (B2T l)
theorem B8h(t:Ty):(J3 t).pureB=true:=by simp[J3]
@[simp] theorem B2U (l:List Ty):F8 (l.map J3)=true:=E8 B8h l
@[simp] theorem C4H (S:Nat->Prop) (l:List Ty):F2 S (l.map J3):=B4 _ (B2U l)
def C2{α:Type}(p:α->Bool):List α->Nat->Int
 | [],_=>-1
 | x::l,i=>if p x then (i:Int) else C2 p l (i+1)
theorem U8{α:Type}(p:α->Bool):∀(l:List α) (i:Nat),decide (0<=C2 p l i)=l.any p
 | [],i=>by simp[C2]
 | x::l,i=>by
  simp only[C2,List.any_cons];by_cases hx:p x=true
  ·simp[hx]
  ·simp[hx,U8 p l (i+1)]
theorem B2V(f:Fd)(j:Nat)(name:List UInt8)(id:Nat):A2 Tryz.prog 274 [S7 f,.ptr j 0 0] [(j,⟨[.str name],.str name,false,false⟩)] id (.bool (f.name==name)) []:=by
 unfold S7;refine w274.e.1 fun E hP hR hl hid=>?_;simp[w274];have hj:=hl (j,_) (List.mem_cons_self ..);simp only at hj;have j1:=lf hj;simp[j1];refine yE hR [] (by simp[j1,C2,A4 hid]) fun hrn=>⟨?_,?_,?_,?_,?_,?_⟩<;>(try simp[j1,C2,A4 hid])
theorem B8i(t:Ty)(j:Nat)(name:List UInt8)(id:Nat):A2 Tryz.prog 134 [J3 t,.ptr j 0 0] [(j,⟨[.str name],.str name,false,false⟩)] id (.bool (t.name==name)) []:=by
 unfold J3;refine w134.e.1 fun E hP hR hl hid=>?_;simp[w134];have hj:=hl (j,_) (List.mem_cons_self ..);simp only at hj;have j1:=lf hj;simp[j1];refine yE hR [] (by simp[j1,C2,A4 hid]) fun hrn=>⟨?_,?_,?_,?_,?_,?_⟩<;>(try simp[j1,C2,A4 hid])
theorem B43(l:List Fd)(j:Nat)(name:List UInt8)(id:Nat)(hl8:l.length<9223372036854775807):A2 Tryz.prog 273 [.sl (l.map S7),.fn 274 [.ptr j 0 0]] [(j,⟨[.str name],.str name,false,false⟩)] id (.int .i64 (C2 (fun x=>x.name==name) l 0)) []:=by
 refine w273.e.1 fun E hP hR hl hid=>?_;simp[w273];have hj:=hl (j,_) (List.mem_cons_self ..);simp only at hj;have j1:=lf hj;refine D3 (X:=Nat) (fun i=>⟨[(0,true,.sl (l.map S7)),(1,true,.fn 274 [.ptr j 0 0]),(7,true,.int .i64 l.length),(8,true,.int .i64 i)],[(j,some (⟨[.str name],.str name,false,false⟩))],0⟩) (fun i=>i<=l.length/\C2 (fun x=>x.name==name) (l.drop i) i=C2 (fun x=>x.name==name) l 0) (fun i=>l.length - i) 0 ?_ ⟨by omega,rfl⟩ ?_
 ·refine yV [] (by simp[j1]) fun hrn=>⟨?_,?_,?_,?_,?_⟩<;>(try simp[j1])
 ·rintro i ⟨hi,hf⟩ p hp;refine A3 4000 ?_;simp;refine E6 (fun h=>?_) (fun h=>?_)
  ·have h:=of_decide_eq_true h;obtain⟨x,hx,hd⟩:=B6 h;have hcl:=B2V x j name;simp only[S7] at hcl;rw[hd] at hf;simp only[C2] at hf;have hi1:IntKind.i64.wrap ((i:Int)+1)=((i+1:Nat):Int):=A5 (by omega);simp[hx,S7];refine⟨h,?_⟩;refine L7 hP rfl rfl (hcl _) (by simp) (by simp[j1]<;>rfl) ?_;refine A3 4000 ?_;simp[j1];refine E6 (fun h1=>?_) (fun h1=>?_)
   ·simp[j1];rw[if_pos h1] at hf;rw[←hf] at hR;refine yE hR [] (by simp[j1,C2,A4 hid]) fun hrn=>⟨?_,?_,?_,?_,?_,?_⟩<;>(try simp[j1,C2,A4 hid])
   ·simp[j1];rw[if_neg (by simpa using h1)] at hf;refine hp _ (i+1) ⟨h,hf⟩ (by omega) ?_;refine yV [] (by simp[hi1,j1]) fun hrn=>⟨?_,?_,?_,?_,?_⟩<;>(try simp[hi1,j1])
  ·have h:=of_decide_eq_false h;simp;rw[List.drop_of_length_le (by omega)] at hf;rw[←hf] at hR;refine yE hR [] (by simp[j1,C2,A4 hid]) fun hrn=>⟨?_,?_,?_,?_,?_,?_⟩<;>(try simp[j1,C2,A4 hid])
theorem B44(l:List Ty)(j:Nat)(name:List UInt8)(id:Nat)(hl8:l.length<9223372036854775807):A2 Tryz.prog 133 [.sl (l.map J3),.fn 134 [.ptr j 0 0]] [(j,⟨[.str name],.str name,false,false⟩)] id (.int .i64 (C2 (fun x=>x.name==name) l 0)) []:=by
 refine w133.e.1 fun E hP hR hl hid=>?_;simp[w133];have hj:=hl (j,_) (List.mem_cons_self ..);simp only at hj;have j1:=lf hj;refine D3 (X:=Nat) (fun i=>⟨[(0,true,.sl (l.map J3)),(1,true,.fn 134 [.ptr j 0 0]),(7,true,.int .i64 l.length),(8,true,.int .i64 i)],[(j,some (⟨[.str name],.str name,false,false⟩))],0⟩) (fun i=>i<=l.length/\C2 (fun x=>x.name==name) (l.drop i) i=C2 (fun x=>x.name==name) l 0) (fun i=>l.length - i) 0 ?_ ⟨by omega,rfl⟩ ?_
 ·refine yV [] (by simp[j1]) fun hrn=>⟨?_,?_,?_,?_,?_⟩<;>(try simp[j1])
 ·rintro i ⟨hi,hf⟩ p hp;refine A3 4000 ?_;simp;refine E6 (fun h=>?_) (fun h=>?_)
  ·have h:=of_decide_eq_true h;obtain⟨x,hx,hd⟩:=B6 h;have hcl:=B8i x j name;simp only[J3] at hcl;rw[hd] at hf;simp only[C2] at hf;have hi1:IntKind.i64.wrap ((i:Int)+1)=((i+1:Nat):Int):=A5 (by omega);simp[hx,J3];refine⟨h,?_⟩;refine L7 hP rfl rfl (hcl _) (by simp) (by simp[j1]<;>rfl) ?_;refine A3 4000 ?_;simp[j1];refine E6 (fun h1=>?_) (fun h1=>?_)
   ·simp[j1];rw[if_pos h1] at hf;rw[←hf] at hR;refine yE hR [] (by simp[j1,C2,A4 hid]) fun hrn=>⟨?_,?_,?_,?_,?_,?_⟩<;>(try simp[j1,C2,A4 hid])
   ·simp[j1];rw[if_neg (by simpa using h1)] at hf;refine hp _ (i+1) ⟨h,hf⟩ (by omega) ?_;refine yV [] (by simp[hi1,j1]) fun hrn=>⟨?_,?_,?_,?_,?_⟩<;>(try simp[hi1,j1])
  ·have h:=of_decide_eq_false h;simp;rw[List.drop_of_length_le (by omega)] at hf;rw[←hf] at hR;refine yE hR [] (by simp[j1,C2,A4 hid]) fun hrn=>⟨?_,?_,?_,?_,?_,?_⟩<;>(try simp[j1,C2,A4 hid])
theorem A13(l:List Fd)(n name:List UInt8)(id:Nat)(hl8:l.length<9223372036854775807):A2 Tryz.prog 229 [.agg [.str n,.sl (l.map S7)],.str name] [] id (.int .i64 (C2 (fun x=>x.name==name) l 0)) []:=by
 refine w229.e.1 fun E hP hR hl hid=>?_;simp[w229];(refine yH rfl (B43 l (E.n0+1024) name _ hl8) ?_; simp);exact yP hR
theorem c8(l:List Ty)(name:List UInt8)(id:Nat)(hl8:l.length<9223372036854775807):A2 Tryz.prog 72 [.sl (l.map J3),.str name] [] id (.int .i64 (C2 (fun x=>x.name==name) l 0)) []:=by
 refine w72.e.1 fun E hP hR hl hid=>?_;simp[w72];(refine yH rfl (B44 l E.n0 name _ hl8) ?_; simp);exact yP hR
theorem B8j(x b:Bt)(j:Nat)(id:Nat):A2 Tryz.prog 104 [p7 x,.ptr j 0 0] [(j,⟨[p7 b],.agg [.int .i64 0,.nils],false,false⟩)] id (.bool (x.number==b.number)) []:=by
 unfold p7;refine w104.e.1 fun E hP hR hl hid=>?_;simp[w104];have hj:=hl (j,_) (List.mem_cons_self ..);simp only at hj;have j1:=lf hj;simp[j1];refine yE hR [] (by simp[j1,A4 hid]) fun hrn=>⟨?_,?_,?_,?_,?_,?_⟩<;>(try simp[j1,A4 hid])
theorem C1W(x:Bt)(n:Int)(j:Nat)(id:Nat):A2 Tryz.prog 49 [p7 x,.ptr j 0 0] [(j,⟨[.int .i64 n],.int .i64 n,false,false⟩)] id (.bool (x.number==n)) []:=by
 unfold p7;refine w49.e.1 fun E hP hR hl hid=>?_;simp[w49];have hj:=hl (j,_) (List.mem_cons_self ..);simp only at hj;have j1:=lf hj;simp[j1];refine yE hR [] (by simp[j1,A4 hid]) fun hrn=>⟨?_,?_,?_,?_,?_,?_⟩<;>(try simp[j1,A4 hid])
theorem B45(g j:Nat)(c d:AV)(n:Int)(hc:c.pureB=true)(hg:∀(x:Bt) id,A2 Tryz.prog g [p7 x,.ptr j 0 0] [(j,⟨[c],d,false,false⟩)] id (.bool (x.number==n)) [])(l:List Bt)(id:Nat)(hl8:l.length<=1000000):A2 Tryz.prog 106 [.sl (l.map p7),.fn g [.ptr j 0 0]] [(j,⟨[c],d,false,false⟩)] id (.int .i64 (C2 (fun x=>x.number==n) l 0)) []:=by
 refine w106.e.1 fun E hP hR hl hid=>?_;simp[w106];have hj:=hl (j,_) (List.mem_cons_self ..);simp only at hj;have j1:=lf hj;refine D3 (X:=Nat) (fun i=>⟨[(0,true,.sl (l.map p7)),(1,true,.fn g [.ptr j 0 0]),(7,true,.int .i64 l.length),(8,true,.int .i64 i)],[(j,some ⟨[c],d,false,false⟩)],0⟩) (fun i=>i<=l.length/\C2 (fun x=>x.number==n) (l.drop i) i=C2 (fun x=>x.number==n) l 0) (fun i=>l.length - i) 0 ?_ ⟨by omega,rfl⟩ ?_
 ·refine yV [] (by simp[j1]) fun hrn=>⟨?_,?_,?_,?_,?_⟩<;>(try simp[j1]);all_goals exact K7 rfl hc
 ·rintro i ⟨hi,hf⟩ p hp;refine A3 4000 ?_;simp;refine E6 (fun h=>?_) (fun h=>?_)
  ·have h:=of_decide_eq_true h;obtain⟨x,hx,hd⟩:=B6 h;have hcl:=fun id=>hg x id;simp only[p7] at hcl;rw[hd] at hf;simp only[C2] at hf;have hi1:IntKind.i64.wrap ((i:Int)+1)=((i+1:Nat):Int):=A5 (by omega);simp[hx,p7];refine⟨h,?_⟩;refine L7 hP rfl rfl (hcl _) (by simp) (by simp[j1]<;>rfl) ?_;refine A3 4000 ?_;simp[j1];refine E6 (fun h1=>?_) (fun h1=>?_)
   ·simp[j1];rw[if_pos h1] at hf;rw[←hf] at hR;refine yE hR [] (by simp[j1,C2,A4 hid]) fun hrn=>⟨?_,?_,?_,?_,?_,?_⟩<;>(try simp[j1,C2,A4 hid]);all_goals exact K7 rfl hc
   ·simp[j1];rw[if_neg (by simpa using h1)] at hf;refine hp _ (i+1) ⟨h,hf⟩ (by omega) ?_;refine yV [] (by simp[hi1,j1]) fun hrn=>⟨?_,?_,?_,?_,?_⟩<;>(try simp[hi1,j1]);all_goals exact K7 rfl hc
  ·have h:=of_decide_eq_false h;simp;rw[List.drop_of_length_le (by omega)] at hf;rw[←hf] at hR;refine yE hR [] (by simp[j1,C2,A4 hid]) fun hrn=>⟨?_,?_,?_,?_,?_,?_⟩<;>(try simp[j1,C2,A4 hid]);all_goals exact K7 rfl hc
theorem A9Z(g j:Nat)(c d:AV)(n:Int)(hc:c.pureB=true)(hg:∀(x:Bt) id,A2 Tryz.prog g [p7 x,.ptr j 0 0] [(j,⟨[c],d,false,false⟩)] id (.bool (x.number==n)) [])(l:List Bt)(id:Nat)(hl8:l.length<=1000000):A2 Tryz.prog 48 [.sl (l.map p7),.fn g [.ptr j 0 0]] [(j,⟨[c],d,false,false⟩)] id (.bool (l.any fun x=>x.number==n)) []:=by
 have hI:=fun id=>B45 g j c d n hc hg l id hl8;rw[←U8 _ l 0];refine w48.e.1 fun E hP hR hl hid=>?_;simp[w48];have hj:=hl (j,_) (List.mem_cons_self ..);simp only at hj;have j1:=lf hj;(refine yC rfl (hI _) ?_; simp[j1]);refine yE hR [] (by simp[j1,A4 hid]) fun hrn=>⟨?_,?_,?_,?_,?_,?_⟩<;>(try simp[j1,A4 hid]);all_goals exact K7 rfl hc
def A6Z(c:UInt8):Bool:=(decide (97<=c.toNat)&&decide (c.toNat<=122))||(decide (65<=c.toNat)&&decide (c.toNat<=90))||decide (c.toNat=95)
def Z5(c:UInt8):Bool:=decide (48<=c.toNat)&&decide (c.toNat<=57)
def anC(c:UInt8):Bool:=A6Z c||Z5 c
def B46:List UInt8->Bool
 | []=>false
 | c::r=>A6Z c&&r.all anC
def L3(s:List UInt8):Int:=if 12<s.length then 2 else if B46 s=true then 0 else 1
theorem A5Z(c:UInt8)(id:Nat):A2 Tryz.prog 232 [.int .u8 c.toNat] [] id (.bool (A6Z c)) []:=by
 refine w232.e.1 fun E hP hR hl hid=>?_;simp[w232];refine⟨by grind,by grind,by grind,?_⟩;exact yP hR (h1:=by simp; unfold A6Z; rw[Bool.eq_iff_iff]; simp; omega)
theorem A4l(c:UInt8)(id:Nat):A2 Tryz.prog 233 [.int .u8 c.toNat] [] id (.bool (Z5 c)) []:=by
 refine w233.e.1 fun E hP hR hl hid=>?_;simp[w233];exact yP hR (h1:=by simp; unfold Z5; rw[Bool.eq_iff_iff]; simp; omega)
def okN:List UInt8->Bool->Bool
 | [],_=>true
 | c::r,fst=>(A6Z c||(!fst&&Z5 c))&&okN r false
theorem B6h(l:List UInt8):okN l false=l.all anC:=by
 induction l with
 | nil=>rfl
 | cons c r ih=>simp[okN,ih,anC]
theorem B2W(s:List UInt8)(h:s≠[]):okN s true=B46 s:=by
 cases s with
 | nil=>exact (h rfl).elim
 | cons c r=>simp[okN,B46,B6h]
theorem A3h(s:List UInt8)(id:Nat):A2 Tryz.prog 166 [.str s] [] id (.int .i64 (L3 s)) []:=by
 refine w166.e.1 fun E hP hR hl hid=>?_;simp[w166];refine E6 (fun h=>?_) (fun h=>?_)
 ·simp;exact yP hR (h1:=by simp; simp at h; unfold L3; rw[if_pos (by omega)])
 ·simp;have h12:¬12<s.length:=by simp at h; omega
  refine D3 (X:=Nat) (fun i=>⟨[(0,true,.str s),(8,true,.int .i64 s.length),(9,true,.int .i64 i)],[],0⟩) (fun i=>i<=s.length/\okN (s.drop i) (decide (i=0))=okN s true) (fun i=>s.length - i) 0 ?_ ⟨by omega,rfl⟩ ?_
  ·refine yV [] (by simp) fun hrn=>⟨?_,?_,?_,?_,?_⟩<;>(try simp)
  ·rintro i ⟨hi,hf⟩ p hp;refine A3 4000 ?_;simp;refine E6 (fun h=>?_) (fun h=>?_)
   ·have h:=of_decide_eq_true h;obtain⟨x,hx,hd⟩:=B6 h;rw[hd] at hf;simp only[okN] at hf;have hi1:IntKind.i64.wrap ((i:Int)+1)=((i+1:Nat):Int):=A5 (by omega);simp[hx];refine⟨h,?_⟩;(refine yC rfl (A5Z x _) ?_; simp[hx]);refine⟨fun h1 h2=>⟨⟨h1,h2⟩,h⟩,?_⟩;(refine I0 hP (by simp[hx]) rfl (fun hc=>⟨A4l x _,by revert hc; simp[hx]; try grind,by simp[hx]⟩) ?_; refine A3 4000 ?_; simp[hx]);refine⟨by grind,?_⟩;have hb:(A6Z x||(!decide (i=0)&&Z5 x))=!(!A6Z x&&(((i:Int)==0)||!Z5 x)):=by
     have:decide (i=0)=((i:Int)==0):=by rw[Bool.eq_iff_iff]; simp
     rw[this]; simp
    rw[hb] at hf;refine E6 (fun h1=>?_) (fun h1=>?_)
    ·simp;rw[h1] at hf;simp at hf;have hne:s≠[]:=(by rintro rfl; simp at h);exact yP hR (h1:=by simp; unfold L3; rw[if_neg h12,←B2W s hne,hf]; rfl)
    ·simp;rw[h1] at hf;simp at hf;refine hp _ (i+1) ⟨h,by simpa using hf⟩ (by omega) ?_;refine yV [] (by simp[hi1]) fun hrn=>⟨?_,?_,?_,?_,?_⟩<;>(try simp[hi1])
   ·have h:=of_decide_eq_false h;simp;rw[List.drop_of_length_le (by omega)] at hf;simp only[okN] at hf;refine E6 (fun h=>?_) (fun h=>?_)
    ·simp;exact yP hR (h1:=by simp; simp at h; subst h; rfl)
    ·simp;have hne:s≠[]:=(by simpa using h);exact yP hR (h1:=by simp; unfold L3; rw[if_neg h12,←B2W s hne,←hf]; rfl)
def tId:List UInt8:=[105,100]
def A6n:List UInt8:=[78,117,109,98,101,114]
def B5H:List UInt8:=[84,101,120,116]
def C3O(l:List Fd)(n:List UInt8):Bool:=l.any fun x=>x.name==n
def B0m(l:List Ty)(n:List UInt8):Bool:=l.any fun x=>x.name==n
def p9(l:List Ty)(f:Fd)(ahead:List Fd):Int :=
 if L3 f.name≠0 then L3 f.name else if f.name=tId then 4 else if C3O ahead f.name=true then 6
 else if ¬(1<=f.kind/\f.kind<=4) then 7 else if (f.kind=1\/f.kind=2)/\f.of≠[] then 1
 else if ¬(f.kind=1\/f.kind=2)/\¬B0m l f.of=true then 5 else 0
def E4{α:Type}(f:Nat->α->Int):List α->Nat->Int
 | [],_=>0
 | x::l,i=>if f i x≠0 then f i x else E4 f l (i+1)
def A1L(l:List Ty)(i:Nat)(t:Ty):Int :=
 if L3 t.name≠0 then L3 t.name else if t.name=A6n\/t.name=B5H then 4 else if B0m (l.take i) t.name=true then 6
 else if t.fields=[] then 5 else if 6<t.fields.length then 2 else E4 (fun k f=>p9 l f (t.fields.take k)) t.fields 0
def J0(l:List Ty):Int :=
 if l=[] then 5 else if 5<l.length then 2 else E4 (fun i t=>A1L l i t) l 0
theorem A7j(l:List Fd)(n:List UInt8):decide (0<=C2 (fun x=>x.name==n) l 0)=C3O l n:=U8 _ l 0
theorem A7k(l:List Ty)(n:List UInt8):decide (0<=C2 (fun x=>x.name==n) l 0)=B0m l n:=U8 _ l 0
theorem A3i(l:List Ty)(n:List UInt8):decide (C2 (fun x=>x.name==n) l 0<0)=!B0m l n:=by
 rw[←A7k,Bool.eq_iff_iff]; simp
theorem A8n(l:List Ty)(f:Fd)(ahead:List Fd)(id:Nat)(hl:l.length<=1000000)(ha:ahead.length<=1000000):A2 Tryz.prog 197 [.sl (l.map J3),S7 f,.sl (ahead.map S7)] [] id (.int .i64 (p9 l f ahead)) []:=by
 have hF:=fun n=>A13 ahead [] n;simp only[S7];refine w197.e.1 fun E hP hR hl hid=>?_;simp[w197];(refine yH rfl (A3h _ _) ?_; simp);refine E6 (fun h=>?_) (fun h=>?_)<;>simp
 ·exact yP hR (h1:=by simp; simp at h; unfold p9; rw[if_pos h])
 have h1:¬L3 f.name≠0:=by simpa using h
 refine E6 (fun h=>?_) (fun h=>?_)<;>simp
 ·exact yP hR (h1:=by simp; simp at h; unfold p9; rw[if_neg h1,if_pos (show f.name=tId from h)])
 have h2:¬f.name=tId:=by simpa [tId] using h
 (refine E0 hP rfl (hF _ _ (by omega)) (by simp[A7j]) (by simp[A7j]<;>rfl) ?_; refine A3 4000 ?_; simp[A7j]);refine E6 (fun h=>?_) (fun h=>?_)<;>simp
 ·exact yP hR (h1:=by simp; unfold p9; rw[if_neg h1,if_neg h2,if_pos h])
 have h3:¬C3O ahead f.name=true:=by simpa using h
 refine E6 (fun h=>?_) (fun h=>?_)<;>simp
 ·exact yP hR (h1:=by simp; simp at h; unfold p9; rw[if_neg h1,if_neg h2,if_neg h3,if_pos (by omega)])
 have h4:¬¬(1<=f.kind/\f.kind<=4):=by simp at h; omega
 refine E6 (fun h=>?_) (fun h=>?_)<;>simp
 ·exact yP hR (h1:=by simp; simp at h; unfold p9; rw[if_neg h1,if_neg h2,if_neg h3,if_neg h4,if_pos h])
 have h5:¬((f.kind=1\/f.kind=2)/\f.of≠[]):=by simpa using h
 (repeat (refine And.intro (by first|assumption|omega|(simp; omega)|(simp_all; done)) ?_));(refine I0 hP (by simp[A3i]) rfl (fun hc=>⟨c8 l f.of _ (by omega),by revert hc; simp[A3i]; try grind,by simp[A3i]⟩) ?_; refine A3 4000 ?_; simp[A3i]);refine E6 (fun h=>?_) (fun h=>?_)<;>simp
 ·exact yP hR (h1:=by simp; simp at h; unfold p9; rw[if_neg h1,if_neg h2,if_neg h3,if_neg h4,if_neg h5,if_pos (by simpa using h)])
 have h6:¬(¬(f.kind=1\/f.kind=2)/\¬B0m l f.of=true):=by simpa using h
 exact yP hR (h1:=by simp; unfold p9; rw[if_neg h1,if_neg h2,if_neg h3,if_neg h4,if_neg h5,if_neg h6])
theorem B0n(l:List Ty)(i:Nat)(t:Ty)(id:Nat)(hl5:l.length<=5)(hi:l[i]?=some t):A2 Tryz.prog 128 [.sl (l.map J3),.int .i64 i] [] id (.int .i64 (A1L l i t)) []:=by
 have hin:i<l.length:=(List.getElem?_eq_some_iff.1 hi).1;have hF:=c8 (l.take i) t.name;rw[List.map_take] at hF;have hFd:=fun f k id h=>A8n l f (t.fields.take k) id (by omega) h;simp only[S7,List.map_take] at hFd;refine w128.e.1 fun E hP hR hl hid=>?_;simp[w128,hi,J3];refine⟨hin,?_⟩;(refine yH rfl (A3h _ _) ?_; simp);refine E6 (fun h=>?_) (fun h=>?_)<;>simp
 ·exact yP hR (h1:=by simp; simp at h; unfold A1L; rw[if_pos h])
 have h1:¬L3 t.name≠0:=by simpa using h
 refine E6 (fun h=>?_) (fun h=>?_)<;>simp
 ·exact yP hR (h1:=by simp; simp at h; unfold A1L; rw[if_neg h1,if_pos (show t.name=A6n\/t.name=B5H from h)])
 have h2:¬(t.name=A6n\/t.name=B5H):=by simpa [A6n,B5H] using h
 refine⟨⟨fun a _=>rfl,by omega⟩,?_⟩;(refine yC rfl (hF _ (by simp; omega)) ?_; simp[A7k]);refine E6 (fun h=>?_) (fun h=>?_)<;>simp
 ·exact yP hR (h1:=by simp; unfold A1L; rw[if_neg h1,if_neg h2,if_pos h])
 have h3:¬B0m (l.take i) t.name=true:=by simpa using h
 refine E6 (fun h=>?_) (fun h=>?_)<;>simp
 ·exact yP hR (h1:=by simp; simp at h; unfold A1L; rw[if_neg h1,if_neg h2,if_neg h3,if_pos h])
 have h4:¬t.fields=[]:=by simpa using h
 refine E6 (fun h=>?_) (fun h=>?_)<;>simp
 ·exact yP hR (h1:=by simp; simp at h; unfold A1L; rw[if_neg h1,if_neg h2,if_neg h3,if_neg h4,if_pos (by omega)])
 have h5:¬6<t.fields.length:=by simp at h; omega
 have hft:A1L l i t=E4 (fun k f=>p9 l f (t.fields.take k)) t.fields 0:=by unfold A1L; rw[if_neg h1,if_neg h2,if_neg h3,if_neg h4,if_neg h5]
 rw[hft] at hR;refine D3 (X:=Nat) (fun k=>⟨[(0,true,.sl (l.map J3)),(5,true,.ptr E.n0 0 0),(48,true,.sl (t.fields.map S7)),(49,true,.int .i64 t.fields.length),(50,true,.int .i64 k)],[(E.n0,some ⟨[.agg [.str t.name,.sl (t.fields.map S7)]],.agg [.str [],.nils],false,false⟩)],1⟩) (fun k=>k<=t.fields.length/\E4 (fun k f=>p9 l f (t.fields.take k)) (t.fields.drop k) k=E4 (fun k f=>p9 l f (t.fields.take k)) t.fields 0) (fun k=>t.fields.length - k) 0 ?_ ⟨by omega,rfl⟩ ?_
 ·refine yV [(E.n0,E.n0+5120)] (by simp) fun hrn=>⟨?_,?_,?_,?_,?_⟩<;>(try simp)
 ·rintro k ⟨hk,hf⟩ p hp;refine A3 4000 ?_;simp;refine E6 (fun h=>?_) (fun h=>?_)
  ·have h:=of_decide_eq_true h;obtain⟨x,hx,hd⟩:=B6 h;rw[hd] at hf;simp only[E4] at hf;have hi1:IntKind.i64.wrap ((k:Int)+1)=((k+1:Nat):Int):=A5 (by omega);simp[hx,S7];refine⟨h,hk,?_⟩;(refine yH rfl (hFd x k _ (by simp; omega)) ?_; simp);refine E6 (fun h1=>?_) (fun h1=>?_)
   ·simp;rw[if_pos (by simpa using h1)] at hf;exact yP hR (h1:=by simp; exact hf)
   ·simp;rw[if_neg (by simpa using h1)] at hf;refine hp _ (k+1) ⟨h,hf⟩ (by omega) ?_;refine yV [(E.n0,E.n0)] (by simp[hi1]) fun hrn=>⟨?_,?_,?_,?_,?_⟩<;>(try simp[hi1])
  ·have h:=of_decide_eq_false h;simp;rw[List.drop_of_length_le (by omega)] at hf;exact yP hR (h1:=by simp; exact hf)
theorem A5a(l:List Ty)(id:Nat):A2 Tryz.prog 65 [.sl (l.map J3)] [] id (.int .i64 (J0 l)) []:=by
 refine w65.e.1 fun E hP hR hl hid=>?_;simp[w65];refine E6 (fun h=>?_) (fun h=>?_)<;>simp
 ·exact yP hR (h1:=by simp; simp at h; unfold J0; rw[if_pos h])
 have h1:¬l=[]:=by simpa using h
 refine E6 (fun h=>?_) (fun h=>?_)<;>simp
 ·exact yP hR (h1:=by simp; simp at h; unfold J0; rw[if_neg h1,if_pos (by omega)])
 have h2:¬5<l.length:=by simp at h; omega
 have hft:J0 l=E4 (fun i t=>A1L l i t) l 0:=by unfold J0; rw[if_neg h1,if_neg h2]
 rw[hft] at hR;refine D3 (X:=Nat) (fun i=>⟨[(0,true,.sl (l.map J3)),(14,true,.int .i64 l.length),(15,true,.int .i64 i)],[],0⟩) (fun i=>i<=l.length/\E4 (fun i t=>A1L l i t) (l.drop i) i=E4 (fun i t=>A1L l i t) l 0) (fun i=>l.length - i) 0 ?_ ⟨by omega,rfl⟩ ?_
 ·refine yV [] (by simp) fun hrn=>⟨?_,?_,?_,?_,?_⟩<;>(try simp)
 ·rintro i ⟨hi,hf⟩ p hp;refine A3 4000 ?_;simp;refine E6 (fun h=>?_) (fun h=>?_)
  ·have h:=of_decide_eq_true h;obtain⟨x,hx,hd⟩:=B6 h;rw[hd] at hf;simp only[E4] at hf;have hi1:IntKind.i64.wrap ((i:Int)+1)=((i+1:Nat):Int):=A5 (by omega);simp;(refine yH rfl (B0n l i x _ (by omega) hx) ?_; simp);refine E6 (fun h1=>?_) (fun h1=>?_)
   ·simp;rw[if_pos (by simpa using h1)] at hf;exact yP hR (h1:=by simp; exact hf)
   ·simp;rw[if_neg (by simpa using h1)] at hf;refine hp _ (i+1) ⟨h,hf⟩ (by omega) ?_;refine yV [] (by simp[hi1]) fun hrn=>⟨?_,?_,?_,?_,?_⟩<;>(try simp[hi1])
  ·have h:=of_decide_eq_false h;simp;rw[List.drop_of_length_le (by omega)] at hf;exact yP hR (h1:=by simp; exact hf)
structure Cl where
 n:Int
 text:List UInt8
 ids:List Int
structure Tg where
 type:Int
 id:Int
 cells:List Cl
structure I4 where
 types:List Ty
 things:List Tg
def eI(n:Int):AV:=.int .i64 n
def eCl(c:Cl):AV:=.agg [.int .i64 c.n,.str c.text,.sl (c.ids.map eI)]
def X2(t:Tg):AV:=.agg [.int .i64 t.type,.int .i64 t.id,.sl (t.cells.map eCl)]
def I2(s:I4):AV:=.agg [.sl (s.types.map J3),.sl (s.things.map X2)]
theorem C2P(n:Int):eI n = .int .i64 n:=rfl
theorem B0o(c:Cl):eCl c = .agg [.int .i64 c.n,.str c.text,.sl (c.ids.map eI)]:=rfl
theorem A37(t:Tg):X2 t = .agg [.int .i64 t.type,.int .i64 t.id,.sl (t.cells.map eCl)]:=rfl
theorem C1X(n:Int):(eI n).pureB=true:=rfl
@[simp] theorem A0v (l:List Int):F8 (l.map eI)=true:=E8 C1X l
@[simp] theorem C3P (S:Nat->Prop) (l:List Int):F2 S (l.map eI):=B4 _ (A0v l)
@[simp] theorem B8k (R:Rn) (S:Nat->Prop) (l:List Int):N7 R S (l.map eI) (l.map eI):=C1 rfl (A0v l)
theorem B8l(c:Cl):(eCl c).pureB=true:=by simp[eCl]
@[simp] theorem B8m (l:List Cl):F8 (l.map eCl)=true:=E8 B8l l
@[simp] theorem C4I (S:Nat->Prop) (l:List Cl):F2 S (l.map eCl):=B4 _ (B8m l)
theorem A4m(t:Tg):(X2 t).pureB=true:=by simp[X2]
@[simp] theorem B8n (l:List Tg):F8 (l.map X2)=true:=E8 A4m l
@[simp] theorem C4J (S:Nat->Prop) (l:List Tg):F2 S (l.map X2):=B4 _ (B8n l)
def A2S(ta ia tb ib:Int):Int:=if ta≠tb then IntKind.i64.wrap (ta - tb) else IntKind.i64.wrap (ia - ib)
theorem A38(ta ia tb ib:Int)(x y:AV)(id:Nat):A2 Tryz.prog 67 [.agg [.int .i64 ta,.int .i64 ia,x],.agg [.int .i64 tb,.int .i64 ib,y]] [] id (.int .i64 (A2S ta ia tb ib)) []:=by
 refine w67.e.1 fun E hP hR hl hid=>?_;simp[w67];refine E6 (fun h=>?_) (fun h=>?_)<;>simp
 ·exact yP hR (h1:=by simp; simp at h; unfold A2S; rw[if_pos h])
 ·exact yP hR (h1:=by simp; simp at h; unfold A2S; rw[if_neg (by simpa using h)])
theorem F4(n a b:Int)(id:Nat):A2 Tryz.prog 129 [.int .i64 n,.int .i64 a,.int .i64 b] [] id (.bool (decide (a<=n)&&decide (n<=b))) []:=by
 refine w129.e.1 fun E hP hR hl hid=>?_;simp[w129];(repeat (refine And.intro (by first|assumption|omega|(simp; omega)|(simp_all; done)) ?_));exact yP hR
def g9(k:Int):Bool:=decide (k=3)||decide (k=4)
theorem A7l(k:Int)(id:Nat):A2 Tryz.prog 198 [.int .i64 k] [] id (.bool (g9 k)) []:=by
 refine w198.e.1 fun E hP hR hl hid=>?_;simp[w198];(repeat (refine And.intro (by first|assumption|omega|(simp; omega)|(simp_all; done)) ?_));exact yP hR (h1:=by simp; unfold g9; rw[Bool.eq_iff_iff]; simp)
def bs(f:Nat->Int)(i j:Nat):Nat:=if h:i<j then (if f ((i+j) / 2)<0 then bs f ((i+j) / 2+1) j else bs f i ((i+j) / 2)) else i
termination_by j - i
theorem B5I(f:Nat->Int)(i j:Nat)(h:i<=j):i<=bs f i j/\bs f i j<=j:=by
 fun_induction bs f i j with
 | case1 i j h hf ih=>have:=ih (by omega); omega
 | case2 i j h hf ih=>have:=ih (by omega); omega
 | case3 i j h=>omega
def L8(l:List Tg)(kind id:Int)(k:Nat):Int:=match l[k]? with
 | some t=>A2S t.type t.id kind id
 | none=>0
def C8(l:List Tg)(kind id:Int):Nat:=bs (L8 l kind id) 0 l.length
def F7(l:List Tg)(kind id:Int):Bool:=decide (C8 l kind id<l.length)&&decide (L8 l kind id (C8 l kind id)=0)
theorem B8o{i j:Nat}(hi:i<1000000)(hj:j<1000000):IntKind.i64.wrap (IntKind.u64.wrap (IntKind.i64.wrap ((i:Int)+j)) / 2)=(((i+j) / 2:Nat):Int):=by
 have a:IntKind.i64.wrap ((i:Int)+j)=((i+j:Nat):Int):=by rw[A5 (by omega)]; omega
 have b:IntKind.u64.wrap ((i+j:Nat):Int)=((i+j:Nat):Int):=IntWalk.u64_in _ (by omega);rw[a,b,A5 (by omega)];omega
theorem B0p(l:List Tg)(kind tid:Int)(id:Nat)(hl:l.length<1000000):A2 Tryz.prog 132 [.sl (l.map X2),.agg [.int .i64 kind,.int .i64 tid,.nils],.fn 67 []] [] id (.tup [.int .i64 (C8 l kind tid),.bool (F7 l kind tid)]) []:=by
 refine w132.e.1 fun E hP hR hl hid=>?_;simp[w132];refine D3 (X:=Nat×Nat) (fun q=>⟨[(0,true,.sl (l.map X2)),(2,true,.fn 67 []),(4,true,.ptr E.n0 0 0),(8,true,.int .i64 l.length),(9,true,.int .i64 q.1),(10,true,.int .i64 q.2)],[(E.n0,some ⟨[.agg [.int .i64 kind,.int .i64 tid,.nils]],.agg [.int .i64 0,.int .i64 0,.nils],false,false⟩)],1⟩) (fun q=>q.1<=q.2/\q.2<=l.length/\bs (L8 l kind tid) q.1 q.2=C8 l kind tid) (fun q=>q.2 - q.1) (0,l.length) ?_ ⟨by simp,by simp,rfl⟩ ?_
 ·refine yV [(E.n0,E.n0)] (by simp) fun hrn=>⟨?_,?_,?_,?_,?_⟩<;>(try simp)
 ·rintro⟨i,j⟩ ⟨hij,hj,hf⟩ p hp;simp only at hij hj hf;refine A3 4000 ?_;simp;refine E6 (fun h=>?_) (fun h=>?_)
  ·have h:=of_decide_eq_true h;have h':i<j:=(by omega);have hk:(i+j) / 2<l.length:=(by omega);obtain⟨t,ht⟩:∃t,l[(i+j) / 2]?=some t:=⟨_,List.getElem?_eq_getElem hk⟩;have hh:=B8o (i:=i) (j:=j) (by omega) (by omega);have h64:(1:Int)<=↑IntKind.u64.bits:=(by decide);generalize hm:(i+j) / 2=m at hh hk ht;simp[hh,ht,A37 t];refine⟨h64,hk,?_⟩;refine L7 hP rfl rfl (A38 t.type t.id kind tid (.sl (t.cells.map eCl)) .nils _) (by simp) (by simp<;>rfl) ?_;refine A3 4000 ?_;have hfo:L8 l kind tid m=A2S t.type t.id kind tid:=(by simp only[L8,ht]);rw[bs,dif_pos h',hm,hfo] at hf;simp;refine E6 (fun h1=>?_) (fun h1=>?_)
   ·have hm1:IntKind.i64.wrap ((m:Int)+1)=((m+1:Nat):Int):=A5 (by omega);simp at h1;rw[if_pos h1] at hf;simp;refine hp _ (m+1,j) ⟨by simp only; omega,hj,hf⟩ (by simp only; omega) ?_;refine yV [(E.n0,E.n0)] (by simp[hm1]) fun hrn=>⟨?_,?_,?_,?_,?_⟩<;>(try simp[hm1])
   ·simp at h1;rw[if_neg (by omega)] at hf;simp;refine hp _ (i,m) ⟨by simp only; omega,by simp only; omega,hf⟩ (by simp only; omega) ?_;refine yV [(E.n0,E.n0)] (by simp) fun hrn=>⟨?_,?_,?_,?_,?_⟩<;>(try simp)
  ·have h:=of_decide_eq_false h;have he:i=C8 l kind tid:=(by rw[←hf,bs,dif_neg (by omega)]);simp;by_cases hi:i<l.length
   ·obtain⟨t,ht⟩:∃t,l[i]?=some t:=⟨_,List.getElem?_eq_getElem hi⟩;have hfo:L8 l kind tid i=A2S t.type t.id kind tid:=(by simp only[L8,ht]);have hg:l[i]=t:=(by rw[List.getElem?_eq_getElem hi] at ht; injection ht);simp[hi,hg,A37 t];refine A1E (.int .i64 0) (by simp) (fun _=>?_) (fun hg=>by simp at hg);refine L7 hP rfl rfl (A38 t.type t.id kind tid (.sl (t.cells.map eCl)) .nils _) (by simp) (by simp<;>rfl) ?_;refine A3 4000 ?_;simp;exact yP hR (h1:=by simp; rw[←he]; refine⟨rfl,?_⟩; unfold F7; rw[←he,hfo,Bool.eq_iff_iff]; simp[hi])
   ·have ht:l[i]?=none:=List.getElem?_eq_none (by omega);simp[hi,ht];refine A1E (.int .i64 0) (by simp) (fun hg=>by simp at hg) (fun _=>?_);refine A3 4000 ?_;simp;exact yP hR (h1:=by simp; rw[←he]; exact⟨rfl,by unfold F7; rw[←he]; simp[hi]⟩)
end Go.Am
