/- Parts of the proof: an abstract machine for Go functions, and what functions of the program give back (Ex23, Ex22, Ex24, Ex27, Ex28, Lb3, Lx4, Lx5, Lx6, Lx7, Lx8, Lx9, Lx10). No condition. -/
import Derived.Test.YtphjabjjnncebaaGreatDoorXR
import Derived.Test.YtphjabjjnncebaaGreatDoorXF
import Derived.Test.YtphjabjjnncebaaGreatDoorProg
import Derived.Maps.OwnOps
import Derived.WalkSpells
import Derived.Test.YtphjabjjnncebaaGreatDoorXG
import Derived.Test.YtphjabjjnncebaaGreatDoorXP
import Derived.Lib.ItoaLen
import Derived.Shelf.Small.Strs
import Derived.Test.YtphjabjjnncebaaGreatDoorXQ
import Derived.Recover
set_option maxRecDepth 100000
set_option linter.all false
set_option maxHeartbeats 16000000
namespace Go.Am
open Go Go.Maps Go.Proofs Go.RowKit Go.WideMaps Go.Proofs.Tryz
def A2D(ks:List (List UInt8))(i:Nat)(s:List UInt8):Int:=B9G (H8 s) ((ks.take i).any λx=>x==s)
def A5t(ks:List (List UInt8)):Int:=D2 (A2D ks) ks 0
def C71:Keyed prog 9:=string_keyed underlying9
def C8R(w:World):(zeroValue 3).run prog w = .ok (.int .i64 0) w:=by kernel_rfl
def Met(ks:List (List UInt8))(k:Nat)(D:DataW Unit):Prop:=IsMap D/\∀s,D.atKey (.string s) (.lit (.int .i64 0)) = .lit (.int .i64 (if (ks.take k).any (λx=>x==s)=true then 1 else 0))
def C2N(ks:List (List UInt8)):Met ks 0 (.map []):=⟨isMap_empty,λs=>by simp[DataW.atKey]⟩
def C2O{ks:List (List UInt8)}{k:Nat}{s:List UInt8}{D:DataW Unit}(h:Met ks k D)(hs:ks[k]?=some s)(hno:((ks.take k).any λx=>x==s)=false){n:Int}(hn:n=1):Met ks (k+1) (D.put (.string s) (.lit (.int .i64 n))):=by
 subst hn;refine⟨h.1.put _ _,λt=>?_⟩;rw[A9n hs];by_cases e:t=s
 ·subst e;rw[atKey_put_same h.1 (by trivial)];simp
 ·rw[atKey_put_other (by intro h'; injection h' with h'; exact e h'),h.2 t];have:(s==t)=false:=by simp; exactλh=>e h.symm
  rw[this,ur]
def B64{H:Type}{P:Program}{k:TypeId}{R:Value->Option (DataW H×List MemPlace)}{b n:Nat}{D:DataW H}{w w':World}(h:w.ownsMap P k R b n D)(hb:Below w.heap.size w w'):w'.ownsMap P k R b n D:=by
 have hl:=h.lt;obtain⟨es,clock,h1,h2,h3,h4⟩:=h;exact⟨es,clock,by rw[hb.block b hl]; exact h1,h2,h3,h4⟩
def C4k(s:List UInt8){w:World}(ht:A3L prog w):Calls prog 166 #[.string ⟨⟨s⟩⟩] w λe w'=>e = .returned (.int .i64 (H8 s))/\Below w.heap.size w w' :=
 ((A2w s 0).plain ht (C3v (.str s))).mono λe w' ⟨v,G',h1,h2,h3⟩=>by cases h2; exact⟨h1,h3⟩
def C2P(A:Option Addr)(c:Nat)(w:World):Calls prog 238 #[.slice A 0 c] w λe w'=>e = .returned (.int .i64 0)/\Below w.heap.size w w':=by
 have hmm:=@run_makeMap prog
 go_enter func238,ntmps238
 go_wp2
 refine wp_loop_rounds 1 ?_;rw[rounds_succ]
 go_wp2
 go_ret
 exact⟨rfl,(Below.refl _ _).alloc (zx _) _⟩
theorem C4l{ks:List (List UInt8)}{b o c:Nat}{w:World}(ht:A3L Tryz.prog w)(hc:ks.length<=c)(hm:c<=maxLen)(hb:b<w.heap.size)
  (hcell:∀(j:Nat) s,ks[j]?=some s->w.cell? ⟨b,o+j,none⟩=some (.string ⟨⟨s⟩⟩)) (hk:∀s∈ks,s.length<=9223372036854775807) :
  Calls Tryz.prog 238 #[.slice (some ⟨b,o,none⟩) ks.length c] w fun e w'=>e = .returned (.int .i64 (A5t ks))/\Below w.heap.size w w':=by
 have hmm:=@run_makeMap Tryz.prog
 go_enter Tryz.func238,Tryz.ntmps238
 go_wp2
 go_loopw [10] (fun i wr=>∃k D,k<=ks.length/\i = .int .i64 k/\Met ks k D/\D2 (A2D ks) (ks.drop k) k=A5t ks/\wr.ownsMap Tryz.prog 9 (plainElem Tryz.prog 3) w.heap.size k D/\Below w.heap.size w wr)
  (fun i _=>ks.length - (Go.RowKit.intOf i).toNat)
 case atStart=>exact⟨0,_,rm _,rfl,C2N ks,rfl,World.ownsMap_made _ _ _ _,(Below.refl _ _).alloc (zx _) _⟩
 case round =>
  obtain⟨k,D,hk1,rfl,hmet,hf,hown,hnx⟩:=hrel;by_cases hlt:k<ks.length
  rotate_left
  ·go_wp2
   all_goals first|(exfalso; omega)|skip
   go_ret
   rw[zp (by omega)] at hf;simp only[D2] at hf;exact⟨by rw[←hf]; rfl,hnx⟩
  obtain⟨s,hs,hd⟩:=A5 hlt;rw[hd] at hf;simp only[D2] at hf;have hcx:wr.cell? ⟨b,o+k,none⟩=some (.string ⟨⟨s⟩⟩):=(hnx.cell (by exact hb)).trans (hcell k s hs);have hkey:keyOf Tryz.prog 9 (.string ⟨⟨s⟩⟩)=some (.string s):=keyOf_string_mk Tryz.underlying9 (by have:=hk s (zg hs); unfold maxLen; simpa [ByteArray.size] using this);have hkm:k<maxLen:=by omega
  have hat0:=hmet.2 s;have hT:∀w1,Below w.heap.size w w1->A3L Tryz.prog w1:=fun w1 h=>ht.below h;clear hcell
  go_wp2_with (first
   | (at_lookup; refine wpList_lookup_own_int _ rfl _ _ 323 rfl 9 3 .i64 C71 Tryz.underlying323 Tryz.underlying3 (C8R _) w.heap.size _ _ rfl hown _ _ rfl hkey ?_; intro c1 hat1 hwc1)
   | (at_mapUpdate; refine wpList_mapUpdate_own _ rfl _ _ _ 323 rfl 9 3 C71 Tryz.underlying323 _ w.heap.size k _ rfl hown hkm _ _ _ rfl rfl hkey _ [] (plainElem_int Tryz.underlying3 (wrap64_wf _)) ?_; intro w1 hown1 hgrow1; have hnx1:=hnx.grown hgrow1 hnx.size (fun j hj=>by cases hj; exact zx _))
   | (go_at_call 166; refine (C4k s (hT _ hnx1)).mono ?_; rintro e w2 ⟨rfl,hb2⟩; have hown2:=B64 hown1 hb2; have hnx2:=hnx1.trans (hb2.mono hnx1.size))
   | (at_lookup; refine wpList_lookup_own_int _ rfl _ _ 323 rfl 9 3 .i64 C71 Tryz.underlying323 Tryz.underlying3 (C8R _) w.heap.size _ _ rfl hown2 _ _ rfl hkey ?_; intro c2 hat2 hwc2)
   | go_in)
  ·have h0:H8 s≠0:=(by simpa using ‹(H8 s != 0)=true›);have hv:A2D ks k s=H8 s:=by unfold A2D B9G; rw[zj h0]
   go_ret
   exact⟨by rw[←hf,zj (by rw[hv]; exact h0),hv]; rfl,hnx2⟩
  ·have h0:H8 s=0:=(by simpa using ‹(H8 s != 0)=false›);have h1:1<c2:=(by assumption);rw[atKey_put_same hmet.1 (by trivial)] at hat2;rw[hat0] at hat1;simp only[DataW.lit.injEq,Lit.int.injEq,true_and] at hat1 hat2;have ha:((ks.take k).any fun x=>x==s)=true:=by
    refine zk fun hn=>?_;rw[zf hn] at hat1;subst hat1;rw[←hat2,show RowKit.wrap64 (0+1)=1 from by unfold RowKit.wrap64; omega] at h1;omega
   have hv:A2D ks k s=6:=by unfold A2D B9G; rw[zf (by simp[h0]),zj ha]
   go_ret
   exact⟨by rw[←hf,zj (by rw[hv]; decide),hv]; rfl,hnx2⟩
  ·have h0:H8 s=0:=(by simpa using ‹(H8 s != 0)=false›);have h1:c2<=1:=(by assumption);rw[atKey_put_same hmet.1 (by trivial)] at hat2;rw[hat0] at hat1;simp only[DataW.lit.injEq,Lit.int.injEq,true_and] at hat1 hat2;have ha:((ks.take k).any fun x=>x==s)=false:=by
    refine rk.2 fun hn=>?_;rw[zj hn] at hat1;subst hat1;rw[←hat2,show RowKit.wrap64 (1+1)=2 from by unfold RowKit.wrap64; omega] at h1;omega
   have hv:A2D ks k s=0:=(by unfold A2D B9G; rw[zf (by simp[h0]),zf (by simp[ha])]);rw[zf (by simp[hv])] at hf;rw[ha] at hat1;have hw1:RowKit.wrap64 (c1+1)=1:=(by rw[←hat1,zf (by decide)]; unfold RowKit.wrap64; omega);have hmet2:=C2O hmet hs ha hw1;have hk1:RowKit.wrap64 ((k:Int)+1)=((k+1:Nat):Int):=by
    have h63:(k:Int)+1<=9223372036854775807:=(by unfold maxLen at hkm; omega);unfold RowKit.wrap64; omega
   rw[hk1];exact⟨⟨k+1,_,hlt,rfl,hmet2,hf,hown2,hnx2⟩,Nat.sub_lt_sub_left hlt (xx k)⟩
def C2Q : (f238.name == "runtime.NumGoroutine") = false := by decide
theorem C2R:f238.body.isNone=false:=rfl
def B65:X6 prog 238:=⟨f238,func238,C2Q,C2R⟩
def C4m(ks:List (List UInt8))(id:Nat)(hk:∀s∈ks,s.length<=9223372036854775807):A2 prog 238 [.sl (ks.map .str)] [] id (.int .i64 (A5t ks)) []:=by
 refine A4r B65 λC G bx w vs hs hv=>?_;obtain⟨v,rfl,hv1⟩:=A0X hv;obtain⟨A,c,rfl,h1,h2,h3⟩:=B6g hs hv1;rcases h3 with rfl|⟨b,o,rfl,h4,h5⟩
 ·exact (C2P A c w).mono λe w' ⟨q1,q2⟩=>⟨_,q1,λ_ _=>.int _ _,q2⟩
 ·exact (C4l hs.tabs h1 h2 h4 h5 hk).mono λe w' ⟨q1,q2⟩=>⟨_,q1,λ_ _=>.int _ _,q2⟩
end Go.Am
namespace Go.Am
open Go Go.Proofs Go.RowKit Go.Proofs.Tryz
def A19(o:D8):Int :=
 if o.kind<1\/5<o.kind then 7
 else if (o.kind≠2/\o.n≠0)\/(o.kind≠3/\o.text≠[])\/(o.kind≠5/\o.keys≠[])\/(o.kind<4/\o.kids≠[]) then 1
 else if ¬(-999999999<=o.n/\o.n<=999999999) then 3
 else if 40<o.text.length then 2
 else if o.kind=5/\o.keys.length≠o.kids.length then 1
 else A5t o.keys
mutual
def P0:D8->Int
 | .mk k n t ks l=>if A19 (.mk k n t ks l)≠0 then A19 (.mk k n t ks l) else A1d l
def A1d:List D8->Int
 | []=>0
 | o::r=>if P0 o≠0 then P0 o else A1d r
end
def A9J(o:D8):P0 o=if A19 o≠0 then A19 o else A1d o.kids:=by cases o; rfl
def A5u(o:D8):Int:=if 2000<O9 11 [o]\/11<A00 11 [o] then 2 else P0 o
mutual
def okO:D8->Prop
 | .mk _ _ _ ks l=>(∀s∈ks,s.length<=9223372036854775807)/\B66 l
def B66:List D8->Prop
 | []=>True
 | o::r=>okO o/\B66 r
end
def C2S(o:D8):okO o=((∀s∈o.keys,s.length<=9223372036854775807)/\B66 o.kids):=by cases o; rfl
def C2T{l:List D8}(h:B66 l):∀o∈l,okO o:=by
 induction l with
 | nil=>intro o ho; cases ho
 | cons x r ih =>
  intro o ho;rcases zi.1 ho with rfl|ho
  ·exact h.1
  ·exact ih h.2 o ho
def C4n(o:D8)(id:Nat)(hk:∀s∈o.keys,s.length<=9223372036854775807):A2 prog 171 [eO o] [] id (.int .i64 (A19 o)) []:=by
 have hK:=λid=>C4m o.keys id hk;rw[Z9 o];refine w171.e.1 λE hP hR hl hid=>?_;simp[w171];refine D0 (λg1=>?_) (λg1=>?_)<;>simp
 ·have hf:A19 o=7:=by unfold A19; rw[zj (by simp at g1; omega)]
  rw[hf] at hR;exact yP hR
 have k1:¬(o.kind<1\/5<o.kind):=by simp at g1; omega
 have hB:(o.kind≠2/\o.n≠0)\/(o.kind≠3/\o.text≠[])\/(o.kind≠5/\o.keys≠[])\/(o.kind<4/\o.kids≠[])->A19 o=1:=λh=>by unfold A19; rw[zf k1,zj h]
 refine D0 (λg2=>?_) (λg2=>?_)<;>simp
 ·rw[hB (.inl (v_ g2))] at hR;refine A7 g2 ?_;simp;exact yP hR
 refine D0 (λg3=>?_) (λg3=>?_)<;>simp
 ·rw[hB (.inr (.inl (v_ g3)))] at hR;refine A7 g3 ?_;simp;exact yP hR
 refine D0 (λg4=>?_) (λg4=>?_)<;>simp
 ·rw[hB (.inr (.inr (.inl (by simpa [xi] using g4))))] at hR;refine A7 g4 ?_;simp;exact yP hR
 refine D0 (λg5=>?_) (λg5=>?_)<;>simp
 ·rw[hB (.inr (.inr (.inr (by simpa [xi] using g5))))] at hR;exact yP hR
 have k2:¬((o.kind≠2/\o.n≠0)\/(o.kind≠3/\o.text≠[])\/(o.kind≠5/\o.keys≠[])\/(o.kind<4/\o.kids≠[])):=by revert g2 g3 g4 g5; simp[xi]; grind
 (refine yH rfl (Q8 o.n _) ?_; simp);refine D0 (λg6=>?_) (λg6=>?_)<;>simp
 ·have hf:A19 o=3:=by unfold A19; rw[zf k1,zf k2,zj (by simp at g6; omega)]
  rw[hf] at hR;exact yP hR
 have k3:¬¬(-999999999<=o.n/\o.n<=999999999):=by simp at g6; omega
 refine D0 (λg7=>?_) (λg7=>?_)<;>simp
 ·have hf:A19 o=2:=by unfold A19; rw[zf k1,zf k2,zf k3,zj (by simp at g7; omega)]
  rw[hf] at hR;exact yP hR
 have k4:¬40<o.text.length:=by simp at g7; omega
 refine D0 (λg8=>?_) (λg8=>?_)<;>simp
 ·have hf:A19 o=1:=by unfold A19; rw[zf k1,zf k2,zf k3,zf k4,zj (by simp at g8; omega)]
  rw[hf] at hR;exact yP hR
 have k5:¬(o.kind=5/\o.keys.length≠o.kids.length):=by simp at g8; omega
 have hf:A19 o=A5t o.keys:=by unfold A19; rw[zf k1,zf k2,zf k3,zf k4,zf k5]
 rw[hf] at hR;(refine yH rfl (hK _) ?_; simp);exact yP hR
def B0y:∀(m:Nat) (o:D8) (id:Nat),o.sz<m->o.sz<=1099511627776->okO o->A2 prog 102 [eO o] [] id (.int .i64 (P0 o)) []
 | 0,o,id,hm,_,_=>by omega
 | m+1,o,id,hm,h8,hk=>by
  have hsz:=A3x o;have hlen:=A2b o.kids;rw[C2S] at hk;have h1:=λid=>C4n o id hk.1;rw[Z9 o] at h1;rw[A9J,Z9 o];refine w102.e.1 λE hP hR hl hid=>?_;simp[w102];(refine yH rfl (h1 _) ?_; simp);refine D0 (λg1=>?_) (λg1=>?_)<;>simp
  ·have g1:A19 o≠0:=(v_ g1);rw[zj g1] at hR;exact yP hR
  have g1:A19 o=0:=by simpa using g1
  rw[zf (t_ g1)] at hR;refine B9 (X:=Nat) (λi=>⟨[(1,true,.ptr E.n0 0 0),(13,true,.sl (o.kids.map eO)),(14,true,.int .i64 o.kids.length),(15,true,.int .i64 i)],[(E.n0,some ⟨[.agg [.int .i64 o.kind,.int .i64 o.n,.str o.text,.sl (o.keys.map .str),.sl (o.kids.map eO)]],.agg [.int .i64 o.kind,.int .i64 o.n,.str o.text,.sl (o.keys.map .str),.sl (o.kids.map eO)],false,false⟩)],1⟩)
   (λi=>i<=o.kids.length/\A1d (o.kids.drop i)=A1d o.kids) (λi=>o.kids.length - i) 0 ?_ ⟨o_,rfl⟩ ?_
  ·exact yW [(E.n0,E.n0)] trivial
  rintro i ⟨hi,hx⟩ p hp;refine A3 4000 ?_;simp;refine D0 (λh=>?_) (λh=>?_)
  ·have h:=zq h;obtain⟨x,hxx,hd⟩:=A5 h;rw[hd] at hx;simp only[A1d] at hx;have hi1:IntKind.i64.wrap ((i:Int)+1)=((i+1:Nat):Int):=wrap64 o_;have hxm:=A1c (zg hxx);have ih:=λid=>B0y m x id o_ o_ (C2T hk.2 x (zg hxx));rw[Z9 x] at ih;simp[hxx,Z9 x];refine⟨h,?_⟩;(refine yH rfl (ih _) ?_; simp);refine D0 (λh5=>?_) (λh5=>?_)<;>simp
   ·have h5:P0 x≠0:=(v_ h5);rw[zj h5] at hx;rw[←hx] at hR;exact yP hR
   ·have h5:P0 x=0:=(v_ h5);rw[zf (t_ h5)] at hx;refine hp _ (i+1) ⟨h,hx⟩ o_ ?_;refine yV [(E.n0,E.n0)] s_ λhrn=>⟨?_,?_,?_,?_,?_⟩<;>(try simp[hi1])
  ·have h:=zo h;rw[zp o_] at hx;simp only[A1d] at hx;rw[←hx] at hR;simp;exact yP hR
def A6t(o:D8)(id:Nat)(h8:o.sz<=1099511627776)(hk:okO o):A2 prog 44 [eO o] [] id (.int .i64 (A5u o)) []:=by
 have hC:=λid=>B4T 11 [o] id o_ (by simp[o6]; omega);have hK:=λid=>B0y (o.sz+1) o id o_ h8 hk;simp only[yg,uc] at hC;rw[Z9 o] at hC hK ⊢;refine w44.e.1 λE hP hR hl hid=>?_;simp[w44];(refine yR rfl (hC _) ?_; simp);refine D0 (λg=>?_) (λg=>?_)<;>simp
 ·have hf:A5u o=2:=by unfold A5u; rw[zj (by simp at g; omega)]
  rw[hf] at hR;exact yP hR
 ·have hf:A5u o=P0 o:=by unfold A5u; rw[zf (by simp at g; omega)]
  rw[hf] at hR;(refine yH rfl (hK _) ?_; simp);exact yP hR
def hexT:List UInt8:=[48,49,50,51,52,53,54,55,56,57,97,98,99,100,101,102]
def A9o(n:Nat):UInt8:=hexT.getD n 0
def qBj(c:UInt8):List UInt8:=if c=34\/c=92 then [92,c] else if c=10 then [92,110] else if c.toNat<32 then [92,117,48,48,A9o (c.toNat / 16),A9o (c.toNat % 16)] else [c]
def qL(s:List UInt8):List UInt8:=s.flatMap qBj
def A0M(s:List UInt8):List UInt8:=34::qL s++[34]
def C2U(c:UInt8):1<=(qBj c).length/\(qBj c).length<=6:=by
 unfold qBj;repeat' split
 all_goals simp
def A9K(s:List UInt8):s.length<=(qL s).length/\(qL s).length<=6*s.length:=by
 induction s with
 | nil=>simp[qL]
 | cons c r ih =>
  have:=C2U c;simp only[qL,xo,zu,zt] at *;omega
def C4o{s:List UInt8}{i:Nat}{c:UInt8}(h:s[i]?=some c):qL (s.take (i+1))=qL (s.take i)++qBj c:=by
 unfold qL; rw[L0 h]; simp
def C8S:∀n:Fin 32,Go.bits .and .u8 (n.val:Int) 15=((n.val % 16:Nat):Int):=by decide
def C72{n:Nat}(h:n<32):Go.bits .and .u8 (n:Int) 15=((n % 16:Nat):Int):=C8S ⟨n,h⟩
def B7Z{n:Nat}(h:n<16):hexT[n]?=some (A9o n):=by
 unfold A9o;rw[List.getD,zc (by simpa [hexT] using h)];rfl
def A5v{R:Rn}{S:Nat->Prop}{l:List UInt8}{r:List AV}(h:F8 r=true):N8 R S (eB l++r) (eB l++r):=B4 rfl (B3 (A4G l) h)
def A0N(s:List UInt8)(id:Nat)(h8:s.length<=1099511627776):A2 prog 124 [.str s] [] id (.str (A0M s)) []:=by
 refine w124.e.1 λE hP hR hl hid=>?_;simp[w124];refine B9 (X:=Nat) (λi=>⟨[(0,true,.str s),(3,true,.bsl E.n0 0 (34::qL (s.take i)).length),(8,true,.int .i64 s.length),(9,true,.int .i64 i)],[(E.n0,some ⟨eB (34::qL (s.take i)),.int .u8 0,false,false⟩)],1⟩)
  (λi=>i<=s.length) (λi=>s.length - i) 0 ?_ o_ ?_
 ·have h0:eB (34::qL (s.take 0))=[.int .u8 34]:=by simp[qL,eB]
  have h1:qL []=[]:=rfl;refine yV [(E.n0,E.n0+1024)] s_ λhrn=>⟨?_,?_,?_,?_,?_⟩<;>(try simp[h1]);exact B4 (by simp[eB]) rfl
 rintro i hi p hp;have hcv:∀(U:List UInt8),s.take i=s.take i->True:=λ_ _=>trivial;have h34:∀(c:UInt8) (n:Nat),n<256->(((c.toNat:Int)==(n:Int))=true↔c=UInt8.ofNat n):=λc n hn=>by
  rw[beq_iff_eq];constructor
  ·intro h;have h:c.toNat=n:=o_;rw[←h]; simp
  ·intro h;subst h;simp; omega
 refine A3 4000 ?_;simp;refine D0 (λh=>?_) (λh=>?_)
 ·have h:=zq h;obtain⟨c,hc,hd⟩:=A5 h;have hi1:IntKind.i64.wrap ((i:Int)+1)=((i+1:Nat):Int):=wrap64 o_;have hql:=A9K (s.take i);rw[zy] at hql;have hst:=C4o hc;have hb:=C2U c;have hpU:=A4G (34::qL (s.take i));simp[hc];refine⟨h,?_⟩;refine D0 (λg=>?_) (λg=>?_)<;>simp
  ·have g:c=34\/c=92:=by
    rw[ul] at g;exact g.imp (h34 c 34 o_).1 (h34 c 92 o_).1
   have hq:qBj c=[92,c]:=(by unfold qBj; rw[zj g]);rw[hq] at hst;have hex:eB (34::(qL (s.take i)++[92,c]))=eB (34::qL (s.take i))++[.int .u8 92,.int .u8 c.toNat]:=(by rw[←yw,A0D]; rfl);refine⟨⟨o_,o_⟩,?_⟩;refine hp _ (i+1) h o_ ?_;refine yV [(E.n0,E.n0+17409)] s_ λhrn=>⟨?_,?_,?_,?_,?_⟩<;>(try simp[hi1,hst,hex]);exact A5v (by rfl)
  have g:¬(c=34\/c=92):=by
   rw[wm] at g;rintro (e|e)
   ·exact absurd ((h34 c 34 o_).2 e) (by rw[rz]; exact g.1)
   ·exact absurd ((h34 c 92 o_).2 e) (by rw[rz]; exact g.2)
  refine D0 (λg2=>?_) (λg2=>?_)<;>simp
  ·have g2:c=10:=(h34 c 10 o_).1 g2;have hq:qBj c=[92,110]:=(by unfold qBj; rw[zf g,zj g2]);rw[hq] at hst;have hex:eB (34::(qL (s.take i)++[92,110]))=eB (34::qL (s.take i))++[.int .u8 92,.int .u8 110]:=(by rw[←yw,A0D]; rfl);refine⟨⟨o_,o_⟩,?_⟩;refine hp _ (i+1) h o_ ?_;refine yV [(E.n0,E.n0+19457)] s_ λhrn=>⟨?_,?_,?_,?_,?_⟩<;>(try simp[hi1,hst,hex]);exact A5v (by rfl)
  have g2:c≠10:=λe=>absurd ((h34 c 10 o_).2 e) (by rw[rz]; exact g2);refine D0 (λg3=>?_) (λg3=>?_)
  ·have g3:c.toNat<32:=(by simp at g3; omega);obtain⟨a,ha⟩:∃a,a=c.toNat / 16:=⟨_,rfl⟩;obtain⟨b,hb0⟩:∃b,b=c.toNat % 16:=⟨_,rfl⟩;have hA:Go.bits .and .u8 (c.toNat:Int) 15=(b:Int):=(by rw[C72 g3,hb0]);have hD:(c.toNat:Int) / 16=(a:Int):=o_;have ha16:=B7Z (n:=a) o_;have hb16:=B7Z (n:=b) o_;unfold hexT at ha16 hb16;have hq:qBj c=[92,117,48,48,A9o (c.toNat / 16),A9o (c.toNat % 16)]:=(by unfold qBj; rw[zf g,zf g2,zj g3]);rw[←ha,←hb0] at hq;rw[hq] at hst;have hex:eB (34::(qL (s.take i)++[92,117,48,48,A9o a,A9o b]))=eB (34::qL (s.take i))++[.int .u8 92,.int .u8 117,.int .u8 48,.int .u8 48,.int .u8 (A9o a).toNat,.int .u8 (A9o b).toNat]:=(by rw[←yw,A0D]; rfl);simp[hA,hD,ha16,hb16];refine⟨d_,o_,o_,⟨o_,o_⟩,?_⟩;refine hp _ (i+1) h o_ ?_;refine yV [(E.n0,E.n0+28673)] s_ λhrn=>⟨?_,?_,?_,?_,?_⟩<;>(try simp[hi1,hst,hex]);exact A5v (by rfl)
  have g3:¬c.toNat<32:=by simp at g3; omega
  simp;have hq:qBj c=[c]:=by unfold qBj; rw[zf g,zf g2,zf g3]
  rw[hq] at hst;have hex:eB (34::(qL (s.take i)++[c]))=eB (34::qL (s.take i))++[.int .u8 c.toNat]:=by rw[←yw,A0D]; rfl
  refine⟨⟨o_,o_⟩,?_⟩;refine hp _ (i+1) h o_ ?_;refine yV [(E.n0,E.n0+23553)] s_ λhrn=>⟨?_,?_,?_,?_,?_⟩<;>(try simp[hi1,hst,hex]);exact A5v (by rfl)
 ·have h:¬i<s.length:=zo h;rw[zm (show s.length<=i by omega)];have hql:=A9K s;have hfin:List.take ((qL s).length+1+1) (List.map A6E (eB (34::qL s))++[A6E (.int .u8 34)])=A0M s:=by
   rw[B1a,zm s_];unfold A0M;simp[A6E]
  simp;refine⟨⟨o_,o_⟩,λx hx=>?_,?_⟩
  ·have hx:=xn hx;rcases zr.1 hx with hx|hx
   ·obtain⟨b,rfl⟩:=B1Z hx;have:=b.toNat_lt;simp[A5C];try omega
   ·simp at hx; subst hx; decide
  rw[hfin];exact yP hR
mutual
def jS:D8->List UInt8
 | .mk k n t ks l=>if k=2 then Lib.itoa n else if k=3 then A0M t else if k=1 then [110,117,108,108]
  else if k=5 then 123::Lib.join (jM ks l) [44]++[125] else 91::Lib.join (jL l) [44]++[93]
def jL:List D8->List (List UInt8)
 | []=>[]
 | o::r=>jS o::jL r
def jM:List (List UInt8)->List D8->List (List UInt8)
 | _,[]=>[]
 | ks,o::r=>(A0M (ks.headD [])++[58]++jS o)::jM ks.tail r
end
def A9L:∀l:List D8,jL l=l.map jS
 | []=>rfl
 | o::r=>by simp[jL,A9L r]
def C2V:∀(l:List D8) (ks:List (List UInt8)) (i:Nat) (o:D8) (k:List UInt8),l[i]?=some o->ks[i]?=some k->(jM ks l)[i]?=some (A0M k++[58]++jS o)
 | [],ks,i,o,k,h,_=>by simp at h
 | x::r,[],i,o,k,_,h=>by simp at h
 | x::r,y::ks,0,o,k,h1,h2=>by simp at h1 h2; subst h1 h2; simp[jM]
 | x::r,y::ks,i+1,o,k,h1,h2=>by simp at h1 h2; simp[jM]; simpa using C2V r ks i o k h1 h2
def B2I:∀(l:List D8) (ks:List (List UInt8)),(jM ks l).length=l.length
 | [],ks=>by simp[jM]
 | x::r,ks=>by simp[jM,B2I r]
def C5j(o:D8):jS o=if o.kind=2 then Lib.itoa o.n else if o.kind=3 then A0M o.text else if o.kind=1 then [110,117,108,108]
  else if o.kind=5 then 123::Lib.join (jM o.keys o.kids) [44]++[125] else 91::Lib.join (jL o.kids) [44]++[93]:=by cases o; rfl
def jP(o:D8):List (List UInt8):=if o.kind=5 then jM o.keys o.kids else jL o.kids
def C73(o:D8):(jP o).length=o.kids.length:=by
 unfold jP; split
 ·exact B2I _ _
 ·rw[A9L]; simp
def B0z{α:Type}{f:Nat->α->Int}:∀{l:List α} {i:Nat},D2 f l i=0->∀(k:Nat) x,l[k]?=some x->f (i+k) x=0
 | [],i,_,k,x,h=>by simp at h
 | y::l,i,h,k,x,hx=>by
  simp only[D2] at h;split at h
  ·rename_i h0; exact (h0 h).elim
  rename_i h0;cases k with
  | zero=>simp at hx; subst hx; exact zk h0
  | succ k=>rw[show i+(k+1)=i+1+k by omega]; exact B0z h k x (v_ hx)
def A6u{s:List UInt8}(h:H8 s=0):s.length<=12:=by
 unfold H8 at h;split at h
 ·cases h
 ·omega
structure C5k(o:D8):Prop where
 k1:1<=o.kind/\o.kind<=5
 n0:o.kind≠2->o.n=0
 t0:o.kind≠3->o.text=[]
 m0:o.kind≠5->o.keys=[]
 l0:o.kind<4->o.kids=[]
 ni : -999999999<=o.n/\o.n<=999999999
 tl:o.text.length<=40
 ml:o.kind=5->o.keys.length=o.kids.length
 ks:∀k∈o.keys,H8 k=0
 nd:A5t o.keys=0
def C8T{o:D8}(h:A19 o=0):C5k o:=by
 unfold A19 at h;split at h
 ·cases h
 rename_i h1;split at h
 ·cases h
 rename_i h2;split at h
 ·cases h
 rename_i h3;split at h
 ·cases h
 rename_i h4;split at h
 ·cases h
 rename_i h5;have hn:∀{p q:Prop},¬(p/\¬q)->p->q:=λh hp=>zk λhq=>h ⟨hp,hq⟩;refine⟨o_,λg=>?_,λg=>?_,λg=>?_,λg=>?_,o_,o_,λg=>?_,λk hk=>?_,h⟩
 ·exact zk λq=>h2 (.inl ⟨g,q⟩)
 ·exact zk λq=>h2 (.inr (.inl ⟨g,q⟩))
 ·exact zk λq=>h2 (.inr (.inr (.inl ⟨g,q⟩)))
 ·exact zk λq=>h2 (.inr (.inr (.inr ⟨g,q⟩)))
 ·exact zk λq=>h5 ⟨g,q⟩
 ·obtain⟨i,hi⟩:=yi.1 hk;have:=B0z h i k hi;unfold A2D B9G at this;split at this
  ·rename_i h0; exact (h0 this).elim
  ·rename_i h0; exact zk h0
def B67{l:List D8}(h:A1d l=0):∀o∈l,P0 o=0:=by
 induction l with
 | nil=>intro o ho; cases ho
 | cons x r ih =>
  simp only[A1d] at h;split at h
  ·rename_i h0; exact (h0 h).elim
  rename_i h0;intro o ho;rcases zi.1 ho with rfl|ho
  ·exact zk h0
  ·exact ih h o ho
def A6v{o:D8}(h:P0 o=0):C5k o/\∀x∈o.kids,P0 x=0:=by
 rw[A9J] at h;split at h
 ·rename_i h0; exact (h0 h).elim
 ·rename_i h0; exact⟨C8T (zk h0),B67 h⟩
def B7a(xs:List (List UInt8)):(Lib.join xs [44]).length<=(xs.map List.length).sum+xs.length:=by
 have key:∀l:List (List UInt8),Lib.lens l=(l.map List.length).sum:=λl=>by
  induction l with
  | nil=>rfl
  | cons a r ih=>simp[Lib.lens]
 cases xs with
 | nil=>simp[Lib.join]
 | cons x r=>rw[Lib.join_length,key]; simp; omega
def B2J:∀(m:Nat) (o:D8),o.sz<m->P0 o=0->(jS o).length+2<=400*o.sz
 | 0,o,h,_=>by omega
 | m+1,o,h,hc=>by
  obtain⟨h1,h2⟩:=A6v hc;have hz:=A3x o;have hkid:∀x∈o.kids,(jS x).length+2<=400*x.sz:=λx hx=>B2J m x (by have:=A1c hx; omega) (h2 x hx);rw[C5j];split
  ·have:=Lib.itoa_length_le o.n (by have:=h1.ni; omega) (by have:=h1.ni; omega);omega
  split
  ·have:=A9K o.text;have:=h1.tl;simp[A0M]; omega
  split
  ·simp; omega
  have hsum:∀l:List D8,(∀x∈l,(jS x).length+2<=400*x.sz)->((l.map jS).map List.length).sum+2*l.length<=400*o6 l:=λl=>by
   induction l with
   | nil=>intro _; simp[o6]
   | cons x r ih =>
    intro hx;have:=ih λy hy=>hx y (zb _ hy);have:=hx x (za ..);simp only[yg,vq,zt,o6];omega
  split
  ·have hm:∀(l:List D8) (ks:List (List UInt8)),(∀k∈ks,k.length<=12)->((jM ks l).map List.length).sum<=((l.map jS).map List.length).sum+75*l.length:=λl=>by
    induction l with
    | nil=>intro ks _; simp[jM]
    | cons x r ih =>
     intro ks hk;have:=ih ks.tail λk hk'=>hk k (List.mem_of_mem_tail hk');have h0:(ks.headD []).length<=12:=by
      cases ks with
      | nil=>simp
      | cons a b=>exact hk a (za ..)
     have hq:=A9K (ks.headD []);simp only[jM,yg,vq,zt,zu,A0M,xy];omega
   have a1:=hm o.kids o.keys λk hk=>A6u (h1.ks k hk);have a2:=hsum o.kids hkid;have a3:=B7a (jM o.keys o.kids);rw[B2I] at a3;have a4:=h1.ml (by assumption);simp;omega
  ·have a2:=hsum o.kids hkid;have a3:=B7a (jL o.kids);rw[A9L] at a3 ⊢;simp at a3 ⊢;simp at a2;omega
def B4U{l:List AV}(h:F8 l=true)(n:Nat):F8 (l.take n)=true:=A57 λi x hx=>by
 rw[zz] at hx;split at hx
 ·exact A6A h hx
 ·cases hx
def A4S:∀(m:Nat) (o:D8) (id:Nat),o.sz<m->o.sz<=100000000000->P0 o=0->A2 prog 61 [eO o] [] id (.str (jS o)) []
 | 0,o,id,hm,_,_=>by omega
 | m+1,o,id,hm,h8,hc=>by
  obtain⟨h1,h2⟩:=A6v hc;have hsz:=A3x o;have hlen:=A2b o.kids;have hJ:=C5j o;have hIt:=λid=>A1x o.n id (by have:=h1.ni; unfold I64; omega);have hQt:=λid=>A0N o.text id (by have:=h1.tl; omega);rw[Z9 o];refine w61.e.1 λE hP hR hl hid=>?_;simp[w61];refine D0 (λg=>?_) (λg=>?_)<;>simp
  ·have g:o.kind=2:=(v_ g);rw[zj g] at hJ;rw[hJ] at hR;(refine yH rfl (hIt _) ?_; simp);exact yP hR
  have g2:o.kind≠2:=by simpa using g
  refine D0 (λg=>?_) (λg=>?_)<;>simp
  ·have g:o.kind=3:=(v_ g);rw[zf g2,zj g] at hJ;rw[hJ] at hR;(refine yH rfl (hQt _) ?_; simp);exact yP hR
  have g3:o.kind≠3:=by simpa using g
  refine D0 (λg=>?_) (λg=>?_)<;>simp
  ·have g:o.kind=1:=(v_ g);rw[zf g2,zf g3,zj g] at hJ;rw[hJ] at hR;exact yP hR
  have g1:o.kind≠1:=by simpa using g
  rw[zf g2,zf g3,zf g1] at hJ;have hpl:=C73 o;have hJl:=B2J (o.sz+1) o (xx _) hc;by_cases k5:o.kind=5
  ·rw[zj k5] at hJ;rw[hJ] at hR hJl;have hjl:=B2I o.kids o.keys;have hkk:=h1.ml k5;have hst0:∀i:Nat,(jM o.keys o.kids).take i=if i=0 then [] else (jM o.keys o.kids).take i:=λi=>by split<;>simp_all
   refine B9 (X:=Nat) (λi=>⟨[(1,true,.ptr E.n0 0 0),(3,true,.str (if i=0 then [91,93] else [123,125])),(4,true,.bsl (E.n0+1) 0 i),(23,true,.sl (o.kids.map eO)),(24,true,.int .i64 o.kids.length),(25,true,.int .i64 i)],
    [(E.n0,some ⟨[.agg [.int .i64 o.kind,.int .i64 o.n,.str o.text,.sl (o.keys.map .str),.sl (o.kids.map eO)]],.agg [.int .i64 o.kind,.int .i64 o.n,.str o.text,.sl (o.keys.map .str),.sl (o.kids.map eO)],false,false⟩),(E.n0+1,some ⟨((jM o.keys o.kids).map AV.str).take i,.str [],false,false⟩)],2⟩)
    (λi=>i<=o.kids.length) (λi=>o.kids.length - i) 0 ?_ o_ ?_
   ·refine D9.trans (D9.voidSlot 4 (x:=.nils) (y:=.bsl (E.n0+16384) 0 0) s_ .nils (.str [])) ?_;exact yW [(E.n0,E.n0),(E.n0+1,E.n0+16384)] trivial
   rintro i hi p hp;refine A3 4000 ?_;simp;refine D0 (λh=>?_) (λh=>?_)
   ·have h:=zq h;obtain⟨x,hx,hd⟩:=A5 h;have hi1:IntKind.i64.wrap ((i:Int)+1)=((i+1:Nat):Int):=wrap64 o_;have hxm:=zg hx;have hxz:=A1c hxm;have hxl:=B2J (x.sz+1) x (xx _) (h2 x hxm);have ih:=λid=>A4S m x id o_ o_ (h2 x hxm);rw[Z9 x] at ih;simp[hx,Z9 x];refine⟨h,?_⟩;(refine yH rfl (ih _) ?_; simp);obtain⟨k,hk⟩:∃k,o.keys[i]?=some k:=⟨_,zc o_⟩;have hkl:=A6u (h1.ks k (zg hk));have hQk:=λid=>A0N k id o_;have hql:=A9K k;have hjm:=C2V o.kids o.keys i x k hx hk;have hst:((jM o.keys o.kids).map AV.str).take (i+1)=((jM o.keys o.kids).map AV.str).take i++[.str (A0M k++[58]++jS x)]:=L0 (t_ hjm);refine A7 (t_ k5) ?_;simp[hk];refine⟨o_,?_⟩;(refine yH rfl (hQk _) ?_; simp);have hqz:(A0M k).length=(qL k).length+2:=(by simp[A0M]);refine⟨o_,o_,⟨o_,o_,o_⟩,?_⟩;refine hp _ (i+1) h o_ ?_;refine yV [(E.n0,E.n0),(E.n0+1,E.n0+27650)] s_ λhrn=>⟨?_,?_,?_,?_,?_⟩<;>(try simp[hi1,hst]);exact B4 rfl (B3 (B4U (Y4 _) _) rfl)
   ·have h:¬i<o.kids.length:=zo h;have hil:i=o.kids.length:=o_;have hka:((jM o.keys o.kids).map AV.str).take i=(jM o.keys o.kids).map AV.str:=zm m_;have hle:i<=(jM o.keys o.kids).length:=o_;have hJo:=λid=>B1v (jM o.keys o.kids) [44] id o_ (by simp at hJl; omega);simp;refine A7 (t_ k5) ?_;simp[hka];(refine A0z hP rfl (hJo _) (by simp[hka,hle]<;>rfl) s_ f_ s_ ?_; refine A3 4000 ?_; simp);refine⟨by simp at hJl; omega,by simp at hJl; omega,?_⟩;exact yP hR
  ·rw[zf k5] at hJ;rw[hJ] at hR hJl;have hjl:(jL o.kids).length=o.kids.length:=(by rw[A9L]; simp);have hst0:∀i:Nat,(jL o.kids).take i=if i=0 then [] else (jL o.kids).take i:=λi=>by split<;>simp_all
   refine B9 (X:=Nat) (λi=>⟨[(1,true,.ptr E.n0 0 0),(3,true,.str ([91,93])),(4,true,.bsl (E.n0+1) 0 i),(23,true,.sl (o.kids.map eO)),(24,true,.int .i64 o.kids.length),(25,true,.int .i64 i)],
    [(E.n0,some ⟨[.agg [.int .i64 o.kind,.int .i64 o.n,.str o.text,.sl (o.keys.map .str),.sl (o.kids.map eO)]],.agg [.int .i64 o.kind,.int .i64 o.n,.str o.text,.sl (o.keys.map .str),.sl (o.kids.map eO)],false,false⟩),(E.n0+1,some ⟨((jL o.kids).map AV.str).take i,.str [],false,false⟩)],2⟩)
    (λi=>i<=o.kids.length) (λi=>o.kids.length - i) 0 ?_ o_ ?_
   ·refine D9.trans (D9.voidSlot 4 (x:=.nils) (y:=.bsl (E.n0+16384) 0 0) s_ .nils (.str [])) ?_;exact yW [(E.n0,E.n0),(E.n0+1,E.n0+16384)] trivial
   rintro i hi p hp;refine A3 4000 ?_;simp;refine D0 (λh=>?_) (λh=>?_)
   ·have h:=zq h;obtain⟨x,hx,hd⟩:=A5 h;have hi1:IntKind.i64.wrap ((i:Int)+1)=((i+1:Nat):Int):=wrap64 o_;have hxm:=zg hx;have hxz:=A1c hxm;have hxl:=B2J (x.sz+1) x (xx _) (h2 x hxm);have ih:=λid=>A4S m x id o_ o_ (h2 x hxm);rw[Z9 x] at ih;simp[hx,Z9 x];refine⟨h,?_⟩;(refine yH rfl (ih _) ?_; simp);have hst:((jL o.kids).map AV.str).take (i+1)=((jL o.kids).map AV.str).take i++[.str (jS x)]:=L0 (by rw[A9L]; simp[hx]);refine A0 (t_ k5) ?_;simp;refine⟨⟨o_,o_,o_⟩,?_⟩;refine hp _ (i+1) h o_ ?_;refine yV [(E.n0,E.n0),(E.n0+1,E.n0+16386)] s_ λhrn=>⟨?_,?_,?_,?_,?_⟩<;>(try simp[hi1,hst]);exact B4 rfl (B3 (B4U (Y4 _) _) rfl)
   ·have h:¬i<o.kids.length:=zo h;have hil:i=o.kids.length:=o_;have hka:((jL o.kids).map AV.str).take i=(jL o.kids).map AV.str:=zm m_;have hle:i<=(jL o.kids).length:=o_;have hJo:=λid=>B1v (jL o.kids) [44] id o_ (by simp at hJl; omega);simp;refine A0 (t_ k5) ?_;simp[hka];(refine A0z hP rfl (hJo _) (by simp[hka,hle]<;>rfl) s_ f_ s_ ?_; refine A3 4000 ?_; simp);refine⟨by simp at hJl; omega,by simp at hJl; omega,?_⟩;exact yP hR
def A2E(o:D8):List UInt8:=if A5u o=0 then jS o else []
def A6w(o:D8)(id:Nat)(h8:o.sz<=100000000000)(hk:okO o):A2 prog 22 [eO o] [] id (.tup [.str (A2E o),.int .i64 (A5u o)]) []:=by
 have hC:=λid=>A6t o id o_ hk;have hB:=λ(h:P0 o=0) id=>A4S (o.sz+1) o id o_ h8 h;rw[Z9 o] at hC hB ⊢;refine w22.e.1 λE hP hR hl hid=>?_;simp[w22];(refine yH rfl (hC _) ?_; simp);refine D0 (λg=>?_) (λg=>?_)<;>simp
 ·have g:A5u o≠0:=by simpa using g
  have hf:A2E o=[]:=by unfold A2E; rw[zf g]
  rw[hf] at hR;exact yP hR
 ·have g:A5u o=0:=by simpa using g
  have hf:A2E o=jS o:=by unfold A2E; rw[zj g]
  have hz:P0 o=0:=by
   unfold A5u at g;split at g
   ·cases g
   ·exact g
  have hB1:=hB hz;rw[hf,g] at hR;(refine yH rfl (hB1 _) ?_; simp);exact yP hR
end Go.Am
namespace Go.Am
open Go Go.Proofs Go.RowKit Go.Shelf Go.Proofs.Tryz
def A6x:Go.Shelf.Ren:=⟨λ|137=>287|217=>308|266=>329|n=>n,λ|9=>9|5=>5|3=>3|n=>n,λ|n=>n⟩
def B2K:Go.Proofs.Lays.n137 prog A6x:={ mixed:=k_,f137:=func287.trans (congrArg some k_),f217:=func308.trans (congrArg some k_),f266:=func329.trans (congrArg some k_),t3:=underlying3,a3:=Tryz.isAgg3,z3:=Tryz.sizeOf3,v3:=Tryz.zeroValue3,t5:=underlying5,a5:=Tryz.isAgg5,z5:=Tryz.sizeOf5,v5:=Tryz.zeroValue5,t9:=underlying9,a9:=Tryz.isAgg9,z9:=Tryz.sizeOf9,v9:=Tryz.zeroValue9 }
def C4p : (f287.name == "runtime.NumGoroutine") = false := by decide
theorem C4q:f287.body.isNone=false:=rfl
def B9H:X6 prog 287:=⟨_,func287,C4p,C4q⟩
def A1A(s:List UInt8)(c:UInt8)(id:Nat):A2 prog 287 [.str s,.int .u8 c.toNat] [] id (.int .i64 (Lib.indexByte s c)) []:=by
 refine A4r B9H λC G bx w vs hs hv=>?_;obtain⟨u,v,rfl,hv1,hv2⟩:=A7A hv;cases hv1
 cases hv2
 refine (Any.strings_IndexByte B2K ⟨⟨s⟩⟩ c.toNat w).mono ?_;rintro e w' ⟨h1,rfl⟩;refine⟨_,h1,λ_ _=>?_,Below.refl _ _⟩;simpa using RV.int (G:=_) (w:=_) .i64 (Lib.indexByte s c)
end Go.Am
namespace Go.Am
open Go Go.Proofs Go.RowKit Go.Proofs.Tryz
def S7(t:Tk):AV:=.agg [.int .i64 t.kind,.str t.text,.int .i64 t.n]
def rB(z:List UInt8)(i:Nat):Bx:=⟨[.agg [.str z,.int .i64 i]],.agg [.str z,.int .i64 0],false,false⟩
theorem Q2(z:List UInt8)(i:Nat):rB z i=⟨[.agg [.str z,.int .i64 i]],.agg [.str z,.int .i64 0],false,false⟩:=rfl
def erV(e:Int):AV:=.iface 31 (.int .i64 e)
def A2c(e:Int)(id:Nat):Z0 prog 250 [.int .i64 e] [] id (.error (erV e)):=by
 refine A3Y w250.hf w250.hc w250.hn w250.hr (by simp[ntmps250]) λE hP hR hPn hl hid hB hu=>?_;refine A3 9 ?_;simp[w250];refine B1W f_ s_ ⟨s_,hPn _ _ rfl rfl s_⟩
def C2W{p:UInt8->Bool}{s:List UInt8}{i:Nat}(h:∀c∈s.take i,p c=true)(hs:∀c,s[i]?=some c->p c=false):s.takeWhile p=s.take i:=by
 conv=>lhs; rw[←yu i s]
 rw[List.takeWhile_append_of_pos h];cases hd:s.drop i with
 | nil=>simp
 | cons c r =>
  have:s[i]?=some c:=by
   have:=congrArg (λl=>l[0]?) hd;simpa using this
  rw[List.takeWhile_cons_of_neg (by simp[hs c this])]; simp
def B7b(p:UInt8->Bool)(s:List UInt8):(s.takeWhile p).length<=s.length:=(List.takeWhile_prefix _).length_le
def at2(p:UInt8->Bool)(z:List UInt8)(i:Nat):Nat:=i+((z.drop i).takeWhile p).length
def A7x(z:List UInt8)(i:Nat)(p:UInt8->Bool)(F:Nat)(J id:Nat)(hi:i<=z.length)(h8:z.length<=1099511627776)(hF:∀(c:UInt8) id,A2 prog F [.int .u8 c.toNat] [] id (.bool (p c)) []):
  A2 prog 281 [.ptr J 0 0,.fn F []] [(J,rB z i)] id (.str ((z.drop i).takeWhile p)) [(J,some (rB z (at2 p z i)))]:=by
 rw[Q2,Q2];refine w281.e.1 λE hP hR hl hid=>?_;simp[w281];have hJ:=hl (J,_) (za ..);simp only at hJ;have J1:=lf hJ;refine B9 (X:=Nat) (λj=>⟨[(0,true,.ptr J 0 0),(1,true,.fn F []),(5,true,.int .i64 i)],[(J,some (rB z j))],0⟩)
  (λj=>(i<=j/\j<=z.length)/\∀c∈(z.drop i).take (j - i),p c=true) (λj=>z.length - j) i ?_ ⟨⟨o_,o_⟩,s_⟩ ?_
 ·refine yV [] s_ λhrn=>⟨?_,?_,?_,?_,?_⟩<;>(try simp[rB,J1])
 rintro j ⟨⟨hij,hj⟩,hall⟩ q hq;rw[Q2];have ending:(∀c,(z.drop i)[j - i]?=some c->p c=false)->(z.drop i).takeWhile p=(z.take j).drop i/\at2 p z i=j:=λhs=>by
  have h1:=C2W hall hs;have h2:(z.drop i).take (j - i)=(z.take j).drop i:=by rw[uz]
  unfold at2;rw[h1,zy,ya,h2];exact⟨rfl,o_⟩
 rcases yd j z.length with h|h
 ·obtain⟨c,hc,hd⟩:=A5 h;have hcj:z[j]=c:=by
   rw[zc h] at hc;injection hc
  have hj1:IntKind.i64.wrap ((j:Int)+1)=((j+1:Nat):Int):=wrap64 o_;have hix:(z.drop i)[j - i]?=some c:=by rw[yf,show i+(j - i)=j by omega]; exact hc
  refine A3 4000 ?_;simp[h,hcj];refine B3Q hP s_ rfl (λhh=>⟨f_,hF c _,s_,s_⟩) ?_;refine A3 4000 ?_;simp;by_cases hpc:p c=true
  ·refine A7 hpc ?_;simp;refine hq _ (j+1) ⟨⟨o_,h⟩,λx hx=>?_⟩ o_ ?_
   ·rw[show j+1 - i=j - i+1 by omega,L0 hix] at hx;rcases zr.1 hx with hx|hx
    ·exact hall x hx
    ·obtain rfl:=wj.1 hx; exact hpc
   ·refine yV [] s_ λhrn=>⟨?_,?_,?_,?_,?_⟩<;>(try simp[rB,hj1,J1])
  ·have hpc:p c=false:=(v_ hpc);obtain⟨e1,e2⟩:=ending λd hd=>by rw[hix] at hd; injection hd with hd; rw[←hd]; exact hpc
   rw[e1,e2] at hR;refine A0 hpc ?_;simp;refine⟨⟨o_,o_⟩,?_⟩;refine yE hR [] s_ λhrn=>⟨?_,?_,?_,?_,?_,?_⟩<;>(try simp[J1])
 ·obtain⟨e1,e2⟩:=ending λc hc=>by rw[yf,show i+(j - i)=j by omega,wu o_] at hc; cases hc
  rw[e1,e2] at hR;refine A3 4000 ?_;simp[to.2 h];refine B3Q hP s_ rfl (v:=.bool false) (rd:=[]) (f:=F) (caps:=[]) (λhh=>by simp at hh) ?_;refine A3 4000 ?_;simp;refine⟨⟨o_,o_⟩,?_⟩;refine yE hR [] s_ λhrn=>⟨?_,?_,?_,?_,?_,?_⟩<;>(try simp[J1])
def A3y(p:UInt8->Bool)(z:List UInt8)(i:Nat):z.drop (at2 p z i)=(z.drop i).dropWhile p:=by
 unfold at2;rw[←sd];have h:=List.takeWhile_append_dropWhile (p:=p) (l:=z.drop i);generalize (z.drop i).takeWhile p=a at h;generalize (z.drop i).dropWhile p=b at h;rw[←h,rf]
def A9M(p:UInt8->Bool){z:List UInt8}{i:Nat}(hi:i<=z.length):i<=at2 p z i/\at2 p z i<=z.length:=by
 have:=B7b p (z.drop i);rw[ya] at this;unfold at2; omega
def atU(z u:List UInt8):Nat:=z.length - u.length
def A2d{z:List UInt8}{i:Nat}(hi:i<=z.length):atU z (z.drop i)=i:=by
 unfold atU; rw[ya]; omega
def C2X:∀s:List UInt8,blk false s=blk false (s.dropWhile blC)
 | []=>rfl
 | c::r=>by
  cases hc:blC c with
  | true=>rw[wk hc,←C2X r]; simp[blk,hc]
  | false=>rw[sw (t_ hc)]
def A9N(c:UInt8):Bool:=c != 10
def C2Y:∀s:List UInt8,blk true s=blk false (s.dropWhile A9N)
 | []=>rfl
 | c::r=>by
  by_cases hc:c=10
  ·subst hc; rfl
  ·have h:A9N c=true:=(by unfold A9N; simp[hc]);rw[wk h,←C2Y r];simp[blk,hc]
def C4r{p:UInt8->Bool}{s:List UInt8}{c:UInt8}{r:List UInt8}(h:s.dropWhile p=c::r):p c=false:=by
 induction s with
 | nil=>cases h
 | cons d s ih =>
  cases hd:p d with
  | true=>rw[wk hd] at h; exact ih h
  | false=>rw[sw (t_ hd)] at h; injection h with h1 h2; rw[←h1]; exact hd
def u8i(c:UInt8)(n:Nat)(hn:n<256):((c.toNat:Int)==(n:Int))=(c==UInt8.ofNat n):=by
 rw[wg,beq_iff_eq,beq_iff_eq,←UInt8.toNat_inj];simp;omega
def B9I(c:UInt8)(id:Nat):A2 prog 282 [.int .u8 c.toNat] [] id (.bool (blC c)) []:=by
 have h9:((c.toNat:Int)==9)=(c==9):=u8i c 9 d_;have h10:((c.toNat:Int)==10)=(c==10):=u8i c 10 d_;have h13:((c.toNat:Int)==13)=(c==13):=u8i c 13 d_;have h32:((c.toNat:Int)==32)=(c==32):=u8i c 32 d_;have h44:((c.toNat:Int)==44)=(c==44):=u8i c 44 d_;refine w282.e.1 λE hP hR hl hid=>?_;simp[w282];simp only[h9,h10,h13,h32,h44];exact yP hR (h1:=by simp; unfold blC; rfl)
def B9J(c:UInt8)(id:Nat):A2 prog 283 [.int .u8 c.toNat] [] id (.bool (A9N c)) []:=by
 have h10:((c.toNat:Int)==10)=(c==10):=u8i c 10 d_;refine w283.e.1 λE hP hR hl hid=>?_;simp[w283];exact yP hR (h1:=by simp; unfold A9N; simp only[bne,h10])
def A1e(z:List UInt8)(i:Nat):Nat:=atU z (blk false (z.drop i))
def B4V(z:List UInt8)(i:Nat)(J id:Nat)(hi:i<=z.length)(h8:z.length<=1099511627776):
  A2 prog 248 [.ptr J 0 0] [(J,rB z i)] id (.tup []) [(J,some (rB z (A1e z i)))]:=by
 have hP1:=λj id hj=>A7x z j blC 282 J id hj h8 B9I;have hP2:=λj id hj=>A7x z j A9N 283 J id hj h8 B9J;rw[Q2,Q2];refine w248.e.1 λE hP hR hl hid=>?_;simp[w248];have hJ:=hl (J,_) (za ..);simp only at hJ;have J1:=lf hJ;refine B9 (X:=Nat) (λj=>⟨[(0,true,.ptr J 0 0)],[(J,some (rB z j))],0⟩)
  (λj=>j<=z.length/\blk false (z.drop j)=blk false (z.drop i)) (λj=>z.length - j) i ?_ ⟨hi,rfl⟩ ?_
 ·refine yV [] s_ λhrn=>⟨?_,?_,?_,?_,?_⟩<;>(try simp[rB,J1])
 rintro j ⟨hj,hb⟩ q hq;obtain⟨l1,l2⟩:=A9M blC hj;have d1:=A3y blC z j;have hp1:=λid=>hP1 j id hj;have hp2:=λid=>hP2 (at2 blC z j) id l2;generalize at2 blC z j=k at *;rw[C2X,←d1] at hb;rw[Q2,Q2] at hp1 hp2;rw[Q2];refine A3 4000 ?_;simp;(refine yC rfl (hp1 _) ?_; simp);rcases yd k z.length with h|h
 ·obtain⟨c,hc,hd⟩:=A5 h;have hck:z[k]=c:=by
   rw[zc h] at hc;injection hc
  have hnb:blC c=false:=C4r (d1.symm.trans hd);have hne:((k:Int)==(z.length:Int))=false:=by rw[beq_eq_false_iff_ne]; omega
  have h35:((c.toNat:Int)==35)=(c==35):=u8i c 35 d_;by_cases g:c=35
  ·have l3:=A9M A9N l2;have d2:=A3y A9N z k;have hlt:k<at2 A9N z k:=by
    unfold at2;rw[hd,sy (by rw[g]; rfl)];simp
   have hbm:blk false (z.drop (at2 A9N z k))=blk false (z.drop i):=by
    rw[d2,←hb,hd,wk (by rw[g]; rfl),←C2Y,g];rfl
   generalize at2 A9N z k=m at *;refine⟨λ_=>⟨o_,h⟩,?_⟩;refine A0 (by rw[hne,hc]; simp[bne,g]) ?_;simp;(refine yC rfl (hp2 _) ?_; simp);refine hq _ m ⟨l3.2,hbm⟩ o_ ?_;refine yV [] s_ λhrn=>⟨?_,?_,?_,?_,?_⟩<;>(try simp[rB,J1])
  ·have e:A1e z i=k:=by
    unfold A1e;rw[←hb,hd,B7G hnb g,←hd,A2d o_]
   rw[e] at hR;refine⟨λ_=>⟨o_,h⟩,?_⟩;refine A7 (by rw[hc]; simp only[vh,bne,h35]; simp[g]) ?_;simp;refine yE hR [] s_ λhrn=>⟨?_,?_,?_,?_,?_,?_⟩<;>(try simp[J1])
 ·have hk:k=z.length:=by omega
  have e:A1e z i=k:=by
   unfold A1e;rw[←hb,zp h,hk];unfold atU blk; simp
  rw[e] at hR;subst hk;simp;refine yE hR [] s_ λhrn=>⟨?_,?_,?_,?_,?_,?_⟩<;>(try simp[J1])
def B9K(J:Nat)(z:List UInt8):Except Int (Tk×List UInt8)->Except AV (AV×List (Nat×Option Bx))
 | .ok p=>.ok (S7 p.1,[(J,some (rB z (atU z p.2)))])
 | .error e=>.error (erV e)
def A7y{J:Nat}{z:List UInt8}{o:Except Int (Tk×List UInt8)}{t:Tk}{u:List UInt8}(h:o = .ok (t,u)):B9K J z o = .ok (S7 t,[(J,some (rB z (atU z u)))]):=by rw[h]; rfl
def Z6{J:Nat}{z:List UInt8}{o:Except Int (Tk×List UInt8)}{e:Int}(h:o = .error e):B9K J z o = .error (erV e):=by rw[h]; rfl
def A2e(c:UInt8)(r:List UInt8):Except Int (Tk×List UInt8):=match A0e (A18 c r) with
 | none=>.error 1
 | some n=>.ok (⟨2,[],n⟩,r.dropWhile g9)
def B4W{a b:List UInt8}{n:Int}(hg:¬(a=b/\-999999999<=n/\n<=999999999)):(!a==b||(!decide (-999999999<=n)||!decide (n<=999999999)))=true:=by
 by_cases h1:a=b
 ·have h2:¬(-999999999<=n/\n<=999999999):=λh=>hg ⟨h1,h⟩;simp;omega
 ·simp[h1]
def B4X{w:List UInt8}{n:Int}(h:Lib.atoiAll w = .ok n):A0e w=if Lib.itoa n=w/\-999999999<=n/\n<=999999999 then some n else none:=by
 split
 ·rename_i hg;rw[←hg.1]; exact B5u hg.2
 ·rename_i hg;cases hi:A0e w with
  | none=>rfl
  | some m =>
   obtain⟨h1,h2⟩:=A98 hi;have h3:=B0s h2;rw[h1,h] at h3;injection h3 with h3
   subst h3;exact (hg ⟨h1,h2⟩).elim
def A5w{w:List UInt8}(h:∀n,Lib.atoiAll w≠.ok n):A0e w=none:=by
 cases hi:A0e w with
 | none=>rfl
 | some m =>
  obtain⟨h1,h2⟩:=A98 hi;have h3:=B0s h2;rw[h1] at h3;exact (h m h3).elim
def B9L(c:UInt8)(id:Nat):A2 prog 233 [.int .u8 c.toNat] [] id (.bool (g9 c)) []:=A5U c id
def B9M(z:List UInt8)(i:Nat)(c:UInt8)(r:List UInt8)(J id:Nat)(hi:i<=z.length)(hd:z.drop i=c::r)(hc:g9 c=true\/c=45)(h8:z.length<=1099511627776):
  Z0 prog 285 [.ptr J 0 0] [(J,rB z i)] id (B9K J z (A2e c r)):=by
 have hf:=λid=>A2c 1 id;have hP:=λj id hj=>A7x z j g9 233 J id hj h8 B9L;have hlt:i<z.length:=by
  have:=congrArg List.length hd;rw[ya,zt] at this; omega
 have hcz:z[i]?=some c:=by
  have:=congrArg (λl=>l[0]?) hd;simpa using this
 have hci:z[i]=c:=by
  rw[zc hlt] at hcz;injection hcz
 have hd1:z.drop (i+1)=r:=by
  rw[←sd,hd]; rfl
 have h45:((c.toNat:Int)==45)=(c==45):=u8i c 45 d_;have hlen:(A18 c r).length<=281474976710656:=by
  have h1:=B7b g9 r;have h2:=congrArg List.length hd;rw[ya,zt] at h2;unfold A18;simp; omega
 have tail:∀(j k:Nat) (pre:List UInt8),j=0->True:=λ_ _ _ _=>trivial;by_cases hs:c=45
 ·have hp:=λid=>hP (i+1) id o_;rw[hd1] at hp;have e2:at2 g9 z (i+1)=atU z (r.dropWhile g9):=by
   have h1:=A3y g9 z (i+1);rw[hd1] at h1;rw[←h1,A2d (A9M g9 o_).2]
  rw[e2] at hp;have hW:A18 c r=45::r.takeWhile g9:=by rw[hs]; rfl
  have hl1:1+(r.takeWhile g9).length<=9223372036854775807:=by rw[hW,zt] at hlen; omega
  have hi1:IntKind.i64.wrap ((i:Int)+1)=((i+1:Nat):Int):=wrap64 o_;rw[Q2,Q2] at hp;rw[Q2];rcases hat:Lib.atoiAll (A18 c r) with n|_|_
  ·have hAt:=λid=>B7B (A18 c r) n id hlen hat;have hb:=Lib.atoiAll_bounds hat;have hI:=λid=>A1x n id (by unfold I64; omega);have hL:=λid=>Q8 n id;have hN:=B4X hat;refine w285.x.1 λE hP hR hPn hl hid hB hu=>?_;simp[w285];have hJ:=hl (J,_) (za ..);simp only at hJ;have J1:=lf hJ;simp[hlt,hci,J1];refine A7 (by rw[h45,hs]; rfl) ?_;simp[J1];rw[hi1];(refine yC rfl (hp _) ?_; simp);refine⟨hl1,?_⟩;rw[←hW];(refine yC rfl (hAt _) ?_; simp);(refine H5 hP s_ rfl (λhc=>⟨hI _,by revert hc; simp; try grind,s_⟩) ?_; refine A3 4000 ?_; simp);(refine H5 hP s_ rfl (λhc=>⟨hL _,by revert hc; simp; try grind,s_⟩) ?_; refine A3 4000 ?_; simp);by_cases hg:Lib.itoa n=A18 c r/\-999999999<=n/\n<=999999999
   ·have e:A2e c r = .ok (⟨2,[],n⟩,r.dropWhile g9):=(by unfold A2e; rw[hN,zj hg]);refine A0 (by simp[hg.1,hg.2.1,hg.2.2]) ?_;simp[J1];have hrn:F7 []:=s_;refine hR _ _ _ (A7y e) ?_;refine F5 f_ [] hrn ⟨?_,?_,?_,?_,?_,?_⟩<;>(try simp[rB,S7,J1])
   ·have e:A2e c r = .error 1:=(by unfold A2e; rw[hN,zf hg]);refine A7 (B4W hg) ?_;simp;refine D6 hP rfl (hf _) s_ f_ (λpv hpv=>⟨s_,by injection hpv with hpv; subst hpv; exact hPn _ _ (Z6 e) rfl (t_ J1)⟩) (λv wr h=>by cases h)
  ·have hN:A0e (A18 c r)=none:=A5w λn h=>by rw[hat] at h; cases h
   have e:A2e c r = .error 1:=(by unfold A2e; rw[hN]);have hAt:=λid=>B4C (A18 c r) id hlen hat (λn h=>by cases h) (λh=>by cases h);have hI:=λid=>A1x 0 id (by unfold I64; omega);have hL:=λid=>Q8 0 id;unfold A54 at hAt;refine w285.x.1 λE hP hR hPn hl hid hB hu=>?_;simp[w285];have hJ:=hl (J,_) (za ..);simp only at hJ;have J1:=lf hJ;simp[hlt,hci,J1];refine A7 (by rw[h45,hs]; rfl) ?_;simp[J1];rw[hi1];(refine yC rfl (hp _) ?_; simp);refine⟨hl1,?_⟩;rw[←hW];(refine yC rfl (hAt _) ?_; simp);(refine H5 hP s_ rfl (λhc=>⟨hI _,by revert hc; simp; try grind,s_⟩) ?_; refine A3 4000 ?_; simp);(refine H5 hP s_ rfl (λhc=>⟨hL _,by revert hc; simp; try grind,s_⟩) ?_; refine A3 4000 ?_; simp);refine D6 hP rfl (hf _) s_ f_ (λpv hpv=>⟨s_,by injection hpv with hpv; subst hpv; exact hPn _ _ (Z6 e) rfl (t_ J1)⟩) (λv wr h=>by cases h)
  ·have hN:A0e (A18 c r)=none:=A5w λn h=>by rw[hat] at h; cases h
   have e:A2e c r = .error 1:=(by unfold A2e; rw[hN]);have hAt:=λid=>B4D (A18 c r) id hlen hat;have hb:=Lib.atoiSat_bounds (A18 c r);generalize Lib.atoiSat (A18 c r)=q at hAt hb;have hI:=λid=>A1x q id (by unfold I64; omega);have hL:=λid=>Q8 q id;unfold A54 at hAt;refine w285.x.1 λE hP hR hPn hl hid hB hu=>?_;simp[w285];have hJ:=hl (J,_) (za ..);simp only at hJ;have J1:=lf hJ;simp[hlt,hci,J1];refine A7 (by rw[h45,hs]; rfl) ?_;simp[J1];rw[hi1];(refine yC rfl (hp _) ?_; simp);refine⟨hl1,?_⟩;rw[←hW];(refine yC rfl (hAt _) ?_; simp);(refine H5 hP s_ rfl (λhc=>⟨hI _,by revert hc; simp; try grind,s_⟩) ?_; refine A3 4000 ?_; simp);(refine H5 hP s_ rfl (λhc=>⟨hL _,by revert hc; simp; try grind,s_⟩) ?_; refine A3 4000 ?_; simp);refine D6 hP rfl (hf _) s_ f_ (λpv hpv=>⟨s_,by injection hpv with hpv; subst hpv; exact hPn _ _ (Z6 e) rfl (t_ J1)⟩) (λv wr h=>by cases h)
 ·have hg:g9 c=true:=by rcases hc with h|h; exact h; exact (hs h).elim
  have hp:=λid=>hP i id hi;rw[hd,sy hg] at hp;have e2:at2 g9 z i=atU z (r.dropWhile g9):=by
   have h1:=A3y g9 z i;rw[hd,wk hg] at h1;rw[←h1,A2d (A9M g9 hi).2]
  rw[e2] at hp;have hW:A18 c r=c::r.takeWhile g9:=rfl;rw[←hW] at hp;rw[Q2,Q2] at hp;rw[Q2];rcases hat:Lib.atoiAll (A18 c r) with n|_|_
  ·have hAt:=λid=>B7B (A18 c r) n id hlen hat;have hb:=Lib.atoiAll_bounds hat;have hI:=λid=>A1x n id (by unfold I64; omega);have hL:=λid=>Q8 n id;have hN:=B4X hat;refine w285.x.1 λE hP hR hPn hl hid hB hu=>?_;simp[w285];have hJ:=hl (J,_) (za ..);simp only at hJ;have J1:=lf hJ;simp[hlt,hci,J1];refine A0 (by rw[h45]; simpa using hs) ?_;simp;(refine yC rfl (hp _) ?_; simp[J1]);refine⟨o_,?_⟩;(refine yC rfl (hAt _) ?_; simp);(refine H5 hP s_ rfl (λhc=>⟨hI _,by revert hc; simp; try grind,s_⟩) ?_; refine A3 4000 ?_; simp);(refine H5 hP s_ rfl (λhc=>⟨hL _,by revert hc; simp; try grind,s_⟩) ?_; refine A3 4000 ?_; simp);by_cases hg:Lib.itoa n=A18 c r/\-999999999<=n/\n<=999999999
   ·have e:A2e c r = .ok (⟨2,[],n⟩,r.dropWhile g9):=(by unfold A2e; rw[hN,zj hg]);refine A0 (by simp[hg.1,hg.2.1,hg.2.2]) ?_;simp[J1];have hrn:F7 []:=s_;refine hR _ _ _ (A7y e) ?_;refine F5 f_ [] hrn ⟨?_,?_,?_,?_,?_,?_⟩<;>(try simp[rB,S7,J1])
   ·have e:A2e c r = .error 1:=(by unfold A2e; rw[hN,zf hg]);refine A7 (B4W hg) ?_;simp;refine D6 hP rfl (hf _) s_ f_ (λpv hpv=>⟨s_,by injection hpv with hpv; subst hpv; exact hPn _ _ (Z6 e) rfl (t_ J1)⟩) (λv wr h=>by cases h)
  ·have hN:A0e (A18 c r)=none:=A5w λn h=>by rw[hat] at h; cases h
   have e:A2e c r = .error 1:=(by unfold A2e; rw[hN]);have hAt:=λid=>B4C (A18 c r) id hlen hat (λn h=>by cases h) (λh=>by cases h);have hI:=λid=>A1x 0 id (by unfold I64; omega);have hL:=λid=>Q8 0 id;unfold A54 at hAt;refine w285.x.1 λE hP hR hPn hl hid hB hu=>?_;simp[w285];have hJ:=hl (J,_) (za ..);simp only at hJ;have J1:=lf hJ;simp[hlt,hci,J1];refine A0 (by rw[h45]; simpa using hs) ?_;simp;(refine yC rfl (hp _) ?_; simp[J1]);refine⟨o_,?_⟩;(refine yC rfl (hAt _) ?_; simp);(refine H5 hP s_ rfl (λhc=>⟨hI _,by revert hc; simp; try grind,s_⟩) ?_; refine A3 4000 ?_; simp);(refine H5 hP s_ rfl (λhc=>⟨hL _,by revert hc; simp; try grind,s_⟩) ?_; refine A3 4000 ?_; simp);refine D6 hP rfl (hf _) s_ f_ (λpv hpv=>⟨s_,by injection hpv with hpv; subst hpv; exact hPn _ _ (Z6 e) rfl (t_ J1)⟩) (λv wr h=>by cases h)
  ·have hN:A0e (A18 c r)=none:=A5w λn h=>by rw[hat] at h; cases h
   have e:A2e c r = .error 1:=(by unfold A2e; rw[hN]);have hAt:=λid=>B4D (A18 c r) id hlen hat;have hb:=Lib.atoiSat_bounds (A18 c r);generalize Lib.atoiSat (A18 c r)=q at hAt hb;have hI:=λid=>A1x q id (by unfold I64; omega);have hL:=λid=>Q8 q id;unfold A54 at hAt;refine w285.x.1 λE hP hR hPn hl hid hB hu=>?_;simp[w285];have hJ:=hl (J,_) (za ..);simp only at hJ;have J1:=lf hJ;simp[hlt,hci,J1];refine A0 (by rw[h45]; simpa using hs) ?_;simp;(refine yC rfl (hp _) ?_; simp[J1]);refine⟨o_,?_⟩;(refine yC rfl (hAt _) ?_; simp);(refine H5 hP s_ rfl (λhc=>⟨hI _,by revert hc; simp; try grind,s_⟩) ?_; refine A3 4000 ?_; simp);(refine H5 hP s_ rfl (λhc=>⟨hL _,by revert hc; simp; try grind,s_⟩) ?_; refine A3 4000 ?_; simp);refine D6 hP rfl (hf _) s_ f_ (λpv hpv=>⟨s_,by injection hpv with hpv; subst hpv; exact hPn _ _ (Z6 e) rfl (t_ J1)⟩) (λv wr h=>by cases h)
def B7c{R:Rn}{S:Nat->Prop}{l:List UInt8}{r:List AV}(h:F8 r=true):N8 R S (eB l++r) (eB l++r):=B4 rfl (B3 (A4G l) h)
def C74{d:UInt8}(h:d=34\/d=92\/d=110):∃(n:Nat) (e:UInt8),Lib.indexByte [34,92,110] d=(n:Int)/\n<3/\([34,92,10]:List UInt8)[n]?=some e/\∀acc r2,pTq true acc (d::r2)=pTq false (acc++[e]) r2:=by
 rcases h with rfl|rfl|rfl
 ·exact⟨0,34,d_,d_,rfl,λacc r2=>by simp[pTq]⟩
 ·exact⟨1,92,d_,d_,rfl,λacc r2=>by simp[pTq]⟩
 ·exact⟨2,10,d_,d_,rfl,λacc r2=>by simp[pTq]⟩
def C75{d:UInt8}(h:¬(d=34\/d=92\/d=110)):Lib.indexByte [34,92,110] d = -1/\∀acc r2,pTq true acc (d::r2)=none:=by
 have h1:d≠34:=λq=>h (.inl q);have h2:d≠92:=λq=>h (.inr (.inl q));have h3:d≠110:=λq=>h (.inr (.inr q));refine⟨?_,λacc r2=>by simp[pTq,h1,h2,h3]⟩;simp[Lib.indexByte,yc h1,yc h2,yc h3]
def B7d{J:Nat}{z:List UInt8}{o:Except Int (Tk×List UInt8)}{t:Tk}{u:List UInt8}{i:Nat}(h:o = .ok (t,u))(hi:atU z u=i):B9K J z o = .ok (S7 t,[(J,some (rB z i))]):=by rw[A7y h,hi]
def A0r(r:List UInt8):Except Int (Tk×List UInt8):=match pTq false [] r with
 | none=>.error 1
 | some p=>if 40<p.1.length then .error 2 else .ok (⟨3,p.1,0⟩,p.2)
def C2Z(z:List UInt8)(i:Nat)(r:List UInt8)(J id:Nat)(hi:i<z.length)(hd0:z.drop (i+1)=r)(h8:z.length<=1099511627776):
  Z0 prog 286 [.ptr J 0 0] [(J,rB z i)] id (B9K J z (A0r r)):=by
 have hf:=λid=>A2c 1 id;have hf2:=λid=>A2c 2 id;have hi1:IntKind.i64.wrap ((i:Int)+1)=((i+1:Nat):Int):=wrap64 o_;rw[Q2];refine w286.x.1 λE hP hR hPn hl hid hB hu=>?_;simp[w286];have hJ:=hl (J,_) (za ..);simp only at hJ;have J1:=lf hJ;simp[J1];refine B9 (X:=List UInt8×Nat) (λq=>⟨[(0,true,.ptr J 0 0),(2,true,.ptr E.n0 0 0),(3,true,.bsl (E.n0+1) 0 q.1.length)],[(J,some (rB z q.2)),(E.n0,some ⟨[.agg [.int .i64 0,.str [],.int .i64 0]],.agg [.int .i64 0,.str [],.int .i64 0],false,false⟩),(E.n0+1,some ⟨eB q.1,.int .u8 0,false,false⟩)],2⟩)
  (λq=>pTq false q.1 (z.drop q.2)=pTq false [] r/\q.1.length<=q.2/\q.2<=z.length) (λq=>z.length - q.2) ([],i+1) ?_ ⟨by rw[hd0],s_,o_⟩ ?_
 ·refine D9.trans (D9.voidSlot 3 (x:=.nils) (y:=.bsl (E.n0+10240) 0 0) s_ .nils (.int .u8 0)) ?_;have hi0:eB []=[]:=rfl;refine yV [(E.n0,E.n0),(E.n0+1,E.n0+10240)] s_ λhrn=>⟨?_,?_,?_,?_,?_⟩<;>(try simp[hi0,hi1,rB,J1])
 rintro⟨acc,j⟩ ⟨hx,hlen,hj⟩ p hp;simp only at hx hlen hj;rw[Q2];rcases yd j z.length with h|h
 rotate_left
 ·have e:A0r r = .error 1:=by
   unfold A0r;rw[←hx,zp h];rfl
  have hjz:j=z.length:=by omega
  subst hjz;refine A3 4000 ?_;simp;refine D6 hP rfl (hf _) s_ f_ (λpv hpv=>⟨s_,by injection hpv with hpv; subst hpv; exact hPn _ _ (Z6 e) rfl (t_ J1)⟩) (λv wr h=>by cases h)
 obtain⟨c,hc,hd⟩:=A5 h;have hcj:z[j]=c:=by
  rw[zc h] at hc;injection hc
 have h10:((c.toNat:Int)==10)=(c==10):=u8i c 10 d_;have h34:((c.toNat:Int)==34)=(c==34):=u8i c 34 d_;have h92:((c.toNat:Int)==92)=(c==92):=u8i c 92 d_;have hne:((j:Int)==(z.length:Int))=false:=by rw[beq_eq_false_iff_ne]; omega
 have hj1:IntKind.i64.wrap ((j:Int)+1)=((j+1:Nat):Int):=wrap64 o_;have hc8:=c.toNat_lt;rw[hd] at hx;by_cases g10:c=10
 ·have e:A0r r = .error 1:=by
   unfold A0r;rw[←hx,g10];rfl
  refine A3 4000 ?_;simp[hcj,hne,h];refine A7 (by rw[h10,g10]; rfl) ?_;simp;refine D6 hP rfl (hf _) s_ f_ (λpv hpv=>⟨s_,by injection hpv with hpv; subst hpv; exact hPn _ _ (Z6 e) rfl (t_ J1)⟩) (λv wr h=>by cases h)
 by_cases g34:c=34
 ·have hp2:pTq false [] r=some (acc,z.drop (j+1)):=by
   rw[←hx,g34];rfl
  have hju:j+1=atU z (z.drop (j+1)):=(A2d o_).symm;refine A3 4000 ?_;simp[hcj,hne,h];refine A0 (by rw[h10]; simpa using g10) ?_;simp[hcj,h];refine A7 (by rw[h34,g34]; rfl) ?_;simp[J1];rw[hj1];by_cases g40:40<acc.length
  ·have e:A0r r = .error 2:=by
    unfold A0r;rw[hp2];simp only;rw[zj g40]
   refine A7 m_ ?_;simp;refine D6 hP rfl (hf2 _) s_ f_ (λpv hpv=>⟨s_,by injection hpv with hpv; subst hpv; exact hPn _ _ (Z6 e) rfl (t_ J1)⟩) (λv wr h=>by cases h)
  ·have e:A0r r = .ok (⟨3,acc,0⟩,z.drop (j+1)):=by
    unfold A0r;rw[hp2];simp only;rw[zf g40]
   refine A0 m_ ?_;simp[J1];refine⟨λx hx=>by obtain⟨b,rfl⟩:=B1Z hx; have:=b.toNat_lt; simp[A5C]; try omega,?_⟩;rw[B1a];have hrn:F7 []:=s_;refine hR _ _ _ (B7d e hju.symm) ?_;refine F5 f_ [] hrn ⟨?_,?_,?_,?_,?_,?_⟩<;>(try simp[rB,S7,J1])
 by_cases g92:c=92
 ·have hx2:pTq true acc (z.drop (j+1))=pTq false [] r:=by
   rw[←hx,g92];rfl
  rcases yd (j+1) z.length with h2|h2
  rotate_left
  ·have e:A0r r = .error 1:=by
    unfold A0r;rw[←hx2,zp h2];rfl
   have hlt2:(decide (((j+1:Nat):Int)<(z.length:Int)))=false:=m_;refine A3 4000 ?_;simp[hcj,hne,h];refine A0 (by rw[h10]; simpa using g10) ?_;simp[hcj,h];refine A0 (by rw[h34]; simpa using g34) ?_;simp;refine A7 (by rw[h92,g92]; rfl) ?_;simp;rw[hj1];refine A0 hlt2 ?_;simp;refine D6 hP rfl (hf _) s_ f_ (λpv hpv=>⟨s_,by injection hpv with hpv; subst hpv; exact hPn _ _ (Z6 e) rfl (t_ J1)⟩) (λv wr h=>by cases h)
  obtain⟨d,hdc,hdd⟩:=A5 h2;have hdj:z[j+1]=d:=by
   rw[zc h2] at hdc;injection hdc
  have hlt2:(decide (((j+1:Nat):Int)<(z.length:Int)))=true:=by simp; omega
  have hX:=λid=>A1A [34,92,110] d id;rw[hdd] at hx2;by_cases gd:d=34\/d=92\/d=110
  ·obtain⟨n,e,q1,q2,q3,q4⟩:=C74 gd;rw[q1] at hX;rw[q4] at hx2;refine A3 4000 ?_;simp[hcj,hne,h];refine A0 (by rw[h10]; simpa using g10) ?_;simp[hcj,h];refine A0 (by rw[h34]; simpa using g34) ?_;simp;refine A7 (by rw[h92,g92]; rfl) ?_;simp;rw[hj1];refine A7 hlt2 ?_;simp[hdj,h2];refine⟨o_,?_⟩;(refine yC rfl (hX _) ?_; simp);refine A0 s_ ?_;simp[q3,J1];refine⟨q2,⟨o_,o_⟩,?_⟩;have hj2:IntKind.i64.wrap ((j:Int)+1+1)=((j+2:Nat):Int):=(by rw[show (j:Int)+1+1=((j+2:Nat):Int) by omega]; exact wrap64 o_);rw[hj2];refine hp _ (acc++[e],j+2) ⟨hx2,m_,o_⟩ m_ ?_;have hex:eB (acc++[e])=eB acc++[.int .u8 e.toNat]:=(by rw[A0D]; rfl);refine yV [(E.n0,E.n0),(E.n0+1,E.n0+75778)] s_ λhrn=>⟨?_,?_,?_,?_,?_⟩<;>(try simp[hex,rB,J1]);exact B7c (by rfl)
  ·obtain⟨q1,q2⟩:=C75 gd;rw[q1] at hX;rw[q2] at hx2;have e:A0r r = .error 1:=by
    unfold A0r;rw[←hx2]
   refine A3 4000 ?_;simp[hcj,hne,h];refine A0 (by rw[h10]; simpa using g10) ?_;simp[hcj,h];refine A0 (by rw[h34]; simpa using g34) ?_;simp;refine A7 (by rw[h92,g92]; rfl) ?_;simp;rw[hj1];refine A7 hlt2 ?_;simp[hdj,h2];refine⟨o_,?_⟩;(refine yC rfl (hX _) ?_; simp);refine D6 hP rfl (hf _) s_ f_ (λpv hpv=>⟨s_,by injection hpv with hpv; subst hpv; exact hPn _ _ (Z6 e) rfl (t_ J1)⟩) (λv wr h=>by cases h)
 ·have hx1:pTq false (acc++[c]) (z.drop (j+1))=pTq false [] r:=by
   rw[←hx];simp only[pTq];rw[zf g10,zf g34,zf g92]
  refine A3 4000 ?_;simp[hcj,hne,h];refine A0 (by rw[h10]; simpa using g10) ?_;simp[hcj,h];refine A0 (by rw[h34]; simpa using g34) ?_;simp;refine A0 (by rw[h92]; simpa using g92) ?_;simp[J1];refine⟨⟨o_,o_⟩,?_⟩;rw[hj1];refine hp _ (acc++[c],j+1) ⟨hx1,m_,h⟩ m_ ?_;have hex:eB (acc++[c])=eB acc++[.int .u8 c.toNat]:=by rw[A0D]; rfl
  refine yV [(E.n0,E.n0),(E.n0+1,E.n0+39938)] s_ λhrn=>⟨?_,?_,?_,?_,?_⟩<;>(try simp[hex,rB,J1]);exact B7c (by rfl)
def B4Y(c:UInt8)(id:Nat):A2 prog 284 [.int .u8 c.toNat] [] id (.bool (anC c)) []:=by
 have h1:=λid=>A6U c id;have h2:=λid=>A5U c id;refine w284.e.1 λE hP hR hl hid=>?_;simp[w284];(refine yH rfl (h1 _) ?_; simp);(refine yG rfl (h2 _) ?_; simp);exact yP hR (h1:=by simp; unfold anC; rfl)
def C2a{c:UInt8}{r:List UInt8}(h1:A7W c=false)(h2:g9 c=true\/c=45):A0k c r=A2e c r:=by
 unfold A0k A2e;rw[zf (t_ h1),zj h2];all_goals rfl
def B9N{c:UInt8}{r:List UInt8}(h:c=34):A0k c r=A0r r:=by
 subst h;unfold A0k A0r;rw[zf d_,zf d_,zj rfl];all_goals rfl
def sgX(c:UInt8):decide (0<=Lib.indexByte [123,125,40,41,58,91,93] c)=sgC c:=by
 by_cases h:sgC c=true
 ·rw[h];have h:c=123\/c=125\/c=40\/c=41\/c=58\/c=91\/c=93:=by simpa [sgC] using h
  rcases h with rfl|rfl|rfl|rfl|rfl|rfl|rfl<;>decide
 ·have h2:¬(c=123\/c=125\/c=40\/c=41\/c=58\/c=91\/c=93):=by simpa [sgC] using h
  have h:sgC c=false:=by simpa using h
  simp only[not_or] at h2;obtain⟨a,b,d,e,f,g,i⟩:=h2;rw[h];simp[Lib.indexByte,yc a,yc b,yc d,yc e,yc f,yc g,yc i]
def B4Z(z:List UInt8)(i:Nat)(c:UInt8)(r:List UInt8)(J id:Nat)(hi:i<=z.length)(hd:z.drop i=c::r)(h8:z.length<=1099511627776):
  Z0 prog 249 [.ptr J 0 0] [(J,rB z i)] id (B9K J z (A0k c r)):=by
 have hf:=λid=>A2c 1 id;have hlt:i<z.length:=by
  have:=congrArg List.length hd;rw[ya,zt] at this; omega
 have hcz:z[i]?=some c:=by
  have:=congrArg (λl=>l[0]?) hd;simpa using this
 have hci:z[i]=c:=by
  rw[zc hlt] at hcz;injection hcz
 have hd1:z.drop (i+1)=r:=by
  rw[←sd,hd]; rfl
 have hi1:IntKind.i64.wrap ((i:Int)+1)=((i+1:Nat):Int):=wrap64 o_;have hc8:=c.toNat_lt;have h45:((c.toNat:Int)==45)=(c==45):=u8i c 45 d_;have h34:((c.toNat:Int)==34)=(c==34):=u8i c 34 d_;have hLt:=λid=>A6U c id;have hDg:=λid=>A5U c id;by_cases g1:A7W c=true
 ·have hp:=λid=>A7x z i anC 284 J id hi h8 B4Y;have e2:at2 anC z i=atU z ((c::r).dropWhile anC):=by
   have h1:=A3y anC z i;rw[hd] at h1;rw[←h1,A2d (A9M anC hi).2]
  rw[e2,hd] at hp;have hN:=λid=>A2w ((c::r).takeWhile anC) id;rw[g1] at hLt;have hpt:A0k c r=if H8 ((c::r).takeWhile anC)=0 then .ok (⟨1,(c::r).takeWhile anC,0⟩,(c::r).dropWhile anC) else .error (H8 ((c::r).takeWhile anC)):=by
   unfold A0k; rw[zj g1]
  generalize (c::r).takeWhile anC=w at *;generalize (c::r).dropWhile anC=u at *;rw[Q2,Q2] at hp;rw[Q2];by_cases g2:H8 w=0
  ·have e:A0k c r = .ok (⟨1,w,0⟩,u):=(by rw[hpt,zj g2]);rw[g2] at hN;refine w249.x.1 λE hP hR hPn hl hid hB hu=>?_;simp[w249];have hJ:=hl (J,_) (za ..);simp only at hJ;have J1:=lf hJ;simp[hlt,hci,J1];(refine yC rfl (hLt _) ?_; simp[J1]);(refine yC rfl (hp _) ?_; simp[J1]);(refine yC rfl (hN _) ?_; simp[J1]);have hrn:F7 []:=(by simp[rB,S7,J1,I5 hid]);refine hR _ _ _ (A7y e) ?_;refine F5 (by simp[rB,S7,J1,I5 hid]<;>rfl) [] hrn ⟨?_,?_,?_,?_,?_,?_⟩<;>(try simp[rB,S7,J1,I5 hid])
  ·have e:A0k c r = .error (H8 w):=(by rw[hpt,zf g2]);have hfe:=λid=>A2c (H8 w) id;have hne:(H8 w != 0)=true:=(v_ g2);refine w249.x.1 λE hP hR hPn hl hid hB hu=>?_;simp[w249];have hJ:=hl (J,_) (za ..);simp only at hJ;have J1:=lf hJ;simp[hlt,hci,J1];(refine yC rfl (hLt _) ?_; simp[J1]);(refine yC rfl (hp _) ?_; simp[J1]);(refine yC rfl (hN _) ?_; simp[J1]);refine A7 hne ?_;simp[J1];refine D6 hP rfl (hfe _) (t_ J1) (by simp[J1]<;>rfl) (λpv hpv=>⟨t_ J1,by injection hpv with hpv; subst hpv; exact hPn _ _ (Z6 e) rfl (t_ J1)⟩) (λv wr h=>by cases h)
 have g1:A7W c=false:=by simpa using g1
 rw[g1] at hLt;by_cases g3:g9 c=true\/c=45
 ·have hpt:=C2a (r:=r) g1 g3;have hn:=λid=>B9M z i c r J id hi hd g3 h8;have hgd:(g9 c||((c.toNat:Int)==45))=true:=by
   rw[h45];rcases g3 with h|h
   ·rw[h]; rfl
   ·rw[h]; simp
  rw[hpt];rw[Q2] at hn;rw[Q2];cases hnt:A2e c r with
  | ok p =>
   obtain⟨t,u⟩:=p;rw[hnt] at hn;have hn:∀id,A2 prog 285 [.ptr J 0 0] [(J,⟨[.agg [.str z,.int .i64 i]],.agg [.str z,.int .i64 0],false,false⟩)] id (.agg [.int .i64 t.kind,.str t.text,.int .i64 t.n]) [(J,some ⟨[.agg [.str z,.int .i64 (atU z u)]],.agg [.str z,.int .i64 0],false,false⟩)]:=hn;refine w249.x.1 λE hP hR hPn hl hid hB hu=>?_;simp[w249];have hJ:=hl (J,_) (za ..);simp only at hJ;have J1:=lf hJ;simp[hlt,hci,J1];(refine yC rfl (hLt _) ?_; simp[J1]);(refine yC rfl (hDg _) ?_; simp[J1]);refine A7 hgd ?_;simp[J1];(refine yC rfl (hn _) ?_; simp[J1]);have hrn:F7 []:=(by simp[rB,S7,J1,I5 hid]);refine hR _ _ _ (rfl) ?_;refine F5 (by simp[rB,S7,J1,I5 hid]<;>rfl) [] hrn ⟨?_,?_,?_,?_,?_,?_⟩<;>(try simp[rB,S7,J1,I5 hid])
  | error e =>
   rw[hnt] at hn;have hn:∀id,Z0 prog 285 [.ptr J 0 0] [(J,⟨[.agg [.str z,.int .i64 i]],.agg [.str z,.int .i64 0],false,false⟩)] id (.error (erV e)):=hn;refine w249.x.1 λE hP hR hPn hl hid hB hu=>?_;simp[w249];have hJ:=hl (J,_) (za ..);simp only at hJ;have J1:=lf hJ;simp[hlt,hci,J1];(refine yC rfl (hLt _) ?_; simp[J1]);(refine yC rfl (hDg _) ?_; simp[J1]);refine A7 hgd ?_;simp[J1];refine D6 hP rfl (hn _) (t_ J1) (by simp[J1]<;>rfl) (λpv hpv=>⟨t_ J1,by injection hpv with hpv; subst hpv; exact hPn _ _ (rfl) rfl (t_ J1)⟩) (λv wr h=>by cases h)
 have hgd:(g9 c||((c.toNat:Int)==45))=false:=by
  rw[h45];cases h:g9 c with
  | true=>exact (g3 (.inl h)).elim
  | false=>simpa using λh=>g3 (.inr h)
 by_cases g4:c=34
 ·have hpt:=B9N (r:=r) g4;have hn:=λid=>C2Z z i r J id hlt hd1 h8;rw[hpt];rw[Q2] at hn;rw[Q2];cases hnt:A0r r with
  | ok p =>
   obtain⟨t,u⟩:=p;rw[hnt] at hn;have hn:∀id,A2 prog 286 [.ptr J 0 0] [(J,⟨[.agg [.str z,.int .i64 i]],.agg [.str z,.int .i64 0],false,false⟩)] id (.agg [.int .i64 t.kind,.str t.text,.int .i64 t.n]) [(J,some ⟨[.agg [.str z,.int .i64 (atU z u)]],.agg [.str z,.int .i64 0],false,false⟩)]:=hn;refine w249.x.1 λE hP hR hPn hl hid hB hu=>?_;simp[w249];have hJ:=hl (J,_) (za ..);simp only at hJ;have J1:=lf hJ;simp[hlt,hci,J1];(refine yC rfl (hLt _) ?_; simp[J1]);(refine yC rfl (hDg _) ?_; simp[J1]);refine A0 hgd ?_;simp[J1];refine A7 (by rw[h34,g4]; rfl) ?_;simp[J1];(refine yC rfl (hn _) ?_; simp[J1]);have hrn:F7 []:=(by simp[rB,S7,J1,I5 hid]);refine hR _ _ _ (rfl) ?_;refine F5 (by simp[rB,S7,J1,I5 hid]<;>rfl) [] hrn ⟨?_,?_,?_,?_,?_,?_⟩<;>(try simp[rB,S7,J1,I5 hid])
  | error e =>
   rw[hnt] at hn;have hn:∀id,Z0 prog 286 [.ptr J 0 0] [(J,⟨[.agg [.str z,.int .i64 i]],.agg [.str z,.int .i64 0],false,false⟩)] id (.error (erV e)):=hn;refine w249.x.1 λE hP hR hPn hl hid hB hu=>?_;simp[w249];have hJ:=hl (J,_) (za ..);simp only at hJ;have J1:=lf hJ;simp[hlt,hci,J1];(refine yC rfl (hLt _) ?_; simp[J1]);(refine yC rfl (hDg _) ?_; simp[J1]);refine A0 hgd ?_;simp[J1];refine A7 (by rw[h34,g4]; rfl) ?_;simp[J1];refine D6 hP rfl (hn _) (t_ J1) (by simp[J1]<;>rfl) (λpv hpv=>⟨t_ J1,by injection hpv with hpv; subst hpv; exact hPn _ _ (rfl) rfl (t_ J1)⟩) (λv wr h=>by cases h)
 have hX:=λid=>A1A [123,125,40,41,58,91,93] c id;have hsg:=sgX c;generalize Lib.indexByte [123,125,40,41,58,91,93] c=x at hX hsg;rw[Q2];by_cases g5:sgC c=true
 ·have e:A0k c r = .ok (⟨4,[c],0⟩,r):=by
   unfold A0k;rw[zf (t_ g1),zf g3,zf g4,zj g5]
  have hju:i+1=atU z r:=by rw[←hd1]; exact (A2d o_).symm
  refine w249.x.1 λE hP hR hPn hl hid hB hu=>?_;simp[w249];have hJ:=hl (J,_) (za ..);simp only at hJ;have J1:=lf hJ;simp[hlt,hci,J1];(refine yC rfl (hLt _) ?_; simp[J1]);(refine yC rfl (hDg _) ?_; simp[J1]);refine A0 hgd ?_;simp[J1];refine A0 (by rw[h34]; simpa using g4) ?_;simp[J1];(refine yC rfl (hX _) ?_; simp[J1]);refine A7 (hsg.trans g5) ?_;simp[J1];rw[hi1];refine⟨by simp[A5C]; try omega,?_⟩;have hrn:F7 []:=by simp[rB,S7,J1,I5 hid]
  refine hR _ _ _ (B7d e hju.symm) ?_;refine F5 (by simp[rB,S7,J1,I5 hid]<;>rfl) [] hrn ⟨?_,?_,?_,?_,?_,?_⟩<;>(try simp[rB,S7,J1,I5 hid])
 ·have e:A0k c r = .error 1:=by
   unfold A0k;rw[zf (t_ g1),zf g3,zf g4,zf g5]
  refine w249.x.1 λE hP hR hPn hl hid hB hu=>?_;simp[w249];have hJ:=hl (J,_) (za ..);simp only at hJ;have J1:=lf hJ;simp[hlt,hci,J1];(refine yC rfl (hLt _) ?_; simp[J1]);(refine yC rfl (hDg _) ?_; simp[J1]);refine A0 hgd ?_;simp[J1];refine A0 (by rw[h34]; simpa using g4) ?_;simp[J1];(refine yC rfl (hX _) ?_; simp[J1]);refine A0 (hsg.trans (v_ g5)) ?_;simp[J1];refine D6 hP rfl (hf _) (t_ J1) (by simp[J1]<;>rfl) (λpv hpv=>⟨t_ J1,by injection hpv with hpv; subst hpv; exact hPn _ _ (Z6 e) rfl (t_ J1)⟩) (λv wr h=>by cases h)
def oBx(v:AV):Bx:=⟨[v],.nils,false,false⟩
def E7(e:Int):Bx:=⟨[.int .i64 e],.int .i64 0,false,false⟩
def wkN{E:O8}{cc:CC}{c:Code}{σ:St}{p:St->Prop}{Q:Exit->Act->World->Prop}(hc:C9 E.P E.N c=cc)(hW:Wk E [.code cc,.post p] σ)(hR:∀τ,¬E.Rt τ)(hP:∀pv τ,¬E.Pn pv τ){G:Gh}{a:Act}{w:World}(hD:Q5 E σ G a w)
  (hk:∀τ G a w,Q5 E τ G a w->p τ->Q .normal a w):c.wp E.P Q a w:=by
 refine wp_mono (hW _ hc G a w hD) λe a w hq=>?_;cases e with
 | normal=>obtain⟨σ',G',h1,h2⟩:=hq; exact hk _ _ _ _ h1 h2
 | ret=>obtain⟨σ',G',h1,h2⟩:=hq; exact (hR _ h2).elim
 | exit id=>obtain⟨_,_,_,h⟩:=hq; exact h.elim
 | panic chain=>obtain⟨pv,u,σ,F,B,U,G',rfl,h1,h2,h3,h4⟩:=hq; exact (hP _ _ h4).elim
 | _=>exact hq.elim
def C2b(E:O8)(e:Int)(x:AV)(y:Int)(J4 J5:Nat)(h4:J4<E.n0)(h5:J5<E.n0)(d:J4≠J5)(hx:x = .nils\/∃M n,x = .bsl M 0 n)(hR:∀fr bx k,bk bx J4=some (oBx .nils)->bk bx J5=some (E7 e)->(∀q∈bx,q.1=J4\/q.1=J5\/E.n0<=q.1)->E.Rt ⟨fr,bx,k⟩):
  Wk E [.code A9G] ⟨[(0,true,.ptr J4 0 0),(1,true,.ptr J5 0 0),(2,true,erV e)],[(J4,some (oBx x)),(J5,some (E7 y))],0⟩:=by
 unfold erV oBx E7;have e4:∀t,(J4=E.n0+t)=False:=λt=>by simp; omega
 have e5:∀t,(J5=E.n0+t)=False:=λt=>by simp; omega
 rcases hx with rfl|⟨M,n,rfl⟩
 ·refine A3 4000 ?_;simp[A9G,e4,e5,d,yc d];refine hR _ _ _ ?_ ?_ ?_
  ·simp[e4,e5,d,yc d,oBx]
  ·simp[e4,e5,d,yc d,E7]
  ·simp
 ·refine A3 4000 ?_;simp[A9G,e4,e5,d,yc d];refine hR _ _ _ ?_ ?_ ?_
  ·simp[e4,e5,d,yc d,oBx]
  ·simp[e4,e5,d,yc d,E7]
  ·simp
def C8U{x x' z:Code}{X:Operand}{Y:Code}(h:f247.body=some (.seq x (.seq x' (.cond X Y z)))):C9 prog f247.ntmps Y=A9G:=by
 have h0:=C6x;rw[h] at h0;simp only[vd,zd,C5h] at h0;obtain⟨_,_,e1,_,h1⟩:=H2 h0;injection e1 with _ e1
 subst e1;obtain⟨_,_,e2,_,h2⟩:=H2 h1;injection e2 with _ e2
 subst e2;obtain⟨_,_,_,e3,_,h3,_⟩:=A1F h2;injection e3 with _ e3 _
 subst e3;exact h3
def C2c(C:Cx prog)(G:Gh)(B:Nat->Option Bx)(w:World)(er:Int)(x:AV)(y:Int)(hx:x = .nils\/∃M n,x = .bsl M 0 n)(n0 J4 J5:Nat)(v4 v5 u:Value)(hs:RS C G B w)(hv4:RV G w (.ptr J4 0 0) v4)(hv5:RV G w (.ptr J5 0 0) v5)(hu:RV G w (erV er) u)
  (h4:B J4=some (oBx x)) (h5:B J5=some (E7 y)) (d:J4≠J5) (hold:∀x,G.used x->x<n0) (how:∀x,n0<=x->B x=none) :
  CallsD prog 247 #[v4,v5] (.panicking [{ v:=u,recovered:=false }]) w λe u' w'=>u' = .panicking [{ v:=u,recovered:=true }]/\(∃v,e = .returned v) /\
   ∃G' l k,RS C G' (ov B l) w'/\L4 G w G' w'/\bk l J4=some (oBx .nils)/\bk l J5=some (E7 er)/\(∀q∈l,q.1=J4\/q.1=J5\/n0<=q.1)/\(∀x,x<n0->G'.used x->G.used x)/\∀x,G'.used x->x<n0+k:=by
 obtain⟨q,rfl⟩:∃q,u = .iface 31 q:=by
  unfold erV at hu;cases hu with|iface _ _ q h=>exact⟨q,rfl⟩
 refine callsD_of_wpS func247 rfl λc₀ cs hm=>?_;apply wpS_seq;apply wpS_region;simp[wpOpsS,go_sem,recoverD,hm,ntmps247,Exit.thenS];apply wpS_seq;apply wpS_region;simp[wpOpsS,go_sem,Exit.thenS];refine wpS_cond (t:=true) (by simp[Act.eval,Array.replicate]) ?_;apply wpS_of_wp;simp only[if_true];let E:O8:=⟨prog,C,B,f247.ntmps,n0,G,w,how,hold,hs,[],λσ=>bk σ.bx J4=some (oBx .nils)/\bk σ.bx J5=some (E7 er)/\∀q∈σ.bx,q.1=J4\/q.1=J5\/n0<=q.1,λ_ _=>False⟩
 have l4:=hold J4 (hs.boxNames h4).1;have l5:=hold J5 (hs.boxNames h5).1;have hW:=C2b E er x y J4 J5 l4 l5 d hx λfr bx k h1 h2 h3=>⟨h1,h2,h3⟩;refine wp_mono (hW _ (C8U rfl) G _ w ?_) λe a w' hq=>?_
 ·refine⟨L4.refl G w,?_,λi hi=>by have:=hold i hi; show i<n0+0; omega,λi _ hi=>hi,λn c v hl=>?_,?_,rfl⟩
  ·have hh:K8 B [(J4,oBx x),(J5,E7 y)]:=λq hq=>by
    simp at hq;rcases hq with rfl|rfl
    ·exact h4
    ·exact h5
   have:=A2M hh;simp only[D4] at this;show RS C G (ov B _) w;rw[this]; exact hs
  ·simp only[lk] at hl;repeat' split at hl
   all_goals first|cases hl|skip
   all_goals rename_i hn<;>subst hn<;>refine⟨λ_=>?_,λh=>by cases h⟩
   ·simpa [zl] using hv4
   ·simpa [zl] using hv5
   ·simpa [zl] using hu
  ·simp[E,ntmps247]
 ·have fin:∀σ G',Q5 E σ G' a w'->E.Rt σ->∀(cs':List Frame),a.defers=[]/\(∃v,(results f247 a.tmps).run prog w' = .ok v w')/\∃G' l k,RS C G' (ov B l) w'/\L4 G w G' w'/\bk l J4=some (oBx .nils)/\bk l J5=some (E7 er)/\(∀q∈l,q.1=J4\/q.1=J5\/n0<=q.1)/\(∀x,x<n0->G'.used x->G.used x)/\∀x,G'.used x->x<n0+k:=λσ G' hD hR _=>by
   refine⟨hD.defers,⟨_,by simp[results,results72]; rfl⟩,G',σ.bx,σ.k,hD.rs,hD.ev,hR.1,hR.2.1,hR.2.2,hD.old,hD.used⟩
  cases e with
  | normal =>
   obtain⟨σ,G',h1,h2⟩:=hq;obtain⟨f1,⟨v,f2⟩,f3⟩:=fin σ G' h1 h2 cs;exact⟨f1,_,rfl,v,f2,rfl,⟨v,rfl⟩,by obtain⟨g1,g2,g3,d1,d2,d3,d4,d5,d6,d7⟩:=f3; exact⟨g1,g2,d1,d2,d3,d4,λx y h=>d5 (x,y) h,d6,g3,d7⟩⟩
  | ret =>
   obtain⟨σ,G',h1,h2⟩:=hq;obtain⟨f1,⟨v,f2⟩,f3⟩:=fin σ G' h1 h2 cs;exact⟨f1,_,rfl,v,f2,rfl,⟨v,rfl⟩,by obtain⟨g1,g2,g3,d1,d2,d3,d4,d5,d6,d7⟩:=f3; exact⟨g1,g2,d1,d2,d3,d4,λx y h=>d5 (x,y) h,d6,g3,d7⟩⟩
  | exit id=>obtain⟨σ,G',h1,h2⟩:=hq; exact h2.elim
  | panic chain =>
   obtain⟨pv,u,σ,F,B,U,G',rfl,h1,h2,h3,h4⟩:=hq;exact h4.elim
  | _=>exact hq.elim
def C2d(v1 v2:Value)(w:World):CallsD prog 247 #[v1,v2] .returning w λe u' w'=>u' = .returning/\(∃v,e = .returned v)/\w'=w:=by
 refine callsD_of_wpS func247 rfl λc₀ cs hu=>?_;apply wpS_seq;apply wpS_region;simp[wpOpsS,go_sem,recoverD,hu,ntmps247,Exit.thenS];apply wpS_seq;apply wpS_region;simp[wpOpsS,go_sem,Exit.thenS];refine wpS_cond (t:=false) (by simp[Act.eval,Array.replicate]) ?_;simp only[xm,if_false];apply wpS_of_wp;refine wp_skip ?_;exact⟨rfl,_,by rw[←hu],_,by simp[results,results72]; rfl,rfl,⟨_,rfl⟩,rfl⟩
def C8V{E:O8}{cb:Code}{X:Type}(inv:X->St)(ok:X->Prop)(m:X->Nat){Q:Exit->Act->World->Prop}(x0:X)(hx0:ok x0){G:Gh}{a:Act}{w:World}(hD:Q5 E (inv x0) G a w)
  (step:∀x,ok x->∀G a w,Q5 E (inv x) G a w->cb.wp E.P (λe a' w'=>match e with
   | .normal=>∃x' G',ok x'/\m x'<m x/\Q5 E (inv x') G' a' w'
   | e=>Q e a' w') a w):(Code.loop cb).wp E.P Q a w:=by
 refine wp_loop_ghost (λn a w=>∃x G,ok x/\m x=n/\Q5 E (inv x) G a w) (m x0) ⟨x0,G,hx0,rfl,hD⟩ λn a w hI=>?_;obtain⟨x,G2,hx,rfl,hD2⟩:=hI;refine wp_mono (step x hx G2 a w hD2) λe a' w' hq=>?_;cases e with
 | normal =>
  obtain⟨x',G',h1,h2,h3⟩:=hq;exact⟨m x',h2,x',G',h1,rfl,h3⟩
 | _=>exact hq
def C2e{β:Nat->Option Bx}{l:List (Nat×Option Bx)}{B:Nat->Option Bx}(h:B6X β l B):B=ov β (l.map λq=>(q.1,B q.1)):=by
 funext y
 have key:∀l:List (Nat×Option Bx),ov β (l.map λq=>(q.1,B q.1)) y=if y∈l.map (·.1) then B y else β y:=λl=>by
  induction l with
  | nil=>simp[ov]
  | cons q l ih =>
   simp only[yg,ov,T6,zi];by_cases hq:y=q.1
   ·subst hq; simp
   ·rw[zf hq,ih];by_cases hy:y∈l.map (·.1)
    ·rw[zj hy,zj (.inr hy)]
    ·rw[zf hy,zf (by rintro (h|h); exact hq h; exact hy h)]
 rw[key];split
 ·rfl
 ·rename_i hn;rcases h y with h|h
  ·exact h
  ·exact (hn (zw.2 ⟨_,h,rfl⟩)).elim
def o7(E:O8)(O I:Nat)(s:List UInt8)(q:List Tk×Nat):St :=
 ⟨[(0,true,.str s),(2,true,.ptr O 0 0),(3,true,.ptr I 0 0),(4,true,.ptr E.n0 0 0)],[(E.n0,some (rB s q.2)),(O,some (oBx (.bsl (E.n0+1) 0 q.1.length))),(I,some (E7 0)),(E.n0+1,some ⟨q.1.map S7,.agg [.int .i64 0,.str [],.int .i64 0],false,false⟩)],2⟩
theorem C2f(t:Tk):(S7 t).pureB=true:=rfl
@[simp] theorem P1 (l:List Tk):F8 (l.map S7)=true:=E9 C2f l
@[simp] theorem C7h (S:Nat->Prop) (l:List Tk):F4 S (l.map S7):=A4 _ (P1 l)
@[simp] theorem C99 (R:Rn) (S:Nat->Prop) (l:List Tk):N8 R S (l.map S7) (l.map S7):=B4 rfl (P1 l)
section
variable (E:O8) (hP:E.P=Tryz.prog) (O I:Nat) (h4:O<E.n0) (h5:I<E.n0) (d:O≠I) (s:List UInt8) (h8:s.length<=1099511627776)
include hP h4 h5 d h8
theorem C8W :
  Wk E [.code A9D,.post λσ=>D9 E σ (o7 E O I s ([],A1e s 0))] ⟨[(4,true,.ptr (E.n0+2048) 0 0),(8,true,.ptr (E.n0+2048) 0 0),(7,true,.agg [.str s,.int .i64 0]),(6,true,.str s),(3,true,.ptr I 0 0),(2,true,.ptr O 0 0),(0,true,.str s)],[(E.n0+2048,some (rB s 0)),(I,some (E7 0)),(O,some (oBx .nils))],4096⟩:=by
 have e4:∀t,(O=E.n0+t)=False:=λt=>by simp; omega
 have e5:∀t,(I=E.n0+t)=False:=λt=>by simp; omega
 have f4:∀t,(E.n0+t=O)=False:=λt=>by simp; omega
 have f5:∀t,(E.n0+t=I)=False:=λt=>by simp; omega
 have g4:(O=E.n0)=False:=by simp; omega
 have g5:(I=E.n0)=False:=by simp; omega
 have k4:(E.n0=O)=False:=by simp; omega
 have k5:(E.n0=I)=False:=by simp; omega
 have hb:=λid=>B4V s 0 (E.n0+2048) id o_ h8;rw[Q2,Q2] at hb;rw[Q2];unfold oBx E7;refine A3 4000 ?_;simp[A9D,e4,e5,f4,f5,d,yc d];refine E5 hP rfl (hb _) s_ f_ ?_;refine A3 4000 ?_;simp[e4,e5,f4,f5,d,yc d];unfold o7;refine D9.trans (D9.voidBox O (x:=.nils) (y:=.bsl (E.n0+6144) 0 0) (by simp[e4,e5,f4,f5,d,yc d]; rfl) rfl .nils (.agg [.int .i64 0,.str [],.int .i64 0])) ?_;refine yV [(E.n0,E.n0+2048),(E.n0+1,E.n0+6144)] (by simp[rB,oBx,E7,h4,h5,e4,e5,f4,f5,g4,g5,k4,k5,d,yc d]) λhrn=>⟨?_,?_,?_,?_,?_⟩<;>(try simp[rB,oBx,E7,h4,h5,e4,e5,f4,f5,g4,g5,k4,k5,d,yc d])
theorem C8X(acc:List Tk):
  Wk E [.code A6o,.post (λ_=>False),.blk 0,.post λσ=>D9 E σ (o7 E O I s (acc,s.length))] (o7 E O I s (acc,s.length)):=by
 have e4:∀t,(O=E.n0+t)=False:=λt=>by simp; omega
 have e5:∀t,(I=E.n0+t)=False:=λt=>by simp; omega
 have f4:∀t,(E.n0+t=O)=False:=λt=>by simp; omega
 have f5:∀t,(E.n0+t=I)=False:=λt=>by simp; omega
 have g4:(O=E.n0)=False:=by simp; omega
 have g5:(I=E.n0)=False:=by simp; omega
 have k4:(E.n0=O)=False:=by simp; omega
 have k5:(E.n0=I)=False:=by simp; omega
 unfold o7 oBx E7 rB;refine A3 4000 ?_;simp[A6o,A9E,B5w,h4,h5,e4,e5,f4,f5,g4,g5,k4,k5,d,yc d];refine yV [(E.n0,E.n0),(E.n0+1,E.n0+1)] (by simp[h4,h5,e4,e5,f4,f5,g4,g5,k4,k5,d,yc d]) λhrn=>⟨?_,?_,?_,?_,?_⟩<;>(try simp[h4,h5,e4,e5,f4,f5,g4,g5,k4,k5,d,yc d])
theorem C8Y(acc:List Tk)(j:Nat)(hj:j<s.length):
  Wk E [.code A9E,.post λσ=>lk σ.fr 17=some (true,.bool true)/\D9 E σ (o7 E O I s (acc,j))] (o7 E O I s (acc,j)):=by
 have e4:∀t,(O=E.n0+t)=False:=λt=>by simp; omega
 have e5:∀t,(I=E.n0+t)=False:=λt=>by simp; omega
 have f4:∀t,(E.n0+t=O)=False:=λt=>by simp; omega
 have f5:∀t,(E.n0+t=I)=False:=λt=>by simp; omega
 have g4:(O=E.n0)=False:=by simp; omega
 have g5:(I=E.n0)=False:=by simp; omega
 have k4:(E.n0=O)=False:=by simp; omega
 have k5:(E.n0=I)=False:=by simp; omega
 unfold o7 oBx E7 rB;refine A3 4000 ?_;simp[A9E,hj,h4,h5,e4,e5,f4,f5,g4,g5,k4,k5,d,yc d];refine yV [(E.n0,E.n0),(E.n0+1,E.n0+1)] (by simp[h4,h5,e4,e5,f4,f5,g4,g5,k4,k5,d,yc d]) λhrn=>⟨?_,?_,?_,?_,?_⟩<;>(try simp[h4,h5,e4,e5,f4,f5,g4,g5,k4,k5,d,yc d])
theorem C8Z(acc:List Tk)(j:Nat)(hj:j<=s.length)(c:UInt8)(r u:List UInt8)(t:Tk)(hd:s.drop j=c::r)(ht:A0k c r = .ok (t,u))(hl:acc.length<=300):
  Wk E [.code A0l,.post λσ=>D9 E σ (o7 E O I s (acc++[t],atU s u))] (o7 E O I s (acc,j)):=by
 have e4:∀t,(O=E.n0+t)=False:=λt=>by simp; omega
 have e5:∀t,(I=E.n0+t)=False:=λt=>by simp; omega
 have f4:∀t,(E.n0+t=O)=False:=λt=>by simp; omega
 have f5:∀t,(E.n0+t=I)=False:=λt=>by simp; omega
 have g4:(O=E.n0)=False:=by simp; omega
 have g5:(I=E.n0)=False:=by simp; omega
 have k4:(E.n0=O)=False:=by simp; omega
 have k5:(E.n0=I)=False:=by simp; omega
 have hT:=λid=>B4Z s j c r E.n0 id hj hd h8;rw[ht] at hT;have hT:∀id,A2 prog 249 [.ptr E.n0 0 0] [(E.n0,rB s j)] id (.agg [.int .i64 t.kind,.str t.text,.int .i64 t.n]) [(E.n0,some (rB s (atU s u)))]:=hT;rw[Q2,Q2] at hT;unfold o7 oBx E7 rB;refine A3 4000 ?_;simp[A0l,h4,h5,e4,e5,f4,f5,g4,g5,k4,k5,d,yc d];refine E5 hP rfl (hT _) s_ f_ ?_;refine A3 4000 ?_;simp[h4,h5,e4,e5,f4,f5,g4,g5,k4,k5,d,yc d];refine⟨⟨o_,o_⟩,?_⟩;refine yV [(E.n0,E.n0),(E.n0+1,E.n0+4098)] (by simp[S7,h4,h5,e4,e5,f4,f5,g4,g5,k4,k5,d,yc d]) λhrn=>⟨?_,?_,?_,?_,?_⟩<;>(try simp[S7,h4,h5,e4,e5,f4,f5,g4,g5,k4,k5,d,yc d]);exact B4 rfl (B3 (P1 _) rfl)
theorem C5l(acc:List Tk)(j:Nat)(b:Bool)(hb:decide (300<(acc.length:Int))=b):
  Wk E [.code B2B,.post λσ=>lk σ.fr 27=some (true,.bool b)/\D9 E σ (o7 E O I s (acc,j))] (o7 E O I s (acc,j)):=by
 have e4:∀t,(O=E.n0+t)=False:=λt=>by simp; omega
 have e5:∀t,(I=E.n0+t)=False:=λt=>by simp; omega
 have f4:∀t,(E.n0+t=O)=False:=λt=>by simp; omega
 have f5:∀t,(E.n0+t=I)=False:=λt=>by simp; omega
 have g4:(O=E.n0)=False:=by simp; omega
 have g5:(I=E.n0)=False:=by simp; omega
 have k4:(E.n0=O)=False:=by simp; omega
 have k5:(E.n0=I)=False:=by simp; omega
 unfold o7 oBx E7 rB;refine A3 4000 ?_;simp[B2B,hb,h4,h5,e4,e5,f4,f5,g4,g5,k4,k5,d,yc d];refine yV [(E.n0,E.n0),(E.n0+1,E.n0+1)] (by simp[h4,h5,e4,e5,f4,f5,g4,g5,k4,k5,d,yc d]) λhrn=>⟨?_,?_,?_,?_,?_⟩<;>(try simp[h4,h5,e4,e5,f4,f5,g4,g5,k4,k5,d,yc d])
theorem C8a(acc:List Tk)(j:Nat)(hj:j<=s.length):
  Wk E [.code B2C,.post λσ=>D9 E σ (o7 E O I s (acc,A1e s j))] (o7 E O I s (acc,j)):=by
 have e4:∀t,(O=E.n0+t)=False:=λt=>by simp; omega
 have e5:∀t,(I=E.n0+t)=False:=λt=>by simp; omega
 have f4:∀t,(E.n0+t=O)=False:=λt=>by simp; omega
 have f5:∀t,(E.n0+t=I)=False:=λt=>by simp; omega
 have g4:(O=E.n0)=False:=by simp; omega
 have g5:(I=E.n0)=False:=by simp; omega
 have k4:(E.n0=O)=False:=by simp; omega
 have k5:(E.n0=I)=False:=by simp; omega
 have hb:=λid=>B4V s j E.n0 id hj h8;rw[Q2,Q2] at hb;unfold o7 oBx E7 rB;refine A3 4000 ?_;simp[B2C,h4,h5,e4,e5,f4,f5,g4,g5,k4,k5,d,yc d];refine E5 hP rfl (hb _) s_ f_ ?_;refine A3 4000 ?_;simp[h4,h5,e4,e5,f4,f5,g4,g5,k4,k5,d,yc d];refine yV [(E.n0,E.n0),(E.n0+1,E.n0+1)] (by simp[h4,h5,e4,e5,f4,f5,g4,g5,k4,k5,d,yc d]) λhrn=>⟨?_,?_,?_,?_,?_⟩<;>(try simp[h4,h5,e4,e5,f4,f5,g4,g5,k4,k5,d,yc d])
end
end Go.Am
