/- Parts of the proof: an abstract machine for Go functions, and what functions of the program give back (Ex25, Ex26, Vl8, Ex23, Ex22, Ex24, Ex27, Lb1, Lz0, Lb2). No condition. -/
import Derived.Test.YtphjabjjnncebaaGreatDoorXO
import Derived.Test.YtphjabjjnncebaaGreatDoorXJ
import Derived.Test.YtphjabjjnncebaaGreatDoorXE
import Derived.Test.YtphjabjjnncebaaGreatDoorXF
import Derived.Test.YtphjabjjnncebaaGreatDoorProg
import Derived.Maps.OwnOps
import Derived.WalkSpells
import Derived.Test.YtphjabjjnncebaaGreatDoorXG
import Derived.Shelf.Strconv.Itoa3
import Derived.Shelf.Strings.OnBuilder
import Derived.KernelRfl
import Derived.Test.YtphjabjjnncebaaGreatDoorXH
set_option maxRecDepth 100000
set_option linter.all false
set_option maxHeartbeats 8000000
namespace Go.Am
open Go Go.Proofs Go.RowKit
def B2s(e:Int)(b:Bool):Int:=if e≠0 then e else if b=true then 6 else 0
theorem A4c{α:Type}{p:α->Bool}{l:List α}{h:Nat}{x:α}(hx:l[h]?=some x):(l.take (h+1)).any p=((l.take h).any p||p x):=by rw[I7 hx]; simp
end Go.Am
namespace Go.Am
open Go Go.Maps Go.Proofs Go.RowKit Go.WideMaps
def A0D(ks:List (List UInt8))(i:Nat)(s:List UInt8):Int:=B2s (F2 s) ((ks.take i).any fun x=>x==s)
def A5a(ks:List (List UInt8)):Int:=B9 (A0D ks) ks 0
theorem B5W:Keyed Tryz.prog 9:=string_keyed Tryz.underlying9
theorem B6G(w:World):(zeroValue 3).run Tryz.prog w = .ok (.int .i64 0) w:=by kernel_rfl
def Met(ks:List (List UInt8))(k:Nat)(D:DataW Unit):Prop:=IsMap D/\∀s,D.atKey (.string s) (.lit (.int .i64 0)) = .lit (.int .i64 (if (ks.take k).any (fun x=>x==s)=true then 1 else 0))
theorem B2t(ks:List (List UInt8)):Met ks 0 (.map []):=⟨isMap_empty,fun s=>by simp[DataW.atKey]⟩
theorem B2u{ks:List (List UInt8)}{k:Nat}{s:List UInt8}{D:DataW Unit}(h:Met ks k D)(hs:ks[k]?=some s)(hno:((ks.take k).any fun x=>x==s)=false){n:Int}(hn:n=1):Met ks (k+1) (D.put (.string s) (.lit (.int .i64 n))):=by
 subst hn;refine⟨h.1.put _ _,fun t=>?_⟩;rw[A4c hs];by_cases e:t=s
 ·subst e;rw[atKey_put_same h.1 (by trivial)];simp
 ·rw[atKey_put_other (by intro h'; injection h' with h'; exact e h'),h.2 t];have:(s==t)=false:=by simp; exact fun h=>e h.symm
  rw[this,ti]
theorem A8s{H:Type}{P:Program}{k:TypeId}{R:Value->Option (DataW H×List MemPlace)}{b n:Nat}{D:DataW H}{w w':World}(h:w.ownsMap P k R b n D)(hb:Below w.heap.size w w'):w'.ownsMap P k R b n D:=by
 have hl:=h.lt;obtain⟨es,clock,h1,h2,h3,h4⟩:=h;exact⟨es,clock,by rw[hb.block b hl]; exact h1,h2,h3,h4⟩
theorem B4D(s:List UInt8){w:World}(ht:A16 Tryz.prog w):Calls Tryz.prog 166 #[.string ⟨⟨s⟩⟩] w fun e w'=>e = .returned (.int .i64 (F2 s))/\Below w.heap.size w w' :=
 ((o6 s 0).plain ht (B3i (.str s))).mono fun e w' ⟨v,G',h1,h2,h3⟩=>by cases h2; exact⟨h1,h3⟩
theorem B2v(A:Option Addr)(c:Nat)(w:World):Calls Tryz.prog 238 #[.slice A 0 c] w fun e w'=>e = .returned (.int .i64 0)/\Below w.heap.size w w':=by
 have hmm:=@run_makeMap Tryz.prog
 go_enter Tryz.func238,Tryz.ntmps238
 go_wp2
 refine wp_loop_rounds 1 ?_;rw[rounds_succ]
 go_wp2
 go_ret
 exact⟨rfl,(Below.refl _ _).alloc (yg _) _⟩
theorem B4E{ks:List (List UInt8)}{b o c:Nat}{w:World}(ht:A16 Tryz.prog w)(hc:ks.length<=c)(hm:c<=maxLen)(hb:b<w.heap.size)
  (hcell:∀(j:Nat) s,ks[j]?=some s->w.cell? ⟨b,o+j,none⟩=some (.string ⟨⟨s⟩⟩)) (hk:∀s∈ks,s.length<=9223372036854775807) :
  Calls Tryz.prog 238 #[.slice (some ⟨b,o,none⟩) ks.length c] w fun e w'=>e = .returned (.int .i64 (A5a ks))/\Below w.heap.size w w':=by
 have hmm:=@run_makeMap Tryz.prog
 go_enter Tryz.func238,Tryz.ntmps238
 go_wp2
 go_loopw [10] (fun i wr=>∃k D,k<=ks.length/\i = .int .i64 k/\Met ks k D/\B9 (A0D ks) (ks.drop k) k=A5a ks/\wr.ownsMap Tryz.prog 9 (plainElem Tryz.prog 3) w.heap.size k D/\Below w.heap.size w wr)
  (fun i _=>ks.length - (intOf i).toNat)
 case atStart=>exact⟨0,_,uo _,rfl,B2t ks,rfl,World.ownsMap_made _ _ _ _,(Below.refl _ _).alloc (yg _) _⟩
 case round =>
  obtain⟨k,D,hk1,rfl,hmet,hf,hown,hnx⟩:=hrel;by_cases hlt:k<ks.length
  rotate_left
  ·go_wp2
   all_goals first|(exfalso; omega)|skip
   go_ret
   rw[zt (by omega)] at hf;simp only[B9] at hf;exact⟨by rw[←hf]; rfl,hnx⟩
  obtain⟨s,hs,hd⟩:=B6 hlt;rw[hd] at hf;simp only[B9] at hf;have hcx:wr.cell? ⟨b,o+k,none⟩=some (.string ⟨⟨s⟩⟩):=(hnx.cell (by exact hb)).trans (hcell k s hs);have hkey:keyOf Tryz.prog 9 (.string ⟨⟨s⟩⟩)=some (.string s):=keyOf_string_mk Tryz.underlying9 (by have:=hk s (zf hs); unfold maxLen; simpa [ByteArray.size] using this);have hkm:k<maxLen:=by omega
  have hat0:=hmet.2 s;have hT:∀w1,Below w.heap.size w w1->A16 Tryz.prog w1:=fun w1 h=>ht.below h;clear hcell
  go_wp2_with (first
   | (at_lookup; refine wpList_lookup_own_int _ rfl _ _ 323 rfl 9 3 .i64 B5W Tryz.underlying323 Tryz.underlying3 (B6G _) w.heap.size _ _ rfl hown _ _ rfl hkey ?_; intro c1 hat1 hwc1)
   | (at_mapUpdate; refine wpList_mapUpdate_own _ rfl _ _ _ 323 rfl 9 3 B5W Tryz.underlying323 _ w.heap.size k _ rfl hown hkm _ _ _ rfl rfl hkey _ [] (plainElem_int Tryz.underlying3 (wrap64_wf _)) ?_; intro w1 hown1 hgrow1; have hnx1:=hnx.grown hgrow1 hnx.size (fun j hj=>by cases hj; exact yg _))
   | (go_at_call 166; refine (B4D s (hT _ hnx1)).mono ?_; rintro e w2 ⟨rfl,hb2⟩; have hown2:=A8s hown1 hb2; have hnx2:=hnx1.trans (hb2.mono hnx1.size))
   | (at_lookup; refine wpList_lookup_own_int _ rfl _ _ 323 rfl 9 3 .i64 B5W Tryz.underlying323 Tryz.underlying3 (B6G _) w.heap.size _ _ rfl hown2 _ _ rfl hkey ?_; intro c2 hat2 hwc2)
   | go_in)
  ·have h0:F2 s≠0:=(by simpa using ‹(F2 s != 0)=true›);have hv:A0D ks k s=F2 s:=by unfold A0D B2s; rw[zk h0]
   go_ret
   exact⟨by rw[←hf,zk (by rw[hv]; exact h0),hv]; rfl,hnx2⟩
  ·have h0:F2 s=0:=(by simpa using ‹(F2 s != 0)=false›);have h1:1<c2:=(by assumption);rw[atKey_put_same hmet.1 (by trivial)] at hat2;rw[hat0] at hat1;simp only[DataW.lit.injEq,Lit.int.injEq,true_and] at hat1 hat2;have ha:((ks.take k).any fun x=>x==s)=true:=by
    refine zm fun hn=>?_;rw[zh hn] at hat1;subst hat1;rw[←hat2,show RowKit.wrap64 (0+1)=1 from by unfold RowKit.wrap64; omega] at h1;omega
   have hv:A0D ks k s=6:=by unfold A0D B2s; rw[zh (by simp[h0]),zk ha]
   go_ret
   exact⟨by rw[←hf,zk (by rw[hv]; decide),hv]; rfl,hnx2⟩
  ·have h0:F2 s=0:=(by simpa using ‹(F2 s != 0)=false›);have h1:c2<=1:=(by assumption);rw[atKey_put_same hmet.1 (by trivial)] at hat2;rw[hat0] at hat1;simp only[DataW.lit.injEq,Lit.int.injEq,true_and] at hat1 hat2;have ha:((ks.take k).any fun x=>x==s)=false:=by
    refine Bool.eq_false_iff.2 fun hn=>?_;rw[zk hn] at hat1;subst hat1;rw[←hat2,show RowKit.wrap64 (1+1)=2 from by unfold RowKit.wrap64; omega] at h1;omega
   have hv:A0D ks k s=0:=(by unfold A0D B2s; rw[zh (by simp[h0]),zh (by simp[ha])]);rw[zh (by simp[hv])] at hf;rw[ha] at hat1;have hw1:RowKit.wrap64 (c1+1)=1:=(by rw[←hat1,zh (by decide)]; unfold RowKit.wrap64; omega);have hmet2:=B2u hmet hs ha hw1;have hk1:RowKit.wrap64 ((k:Int)+1)=((k+1:Nat):Int):=by
    have h63:(k:Int)+1<=9223372036854775807:=(by unfold maxLen at hkm; omega);unfold RowKit.wrap64; omega
   rw[hk1];exact⟨⟨k+1,_,hlt,rfl,hmet2,hf,hown2,hnx2⟩,Nat.sub_lt_sub_left hlt (wq k)⟩
theorem B2w : (Tryz.f238.name == "runtime.NumGoroutine") = false := by decide
theorem B2x:Tryz.f238.body.isNone=false:=rfl
theorem A8t:Q7 Tryz.prog 238:=⟨Tryz.f238,Tryz.func238,B2w,B2x⟩
theorem B4F(ks:List (List UInt8))(id:Nat)(hk:∀s∈ks,s.length<=9223372036854775807):A2 Tryz.prog 238 [.sl (ks.map .str)] [] id (.int .i64 (A5a ks)) []:=by
 refine A8R A8t fun C G bx w vs hs hv=>?_;obtain⟨v,rfl,hv1⟩:=A2j hv;obtain⟨A,c,rfl,h1,h2,h3⟩:=A9F hs hv1;rcases h3 with rfl|⟨b,o,rfl,h4,h5⟩
 ·exact (B2v A c w).mono fun e w' ⟨q1,q2⟩=>⟨_,q1,fun _ _=>.int _ _,q2⟩
 ·exact (B4E hs.tabs h1 h2 h4 h5 hk).mono fun e w' ⟨q1,q2⟩=>⟨_,q1,fun _ _=>.int _ _,q2⟩
end Go.Am
namespace Go.Am
open Go Go.Proofs Go.RowKit
def t7(o:H3):Int :=
 if o.kind<1\/5<o.kind then 7
 else if (o.kind≠2/\o.n≠0)\/(o.kind≠3/\o.text≠[])\/(o.kind≠5/\o.keys≠[])\/(o.kind<4/\o.kids≠[]) then 1
 else if ¬(-999999999<=o.n/\o.n<=999999999) then 3
 else if 40<o.text.length then 2
 else if o.kind=5/\o.keys.length≠o.kids.length then 1
 else A5a o.keys
mutual
def j7:H3->Int
 | .mk k n t ks l=>if t7 (.mk k n t ks l)≠0 then t7 (.mk k n t ks l) else A0E l
def A0E:List H3->Int
 | []=>0
 | o::r=>if j7 o≠0 then j7 o else A0E r
end
theorem A7y(o:H3):j7 o=if t7 o≠0 then t7 o else A0E o.kids:=by cases o; rfl
def A4J(o:H3):Int:=if 2000<Y9 11 [o]\/11<Z0 11 [o] then 2 else j7 o
mutual
def okO:H3->Prop
 | .mk _ _ _ ks l=>(∀s∈ks,s.length<=9223372036854775807)/\B2y l
def B2y:List H3->Prop
 | []=>True
 | o::r=>okO o/\B2y r
end
theorem B5X(o:H3):okO o=((∀s∈o.keys,s.length<=9223372036854775807)/\B2y o.kids):=by cases o; rfl
theorem B2z{l:List H3}(h:B2y l):∀o∈l,okO o:=by
 induction l with
 | nil=>intro o ho; cases ho
 | cons x r ih =>
  intro o ho;rcases zi.1 ho with rfl|ho
  ·exact h.1
  ·exact ih h.2 o ho
theorem B4G(o:H3)(id:Nat)(hk:∀s∈o.keys,s.length<=9223372036854775807):A2 Tryz.prog 171 [eO o] [] id (.int .i64 (t7 o)) []:=by
 have hK:=fun id=>B4F o.keys id hk;rw[Q5 o];refine w171.e.1 fun E hP hR hl hid=>?_;simp[w171];refine C9 (fun g1=>?_) (fun g1=>?_)<;>simp
 ·have hf:t7 o=7:=by unfold t7; rw[zk (by simp at g1; omega)]
  rw[hf] at hR;exact yP hR
 have k1:¬(o.kind<1\/5<o.kind):=by simp at g1; omega
 have hB:(o.kind≠2/\o.n≠0)\/(o.kind≠3/\o.text≠[])\/(o.kind≠5/\o.keys≠[])\/(o.kind<4/\o.kids≠[])->t7 o=1:=fun h=>by unfold t7; rw[zh k1,zk h]
 refine C9 (fun g2=>?_) (fun g2=>?_)<;>simp
 ·rw[hB (.inl (by simpa using g2))] at hR;refine D5 g2 ?_;simp;exact yP hR
 refine C9 (fun g3=>?_) (fun g3=>?_)<;>simp
 ·rw[hB (.inr (.inl (by simpa using g3)))] at hR;refine D5 g3 ?_;simp;exact yP hR
 refine C9 (fun g4=>?_) (fun g4=>?_)<;>simp
 ·rw[hB (.inr (.inr (.inl (by simpa [ug] using g4))))] at hR;refine D5 g4 ?_;simp;exact yP hR
 refine C9 (fun g5=>?_) (fun g5=>?_)<;>simp
 ·rw[hB (.inr (.inr (.inr (by simpa [ug] using g5))))] at hR;exact yP hR
 have k2:¬((o.kind≠2/\o.n≠0)\/(o.kind≠3/\o.text≠[])\/(o.kind≠5/\o.keys≠[])\/(o.kind<4/\o.kids≠[])):=by revert g2 g3 g4 g5; simp[ug]; grind
 (refine yH rfl (w8 o.n _) ?_; simp);refine C9 (fun g6=>?_) (fun g6=>?_)<;>simp
 ·have hf:t7 o=3:=by unfold t7; rw[zh k1,zh k2,zk (by simp at g6; omega)]
  rw[hf] at hR;exact yP hR
 have k3:¬¬(-999999999<=o.n/\o.n<=999999999):=by simp at g6; omega
 refine C9 (fun g7=>?_) (fun g7=>?_)<;>simp
 ·have hf:t7 o=2:=by unfold t7; rw[zh k1,zh k2,zh k3,zk (by simp at g7; omega)]
  rw[hf] at hR;exact yP hR
 have k4:¬40<o.text.length:=by simp at g7; omega
 refine C9 (fun g8=>?_) (fun g8=>?_)<;>simp
 ·have hf:t7 o=1:=by unfold t7; rw[zh k1,zh k2,zh k3,zh k4,zk (by simp at g8; omega)]
  rw[hf] at hR;exact yP hR
 have k5:¬(o.kind=5/\o.keys.length≠o.kids.length):=by simp at g8; omega
 have hf:t7 o=A5a o.keys:=by unfold t7; rw[zh k1,zh k2,zh k3,zh k4,zh k5]
 rw[hf] at hR;(refine yH rfl (hK _) ?_; simp);exact yP hR
theorem A5b:∀(m:Nat) (o:H3) (id:Nat),o.sz<m->o.sz<=1099511627776->okO o->A2 Tryz.prog 102 [eO o] [] id (.int .i64 (j7 o)) []
 | 0,o,id,hm,_,_=>by omega
 | m+1,o,id,hm,h8,hk=>by
  have hsz:=A1I o;have hlen:=x4 o.kids;rw[B5X] at hk;have h1:=fun id=>B4G o id hk.1;rw[Q5 o] at h1;rw[A7y,Q5 o];refine w102.e.1 fun E hP hR hl hid=>?_;simp[w102];(refine yH rfl (h1 _) ?_; simp);refine C9 (fun g1=>?_) (fun g1=>?_)<;>simp
  ·have g1:t7 o≠0:=(by simpa using g1);rw[zk g1] at hR;exact yP hR
  have g1:t7 o=0:=by simpa using g1
  rw[zh (by simp[g1])] at hR;refine C8 (X:=Nat) (fun i=>⟨[(1,true,.ptr E.n0 0 0),(13,true,.sl (o.kids.map eO)),(14,true,.int .i64 o.kids.length),(15,true,.int .i64 i)],[(E.n0,some ⟨[.agg [.int .i64 o.kind,.int .i64 o.n,.str o.text,.sl (o.keys.map .str),.sl (o.kids.map eO)]],.agg [.int .i64 o.kind,.int .i64 o.n,.str o.text,.sl (o.keys.map .str),.sl (o.kids.map eO)],false,false⟩)],1⟩)
   (fun i=>i<=o.kids.length/\A0E (o.kids.drop i)=A0E o.kids) (fun i=>o.kids.length - i) 0 ?_ ⟨by omega,rfl⟩ ?_
  ·refine yV [(E.n0,E.n0)] (by simp) fun hrn=>⟨?_,?_,?_,?_,?_⟩<;>(try simp)
  rintro i ⟨hi,hx⟩ p hp;refine A6 4000 ?_;simp;refine C9 (fun h=>?_) (fun h=>?_)
  ·have h:=zp h;obtain⟨x,hxx,hd⟩:=B6 h;rw[hd] at hx;simp only[A0E] at hx;have hi1:IntKind.i64.wrap ((i:Int)+1)=((i+1:Nat):Int):=wrap64 (by omega);have hxm:=x5 (zf hxx);have ih:=fun id=>A5b m x id (by omega) (by omega) (B2z hk.2 x (zf hxx));rw[Q5 x] at ih;simp[hxx,Q5 x];refine⟨h,?_⟩;(refine yH rfl (ih _) ?_; simp);refine C9 (fun h5=>?_) (fun h5=>?_)<;>simp
   ·have h5:j7 x≠0:=(by simpa using h5);rw[zk h5] at hx;rw[←hx] at hR;exact yP hR
   ·have h5:j7 x=0:=(by simpa using h5);rw[zh (by simp[h5])] at hx;refine hp _ (i+1) ⟨h,hx⟩ (by omega) ?_;refine yV [(E.n0,E.n0)] (by simp[hi1]) fun hrn=>⟨?_,?_,?_,?_,?_⟩<;>(try simp[hi1])
  ·have h:=zq h;rw[zt (by omega)] at hx;simp only[A0E] at hx;rw[←hx] at hR;simp;exact yP hR
theorem A5c(o:H3)(id:Nat)(h8:o.sz<=1099511627776)(hk:okO o):A2 Tryz.prog 44 [eO o] [] id (.int .i64 (A4J o)) []:=by
 have hC:=fun id=>A7h 11 [o] id (by omega) (by simp[Z7]; omega);have hK:=fun id=>A5b (o.sz+1) o id (by omega) h8 hk;simp only[yd,ww] at hC;rw[Q5 o] at hC hK ⊢;refine w44.e.1 fun E hP hR hl hid=>?_;simp[w44];(refine yR rfl (hC _) ?_; simp);refine C9 (fun g=>?_) (fun g=>?_)<;>simp
 ·have hf:A4J o=2:=by unfold A4J; rw[zk (by simp at g; omega)]
  rw[hf] at hR;exact yP hR
 ·have hf:A4J o=j7 o:=by unfold A4J; rw[zh (by simp at g; omega)]
  rw[hf] at hR;(refine yH rfl (hK _) ?_; simp);exact yP hR
def hexT:List UInt8:=[48,49,50,51,52,53,54,55,56,57,97,98,99,100,101,102]
def A4d(n:Nat):UInt8:=hexT.getD n 0
def qBj(c:UInt8):List UInt8:=if c=34\/c=92 then [92,c] else if c=10 then [92,110] else if c.toNat<32 then [92,117,48,48,A4d (c.toNat / 16),A4d (c.toNat % 16)] else [c]
def qL(s:List UInt8):List UInt8:=s.flatMap qBj
def V6(s:List UInt8):List UInt8:=34::qL s++[34]
theorem B30(c:UInt8):1<=(qBj c).length/\(qBj c).length<=6:=by
 unfold qBj;repeat' split
 all_goals simp
theorem A4K(s:List UInt8):s.length<=(qL s).length/\(qL s).length<=6*s.length:=by
 induction s with
 | nil=>simp[qL]
 | cons c r ih =>
  have:=B30 c;simp only[qL,xr,yy,yz] at *;omega
theorem B4H{s:List UInt8}{i:Nat}{c:UInt8}(h:s[i]?=some c):qL (s.take (i+1))=qL (s.take i)++qBj c:=by
 unfold qL; rw[I7 h]; simp
theorem B6H:∀n:Fin 32,Go.bits .and .u8 (n.val:Int) 15=((n.val % 16:Nat):Int):=by decide
theorem B5Y{n:Nat}(h:n<32):Go.bits .and .u8 (n:Int) 15=((n % 16:Nat):Int):=B6H ⟨n,h⟩
theorem A9e{n:Nat}(h:n<16):hexT[n]?=some (A4d n):=by
 unfold A4d;rw[List.getD,zd (by simpa [hexT] using h)];rfl
theorem A1u{R:Rn}{S:Nat->Prop}{l:List UInt8}{r:List AV}(h:E7 r=true):K2 R S (eB l++r) (eB l++r):=F7 rfl (I5 (A9G l) h)
theorem A5d(s:List UInt8)(id:Nat)(h8:s.length<=1099511627776):A2 Tryz.prog 124 [.str s] [] id (.str (V6 s)) []:=by
 refine w124.e.1 fun E hP hR hl hid=>?_;simp[w124];refine C8 (X:=Nat) (fun i=>⟨[(0,true,.str s),(3,true,.bsl E.n0 0 (34::qL (s.take i)).length),(8,true,.int .i64 s.length),(9,true,.int .i64 i)],[(E.n0,some ⟨eB (34::qL (s.take i)),.int .u8 0,false,false⟩)],1⟩)
  (fun i=>i<=s.length) (fun i=>s.length - i) 0 ?_ (by omega) ?_
 ·have h0:eB (34::qL (s.take 0))=[.int .u8 34]:=by simp[qL,eB]
  have h1:qL []=[]:=rfl;refine yV [(E.n0,E.n0+1024)] (by simp[h0,h1]) fun hrn=>⟨?_,?_,?_,?_,?_⟩<;>(try simp[h0,h1]);exact F7 (by simp[eB]) rfl
 rintro i hi p hp;have hcv:∀(U:List UInt8),s.take i=s.take i->True:=fun _ _=>trivial;have h34:∀(c:UInt8) (n:Nat),n<256->(((c.toNat:Int)==(n:Int))=true↔c=UInt8.ofNat n):=fun c n hn=>by
  rw[beq_iff_eq];constructor
  ·intro h;have h:c.toNat=n:=(by omega);rw[←h]; simp
  ·intro h;subst h;simp; omega
 refine A6 4000 ?_;simp;refine C9 (fun h=>?_) (fun h=>?_)
 ·have h:=zp h;obtain⟨c,hc,hd⟩:=B6 h;have hi1:IntKind.i64.wrap ((i:Int)+1)=((i+1:Nat):Int):=wrap64 (by omega);have hql:=A4K (s.take i);rw[zu] at hql;have hst:=B4H hc;have hb:=B30 c;have hpU:=A9G (34::qL (s.take i));simp[hc];refine⟨h,?_⟩;refine C9 (fun g=>?_) (fun g=>?_)<;>simp
  ·have g:c=34\/c=92:=by
    rw[Bool.or_eq_true] at g;exact g.imp (h34 c 34 (by omega)).1 (h34 c 92 (by omega)).1
   have hq:qBj c=[92,c]:=(by unfold qBj; rw[zk g]);rw[hq] at hst;have hex:eB (34::(qL (s.take i)++[92,c]))=eB (34::qL (s.take i))++[.int .u8 92,.int .u8 c.toNat]:=(by rw[←yo,A0s]; rfl);refine⟨⟨by omega,by omega⟩,?_⟩;refine hp _ (i+1) h (by omega) ?_;refine yV [(E.n0,E.n0+17409)] (by simp[hi1,hst,hex]) fun hrn=>⟨?_,?_,?_,?_,?_⟩<;>(try simp[hi1,hst,hex]);exact A1u (by rfl)
  have g:¬(c=34\/c=92):=by
   rw[wy] at g;rintro (e|e)
   ·exact absurd ((h34 c 34 (by omega)).2 e) (by rw[ut]; exact g.1)
   ·exact absurd ((h34 c 92 (by omega)).2 e) (by rw[ut]; exact g.2)
  refine C9 (fun g2=>?_) (fun g2=>?_)<;>simp
  ·have g2:c=10:=(h34 c 10 (by omega)).1 g2;have hq:qBj c=[92,110]:=(by unfold qBj; rw[zh g,zk g2]);rw[hq] at hst;have hex:eB (34::(qL (s.take i)++[92,110]))=eB (34::qL (s.take i))++[.int .u8 92,.int .u8 110]:=(by rw[←yo,A0s]; rfl);refine⟨⟨by omega,by omega⟩,?_⟩;refine hp _ (i+1) h (by omega) ?_;refine yV [(E.n0,E.n0+19457)] (by simp[hi1,hst,hex]) fun hrn=>⟨?_,?_,?_,?_,?_⟩<;>(try simp[hi1,hst,hex]);exact A1u (by rfl)
  have g2:c≠10:=fun e=>absurd ((h34 c 10 (by omega)).2 e) (by rw[ut]; exact g2);refine C9 (fun g3=>?_) (fun g3=>?_)
  ·have g3:c.toNat<32:=(by simp at g3; omega);obtain⟨a,ha⟩:∃a,a=c.toNat / 16:=⟨_,rfl⟩;obtain⟨b,hb0⟩:∃b,b=c.toNat % 16:=⟨_,rfl⟩;have hA:Go.bits .and .u8 (c.toNat:Int) 15=(b:Int):=(by rw[B5Y g3,hb0]);have hD:(c.toNat:Int) / 16=(a:Int):=(by omega);have ha16:=A9e (n:=a) (by omega);have hb16:=A9e (n:=b) (by omega);unfold hexT at ha16 hb16;have hq:qBj c=[92,117,48,48,A4d (c.toNat / 16),A4d (c.toNat % 16)]:=(by unfold qBj; rw[zh g,zh g2,zk g3]);rw[←ha,←hb0] at hq;rw[hq] at hst;have hex:eB (34::(qL (s.take i)++[92,117,48,48,A4d a,A4d b]))=eB (34::qL (s.take i))++[.int .u8 92,.int .u8 117,.int .u8 48,.int .u8 48,.int .u8 (A4d a).toNat,.int .u8 (A4d b).toNat]:=(by rw[←yo,A0s]; rfl);simp[hA,hD,ha16,hb16];refine⟨by decide,by omega,by omega,⟨by omega,by omega⟩,?_⟩;refine hp _ (i+1) h (by omega) ?_;refine yV [(E.n0,E.n0+28673)] (by simp[hi1,hst,hex]) fun hrn=>⟨?_,?_,?_,?_,?_⟩<;>(try simp[hi1,hst,hex]);exact A1u (by rfl)
  have g3:¬c.toNat<32:=by simp at g3; omega
  simp;have hq:qBj c=[c]:=by unfold qBj; rw[zh g,zh g2,zh g3]
  rw[hq] at hst;have hex:eB (34::(qL (s.take i)++[c]))=eB (34::qL (s.take i))++[.int .u8 c.toNat]:=by rw[←yo,A0s]; rfl
  refine⟨⟨by omega,by omega⟩,?_⟩;refine hp _ (i+1) h (by omega) ?_;refine yV [(E.n0,E.n0+23553)] (by simp[hi1,hst,hex]) fun hrn=>⟨?_,?_,?_,?_,?_⟩<;>(try simp[hi1,hst,hex]);exact A1u (by rfl)
 ·have h:¬i<s.length:=zq h;rw[zn (show s.length<=i by omega)];have hql:=A4K s;have hfin:List.take ((qL s).length+1+1) (List.map A4P (eB (34::qL s))++[A4P (.int .u8 34)])=V6 s:=by
   rw[B3j,zn (by simp)];unfold V6;simp[A4P]
  simp;refine⟨⟨by omega,by omega⟩,fun x hx=>?_,?_⟩
  ·have hx:=wc hx;rcases zo.1 hx with hx|hx
   ·obtain⟨b,rfl⟩:=B58 hx;have:=b.toNat_lt;simp[A4Q];try omega
   ·simp at hx; subst hx; decide
  rw[hfin];exact yP hR
end Go.Am
namespace Go.Am
open Go Go.Proofs Go.Shelf
def A7z:Go.Shelf.Ren:=⟨fun|171=>123|243=>190|246=>257|283=>288|284=>289|285=>290|286=>291|129=>310|317=>309|318=>311|319=>312|320=>313|337=>330|338=>331|n=>n,fun|3=>3|9=>9|2=>2|4=>4|171=>329|0=>0|53=>330|37=>238|5=>5|173=>333|212=>350|51=>309|20=>20|213=>351|46=>239|232=>399|233=>400|n=>n,fun|17=>0|18=>4|19=>5|n=>n⟩
theorem B4I:Go.Proofs.LaysM.n171 Tryz.prog A7z:={ mixed:=by kernel_rfl,f129:=Tryz.func310.trans (congrArg some (by kernel_rfl)),f171:=Tryz.func123.trans (congrArg some (by kernel_rfl)),f243:=Tryz.func190.trans (congrArg some (by kernel_rfl)),f246:=Tryz.func257.trans (congrArg some (by kernel_rfl)),f283:=Tryz.func288.trans (congrArg some (by kernel_rfl)),f284:=Tryz.func289.trans (congrArg some (by kernel_rfl)),f285:=Tryz.func290.trans (congrArg some (by kernel_rfl)),f286:=Tryz.func291.trans (congrArg some (by kernel_rfl)),f317:=Tryz.func309.trans (congrArg some (by kernel_rfl)),f318:=Tryz.func311.trans (congrArg some (by kernel_rfl)),f319:=Tryz.func312.trans (congrArg some (by kernel_rfl)),f320:=Tryz.func313.trans (congrArg some (by kernel_rfl)),f337:=Tryz.func330.trans (congrArg some (by kernel_rfl)),f338:=Tryz.func331.trans (congrArg some (by kernel_rfl)),t0:=Tryz.underlying0,a0:=Tryz.isAgg0,z0:=Tryz.sizeOf0,v0:=Tryz.zeroValue0,t2:=Tryz.underlying2,a2:=Tryz.isAgg2,z2:=Tryz.sizeOf2,v2:=Tryz.zeroValue2,t3:=Tryz.underlying3,a3:=Tryz.isAgg3,z3:=Tryz.sizeOf3,v3:=Tryz.zeroValue3,t4:=Tryz.underlying4,a4:=Tryz.isAgg4,z4:=Tryz.sizeOf4,v4:=Tryz.zeroValue4,t5:=Tryz.underlying5,a5:=Tryz.isAgg5,z5:=Tryz.sizeOf5,v5:=Tryz.zeroValue5,t9:=Tryz.underlying9,a9:=Tryz.isAgg9,z9:=Tryz.sizeOf9,v9:=Tryz.zeroValue9,t20:=Tryz.underlying20,a20:=Tryz.isAgg20,z20:=Tryz.sizeOf20,v20:=Tryz.zeroValue20,t37:=Tryz.underlying238,a37:=Tryz.isAgg238,z37:=Tryz.sizeOf238,v37:=Tryz.zeroValue238,t46:=Tryz.underlying239,a46:=Tryz.isAgg239,z46:=Tryz.sizeOf239,v46:=Tryz.zeroValue239,t51:=Tryz.underlying309,a51:=Tryz.isAgg309,z51:=Tryz.sizeOf309,v51:=Tryz.zeroValue309,t53:=Tryz.underlying330,a53:=Tryz.isAgg330,z53:=Tryz.sizeOf330,v53:=Tryz.zeroValue330,t171:=Tryz.underlying329,a171:=Tryz.isAgg329,z171:=Tryz.sizeOf329,v171:=Tryz.zeroValue329,t173:=Tryz.underlying333,a173:=Tryz.isAgg333,z173:=Tryz.sizeOf333,v173:=Tryz.zeroValue333,t212:=Tryz.underlying350,a212:=Tryz.isAgg350,z212:=Tryz.sizeOf350,v212:=Tryz.zeroValue350,t213:=Tryz.underlying351,a213:=Tryz.isAgg351,z213:=Tryz.sizeOf351,t232:=Tryz.underlying399,a232:=Tryz.isAgg399,z232:=Tryz.sizeOf399,v232:=Tryz.zeroValue399,t233:=Tryz.underlying400,a233:=Tryz.isAgg400,z233:=Tryz.sizeOf400,v233:=Tryz.zeroValue400,g17:=by kernel_rfl,g18:=by kernel_rfl,g19:=by kernel_rfl,i0:=by kernel_rfl,i2:=by kernel_rfl,i3:=by kernel_rfl,i4:=by kernel_rfl,i5:=by kernel_rfl,i9:=by kernel_rfl,i20:=by kernel_rfl,i37:=by kernel_rfl,i46:=by kernel_rfl,i51:=by kernel_rfl,i53:=by kernel_rfl,i171:=by kernel_rfl,i173:=by kernel_rfl,i212:=by kernel_rfl,i232:=by kernel_rfl,i233:=by kernel_rfl,m17:=by kernel_rfl,m18:=by kernel_rfl,m19:=by kernel_rfl }
def A2q:Go.Shelf.Ren:=⟨fun|156=>125|165=>191|166=>192|169=>193|240=>258|241=>259|276=>292|277=>293|n=>n,fun|31=>23|9=>9|3=>3|4=>4|0=>0|20=>20|72=>242|76=>245|70=>240|37=>238|75=>244|127=>293|164=>335|5=>5|80=>228|n=>n,fun|n=>n⟩
theorem A9f:Go.Proofs.Lays.n156 Tryz.prog A2q:={ mixed:=by kernel_rfl,f156:=Tryz.func125.trans (congrArg some (by kernel_rfl)),f165:=Tryz.func191.trans (congrArg some (by kernel_rfl)),f166:=Tryz.func192.trans (congrArg some (by kernel_rfl)),f169:=Tryz.func193.trans (congrArg some (by kernel_rfl)),f240:=Tryz.func258.trans (congrArg some (by kernel_rfl)),f241:=Tryz.func259.trans (congrArg some (by kernel_rfl)),f276:=Tryz.func292.trans (congrArg some (by kernel_rfl)),f277:=Tryz.func293.trans (congrArg some (by kernel_rfl)),t0:=Tryz.underlying0,a0:=Tryz.isAgg0,z0:=Tryz.sizeOf0,v0:=Tryz.zeroValue0,t3:=Tryz.underlying3,a3:=Tryz.isAgg3,z3:=Tryz.sizeOf3,v3:=Tryz.zeroValue3,t4:=Tryz.underlying4,a4:=Tryz.isAgg4,z4:=Tryz.sizeOf4,v4:=Tryz.zeroValue4,t9:=Tryz.underlying9,a9:=Tryz.isAgg9,z9:=Tryz.sizeOf9,v9:=Tryz.zeroValue9,t20:=Tryz.underlying20,a20:=Tryz.isAgg20,z20:=Tryz.sizeOf20,v20:=Tryz.zeroValue20,t31:=Tryz.underlying23,a31:=Tryz.isAgg23,z31:=Tryz.sizeOf23,v31:=Tryz.zeroValue23,t37:=Tryz.underlying238,a37:=Tryz.isAgg238,z37:=Tryz.sizeOf238,v37:=Tryz.zeroValue238,t70:=Tryz.underlying240,a70:=Tryz.isAgg240,z70:=Tryz.sizeOf240,v70:=Tryz.zeroValue240,t72:=Tryz.underlying242,a72:=Tryz.isAgg242,z72:=Tryz.sizeOf242,v72:=Tryz.zeroValue242,t75:=Tryz.underlying244,a75:=Tryz.isAgg244,z75:=Tryz.sizeOf244,v75:=Tryz.zeroValue244,t76:=Tryz.underlying245,a76:=Tryz.isAgg245,z76:=Tryz.sizeOf245,v76:=Tryz.zeroValue245,t127:=Tryz.underlying293,a127:=Tryz.isAgg293,z127:=Tryz.sizeOf293,v127:=Tryz.zeroValue293,t164:=Tryz.underlying335,a164:=Tryz.isAgg335,z164:=Tryz.sizeOf335,v164:=Tryz.zeroValue335 }
theorem A5e:Builder.Extra Tryz.prog A2q:={ sizeBuilder:=by kernel_rfl,liesBuilder:=by kernel_rfl,t5:=Tryz.underlying5,a5:=Tryz.isAgg5,z5:=Tryz.sizeOf5,v5:=Tryz.zeroValue5,infoByte:=by kernel_rfl,cellsByte:=by kernel_rfl,sizeByte:=by kernel_rfl,neB5:=by decide }
end Go.Am
namespace Go.Am
end Go.Am
namespace Go.Am
open Go Go.Proofs Go.RowKit Go.Shelf
theorem B31 : (Tryz.f123.name == "runtime.NumGoroutine") = false := by decide
theorem B32:Tryz.f123.body.isNone=false:=rfl
theorem B33 : (Tryz.f125.name == "runtime.NumGoroutine") = false := by decide
theorem B34:Tryz.f125.body.isNone=false:=rfl
theorem A8u:Q7 Tryz.prog 123:=⟨_,Tryz.func123,B31,B32⟩
theorem A8v:Q7 Tryz.prog 125:=⟨_,Tryz.func125,B33,B34⟩
theorem A80 : (Tryz.prog.globalNamed "internal/strconv.uint64pow10").isSome = true := by kernel_rfl
theorem B35 {w : World} (h : A16 Tryz.prog w) : Lib.TabIs Tryz.prog w "internal/strconv.uint64pow10" .u64 Lib.pow10Tab := by
 obtain⟨g,hg⟩:=wj.1 A80;exact h.tab ("internal/strconv.uint64pow10", .u64, Lib.pow10Tab) (by simp [B4f]) g hg
theorem A8w{w:World}(k:Nat)(os:Array Obj):Below w.heap.size w (Sort.grow (w.drewN k) os) :=
 ⟨rfl,rfl,rfl,by simp[Sort.grow,World.drewN],fun i hi=>by
  show ((w.drewN k).heap++os)[i]?=_;rw[xn (by show i<w.heap.size; exact hi)];rfl⟩
theorem B4J(n:Int)(id:Nat)(h:I64 n):A2 Tryz.prog 123 [.int .i64 n] [] id (.str (Lib.itoa n)) []:=by
 refine A8R A8u fun C G bx w vs hs hv=>?_;obtain⟨v,rfl,hv1⟩:=A2j hv;cases hv1
 refine (Any.strconv_Itoa B4I n (by unfold I64 at h; omega) (by unfold I64 at h; omega) w (B35 hs.tabs)).mono ?_;rintro e w' ⟨h1,k,os,rfl⟩;exact⟨_,h1,fun _ _=>.str _,A8w k os⟩
theorem A9g(xs:List (List UInt8))(sep:List UInt8)(id:Nat)(hN:xs.length<=140737488355328)(hlen:(Lib.join xs sep).length<=140737488355328):
  A2 Tryz.prog 125 [.sl (xs.map .str),.str sep] [] id (.str (Lib.join xs sep)) []:=by
 refine A8R A8v fun C G bx w vs hs hv=>?_;obtain⟨u,v,rfl,hv1,hv2⟩:=A7K hv;cases hv2
 obtain⟨A,c,rfl,h1,h2,h3⟩:=A9F hs hv1;have hmap:(xs.map fun x=>(⟨⟨x⟩⟩:ByteArray)).map (·.data.toList)=xs:=by simp[Function.comp_def]
 rcases h3 with rfl|⟨b,o,rfl,h4,h5⟩
 ·refine (Any.strings_Join_none A9f A5e A c ⟨⟨sep⟩⟩ w).mono ?_;rintro e w' ⟨q1,rfl⟩;exact⟨_,q1,fun _ _=>.str _,Below.refl _ _⟩
 ·have:=Any.strings_Join A9f A5e b o c (xs.map fun x=>⟨⟨x⟩⟩) ⟨⟨sep⟩⟩ w (fun j x hx=>by
   rw[ye] at hx;cases hj:xs[j]? with
   | none=>rw[hj] at hx; cases hx
   | some y=>rw[hj] at hx; injection hx with hx; subst hx; exact h5 j y hj) h4 (by simpa using hN) (by simpa using h1) (by rw[hmap]; exact hlen)
  rw[hmap] at this;simp only[xd] at this;refine this.mono ?_;rintro e w' ⟨q1,q2⟩;exact⟨_,q1,fun _ _=>.str _,q2⟩
end Go.Am
