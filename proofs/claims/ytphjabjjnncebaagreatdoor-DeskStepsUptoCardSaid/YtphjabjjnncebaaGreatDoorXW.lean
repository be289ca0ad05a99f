/- Parts of the proof: an abstract machine for Go functions, and what functions of the program give back (Rj1, Am67, Rk1, Rk2, Rk3, Rk4, Ch12, Ch13, Su1, Dn3, Fb, Fv, Fd, Lw4, Jf). No condition. -/
import Derived.Test.YtphjabjjnncebaaGreatDoorXS
import Derived.Test.YtphjabjjnncebaaGreatDoorXF
import Derived.Test.YtphjabjjnncebaaGreatDoorXG
import Derived.LoopN
import Derived.Test.YtphjabjjnncebaaGreatDoorXQ
import Derived.Test.YtphjabjjnncebaaGreatDoorXV
import Derived.Test.YtphjabjjnncebaaGreatDoorXR
import Derived.Recover
import Derived.Test.YtphjabjjnncebaaGreatDoorXE
import Derived.Test.YtphjabjjnncebaaGreatDoorXP
import Derived.Test.YtphjabjjnncebaaGreatDoorXH
import Derived.Test.YtphjabjjnncebaaGreatDoorRows
import Derived.Test.YtphjabjjnncebaaGreatDoorXJ
import Derived.Deep.CondSized
import Derived.Test.YtphjabjjnncebaaGreatDoorCards
import Derived.Test.YtphjabjjnncebaaGreatDoorTie
import Derived.Deep.DeepHandedRow
import Derived.Lib.LaidTab
import Derived.LaidLaws
set_option maxRecDepth 100000
set_option linter.all false
set_option maxHeartbeats 16000000
namespace Go.Am
open Go Go.Proofs Go.RowKit Go.Proofs.Tryz
def bS(z s:List UInt8):Bx:=⟨[.agg [.str s]],.agg [.str z],false,false⟩
theorem A09(z s:List UInt8):bS z s=⟨[.agg [.str s]],.agg [.str z],false,false⟩:=rfl
def A63(s w:List UInt8):Bool:=w.isPrefixOf s
def A4d(s w:List UInt8):List UInt8:=if A63 s w=true then s.drop w.length else s
def B4p(s w:List UInt8):A63 s w=true↔w.length<=s.length/\s.take w.length=w:=by
 unfold A63;rw[List.isPrefixOf_iff_prefix,List.prefix_iff_eq_take];constructor
 ·intro h;have:=congrArg List.length h;simp at this;exact⟨o_,h.symm⟩
 ·intro h; exact h.2.symm
def C5L(s w:List UInt8):(decide (w.length<=s.length)&&List.take w.length s==w)=A63 s w:=by
 rw[wg,B4p];simp
def B14(s w:List UInt8)(id:Nat):A2 prog 278 [.str s,.str w] [] id (.bool (A63 s w)) []:=by
 rw[←C5L];refine w278.e.1 λE hP hR hl hid=>?_;simp[w278];exact yP hR
def B2g(s w:List UInt8)(id:Nat):A2 prog 240 [.str s,.str w] [] id (.bool (A63 s w)) []:=by
 have h:=λid=>B14 s w id;refine w240.e.1 λE hP hR hl hid=>?_;simp[w240];(refine yH rfl (h _) ?_; simp);exact yP hR
def B9h(s w:List UInt8)(id:Nat):A2 prog 305 [.str s,.str w] [] id (.tup [.str (A4d s w),.bool (A63 s w)]) []:=by
 have h:=λid=>B14 s w id;by_cases g:A63 s w=true
 ·have g1:=((B4p s w).1 g).1;have e:A4d s w=s.drop w.length:=by unfold A4d; rw[zj g]
  rw[e,g];rw[g] at h;refine w305.e.1 λE hP hR hl hid=>?_;simp[w305];(refine yC rfl (h _) ?_; simp[g1]);exact yP hR
 ·have g:A63 s w=false:=by simpa using g
  have e:A4d s w=s:=by unfold A4d; rw[zf (t_ g)]
  rw[e,g];rw[g] at h;refine w305.e.1 λE hP hR hl hid=>?_;simp[w305];(refine yH rfl (h _) ?_; simp);exact yP hR
def B2h(s w:List UInt8)(id:Nat):A2 prog 277 [.str s,.str w] [] id (.tup [.str (A4d s w),.bool (A63 s w)]) []:=by
 have h:=λid=>B9h s w id;refine w277.e.1 λE hP hR hl hid=>?_;simp[w277];(refine yH rfl (h _) ?_; simp);exact yP hR
def C3L(z s w:List UInt8)(J id:Nat):A2 prog 239 [.ptr J 0 0,.str w] [(J,bS z s)] id (.bool (A63 s w)) [(J,some (bS z (A4d s w)))]:=by
 have h:=λid=>B2h s w id;rw[A09];refine w239.e.1 λE hP hR hl hid=>?_;simp[w239];have hJ:=hl (J,_) (za ..);simp only at hJ;have J1:=lf hJ;(refine yC rfl (h _) ?_; simp[J1]);refine yE hR [] (by simp[bS,J1,I5 hid]) λhrn=>⟨?_,?_,?_,?_,?_,?_⟩<;>(try simp[bS,J1,I5 hid])
end Go.Am
namespace Go.Am
open Go Go.RowKit Go.Proofs.Tryz
def Rnd(E:O8)(k:List Itm)(c:CC):Nat->St->Prop
 | 0,_=>False
 | n+1,σ=>Wk E (.code c::.post (Rnd E k c n)::k) σ
def A64{E:O8}{k:List Itm}{c:CC}{σ:St}(n:Nat)(h:Rnd E k c n σ):Wk E (.code (.loop c)::k) σ:=λd hc G a w hD=>by
 obtain⟨b,rfl,hb⟩:=A6I hc;refine wp_loop_rounds n ?_;induction n generalizing σ G a w with
 | zero=>exact h.elim
 | succ n ih =>
  refine wp_mono (h b hb G a w hD) λe a' w' hq=>?_;cases e with
  | normal=>obtain⟨σ',G',h1,h2⟩:=hq; exact ih h2 G' a' w' h1
  | _=>exact hq
end Go.Am
namespace Go.Am
open Go Go.Proofs Go.RowKit Go.Proofs.Tryz
def B7u{s w u:List UInt8}(h:A63 s w=true)(hu:s.drop w.length=u)(z:List UInt8)(J id:Nat):A2 prog 245 [.ptr J 0 0,.str w] [(J,bS z s)] id (.tup []) [(J,some (bS z u))]:=by
 have ht:=λid=>C3L z s w J id;have e1:A4d s w=u:=by unfold A4d; rw[zj h,hu]
 rw[h,e1] at ht;rw[A09,A09] at ht;rw[A09];refine w245.e.1 λE hP hR hl hid=>?_;simp[w245];have hJ:=hl (J,_) (za ..);simp only at hJ;have J1:=lf hJ;(refine yC rfl (ht _) ?_; simp[J1]);refine yE hR [] (by simp[bS,J1,I5 hid]) λhrn=>⟨?_,?_,?_,?_,?_,?_⟩<;>(try simp[bS,J1,I5 hid])
def A1B{s w u:List UInt8}{b:Bool}(h:A63 s w=b)(hu:A4d s w=u)(z:List UInt8)(J id:Nat):A2 prog 239 [.ptr J 0 0,.str w] [(J,bS z s)] id (.bool b) [(J,some (bS z u))]:=by
 have:=C3L z s w J id;rw[h,hu] at this; exact this
def wl:IntKind.i64.wrap 1=1/\IntKind.i64.wrap 2=2/\IntKind.i64.wrap 3=3/\IntKind.i64.wrap 6=6/\IntKind.i64.wrap 7=7/\IntKind.i64.wrap 0=0:=by decide
def C8t(z:List UInt8)(J id:Nat):A2 prog 279 [.ptr J 0 0] [(J,bS z [34,92,117,48,48,48,49,92,110,34,93,125])] id (.int .u8 34) [(J,some (bS z [92,117,48,48,48,49,92,110,34,93,125]))]:=by
 have t1:=λid=>A1B (s:=[34,92,117,48,48,48,49,92,110,34,93,125]) (w:=[110]) (u:=[34,92,117,48,48,48,49,92,110,34,93,125]) (b:=false) d_ d_ z J id;have t2:=λid=>A1B (s:=[34,92,117,48,48,48,49,92,110,34,93,125]) (w:=[117,48,48]) (u:=[34,92,117,48,48,48,49,92,110,34,93,125]) (b:=false) d_ d_ z J id;simp only[A09] at *;refine w279.e.1 λE hP hR hl hid=>?_;simp[w279];have hJ:=hl (J,_) (za ..);simp only at hJ;have J1:=lf hJ;(refine yC rfl (t1 _) ?_; simp[J1]);(refine yC rfl (t2 _) ?_; simp[J1]);refine yE hR [] (by simp[bS,J1,I5 hid]) λhrn=>⟨?_,?_,?_,?_,?_,?_⟩<;>(try simp[bS,J1,I5 hid])
def C8u(z:List UInt8)(J id:Nat):A2 prog 279 [.ptr J 0 0] [(J,bS z [117,48,48,48,49,92,110,34,93,125])] id (.int .u8 1) [(J,some (bS z [92,110,34,93,125]))]:=by
 have t1:=λid=>A1B (s:=[117,48,48,48,49,92,110,34,93,125]) (w:=[110]) (u:=[117,48,48,48,49,92,110,34,93,125]) (b:=false) d_ d_ z J id;have t2:=λid=>A1B (s:=[117,48,48,48,49,92,110,34,93,125]) (w:=[117,48,48]) (u:=[48,49,92,110,34,93,125]) (b:=true) d_ d_ z J id;have x1:∀id,A2 prog 287 [.str [48,49,50,51,52,53,54,55,56,57,97,98,99,100,101,102],.int .u8 48] [] id (.int .i64 0) []:=λid=>A1A [48,49,50,51,52,53,54,55,56,57,97,98,99,100,101,102] 48 id;have x2:∀id,A2 prog 287 [.str [48,49,50,51,52,53,54,55,56,57,97,98,99,100,101,102],.int .u8 49] [] id (.int .i64 1) []:=λid=>A1A [48,49,50,51,52,53,54,55,56,57,97,98,99,100,101,102] 49 id;simp only[A09] at *;refine w279.e.1 λE hP hR hl hid=>?_;simp[w279];have hJ:=hl (J,_) (za ..);simp only at hJ;have J1:=lf hJ;(refine yC rfl (t1 _) ?_; simp[J1]);(refine yC rfl (t2 _) ?_; simp[J1]);(refine yC rfl (x1 _) ?_; simp[J1]);refine⟨d_,?_⟩;(refine yC rfl (x2 _) ?_; simp[J1]);rw[show Go.bits .or .i64 (IntKind.i64.wrap 0) 1=1 by decide];simp[J1,show IntKind.u8.wrap 1=1 by decide];refine yE hR [] (by simp[bS,J1,I5 hid]) λhrn=>⟨?_,?_,?_,?_,?_,?_⟩<;>(try simp[bS,J1,I5 hid])
def C8v(z:List UInt8)(J id:Nat):A2 prog 279 [.ptr J 0 0] [(J,bS z [110,34,93,125])] id (.int .u8 10) [(J,some (bS z [34,93,125]))]:=by
 have t1:=λid=>A1B (s:=[110,34,93,125]) (w:=[110]) (u:=[34,93,125]) (b:=true) d_ d_ z J id;simp only[A09] at *;refine w279.e.1 λE hP hR hl hid=>?_;simp[w279];have hJ:=hl (J,_) (za ..);simp only at hJ;have J1:=lf hJ;(refine yC rfl (t1 _) ?_; simp[J1]);refine yE hR [] (by simp[bS,J1,I5 hid]) λhrn=>⟨?_,?_,?_,?_,?_,?_⟩<;>(try simp[bS,J1,I5 hid])
def C8w(z:List UInt8)(J id:Nat):A2 prog 241 [.ptr J 0 0] [(J,bS z [34,97,34,58,91,110,117,108,108,44,34,113,92,34,92,117,48,48,48,49,92,110,34,93,125])] id (.str [97]) [(J,some (bS z [58,91,110,117,108,108,44,34,113,92,34,92,117,48,48,48,49,92,110,34,93,125]))]:=by
 have hN:=λid=>B7u (s:=[34,97,34,58,91,110,117,108,108,44,34,113,92,34,92,117,48,48,48,49,92,110,34,93,125]) (w:=[34]) (u:=[97,34,58,91,110,117,108,108,44,34,113,92,34,92,117,48,48,48,49,92,110,34,93,125]) d_ d_ z J id;have t0:=λid=>A1B (s:=[97,34,58,91,110,117,108,108,44,34,113,92,34,92,117,48,48,48,49,92,110,34,93,125]) (w:=[34]) (u:=[97,34,58,91,110,117,108,108,44,34,113,92,34,92,117,48,48,48,49,92,110,34,93,125]) (b:=false) d_ d_ z J id;have q0:∀id,A2 prog 124 [.str [97]] [] id (.str [34,97,34]) []:=λid=>A0N [97] id d_;have t1:=λid=>A1B (s:=[34,58,91,110,117,108,108,44,34,113,92,34,92,117,48,48,48,49,92,110,34,93,125]) (w:=[34]) (u:=[58,91,110,117,108,108,44,34,113,92,34,92,117,48,48,48,49,92,110,34,93,125]) (b:=true) d_ d_ z J id;simp only[A09] at *;refine w241.e.1 λE hP hR hl hid=>?_;simp[w241];have hJ:=hl (J,_) (za ..);simp only at hJ;have J1:=lf hJ;(refine yC rfl (hN _) ?_; simp[J1]);refine A64 2 ?_;simp only[Rnd];refine A3 4000 ?_;simp[J1];(refine yC rfl (t0 _) ?_; simp[J1]);refine⟨d_,?_⟩;(refine yC rfl (q0 _) ?_; simp[J1]);simp[wl];refine⟨o_,?_⟩;refine A3 4000 ?_;simp[J1];(refine yC rfl (t1 _) ?_; simp[J1]);refine⟨d_,?_⟩;refine yE hR [] (by simp[bS,J1,I5 hid]) λhrn=>⟨?_,?_,?_,?_,?_,?_⟩<;>(try simp[bS,J1,I5 hid]);all_goals decide
def C8x(z:List UInt8)(J id:Nat):A2 prog 241 [.ptr J 0 0] [(J,bS z [34,113,92,34,92,117,48,48,48,49,92,110,34,93,125])] id (.str [113,34,1,10]) [(J,some (bS z [93,125]))]:=by
 have hN:=λid=>B7u (s:=[34,113,92,34,92,117,48,48,48,49,92,110,34,93,125]) (w:=[34]) (u:=[113,92,34,92,117,48,48,48,49,92,110,34,93,125]) d_ d_ z J id;have t0:=λid=>A1B (s:=[113,92,34,92,117,48,48,48,49,92,110,34,93,125]) (w:=[34]) (u:=[113,92,34,92,117,48,48,48,49,92,110,34,93,125]) (b:=false) d_ d_ z J id;have q0:∀id,A2 prog 124 [.str [113]] [] id (.str [34,113,34]) []:=λid=>A0N [113] id d_;have t1:=λid=>A1B (s:=[92,34,92,117,48,48,48,49,92,110,34,93,125]) (w:=[34]) (u:=[92,34,92,117,48,48,48,49,92,110,34,93,125]) (b:=false) d_ d_ z J id;have q1:∀id,A2 prog 124 [.str [34]] [] id (.str [34,92,34,34]) []:=λid=>A0N [34] id d_;have d1:=λid=>C8t z J id;have t2:=λid=>A1B (s:=[92,117,48,48,48,49,92,110,34,93,125]) (w:=[34]) (u:=[92,117,48,48,48,49,92,110,34,93,125]) (b:=false) d_ d_ z J id;have q2:∀id,A2 prog 124 [.str [1]] [] id (.str [34,92,117,48,48,48,49,34]) []:=λid=>A0N [1] id d_;have d2:=λid=>C8u z J id;have t3:=λid=>A1B (s:=[92,110,34,93,125]) (w:=[34]) (u:=[92,110,34,93,125]) (b:=false) d_ d_ z J id;have q3:∀id,A2 prog 124 [.str [10]] [] id (.str [34,92,110,34]) []:=λid=>A0N [10] id d_;have d3:=λid=>C8v z J id;have t4:=λid=>A1B (s:=[34,93,125]) (w:=[34]) (u:=[93,125]) (b:=true) d_ d_ z J id;simp only[A09] at *;refine w241.e.1 λE hP hR hl hid=>?_;simp[w241];have hJ:=hl (J,_) (za ..);simp only at hJ;have J1:=lf hJ;(refine yC rfl (hN _) ?_; simp[J1]);refine A64 5 ?_;simp only[Rnd];refine A3 4000 ?_;simp[J1];(refine yC rfl (t0 _) ?_; simp[J1]);refine⟨d_,?_⟩;(refine yC rfl (q0 _) ?_; simp[J1]);simp[wl];refine⟨o_,?_⟩;refine A3 4000 ?_;simp[J1];(refine yC rfl (t1 _) ?_; simp[J1]);(refine yC rfl (d1 _) ?_; simp[J1]);refine⟨d_,?_⟩;(refine yC rfl (q1 _) ?_; simp[J1]);simp[wl];refine⟨o_,?_⟩;refine A3 4000 ?_;simp[J1];(refine yC rfl (t2 _) ?_; simp[J1]);(refine yC rfl (d2 _) ?_; simp[J1]);refine⟨d_,?_⟩;(refine yC rfl (q2 _) ?_; simp[J1]);simp[wl];refine⟨o_,?_⟩;refine A3 4000 ?_;simp[J1];(refine yC rfl (t3 _) ?_; simp[J1]);(refine yC rfl (d3 _) ?_; simp[J1]);refine⟨d_,?_⟩;(refine yC rfl (q3 _) ?_; simp[J1]);simp[wl];refine⟨o_,?_⟩;refine A3 4000 ?_;simp[J1];(refine yC rfl (t4 _) ?_; simp[J1]);refine⟨d_,?_⟩;refine yE hR [] (by simp[bS,J1,I5 hid]) λhrn=>⟨?_,?_,?_,?_,?_,?_⟩<;>(try simp[bS,J1,I5 hid]);all_goals decide
def kBj(k:Int)(kv lv:AV):Bx:=⟨[.agg [.int .i64 k,.int .i64 0,.str [],kv,lv]],.agg [.int .i64 0,.int .i64 0,.str [],.nils,.nils],false,false⟩
def pB(J:Nat):Bx:=⟨[.ptr J 0 0],.ptr J 0 0,false,false⟩
def lBj(l:List AV):Bx:=⟨l,.agg [.int .i64 0,.int .i64 0,.str [],.nils,.nils],false,false⟩
def sBj(l:List AV):Bx:=⟨l,.str [],false,false⟩
theorem A65(k:Int)(kv lv:AV):kBj k kv lv=⟨[.agg [.int .i64 k,.int .i64 0,.str [],kv,lv]],.agg [.int .i64 0,.int .i64 0,.str [],.nils,.nils],false,false⟩:=rfl
theorem A66(J:Nat):pB J=⟨[.ptr J 0 0],.ptr J 0 0,false,false⟩:=rfl
theorem A67(l:List AV):lBj l=⟨l,.agg [.int .i64 0,.int .i64 0,.str [],.nils,.nils],false,false⟩:=rfl
theorem A68(l:List AV):sBj l=⟨l,.str [],false,false⟩:=rfl
def ne1{x id:Nat}(h:x<id\/id+1024<=x):(x=id+1)=False/\(id+1=x)=False:=⟨eq_false o_,eq_false o_⟩
def C5M{id n0:Nat}(h:id+1024<=n0):id+1<n0/\(∀t:Nat,(id+1=n0+t)=False)/\(∀t:Nat,(n0+t=id+1)=False)/\(id+1=n0)=False/\(n0=id+1)=False:=⟨o_,λt=>eq_false o_,λt=>eq_false o_,eq_false o_,eq_false o_⟩
def C7R{s w:List UInt8}{b:Bool}(h:A63 s w=b)(id:Nat):A2 prog 240 [.str s,.str w] [] id (.bool b) []:=by
 have:=B2g s w id;rw[h] at this; exact this
def C9X(z:List UInt8)(J id:Nat):A2 prog 173 [.ptr J 0 0] [(J,bS z [110,117,108,108,44,34,113,92,34,92,117,48,48,48,49,92,110,34,93,125])] id (.agg [.int .i64 1,.int .i64 0,.str [],.nils,.nils]) [(J,some (bS z [44,34,113,92,34,92,117,48,48,48,49,92,110,34,93,125]))]:=by
 have t1:=λid=>A1B (s:=[110,117,108,108,44,34,113,92,34,92,117,48,48,48,49,92,110,34,93,125]) (w:=[110,117,108,108]) (u:=[44,34,113,92,34,92,117,48,48,48,49,92,110,34,93,125]) (b:=true) d_ d_ z J id;simp only[A09,A65,A66,A67,A68] at *;refine w173.e.1 λE hP hR hl hid=>?_;simp[w173];have hJ:=hl (J,_) (za ..);simp only at hJ;have J1:=lf hJ;(refine yC rfl (t1 _) ?_; simp[J1]);exact yF hR [] (a_ J1 (I5 hid))
def C9Y(z:List UInt8)(J id:Nat):A2 prog 173 [.ptr J 0 0] [(J,bS z [34,113,92,34,92,117,48,48,48,49,92,110,34,93,125])] id (.agg [.int .i64 3,.int .i64 0,.str [113,34,1,10],.nils,.nils]) [(J,some (bS z [93,125]))]:=by
 have t1:=λid=>A1B (s:=[34,113,92,34,92,117,48,48,48,49,92,110,34,93,125]) (w:=[110,117,108,108]) (u:=[34,113,92,34,92,117,48,48,48,49,92,110,34,93,125]) (b:=false) d_ d_ z J id;have t2:=λid=>C7R (s:=[34,113,92,34,92,117,48,48,48,49,92,110,34,93,125]) (w:=[34]) (b:=true) d_ id;have t3:=λid=>C8x z J id;simp only[A09,A65,A66,A67,A68] at *;refine w173.e.1 λE hP hR hl hid=>?_;simp[w173];have hJ:=hl (J,_) (za ..);simp only at hJ;have J1:=lf hJ;(refine yC rfl (t1 _) ?_; simp[J1]);(refine yC rfl (t2 _) ?_; simp[J1]);(refine yC rfl (t3 _) ?_; simp[J1]);exact yF hR [] (a_ J1 (I5 hid))
def C9Z(z:List UInt8)(J V K id:Nat)(d1:J≠V)(d2:J≠K)(d3:V≠K):A2 prog 243 [.ptr K 0 0,.ptr V 0 0] [(J,bS z [110,117,108,108,44,34,113,92,34,92,117,48,48,48,49,92,110,34,93,125]),(V,pB J),(K,kBj 4 .nils .nils)] id (.tup []) [(J,some (bS z [44,34,113,92,34,92,117,48,48,48,49,92,110,34,93,125])),(K,some (kBj 4 .nils (.bsl id 0 1))),(id,some (lBj [.agg [.int .i64 1,.int .i64 0,.str [],.nils,.nils]]))]:=by
 have ho:=λid=>C9X z J id;simp only[A09,A65,A66,A67,A68] at *;refine w243.e.1 λE hP hR hl hid=>?_;simp[w243];have hJ:=hl (J,_) (za ..);simp only at hJ;have J1:=lf hJ;have hV:=hl (V,_) (zb _ (za ..));simp only at hV;have V1:=lf hV;have hK:=hl (K,_) (zb _ (zb _ (za ..)));simp only at hK;have K1:=lf hK;simp[J1,V1,K1,d1,d1.symm,d2,d2.symm,d3,d3.symm];(refine yC rfl (ho _) ?_; simp[J1,V1,K1,d1,d1.symm,d2,d2.symm,d3,d3.symm]);refine yE hR [(id,E.n0+6144)] (by simp[J1,V1,K1,d1,d1.symm,d2,d2.symm,d3,d3.symm,I5 hid]) λhrn=>⟨?_,?_,?_,?_,?_,?_⟩<;>(try simp[J1,V1,K1,d1,d1.symm,d2,d2.symm,d3,d3.symm,I5 hid])
def C9a(z:List UInt8)(J V K M id:Nat)(d1:J≠V)(d2:J≠K)(d3:V≠K)(d4:J≠M)(d5:V≠M)(d6:K≠M):A2 prog 243 [.ptr K 0 0,.ptr V 0 0] [(J,bS z [34,113,92,34,92,117,48,48,48,49,92,110,34,93,125]),(V,pB J),(K,kBj 4 .nils (.bsl M 0 1)),(M,lBj [.agg [.int .i64 1,.int .i64 0,.str [],.nils,.nils]])] id (.tup []) [(J,some (bS z [93,125])),(K,some (kBj 4 .nils (.bsl id 0 2))),(M,none),(id,some (lBj [.agg [.int .i64 1,.int .i64 0,.str [],.nils,.nils],.agg [.int .i64 3,.int .i64 0,.str [113,34,1,10],.nils,.nils]]))]:=by
 have ho:=λid=>C9Y z J id;simp only[A09,A65,A66,A67,A68] at *;refine w243.e.1 λE hP hR hl hid=>?_;simp[w243];have hJ:=hl (J,_) (za ..);simp only at hJ;have J1:=lf hJ;have hV:=hl (V,_) (zb _ (za ..));simp only at hV;have V1:=lf hV;have hK:=hl (K,_) (zb _ (zb _ (za ..)));simp only at hK;have K1:=lf hK;have hM:=hl (M,_) (zb _ (zb _ (zb _ (za ..))));simp only at hM;have M1:=lf hM;simp[J1,V1,K1,M1,d1,d1.symm,d2,d2.symm,d3,d3.symm,d4,d4.symm,d5,d5.symm,d6,d6.symm];(refine yC rfl (ho _) ?_; simp[J1,V1,K1,M1,d1,d1.symm,d2,d2.symm,d3,d3.symm,d4,d4.symm,d5,d5.symm,d6,d6.symm]);refine yE hR [(id,E.n0+6144)] (by simp[J1,V1,K1,M1,d1,d1.symm,d2,d2.symm,d3,d3.symm,d4,d4.symm,d5,d5.symm,d6,d6.symm,I5 hid]) λhrn=>⟨?_,?_,?_,?_,?_,?_⟩<;>(try simp[J1,V1,K1,M1,d1,d1.symm,d2,d2.symm,d3,d3.symm,d4,d4.symm,d5,d5.symm,d6,d6.symm,I5 hid])
def C8y(z:List UInt8)(J V K id:Nat)(d1:J≠V)(d2:J≠K)(d3:V≠K):A2 prog 242 [.ptr J 0 0,.str [93],.fn 243 [.ptr K 0 0,.ptr V 0 0]] [(J,bS z [110,117,108,108,44,34,113,92,34,92,117,48,48,48,49,92,110,34,93,125]),(V,pB J),(K,kBj 4 .nils .nils)] id (.tup []) [(J,some (bS z [125])),(K,some (kBj 4 .nils (.bsl id 0 2))),(id,some (lBj [.agg [.int .i64 1,.int .i64 0,.str [],.nils,.nils],.agg [.int .i64 3,.int .i64 0,.str [113,34,1,10],.nils,.nils]]))]:=by
 have t1:=λid=>A1B (s:=[110,117,108,108,44,34,113,92,34,92,117,48,48,48,49,92,110,34,93,125]) (w:=[93]) (u:=[110,117,108,108,44,34,113,92,34,92,117,48,48,48,49,92,110,34,93,125]) (b:=false) d_ d_ z J id;have t2:=λid=>A1B (s:=[44,34,113,92,34,92,117,48,48,48,49,92,110,34,93,125]) (w:=[93]) (u:=[44,34,113,92,34,92,117,48,48,48,49,92,110,34,93,125]) (b:=false) d_ d_ z J id;have t3:=λid=>A1B (s:=[93,125]) (w:=[93]) (u:=[125]) (b:=true) d_ d_ z J id;have hn:=λid=>B7u (s:=[44,34,113,92,34,92,117,48,48,48,49,92,110,34,93,125]) (w:=[44]) (u:=[34,113,92,34,92,117,48,48,48,49,92,110,34,93,125]) d_ d_ z J id;have ha:=λid=>C9Z z J V K id d1 d2 d3;have hb:=λM id e1 e2 e3=>C9a z J V K M id d1 d2 d3 e1 e2 e3;simp only[A09,A65,A66,A67,A68] at *;refine w242.e.1 λE hP hR hl hid=>?_;simp[w242];have hJ:=hl (J,_) (za ..);simp only at hJ;have J1:=lf hJ;have hV:=hl (V,_) (zb _ (za ..));simp only at hV;have V1:=lf hV;have hK:=hl (K,_) (zb _ (zb _ (za ..)));simp only at hK;have K1:=lf hK;refine A64 3 ?_;simp only[Rnd];refine A3 4000 ?_;simp[J1,V1,K1,d1,d1.symm,d2,d2.symm,d3,d3.symm];(refine yC rfl (t1 _) ?_; simp[J1,V1,K1,d1,d1.symm,d2,d2.symm,d3,d3.symm]);(refine E8 hP (by simp<;>exact⟨rfl,rfl⟩) rfl (ha _) (by simp[J1,V1,K1,d1,d1.symm,d2,d2.symm,d3,d3.symm]) (by simp[J1,V1,K1,d1,d1.symm,d2,d2.symm,d3,d3.symm]<;>rfl) ?_; refine A3 4000 ?_; simp[J1,V1,K1,d1,d1.symm,d2,d2.symm,d3,d3.symm]);refine A3 4000 ?_;simp[J1,V1,K1,d1,d1.symm,d2,d2.symm,d3,d3.symm];(refine yC rfl (t2 _) ?_; simp[J1,V1,K1,d1,d1.symm,d2,d2.symm,d3,d3.symm]);(refine yC rfl (hn _) ?_; simp[J1,V1,K1,d1,d1.symm,d2,d2.symm,d3,d3.symm]);(refine E8 hP (by simp<;>exact⟨rfl,rfl⟩) rfl (hb (E.n0+8192) _ (by simp[J1,V1,K1,d1,d1.symm,d2,d2.symm,d3,d3.symm]) (by simp[J1,V1,K1,d1,d1.symm,d2,d2.symm,d3,d3.symm]) (by simp[J1,V1,K1,d1,d1.symm,d2,d2.symm,d3,d3.symm])) (by simp[J1,V1,K1,d1,d1.symm,d2,d2.symm,d3,d3.symm]) (by simp[J1,V1,K1,d1,d1.symm,d2,d2.symm,d3,d3.symm]<;>rfl) ?_; refine A3 4000 ?_; simp[J1,V1,K1,d1,d1.symm,d2,d2.symm,d3,d3.symm]);refine A3 4000 ?_;simp[J1,V1,K1,d1,d1.symm,d2,d2.symm,d3,d3.symm];(refine yC rfl (t3 _) ?_; simp[J1,V1,K1,d1,d1.symm,d2,d2.symm,d3,d3.symm]);refine yE hR [(id,E.n0+19456)] (by simp[J1,V1,K1,d1,d1.symm,d2,d2.symm,d3,d3.symm,I5 hid]) λhrn=>⟨?_,?_,?_,?_,?_,?_⟩<;>(try simp[J1,V1,K1,d1,d1.symm,d2,d2.symm,d3,d3.symm,I5 hid])
def C9b(z:List UInt8)(J id:Nat):A2 prog 173 [.ptr J 0 0] [(J,bS z [91,110,117,108,108,44,34,113,92,34,92,117,48,48,48,49,92,110,34,93,125])] id (.agg [.int .i64 4,.int .i64 0,.str [],.nils,.sl [.agg [.int .i64 1,.int .i64 0,.str [],.nils,.nils],.agg [.int .i64 3,.int .i64 0,.str [113,34,1,10],.nils,.nils]]]) [(J,some (bS z [125]))]:=by
 have t1:=λid=>A1B (s:=[91,110,117,108,108,44,34,113,92,34,92,117,48,48,48,49,92,110,34,93,125]) (w:=[110,117,108,108]) (u:=[91,110,117,108,108,44,34,113,92,34,92,117,48,48,48,49,92,110,34,93,125]) (b:=false) d_ d_ z J id;have t2:=λid=>C7R (s:=[91,110,117,108,108,44,34,113,92,34,92,117,48,48,48,49,92,110,34,93,125]) (w:=[34]) (b:=false) d_ id;have t3:=λid=>A1B (s:=[91,110,117,108,108,44,34,113,92,34,92,117,48,48,48,49,92,110,34,93,125]) (w:=[91]) (u:=[110,117,108,108,44,34,113,92,34,92,117,48,48,48,49,92,110,34,93,125]) (b:=true) d_ d_ z J id;have hs:=λV K id e1 e2 e3=>C8y z J V K id e1 e2 e3;simp only[A09,A65,A66,A67,A68] at *;refine w173.e.1 λE hP hR hl hid=>?_;simp[w173];have hJ:=hl (J,_) (za ..);simp only at hJ;have J1:=lf hJ;(refine yC rfl (t1 _) ?_; simp[J1]);(refine yC rfl (t2 _) ?_; simp[J1]);(refine yC rfl (t3 _) ?_; simp[J1]);(refine yC rfl (hs E.n0 (E.n0+2048) _ (t_ J1) (t_ J1) s_) ?_; simp[J1]);have hrn:F7 []:=by simp[J1,I5 hid]
 rw[hR];refine J0 f_ (by simp[J1,I5 hid]<;>exact⟨rfl,rfl⟩) [] hrn ⟨?_,?_,?_,?_,?_,?_⟩<;>(try simp[J1,I5 hid]);exact A4 _ rfl
def doM(z:List UInt8)(J V K id:Nat)(d1:J≠V)(d2:J≠K)(d3:V≠K):A2 prog 244 [.ptr K 0 0,.ptr V 0 0] [(J,bS z [34,97,34,58,91,110,117,108,108,44,34,113,92,34,92,117,48,48,48,49,92,110,34,93,125]),(V,pB J),(K,kBj 5 .nils .nils)] id (.tup []) [(J,some (bS z [125])),(K,some (kBj 5 (.bsl id 0 1) (.bsl (id+1) 0 1))),(id,some (sBj [.str [97]])),(id+1,some (lBj [.agg [.int .i64 4,.int .i64 0,.str [],.nils,.sl [.agg [.int .i64 1,.int .i64 0,.str [],.nils,.nils],.agg [.int .i64 3,.int .i64 0,.str [113,34,1,10],.nils,.nils]]]]))]:=by
 have ht:=λid=>C8w z J id;have hn:=λid=>B7u (s:=[58,91,110,117,108,108,44,34,113,92,34,92,117,48,48,48,49,92,110,34,93,125]) (w:=[58]) (u:=[91,110,117,108,108,44,34,113,92,34,92,117,48,48,48,49,92,110,34,93,125]) d_ d_ z J id;have ho:=λid=>C9b z J id;simp only[A09,A65,A66,A67,A68] at *;refine w244.e.1 λE hP hR hl hid=>?_;simp[w244];have hJ:=hl (J,_) (za ..);simp only at hJ;have J1:=lf hJ;have hV:=hl (V,_) (zb _ (za ..));simp only at hV;have V1:=lf hV;have hK:=hl (K,_) (zb _ (zb _ (za ..)));simp only at hK;have K1:=lf hK;simp[J1,V1,K1,d1,d1.symm,d2,d2.symm,d3,d3.symm];(refine yC rfl (ht _) ?_; simp[J1,V1,K1,d1,d1.symm,d2,d2.symm,d3,d3.symm]);(refine yC rfl (hn _) ?_; simp[J1,V1,K1,d1,d1.symm,d2,d2.symm,d3,d3.symm]);(refine yC rfl (ho _) ?_; simp[J1,V1,K1,d1,d1.symm,d2,d2.symm,d3,d3.symm]);refine yE hR [(id,E.n0+5120),(id+1,E.n0+16384)] (by simp[J1,V1,K1,d1,d1.symm,d2,d2.symm,d3,d3.symm,ne1 hJ.2,ne1 hV.2,ne1 hK.2,C5M hid,I5 hid]) λhrn=>⟨?_,?_,?_,?_,?_,?_⟩<;>(try simp[J1,V1,K1,d1,d1.symm,d2,d2.symm,d3,d3.symm,ne1 hJ.2,ne1 hV.2,ne1 hK.2,C5M hid,I5 hid]);all_goals first|exact A4 _ rfl|exact⟨A4 _ rfl,A4 _ rfl⟩
def C8z(z:List UInt8)(J V K id:Nat)(d1:J≠V)(d2:J≠K)(d3:V≠K):A2 prog 242 [.ptr J 0 0,.str [125],.fn 244 [.ptr K 0 0,.ptr V 0 0]] [(J,bS z [34,97,34,58,91,110,117,108,108,44,34,113,92,34,92,117,48,48,48,49,92,110,34,93,125]),(V,pB J),(K,kBj 5 .nils .nils)] id (.tup []) [(J,some (bS z [])),(K,some (kBj 5 (.bsl id 0 1) (.bsl (id+1) 0 1))),(id,some (sBj [.str [97]])),(id+1,some (lBj [.agg [.int .i64 4,.int .i64 0,.str [],.nils,.sl [.agg [.int .i64 1,.int .i64 0,.str [],.nils,.nils],.agg [.int .i64 3,.int .i64 0,.str [113,34,1,10],.nils,.nils]]]]))]:=by
 have t1:=λid=>A1B (s:=[34,97,34,58,91,110,117,108,108,44,34,113,92,34,92,117,48,48,48,49,92,110,34,93,125]) (w:=[125]) (u:=[34,97,34,58,91,110,117,108,108,44,34,113,92,34,92,117,48,48,48,49,92,110,34,93,125]) (b:=false) d_ d_ z J id;have t2:=λid=>A1B (s:=[125]) (w:=[125]) (u:=[]) (b:=true) d_ d_ z J id;have ha:=λid=>doM z J V K id d1 d2 d3;simp only[A09,A65,A66,A67,A68] at *;refine w242.e.1 λE hP hR hl hid=>?_;simp[w242];have hJ:=hl (J,_) (za ..);simp only at hJ;have J1:=lf hJ;have hV:=hl (V,_) (zb _ (za ..));simp only at hV;have V1:=lf hV;have hK:=hl (K,_) (zb _ (zb _ (za ..)));simp only at hK;have K1:=lf hK;refine A64 2 ?_;simp only[Rnd];refine A3 4000 ?_;simp[J1,V1,K1,d1,d1.symm,d2,d2.symm,d3,d3.symm];(refine yC rfl (t1 _) ?_; simp[J1,V1,K1,d1,d1.symm,d2,d2.symm,d3,d3.symm]);(refine E8 hP (by simp<;>exact⟨rfl,rfl⟩) rfl (ha _) (by simp[yv,J1,V1,K1,d1,d1.symm,d2,d2.symm,d3,d3.symm]) (by simp[yv,J1,V1,K1,d1,d1.symm,d2,d2.symm,d3,d3.symm]<;>rfl) ?_; refine A3 4000 ?_; simp[yv,J1,V1,K1,d1,d1.symm,d2,d2.symm,d3,d3.symm]);refine A3 4000 ?_;simp[J1,V1,K1,d1,d1.symm,d2,d2.symm,d3,d3.symm];(refine yC rfl (t2 _) ?_; simp[J1,V1,K1,d1,d1.symm,d2,d2.symm,d3,d3.symm]);refine yE hR [(id,E.n0+8192),(id+1,E.n0+8193)] (by simp[J1,V1,K1,d1,d1.symm,d2,d2.symm,d3,d3.symm,ne1 hJ.2,ne1 hV.2,ne1 hK.2,C5M hid,I5 hid]) λhrn=>⟨?_,?_,?_,?_,?_,?_⟩<;>(try simp[J1,V1,K1,d1,d1.symm,d2,d2.symm,d3,d3.symm,ne1 hJ.2,ne1 hV.2,ne1 hK.2,C5M hid,I5 hid]);all_goals first|exact A4 _ rfl|exact⟨A4 _ rfl,A4 _ rfl⟩
def C9c(z:List UInt8)(J id:Nat):A2 prog 173 [.ptr J 0 0] [(J,bS z [123,34,97,34,58,91,110,117,108,108,44,34,113,92,34,92,117,48,48,48,49,92,110,34,93,125])] id (.agg [.int .i64 5,.int .i64 0,.str [],.sl [.str [97]],.sl [.agg [.int .i64 4,.int .i64 0,.str [],.nils,.sl [.agg [.int .i64 1,.int .i64 0,.str [],.nils,.nils],.agg [.int .i64 3,.int .i64 0,.str [113,34,1,10],.nils,.nils]]]]]) [(J,some (bS z []))]:=by
 have t1:=λid=>A1B (s:=[123,34,97,34,58,91,110,117,108,108,44,34,113,92,34,92,117,48,48,48,49,92,110,34,93,125]) (w:=[110,117,108,108]) (u:=[123,34,97,34,58,91,110,117,108,108,44,34,113,92,34,92,117,48,48,48,49,92,110,34,93,125]) (b:=false) d_ d_ z J id;have t2:=λid=>C7R (s:=[123,34,97,34,58,91,110,117,108,108,44,34,113,92,34,92,117,48,48,48,49,92,110,34,93,125]) (w:=[34]) (b:=false) d_ id;have t3:=λid=>A1B (s:=[123,34,97,34,58,91,110,117,108,108,44,34,113,92,34,92,117,48,48,48,49,92,110,34,93,125]) (w:=[91]) (u:=[123,34,97,34,58,91,110,117,108,108,44,34,113,92,34,92,117,48,48,48,49,92,110,34,93,125]) (b:=false) d_ d_ z J id;have t4:=λid=>A1B (s:=[123,34,97,34,58,91,110,117,108,108,44,34,113,92,34,92,117,48,48,48,49,92,110,34,93,125]) (w:=[123]) (u:=[34,97,34,58,91,110,117,108,108,44,34,113,92,34,92,117,48,48,48,49,92,110,34,93,125]) (b:=true) d_ d_ z J id;have hs:=λV K id e1 e2 e3=>C8z z J V K id e1 e2 e3;simp only[A09,A65,A66,A67,A68] at *;refine w173.e.1 λE hP hR hl hid=>?_;simp[w173];have hJ:=hl (J,_) (za ..);simp only at hJ;have J1:=lf hJ;(refine yC rfl (t1 _) ?_; simp[J1]);(refine yC rfl (t2 _) ?_; simp[J1]);(refine yC rfl (t3 _) ?_; simp[J1]);(refine yC rfl (t4 _) ?_; simp[J1]);(refine yC rfl (hs E.n0 (E.n0+2048) _ (t_ J1) (t_ J1) s_) ?_; simp[yv,J1]);have hrn:F7 []:=by simp[J1,I5 hid]
 rw[hR];refine J0 f_ (by simp[J1,I5 hid]<;>exact⟨rfl,rfl⟩) [] hrn ⟨?_,?_,?_,?_,?_,?_⟩<;>(try simp[J1,I5 hid]);all_goals first|exact A4 _ rfl|exact⟨A4 _ rfl,A4 _ rfl⟩
def C90{x m y r:Code}(h:f103.body=some (.seq x (.seq m (.seq y r)))):C9 prog f103.ntmps x=B21/\C9 prog f103.ntmps (.seq y r) = .seq B22 (.seq B23 (.seq (.seq B24 (.cond (.t 15) B25 CC.skip)) (.seq B26 CC.ret))):=by
 have h0:=C6t;rw[h] at h0;simp only[vd,zd,C5c] at h0;obtain⟨_,_,e1,k1,h1⟩:=H2 h0;injection e1 with e1 e1'
 subst e1 e1';obtain⟨_,_,e2,_,h2⟩:=H2 h1;injection e2 with _ e2
 subst e2;exact⟨k1,h2⟩
def C5N{x m r:Code}(h:f103.body=some (.seq x (.seq m r))){Q:Exit->Act->World->Prop}{t:Array Value}{w:World}(hsz:5<t.size)
  (hQ:Q .normal ⟨t.setIfInBounds 5 (.func (.func 172) #[] #[t[2]?.getD undef,t[3]?.getD undef]),[⟨.fn (.func 172) #[t[2]?.getD undef,t[3]?.getD undef],#[]⟩]⟩ w):m.wp prog Q ⟨t,[]⟩ w:=by
 have e:f103.body=some (.seq _ (.seq _ _)):=rfl;rw[e] at h;injection h with h
 injection h with _ h
 injection h with h _
 subst h;refine wp_region ?_;have hmf:∀(fn:Fn) (first cap:Array Value) (w:World),(Instr.makeFunc fn first cap).run prog w = .ok (.func fn first cap) w:=λ_ _ _ _=>rfl;simp[wpOps,wpOp,go_sem,hmf,Exit.then,hsz];exact .inl (.inl hQ)
def C5O{C:Cx prog}{D:List Deferred}{G G':Gh}{w w':World}{bx:Nat->Option Bx}{n0 k id J4 J5:Nat}{F:Fr}{l:List (Nat×Option Bx)}{a:Act}{cs:List AV}{b:Bool}(own:∀i,n0<=i->bx i=none)(old:∀i,G.used i->i<n0)(hs:RS C G bx w)(hid:∀x,id<=x->x<id+1024->¬G.used x)
  (hD:F9 C f103.ntmps D n0 G w F (ov bx l) (· < n0+k) G' a w') (f4:F 2=some (true,.ptr J4 0 0)) (f5:F 3=some (true,.ptr J5 0 0)) (h4:ov bx l J4=some (bO (.agg cs))) (h5:ov bx l J5=some (bB b)) (hc:cs.length=5) (hp:F8 cs=true) (hl:∀q∈l,n0<=q.1) (d:J4≠J5) (j4:n0<=J4) (j5:n0<=J5) :
  ∃v,(results f103 a.tmps).run prog w' = .ok v w'/\∃G1,RS C G1 bx w'/\L4 G w G1 w'/\RV G1 w' (.tup [.agg cs,.bool b]) v/\∀x,G1.used x->G.used x\/(id<=x/\x<id+1024):=by
 let E:O8:=⟨prog,C,bx,f103.ntmps,n0,G,w,own,old,hs,D,λ_=>True,λ_ _=>False⟩
 have hD':Q5 E ⟨[(2,true,.ptr J4 0 0),(3,true,.ptr J5 0 0)],(J4,some (bO (.agg cs)))::(J5,some (bB b))::l,k⟩ G' a w':=by
  refine⟨hD.ev,?_,hD.used,hD.old,λn c v hl=>?_,hD.size,hD.defers⟩
  ·show RS C G' (ov bx _) w';simp only[ov];rw[Z5 (f:=ov bx l) h5,Z5 h4];exact hD.rs
  ·simp only[lk] at hl;repeat' split at hl
   all_goals first|cases hl|skip
   all_goals rename_i hn<;>subst hn
   ·exact hD.fr _ _ _ f4
   ·exact hD.fr _ _ _ f5
 have hh:K8 E.β []:=K8.nil;refine A6L (E:=E) (id:=id) (rd:=[]) (wr:=[]) (C6s) hh hid hD' ?_;simp only[C5d];have htk:cs.take 5=cs:=zm o_;refine F5 (by simp[bO,bB,d,yc d,hc,htk]<;>rfl) [] trivial (S9 s_ (t_ hp) ?_);exact I8.ofX λq hq=>by
  simp at hq;rcases hq with rfl|rfl|hq
  ·exact j4
  ·exact j5
  ·exact hl q hq
def C3M(v1 v2:Value)(w:World):CallsD prog 172 #[v1,v2] .returning w λe u' w'=>u' = .returning/\(∃v,e = .returned v)/\w'=w:=by
 refine callsD_of_wpS func172 rfl λc₀ cs hu=>?_;apply wpS_seq;apply wpS_region;simp[wpOpsS,go_sem,recoverD,hu,ntmps172,Exit.thenS];apply wpS_seq;apply wpS_region;simp[wpOpsS,go_sem,Exit.thenS];refine wpS_cond (t:=false) (by simp[Act.eval,Array.replicate]) ?_;simp only[xm,if_false];apply wpS_of_wp;refine wp_skip ?_;exact⟨rfl,_,by rw[←hu],_,by simp[results,results35]; rfl,rfl,⟨_,rfl⟩,rfl⟩
def C9d{s:List UInt8}{o:D8}(ho:∀J id,A2 prog 173 [.ptr J 0 0] [(J,bS s s)] id (eO o) [(J,some (bS s []))])(id:Nat):
  A2 prog 103 [.str s] [] id (.tup [eO o,.bool true]) []:=by
 obtain⟨ok,on,ot,oks,ols,hoe⟩:∃(a b:Int) (c:List UInt8) (d:List (List UInt8)) (e:List D8),eO o = .agg [.int .i64 a,.int .i64 b,.str c,.sl (d.map .str),.sl (e.map eO)]:=by
  cases o with|mk a b c d e=>exact⟨a,b,c,d,e,A0q a b c d e⟩
 rw[hoe] at ho ⊢;refine⟨⟨_,func103,d_,rfl⟩,λC G bx w vs nb hs hv hh hnb hid=>calls_of_wp_defers func103 rfl ?_⟩;obtain⟨k1,kr⟩:=C90 rfl;have own:∀i,max nb (id+1024)<=i->bx i=none:=λi hi=>by
  cases hbi:bx i with
  | none=>rfl
  | some b=>exact (hnb i o_ (hs.boxNames hbi).1).elim
 have old:∀i,G.used i->i<max nb (id+1024):=λi hi=>by
  rcases yd i nb with h|h
  ·omega
  ·exact (hnb i h hi).elim
 generalize max nb (id+1024)=n0 at own old;let E:O8:=⟨prog,C,bx,f103.ntmps,n0,G,w,own,old,hs,[],λ_=>False,λ_ _=>False⟩
 have hD:Q5 E ⟨A1g 0 [.str s],[],0⟩ G { tmps:=vs++Array.replicate (f103.ntmps - vs.size) undef,defers:=[] } w:=by
  refine⟨L4.refl G w,hs,λi hi=>by have:=old i hi; show i<n0+0; omega,λi _ hi=>hi,λn c v hl=>?_,?_,rfl⟩
  ·obtain⟨rfl,_,h3⟩:=A4C hl;simp only[ra] at h3;refine⟨λ_=>?_,λh=>by cases h⟩;have:=hv.2 n v h3;rw[zl] at this ⊢;rw[xu (by rw[←hv.1]; exact (ze.1 h3).1)];exact this
  ·have:=hv.1;simp[ntmps103] at this ⊢;show _=f103.ntmps;simp[ntmps103]; omega
 have hW:Wk E [.code B21,.post (λσ=>σ=⟨[(3,true,.ptr (n0+1024) 0 0),(2,true,.ptr n0 0 0),(0,true,.str s)],[(n0+1024,some (bB false)),(n0,some (bO zOut))],2048⟩)] ⟨A1g 0 [.str s],[],0⟩:=by
  refine A3 4000 ?_;simp[B21,E,bB,bO,zOut]
 refine wp_seq (wp_mono (hW _ k1 G _ w hD) λe a w1 hq=>?_);clear hW;cases e with
 | normal =>
  obtain⟨σ,G1,hD1,rfl⟩:=hq;obtain⟨at1,ad1⟩:=a;have hd0:ad1=[]:=hD1.defers;subst hd0;have hsz:5<at1.size:=by have:=hD1.size; simp only at this; rw[this]; show 5<f103.ntmps; simp[ntmps103]
  show (Code.seq _ _).wp _ _ _ _;refine wp_seq (C5N rfl hsz ?_);obtain⟨v4,hv4⟩:∃v4,at1[2]?.getD undef=v4:=⟨_,rfl⟩;obtain⟨v5,hv5⟩:∃v5,at1[3]?.getD undef=v5:=⟨_,rfl⟩;have g4:RV G1 w1 (.ptr n0 0 0) v4:=by
   have:=(hD1.fr 2 true _ rfl).1 rfl;rw[zl] at this;rw[←hv4]; exact this
  have g5:RV G1 w1 (.ptr (n0+1024) 0 0) v5:=by
   have:=(hD1.fr 3 true _ rfl).1 rfl;rw[zl] at this;rw[←hv5]; exact this
  rw[hv4,hv5];have own1:∀i,n0+2048<=i->ov bx [(n0+1024,some (bB false)),(n0,some (bO zOut))] i=none:=λi hi=>by
   simp only[ov,T6];rw[zf o_,zf o_];exact own i o_
  have hev:L4 G w G1 w1:=hD1.ev;have hrs:RS C G1 (ov bx [(n0+1024,some (bB false)),(n0,some (bO zOut))]) w1:=hD1.rs;have hus:∀i,G1.used i->i<n0+2048:=hD1.used;have hol:∀i,i<n0->G1.used i->G.used i:=hD1.old;let D:List Deferred:=[⟨.fn (.func 172) #[v4,v5],#[]⟩]
  let E3:O8:=⟨prog,C,ov bx [(n0+1024,some (bB false)),(n0,some (bO zOut))],f103.ntmps,n0+2048,G1,w1,own1,hus,hrs,D,
   λσ=>bk σ.bx n0=some (bO (.agg [.int .i64 ok,.int .i64 on,.str ot,.sl (oks.map .str),.sl (ols.map eO)]))/\bk σ.bx (n0+1024)=some (bB true)/\lk σ.fr 2=some (true,.ptr n0 0 0)/\lk σ.fr 3=some (true,.ptr (n0+1024) 0 0)/\∀x∈σ.bx,n0<=x.1,λ_ _=>False⟩
  have hN3:E3.n0=n0+2048:=rfl;have hP3:E3.P=prog:=rfl;have hRt:∀σ,E3.Rt σ=(bk σ.bx n0=some (bO (.agg [.int .i64 ok,.int .i64 on,.str ot,.sl (oks.map .str),.sl (ols.map eO)]))/\bk σ.bx (n0+1024)=some (bB true)/\lk σ.fr 2=some (true,.ptr n0 0 0)/\lk σ.fr 3=some (true,.ptr (n0+1024) 0 0)/\∀x∈σ.bx,n0<=x.1):=λ_=>rfl;have hD2:Q5 E3 ⟨[(3,true,.ptr (n0+1024) 0 0),(2,true,.ptr n0 0 0),(0,true,.str s)],[(n0+1024,some (bB false)),(n0,some (bO zOut))],0⟩ G1 ⟨at1.setIfInBounds 5 (.func (.func 172) #[] #[v4,v5]),D⟩ w1:=by
   refine⟨L4.refl G1 w1,?_,λi hi=>by have:=hus i hi; show i<n0+2048+0; omega,λi _ hi=>hi,λn c v hl=>?_,?_,rfl⟩
   ·show RS C G1 (ov (ov bx _) _) w1;simp only[ov];rw[Z5 (f:=T6 (T6 bx n0 _) (n0+1024) _) (i:=n0) (by simp[T6]),Z5 (i:=n0+1024) (by simp[T6])];exact hrs
   ·have:=hD1.fr n c v hl;have hn:n≠5:=λh=>by subst h; simp at hl
    simp only[zl] at this ⊢;rw[wz (yc hn)];exact this
   ·have:=hD1.size;simp only[ua];exact this
  have hinv:∀w3,(invoke (.fn (.func 172) #[v4,v5]) #[]).run prog w3 = .ok (.enter 172 #[v4,v5]) w3:=λw3=>by simp[go_sem]
  have fin:∀{F:Fr} {l:List (Nat×Option Bx)} {k:Nat} {G3:Gh} {a3:Act} {w3:World} {cs:List AV} {b:Bool},F9 C f103.ntmps D (n0+2048) G1 w1 F (ov (ov bx [(n0+1024,some (bB false)),(n0,some (bO zOut))]) l) (· < n0+k) G3 a3 w3 ->
    F 2=some (true,.ptr n0 0 0)->F 3=some (true,.ptr (n0+1024) 0 0)->bk l n0=some (bO (.agg cs))->bk l (n0+1024)=some (bB b)->cs.length=5->F8 cs=true->(∀x∈l,n0<=x.1) ->
    ∃v,(results f103 a3.tmps).run prog w3 = .ok v w3/\∃G1,RS C G1 bx w3/\L4 G w G1 w3/\RV G1 w3 (.tup [.agg cs,.bool b]) v/\∀x,G1.used x->G.used x\/(id<=x/\x<id+1024):=λ{F l k G3 a3 w3 cs b} h f4 f5 b4 b5 hc hp hl=>by
   have h':=h.rebase (n0:=n0) o_ hev hol;have e4:=P5 (ov bx [(n0+1024,some (bB false)),(n0,some (bO zOut))]) b4;have e5:=P5 (ov bx [(n0+1024,some (bB false)),(n0,some (bO zOut))]) b5;rw[←V3] at h' e4 e5;exact C5O own old hs hid h' f4 f5 e4 e5 hc hp (λx hx=>by
    rcases zr.1 hx with hx|hx
    ·exact hl x hx
    ·simp at hx;rcases hx with rfl|rfl<;>simp) o_ o_ o_
  have hW3:Wk E3 [.code (.seq B22 (.seq B23 (.seq (.seq B24 (.cond (.t 15) B25 CC.skip)) (.seq B26 CC.ret))))] ⟨[(3,true,.ptr (n0+1024) 0 0),(2,true,.ptr n0 0 0),(0,true,.str s)],[(n0+1024,some (bB false)),(n0,some (bO zOut))],0⟩:=by
   clear k1 kr hD hD1 hD2 fin;refine A3 4000 ?_;simp[yv,B22,B23,B24,B25,B26,hN3,bS,bO,bB,zOut];refine E5 hP3 rfl (ho _ _) s_ (by simp[bS]<;>rfl) ?_;refine A3 4000 ?_;simp[yv,hN3,hRt,bS,bO,bB,zOut]
  have ends:∀{R:Ending->World->Prop} {σ:St} {G3:Gh} {a3:Act} {w3:World},(∀v G4 w4,RS C G4 bx w4->L4 G w G4 w4->RV G4 w4 (.tup [.agg [.int .i64 ok,.int .i64 on,.str ot,.sl (oks.map .str),.sl (ols.map eO)],.bool true]) v->(∀x,G4.used x->G.used x\/(id<=x/\x<id+1024))->R (.returned v) w4)->Q5 E3 σ G3 a3 w3->E3.Rt σ->Leaves prog f103 a3.tmps R a3.defers .returning w3:=λ{R σ G3 a3 w3} hR h1 h2=>by
   obtain⟨b4,b5,f4,f5,hl⟩:=h2;rw[show a3.defers=D from h1.defers];refine leaves_cons s_ (hinv w3) ((C3M v4 v5 w3).mono ?_);rintro e u' w' ⟨rfl,⟨v,rfl⟩,rfl⟩;obtain⟨v,r1,G4,r2,r3,r4,r5⟩:=fin (h1.weak (U':=λx=>x<n0+(2048+σ.k)) (λx hx=>by have:x<n0+2048+σ.k:=hx; omega)) f4 f5 b4 b5 rfl s_ hl;exact⟨v,r1,hR v G4 w' r2 r3 r4 r5⟩
  have hR1:∀v G4 w4,RS C G4 bx w4->L4 G w G4 w4->RV G4 w4 (.tup [.agg [.int .i64 ok,.int .i64 on,.str ot,.sl (oks.map .str),.sl (ols.map eO)],.bool true]) v->(∀x,G4.used x->G.used x\/(id<=x/\x<id+1024)) ->
    ∃v' G',Ending.returned v = .returned v'/\RS C G' (F6 bx []) w4/\L4 G w G' w4/\RV G' w4 (.tup [.agg [.int .i64 ok,.int .i64 on,.str ot,.sl (oks.map .str),.sl (ols.map eO)],.bool true]) v'/\∀x,G'.used x->G.used x\/(id<=x/\x<id+1024):=λv G4 w4 r1 r2 r3 r4=>⟨v,G4,rfl,r1,r2,r3,r4⟩
  show (Code.seq _ _).wp _ _ _ _;refine wp_mono (hW3 _ kr G1 _ w1 hD2) λe a3 w3 hq=>?_;cases e with
  | ret=>obtain⟨σ,G3,h1,h2⟩:=hq; exact ends hR1 h1 h2
  | normal=>obtain⟨σ,G3,h1,h2⟩:=hq; exact ends hR1 h1 h2
  | exit id=>obtain⟨_,_,_,h2⟩:=hq; exact h2.elim
  | panic chain =>
   obtain⟨pv,u,σ,F,B,U,G',rfl,h1,h2,h3,h4⟩:=hq;exact h4.elim
  | _=>exact hq.elim
 | ret=>obtain⟨_,_,_,h2⟩:=hq; exact h2.elim
 | exit id=>obtain⟨_,_,_,h2⟩:=hq; exact h2.elim
 | panic chain =>
  obtain⟨pv,u,σ,F,B,U,G',rfl,h1,h2,h3,h4⟩:=hq;exact h4.elim
 | _=>exact hq.elim
def outJ:D8:=W5 [[97]] [N7 [Y5,Y6 [113,34,1,10]]]
def B4q:List UInt8:=[123,34,97,34,58,91,110,117,108,108,44,34,113,92,34,92,117,48,48,48,49,92,110,34,93,125]
def C3N:A5u outJ=0:=by decide
def C5t:okO outJ:=by simp[outJ,W5,N7,Y5,Y6,okO,B66]
def C9e:jS outJ=B4q:=by decide
theorem C91:eO outJ = .agg [.int .i64 5,.int .i64 0,.str [],.sl [.str [97]],.sl [.agg [.int .i64 4,.int .i64 0,.str [],.sl [],.sl [.agg [.int .i64 1,.int .i64 0,.str [],.sl [],.sl []],.agg [.int .i64 3,.int .i64 0,.str [113,34,1,10],.sl [],.sl []]]]]]:=rfl
def Rd.own{L:List (Nat×Bx)}{id n:Nat}{b:Bx}(hb:(id,b)∈L)(hn:b.xs.length=n):Rd L (.bsl id 0 n) (.sl b.xs) :=
 .bsl id 0 n b b.xs hb o_ hn (λi x y hx hy=>by rw[yy,hy] at hx; injection hx with hx; rw[hx]) (λi x y j c d hx hy hc hd=>by rw[yy,hy] at hx; injection hx with hx; subst hx; rw[hc] at hd; injection hd with hd; rw[hd]; exact .same _)
def C7S(id:Nat):A2 prog 45 [.str B4q] [] id (.tup [eO outJ,.int .i64 0]) []:=by
 have hPr:=λid=>C9d (s:=B4q) (o:=outJ) (λJ id=>A2.nrm (C9c B4q J id)) id;have hC:=λid=>A6t outJ id d_ C5t;rw[C91] at *;rw[C3N] at hC;unfold B4q at *;refine w45.e.1 λE hP hR hl hid=>?_;simp[w45];(refine yH rfl (hPr _) ?_; simp);(refine yH rfl (hC _) ?_; simp);exact yP hR
def B2i(id:Nat):A2 prog 13 [] [] id (.bool true) []:=by
 have hPr:∀id,A2 prog 22 [.agg [.int .i64 5,.int .i64 0,.str [],.sl [.str [97]],.sl [.agg [.int .i64 4,.int .i64 0,.str [],.nils,.sl [.agg [.int .i64 1,.int .i64 0,.str [],.nils,.nils],.agg [.int .i64 3,.int .i64 0,.str [113,34,1,10],.nils,.nils]]]]]] [] id (.tup [.str B4q,.int .i64 0]) []:=λid=>by
  have:=A6w outJ id d_ C5t;rw[show A2E outJ=B4q by unfold A2E; rw[zj C3N,C9e],C3N] at this;exact A2.nrmA this
 have hRd:=λid=>C7S id;rw[C91] at hRd;have hS:∀id,A2 prog 25 [.agg [.int .i64 5,.int .i64 0,.str [],.sl [.str [97]],.sl [.agg [.int .i64 4,.int .i64 0,.str [],.sl [],.sl [.agg [.int .i64 1,.int .i64 0,.str [],.sl [],.sl []],.agg [.int .i64 3,.int .i64 0,.str [113,34,1,10],.sl [],.sl []]]]]],.agg [.int .i64 5,.int .i64 0,.str [],.sl [.str [97]],.sl [.agg [.int .i64 4,.int .i64 0,.str [],.nils,.sl [.agg [.int .i64 1,.int .i64 0,.str [],.nils,.nils],.agg [.int .i64 3,.int .i64 0,.str [113,34,1,10],.nils,.nils]]]]]] [] id (.bool true) []:=λid=>by
  have:=B7q (outJ.sz+1) outJ outJ id (xx _) d_;rw[se rfl] at this;exact A2.nrmA this
 unfold B4q at hPr hRd;refine A4p w13.hf w13.hc w13.hn w13.hr (by simp[ntmps13]) λE hP hR hl hid=>?_;refine A3 51 ?_;simp[w13];refine A6J (D9.deepBox (E.n0+8192) [(E.n0+6144,⟨[.agg [.int .i64 4,.int .i64 0,.str [],.nils,.sl [.agg [.int .i64 1,.int .i64 0,.str [],.nils,.nils],.agg [.int .i64 3,.int .i64 0,.str [113,34,1,10],.nils,.nils]]]],.agg [.int .i64 0,.int .i64 0,.str [],.nils,.nils],false,false⟩),(E.n0+1024,⟨[.str [97]],.str [],false,false⟩)] [] (x:=.agg [.int .i64 5,.int .i64 0,.str [],.bsl (E.n0+1024) 0 1,.bsl (E.n0+6144) 0 1]) (y:=.agg [.int .i64 5,.int .i64 0,.str [],.sl [.str [97]],.sl [.agg [.int .i64 4,.int .i64 0,.str [],.nils,.sl [.agg [.int .i64 1,.int .i64 0,.str [],.nils,.nils],.agg [.int .i64 3,.int .i64 0,.str [113,34,1,10],.nils,.nils]]]]]) (by simp; rfl) rfl rfl (λm c d h1 h2=>?_) (λq hq=>?_) ⟨λy b hb=>?_,λq hq=>?_⟩ (λq hq=>?_)) ?_
 ·match m,h1,h2 with
  | 0,h1,h2|1,h1,h2|2,h1,h2=>simp at h1 h2; rw[←h1,←h2]; exact .same _
  | 3,h1,h2=>simp at h1 h2; rw[←h1,←h2]; exact Rd.own (b:=⟨[.str [97]],.str [],false,false⟩) s_ rfl
  | 4,h1,h2=>simp at h1 h2; rw[←h1,←h2]; exact Rd.own (b:=⟨[.agg [.int .i64 4,.int .i64 0,.str [],.nils,.sl [.agg [.int .i64 1,.int .i64 0,.str [],.nils,.nils],.agg [.int .i64 3,.int .i64 0,.str [113,34,1,10],.nils,.nils]]]],.agg [.int .i64 0,.int .i64 0,.str [],.nils,.nils],false,false⟩) s_ rfl
  | m+5,h1,h2=>simp at h1
 ·simp at hq;rcases hq with rfl|rfl<;>simp
 ·cases hb
 ·simp at hq;rcases hq with h|h|h|h|h|h<;>subst h<;>simp
 ·simp at hq;rcases hq with rfl|rfl<;>simp
 refine A3 4000 ?_;simp;(refine yH rfl (hPr _) ?_; simp);(refine yH rfl (hRd _) ?_; simp);(refine yG rfl (hS _) ?_; simp);exact yP hR
def alW:List C5:=[.mk [112] [109,97,107,101] [⟨[116,121,112,101],true,[65],0⟩,⟨[105,100],false,[],9⟩] [],.mk [] [115,101,116] [⟨[105,100],false,[],9⟩,⟨[116,121,112,101],true,[65],0⟩,⟨[102,105,101,108,100],true,[116],0⟩,⟨[116,101,120,116],true,[110,101,119],0⟩] []]
def B4r(l:List Ev)(id:Nat)(h:l.length<=1000000000000000):A2 prog 19 [.sl (l.map S1),.sl (l.map S1)] [] id (.bool true) []:=by
 have:=A9g l l id o_
 rwa [(A6P A8V).2 rfl] at this
def A4U(n t:List UInt8)(id:Nat):A2 prog 96 [.str n,.str t] [] id (.agg [.str n,.bool true,.str t,.int .i64 0]) []:=by
 refine w96.e.1 λE hP hR hl hid=>?_;simp[w96];exact yP hR
def B9i(id:Nat):A2 prog 38 [] [] id (.sl [.agg [.str [112],.str [109,97,107,101],.sl [.agg [.str [116,121,112,101],.bool true,.str [65],.int .i64 0],.agg [.str [105,100],.bool false,.str [],.int .i64 9]],.nils],.agg [.str [],.str [115,101,116],.sl [.agg [.str [105,100],.bool false,.str [],.int .i64 9],.agg [.str [116,121,112,101],.bool true,.str [65],.int .i64 0],.agg [.str [102,105,101,108,100],.bool true,.str [116],.int .i64 0],.agg [.str [116,101,120,116],.bool true,.str [110,101,119],.int .i64 0]],.nils]]) []:=by
 refine w38.e.1 λE hP hR hl hid=>?_;simp[w38];refine E8 hP rfl rfl (A4U _ _ _) s_ f_ ?_;refine A3 4000 ?_;simp;refine E8 hP rfl rfl (A4U _ _ _) s_ f_ ?_;refine A3 4000 ?_;simp;refine E8 hP rfl rfl (A4U _ _ _) s_ f_ ?_;refine A3 4000 ?_;simp;refine E8 hP rfl rfl (A4U _ _ _) s_ f_ ?_;refine A3 4000 ?_;simp;have hrn:F7 []:=by simp[I5 hid]
 rw[hR];refine J0 f_ (by simp[I5 hid]<;>exact⟨rfl,rfl⟩) [] hrn ⟨?_,?_,?_,?_,?_,?_⟩<;>(try simp[I5 hid]);exact A4 _ rfl
def C3O(id:Nat):A2 prog 38 [] [] id (.sl (alW.map C6)) []:=(B9i id).nrm
def A7X:Ev:=⟨1,0,9,0,0,[]⟩
def A7Y:Ev:=⟨4,0,9,1,0,[110,101,119]⟩
def B9j:H6:=⟨tyW,[⟨0,3,[⟨5,[],[]⟩,⟨0,[120],[]⟩,⟨0,[],[1]⟩,⟨0,[],[3,4]⟩]⟩,⟨0,4,[cl0,cl0,cl0,cl0]⟩,⟨0,9,[cl0,cl0,cl0,cl0]⟩,⟨1,1,[⟨-1,[],[]⟩]⟩]⟩
def stM2:H6:=⟨tyW,[⟨0,3,[⟨5,[],[]⟩,⟨0,[120],[]⟩,⟨0,[],[1]⟩,⟨0,[],[3,4]⟩]⟩,⟨0,4,[cl0,cl0,cl0,cl0]⟩,⟨0,9,[cl0,⟨0,[110,101,119],[]⟩,cl0,cl0]⟩,⟨1,1,[⟨-1,[],[]⟩]⟩]⟩
def C9f:J6 alW=0:=by decide
def C92:ofE tyW alW=0:=by decide
def C3P{a b:Ev}(h1:a.kind=b.kind)(h2:a.type=b.type)(h3:a.id=b.id)(h4:a.field=b.field)(h5:a.n=b.n)(h6:a.text=b.text):a=b:=by
 cases a; cases b; simp_all
def B6K:I2 tyW alW=[A7X,A7Y]:=by
 show [mkX tyW _,mkX tyW _]=_;rw[C3P (a:=mkX tyW (.mk [112] [109,97,107,101] _ _)) (b:=A7X) d_ d_ d_ d_ d_ d_,C3P (a:=mkX tyW (.mk [] [115,101,116] _ _)) (b:=A7Y) d_ d_ d_ d_ d_ d_]
def C7T:A14 stW A7X=0:=by simp[A7X,stW,tyW,cl0,A14,n9,W7,doE,A31,I4,F2,C3,bs,J7,A0Z,w0,D5]
def C5P:A1i stW A7X=B9j:=by simp[A7X,stW,B9j,tyW,cl0,A1i,I4,C3,bs,J7,A0Z,w0,D5,List.replicate_succ]
def C7U:A14 B9j A7Y=0:=by simp[A7Y,B9j,tyW,cl0,A14,n9,W7,doE,A31,I4,F2,C3,bs,J7,A0Z,w0,chE,A3n,B1p,D5,L9,X2]
def C5Q:A1i B9j A7Y=stM2:=by simp[A7Y,B9j,stM2,tyW,cl0,A1i,I4,C3,bs,J7,A0Z,w0,A3n,B1p,D5,x8,A6g]
def C5u:cvE stW alW=0:=by
 have h:rdE stW alW=0:=by unfold rdE; rw[zf (by rw[C8m]; decide)]; exact C9f
 unfold cvE;rw[zf (by rw[h]; decide)];exact C92
def C3Q:V0 stW [A7X,A7Y]=0/\Z4 stW [A7X,A7Y]=stM2:=by
 simp only[V0,Z4,C7T,C5P,C7U,C5Q];simp
def A9Y(id:Nat):A2 prog 10 [] [] id (.bool true) []:=by
 have hW:=λid=>B4l id;have hA:=λid=>C3O id;have hE:=λid=>B0p stW alW id d_;have hD:=λid=>B5p stW alW id (by unfold B90 I64 stW cl0; simp) d_;have hS:=λid=>B4r [A7X,A7Y] id s_;have h0:cdE stW alW=0:=by unfold cdE; rw[zf (by rw[C5u]; decide),show stW.types=tyW from rfl,B6K]; exact C3Q.1
 rw[C5u,show stW.types=tyW from rfl,B6K] at hE;rw[h0,show stW.types=tyW from rfl,B6K,C3Q.2] at hD;rw[show evV 0 [A7X,A7Y] = .sl ([A7X,A7Y].map S1) from rfl] at hE hD;rw[y9,zj rfl] at hD;simp only[yg,uc,S1,A7X,A7Y] at hE hD hS;have hln:(stM2.things.map Q9).length=4:=rfl;unfold H4 at *;have hpT:F8 (stM2.things.map Q9)=true:=B3m _;generalize stM2.things.map Q9=TG at *;refine w10.e.1 λE hP hR hl hid=>?_;simp[w10];(refine yH rfl (hW _) ?_; simp);(refine yH rfl (hA _) ?_; simp);(refine yH rfl (hE _) ?_; simp);(refine yH rfl (hW _) ?_; simp);(refine yH rfl (hA _) ?_; simp);(refine yH rfl (hD _) ?_; simp);refine A11 (.bool true) s_ (λ_=>?_) (λhg=>by simp at hg);(refine yR rfl (hS _) ?_; simp);(refine H5 hP (t_ hln) rfl (λhc=>⟨hS _,by revert hc; simp[hln]; try grind,t_ hln⟩) ?_; refine A3 4000 ?_; simp[hln]);exact yP hR
def Rt.sz{s:H6}(h:Rt s):s.types.length<=1000000/\(∀t∈s.types,t.fields.length<=1000000)/\s.things.length<=1000000/\∀t∈s.things,t.cells.length<=1000000/\∀c∈t.cells,c.ids.length<=1000000:=by
 refine⟨by have:=h.r.sch.len; omega,λt ht=>by have:=h.r.sch.fields t ht; omega,by have:=h.r.len; omega,λt ht=>⟨by have:=(h.r.tg t ht).cells6 h.r.sch; omega,λc hc=>?_⟩⟩;obtain⟨k,hk⟩:=yi.1 hc;obtain⟨f,_,hco⟩:=(h.r.tg t ht).cellOk hk;have:=hco.i1; omega
def B9k{s:H6}(h:Rt s)(id:Nat):A2 prog 18 [H4 s,H4 s] [] id (.bool true) []:=by
 obtain⟨a,b,c,d⟩:=h.sz;have:=B2a s s id a b c d;simpa using this
def C5R{l:List Ty}{d:Dk}{n:Int}{text:List UInt8}(h:(u6 l d n text).e=0)(hn:(F1 d.seg).any (λb=>b.number==n)=false):
  ∃q,A1a text = .ok q/\cdE (opS l d) q=0/\F1 (u6 l d n text).d.seg=F1 d.seg++[⟨n,I2 (opS l d).types q⟩]/\opS l (u6 l d n text).d=Z4 (opS l d) (I2 (opS l d).types q):=by
 have hc:u6 l d n text=if opE l d≠0 then ⟨⟨[],0⟩,opE l d⟩ else if ¬(1<=n/\n<=65535) then ⟨⟨[],0⟩,3⟩ else if (F1 d.seg).any (λb=>b.number==n)=true then ⟨⟨(whole d.seg).seg,(whole d.seg).syn⟩,0⟩ else A9W (opS l d) (F1 d.seg) d n text:=rfl
 rw[hc] at h ⊢;by_cases h0:opE l d=0
 rotate_left
 ·rw[zj h0] at h; exact absurd h h0
 rw[zf (v_ h0)] at h ⊢;by_cases h1:1<=n/\n<=65535
 rotate_left
 ·rw[zj h1] at h; cases h
 rw[zf (v_ h1)] at h ⊢;have ho:=z7.1 h0;have g:=B1e ho.disk;obtain⟨w1,w2,w3,w4,w5,w6⟩:=A8e g;rw[zf (by rw[hn]; decide)] at h ⊢;unfold A9W at h ⊢;cases hq:A1a text with
 | error e=>rw[hq] at h; exact absurd h (A62 hq)
 | ok q =>
  rw[hq] at h;simp only at h ⊢;by_cases h3:cdE (opS l d) q=0
  rotate_left
  ·rw[zj h3] at h; exact absurd h h3
  rw[zf (v_ h3)] at h ⊢;by_cases h4:(F1 d.seg).length=20
  ·rw[zj h4] at h; cases h
  rw[zf h4] at h ⊢;by_cases h5:(H3 ⟨(whole d.seg).seg,(whole d.seg).syn⟩ ⟨n,I2 (opS l d).types q⟩).e=0
  rotate_left
  ·rw[zj h5] at h; exact absurd h h5
  rw[zf (v_ h5)] at h ⊢;obtain⟨a1,a2,a3,a4,_⟩:=A7O w1 w2 h5;rw[B12 h];have hall:F1 (H3 ⟨(whole d.seg).seg,(whole d.seg).syn⟩ ⟨n,I2 (opS l d).types q⟩).d.seg=F1 d.seg++[⟨n,I2 (opS l d).types q⟩]:=by rw[a3,w3]
  refine⟨q,rfl,h3,hall,?_⟩;show Z4 ⟨l,[]⟩ (P3 (F1 (H3 _ _).d.seg))=_;rw[hall,A9B,B4L,C28];rfl
def B2j(l:List Ty)(d:Dk)(text A2F:List UInt8)(n:Int)(id:Nat):A2 prog 3 [.sl (l.map I9),eDk d,.str text,.str A2F,.int .i64 n] [] id (.bool true) []:=by
 have hA:=λid=>B2b id;have hA2:=λid=>A9Y id;have hB:=λid=>B2d id;have hC:=λid=>A9p id;have hD:=λid=>B2i id;have hO:=λid=>A9R l d id;by_cases h:opE l d=0
 rotate_left
 ·rw[C58 h,A6k h] at hO;generalize opE l d=e at *;unfold eDk at *;refine w3.e.1 λE hP hR hl hid=>?_;simp[w3];(refine yH rfl (hA _) ?_; simp);(refine yG rfl (hA2 _) ?_; simp);(refine yG rfl (hC _) ?_; simp);(refine yG rfl (hB _) ?_; simp);(refine yG rfl (hD _) ?_; simp);(refine yH rfl (hO _) ?_; simp);refine A7 (v_ h) ?_;simp;exact yP hR
 have hCh:=λid=>A3A l d n text id;have hbs:=A5p (z7.1 h).disk;rw[h,show B2T 0 (F1 d.seg) = .sl ((F1 d.seg).map v7) from rfl,show A17 0 (opS l d)=H4 (opS l d) from rfl] at hO;have hgo:(u6 l d n text).e=0->(F1 d.seg).any (λb=>b.number==n)=false->∃(q:List C5) (ev:List Ev) (S:H6),Rt S/\ev.length<=1000000/\A1a text = .ok q/\cdE (opS l d) q=0/\I2 (opS l d).types q=ev/\Z4 (opS l d) ev=S/\F1 (u6 l d n text).d.seg=F1 d.seg++[⟨n,ev⟩]/\opS l (u6 l d n text).d=S/\opE l (u6 l d n text).d=0:=λh1 h2=>by
  obtain⟨q,q1,q2,q3,q4⟩:=C5R h1 h2;have c:=C7H h1;have hz:=C38 q1;refine⟨q,_,_,?_,?_,q1,q2,rfl,rfl,q3,q4,z7.2 c.now⟩
  ·rw[←q4]; exact (C33 (z7.2 c.now)).1
  ·have:=o9 q; simp[I2]; omega
 have hIs:=(C33 h).1.idsI;unfold H4 eDk at *;generalize hca:u6 l d n text=ca at *;by_cases e1:ca.e=0
 ·have z:ca=⟨ca.d,0⟩:=by cases ca; simp at e1 ⊢; exact e1
  rw[e1] at hCh;generalize hx:ca.d=x at *;have hOx:=λid=>A9R l x id;generalize hS0:opS l d=S0 at *;generalize hbs0:F1 d.seg=bs at *;refine w3.e.1 λE hP hR hl hid=>?_;simp[w3];(refine yH rfl (hA _) ?_; simp);(refine yG rfl (hA2 _) ?_; simp);(refine yG rfl (hC _) ?_; simp);(refine yG rfl (hB _) ?_; simp);(refine yG rfl (hD _) ?_; simp);(refine yH rfl (hO _) ?_; simp);refine B9 (X:=Nat) (λi=>⟨[(0,true,.sl (l.map I9)),(2,true,.str text),(3,true,.str A2F),(4,true,.int .i64 n),(6,true,.ptr (E.n0+1) 0 0),(11,true,.ptr E.n0 0 0),(12,true,.sl (bs.map v7)),(14,true,.int .i64 i)],[(E.n0,some ⟨[.agg [.sl (S0.types.map I9),.sl (S0.things.map Q9)]],.agg [.nils,.nils],false,false⟩),(E.n0+1,some ⟨[.agg [.sl (d.seg.map AV.str),.int .i64 d.syn]],.agg [.sl (d.seg.map AV.str),.int .i64 d.syn],false,false⟩)],2⟩)
   (λi=>i<=bs.length/\(bs.take i).any (λb=>b.number==n)=false) (λi=>bs.length - i) 0 ?_ ⟨o_,s_⟩ ?_
  ·exact yW [(E.n0,E.n0+27648),(E.n0+1,E.n0)] trivial
  rintro i ⟨hi,hf⟩ p hp;rcases yd i bs.length with hlt|hge
  ·obtain⟨b,hb,hd⟩:=A5 hlt;have hi1:IntKind.i64.wrap ((i:Int)+1)=((i+1:Nat):Int):=wrap64 o_;have hst:bs.take (i+1)=bs.take i++[b]:=(by rw[wi,hb]; rfl);have hli:bs[i]=b:=by
    rw[zc hlt] at hb;injection hb
   refine A3 4000 ?_;simp[hlt,hli,v7];refine D0 (λg=>?_) (λg=>?_)
   ·simp;exact yP hR
   ·simp[hi1];refine hp _ (i+1) ⟨o_,by rw[hst,List.any_append,hf]; simp[g]⟩ o_ ?_;exact yW [(E.n0,E.n0),(E.n0+1,E.n0+1)] trivial
  ·have hil:i=bs.length:=o_;subst hil;refine A3 4000 ?_;simp;(refine yH rfl (hCh _) ?_; simp);have hf:bs.any (λb=>b.number==n)=false:=(by rw[uh] at hf; exact hf);obtain⟨q,ev,S,hrt,hev,hq,hcd,hev1,hS,hbx,hox,hopx⟩:=hgo e1 hf;have hQ:=λid=>A2i text id;rw[hq] at hQ;have hQ:∀id,A2 prog 16 [.str text] [] id (.tup [.sl (q.map C6),.int .i64 0]) []:=hQ;have hDo:=λid=>B5p S0 q id hIs (by have:=C38 hq; omega);rw[hcd,hev1,hS,show A17 0 S = .agg [.sl (S.types.map I9),.sl (S.things.map Q9)] from rfl,show evV 0 ev = .sl (ev.map S1) from rfl] at hDo;unfold H4 at hDo;rw[hopx,hox,hbx,show B2T 0 (bs++[(⟨n,ev⟩:Bt)]) = .sl ((bs++[(⟨n,ev⟩:Bt)]).map v7) from rfl,show A17 0 S = .agg [.sl (S.types.map I9),.sl (S.things.map Q9)] from rfl] at hOx;unfold eDk at hOx;have hSS:=λid=>B9k hrt id;unfold H4 at hSS;have hEv:=λid=>B4r ev id o_;have hw1:IntKind.i64.wrap ((bs.length:Int)+1)=(bs.length:Int)+1:=wrap64 o_;have hcl:∀y,(∃a∈bs,v7 a=y)\/y=AV.agg [.int .i64 n,.sl (ev.map S1)]->y.cells.length=2:=λy hy=>by rcases hy with⟨a,_,rfl⟩|rfl<;>rfl
   have hK:=λid=>B2Y l x A2F ((F1 x.seg).length:Nat) id;have hQ2:=λid=>A2i A2F id;have hask:=λk=>C3A (text:=A2F) (q:=k) hopx (zx (F1 x.seg).length);have haske:=λe=>C57 (text:=A2F) (e:=e) hopx (zx (F1 x.seg).length);rw[C3B,hox] at hask;have hxl:(F1 x.seg).length=bs.length+1:=(by rw[hbx,zu]; rfl);have hcz:((bs.length+1:Nat):Int)=(bs.length:Int)+1:=o_;simp only[vf,yg,uc,v7] at hOx;unfold eDk at hK;cases hq2:A1a A2F with
   | error e =>
    rw[haske e hq2,hxl,hcz] at hK;rw[hq2] at hQ2;have hQ2:∀id,A2 prog 16 [.str A2F] [] id (.tup [.nils,.int .i64 e]) []:=hQ2;have hne:e≠0:=A62 hq2;(refine yH rfl (hQ _) ?_; simp);(refine yH rfl (hDo _) ?_; simp);(refine yH rfl (hOx _) ?_; simp);(refine H5 hP (t_ hw1) rfl (λhc=>⟨hSS _,by revert hc; simp[hw1]; try grind,t_ hw1⟩) ?_; refine A3 4000 ?_; simp[hw1]);(refine yG rfl (hEv _) ?_; simp);(refine yH rfl (hQ2 _) ?_; simp);(refine yH rfl (hK _) ?_; simp);refine A7 (v_ hne) ?_;simp;exact yP hR
   | ok k =>
    rw[hask k hq2,hxl,hcz] at hK;rw[hq2] at hQ2;have hQ2:∀id,A2 prog 16 [.str A2F] [] id (.tup [.sl (k.map C6),.int .i64 0]) []:=hQ2;have hX:=λid=>B4Q S k id (by have:=C38 hq2; omega);have hPr:=λh id=>C56 (s:=S) (q:=k) h id;generalize hf:S6 S k=f at *;obtain⟨xa,xb,xc,xk,xl,hxo⟩:=B9c S k;rw[hxo] at hX;simp only[hxo] at hPr;clear hxo;generalize jS (qO S k)=tx at *;unfold H4 at hX;(refine yH rfl (hQ _) ?_; simp);(refine yH rfl (hDo _) ?_; simp);(refine yH rfl (hOx _) ?_; simp);(refine H5 hP (t_ hw1) rfl (λhc=>⟨hSS _,by revert hc; simp[hw1]; try grind,t_ hw1⟩) ?_; refine A3 4000 ?_; simp[hw1]);(refine yG rfl (hEv _) ?_; simp);(refine yH rfl (hQ2 _) ?_; simp);(refine yH rfl (hK _) ?_; simp);(refine yH rfl (hX _) ?_; simp);refine D0 (λh2=>?_) (λh2=>?_)
    ·have h2:f≠0:=(v_ h2);simp[h2];exact yP hR
    ·have h2:f=0:=(v_ h2);simp[h2];(refine yC rfl (hPr h2 _) ?_; simp[h2]);exact yP hR
 ·have z:ca.d.seg=[]:=by rw[←hca] at e1 ⊢; exact C7K e1
  rw[z] at hCh;clear hgo;generalize opS l d=S0 at *;generalize F1 d.seg=bs at *;refine w3.e.1 λE hP hR hl hid=>?_;simp[w3];(refine yH rfl (hA _) ?_; simp);(refine yG rfl (hA2 _) ?_; simp);(refine yG rfl (hC _) ?_; simp);(refine yG rfl (hB _) ?_; simp);(refine yG rfl (hD _) ?_; simp);(refine yH rfl (hO _) ?_; simp);refine B9 (X:=Nat) (λi=>⟨[(0,true,.sl (l.map I9)),(2,true,.str text),(3,true,.str A2F),(4,true,.int .i64 n),(6,true,.ptr (E.n0+1) 0 0),(11,true,.ptr E.n0 0 0),(12,true,.sl (bs.map v7)),(14,true,.int .i64 i)],[(E.n0,some ⟨[.agg [.sl (S0.types.map I9),.sl (S0.things.map Q9)]],.agg [.nils,.nils],false,false⟩),(E.n0+1,some ⟨[.agg [.sl (d.seg.map AV.str),.int .i64 d.syn]],.agg [.sl (d.seg.map AV.str),.int .i64 d.syn],false,false⟩)],2⟩)
   (λi=>i<=bs.length/\(bs.take i).any (λb=>b.number==n)=false) (λi=>bs.length - i) 0 ?_ ⟨o_,s_⟩ ?_
  ·exact yW [(E.n0,E.n0+27648),(E.n0+1,E.n0)] trivial
  rintro i ⟨hi,hf⟩ p hp;rcases yd i bs.length with hlt|hge
  ·obtain⟨b,hb,hd⟩:=A5 hlt;have hi1:IntKind.i64.wrap ((i:Int)+1)=((i+1:Nat):Int):=wrap64 o_;have hst:bs.take (i+1)=bs.take i++[b]:=(by rw[wi,hb]; rfl);have hli:bs[i]=b:=by
    rw[zc hlt] at hb;injection hb
   refine A3 4000 ?_;simp[hlt,hli,v7];refine D0 (λg=>?_) (λg=>?_)
   ·simp;exact yP hR
   ·simp[hi1];refine hp _ (i+1) ⟨o_,by rw[hst,List.any_append,hf]; simp[g]⟩ o_ ?_;exact yW [(E.n0,E.n0),(E.n0+1,E.n0+1)] trivial
  ·have hil:i=bs.length:=o_;subst hil;refine A3 4000 ?_;simp;(refine yH rfl (hCh _) ?_; simp);refine A7 (v_ e1) ?_;simp;exact yP hR
end Go.Am
namespace Go.Proofs.YtphjabjjnncebaaGreatDoor
open Go Go.Am Go.RowKit
def Tryz.own:ownKnob Tryz.prog.godebug=none:=by kernel_rfl
def Tryz.laidOut:laidOutB Tryz.prog=true:=by kernel_rfl
noncomputable def tys(fn:Func):List TypeId:=C0T Tryz.prog 8 fn.params.toList
def C5S{n:Nat}{x:AV}(h:A10 Tryz.prog n 122 x):∃f:Am.Fd,x=U8 f:=by
 obtain⟨m,ys,rfl,rfl,h0⟩:=B1T Tryz.underlying122 h;obtain⟨a,ys,rfl,ha,h0⟩:=O4 h0;obtain⟨b,ys,rfl,hb,h0⟩:=O4 h0;obtain⟨c,ys,rfl,hc,h0⟩:=O4 h0;obtain rfl:=A4D h0;obtain⟨a,rfl,_⟩:=A2N Tryz.underlying9 ha;obtain⟨b,rfl,_⟩:=A8O Tryz.underlying3 hb;obtain⟨c,rfl,_⟩:=A2N Tryz.underlying9 hc;exact⟨⟨a,b,c⟩,rfl⟩
def C5T{n:Nat}{x:AV}(h:A10 Tryz.prog n 62 x):∃t:Am.Ty,x=I9 t:=by
 obtain⟨m,ys,rfl,rfl,h0⟩:=B1T Tryz.underlying62 h;obtain⟨a,ys,rfl,ha,h0⟩:=O4 h0;obtain⟨b,ys,rfl,hb,h0⟩:=O4 h0;obtain rfl:=A4D h0;obtain⟨a,rfl,_⟩:=A2N Tryz.underlying9 ha;obtain⟨k,xs,rfl,rfl,hl,hx⟩:=B1S Tryz.underlying60 hb;obtain⟨l,rfl⟩:=A2n λy hy=>C5S (hx y hy);exact⟨⟨a,l⟩,rfl⟩
def C3R{n:Nat}{x:AV}(h:A10 Tryz.prog n 22 x):∃l:List Am.Ty,x = .sl (l.map I9):=by
 obtain⟨k,xs,rfl,rfl,hl,hx⟩:=B1S Tryz.underlying22 h;obtain⟨l,rfl⟩:=A2n λy hy=>C5T (hx y hy);exact⟨l,rfl⟩
def C5U{n:Nat}{x:AV}(h:A10 Tryz.prog n 25 x):∃d:Dk,x=eDk d/\d.seg.length<=reachBytes:=by
 obtain⟨m,ys,rfl,rfl,h0⟩:=B1T Tryz.underlying25 h;obtain⟨a,ys,rfl,ha,h0⟩:=O4 h0;obtain⟨b,ys,rfl,hb,h0⟩:=O4 h0;obtain rfl:=A4D h0;obtain⟨k,xs,rfl,rfl,hl,hx⟩:=B1S Tryz.underlying23 ha;obtain⟨b,rfl,_⟩:=A8O Tryz.underlying3 hb;obtain⟨l,rfl⟩:=A2n (f:=AV.str) λy hy=>let ⟨s,h,_⟩:=A2N Tryz.underlying9 (hx y hy); ⟨s,h⟩;exact⟨⟨l,b⟩,rfl,v_ hl⟩
def A69{P:Program}{W:World}:∀{l:List (String×DataW Unit)} {ps:List MemPlace},DataW.LaidVars P W l ps->∀x∈l,∃g t cs fuel p,P.globalNamed x.1=some g/\(P.globals[g]?).map (·.type)=some t/\W.var? P x.1=some cs/\DataW.trod (λ_=>()) P W 0 (λ_=>true) false fuel t cs.toList=some (x.2,p)
 | [],_,_,x,hx=>by cases hx
 | (n,d)::r,ps,⟨g,t,cs,fuel,p,q,h1,h2,h3,h4,h5,_⟩,x,hx=>by
  rcases zi.1 hx with rfl|hx
  ·exact⟨g,t,cs,fuel,p,h1,h2,h3,h4⟩
  ·exact A69 h5 x hx
def B4s{P:Program}{W:World}{g t:Nat}{name T:String}{m:Array (String×TypeId)}{cs:Array Value}{d:DataW Unit}{fuel:Nat}{p:List MemPlace}(hu:P.underlying t=some (.interface m))(hg:P.globalNamed name=some g)(hv:W.var? P name=some cs)
  (h:DataW.trod (λ_=>()) P W 0 (λ_=>true) false fuel t cs.toList=some (.iface T d,p)):∃v,W.cell? ⟨g,0,none⟩=some v/\(v = .nilIface\/∃te pe,v = .iface te pe):=by
 have hc:∃u v,cs.toList=[.iface u v]:=by
  cases fuel with
  | zero=>cases h
  | succ fuel =>
   simp only[DataW.trod,hu] at h;split at h
   all_goals first|cases h; done|exact⟨_,_,by assumption⟩|(simp_all; done)|skip
 obtain⟨u,v,hc⟩:=hc;refine⟨.iface u v,?_,.inr ⟨u,v,rfl⟩⟩;unfold World.var? at hv;rw[hg] at hv;simp only[td] at hv;unfold World.cell?;split at hv
 ·rename_i cs' e f hh;injection hv with hv
  subst hv;rw[hh];have:cs' = #[.iface u v]:=by cases cs'; simp at hc ⊢; exact hc
  rw[this]; rfl
 ·cases hv
noncomputable abbrev C3S:List (String×DataW Unit):=Rows.deskForeverUptoRow.laid
def B6L{W:World}(h:laidMetH Tryz.prog C3S W):laidMet Tryz.prog C3S W:=h
def B9l{W:World}(h:laidMetH Tryz.prog C3S W):A3L Tryz.prog W:=by
 obtain⟨ps,hv,_,_⟩:=B6L h;refine⟨λt ht g hg=>?_,λn hn g hg=>?_⟩
 ·skip;rw [show t = ("internal/strconv.uint64pow10", .u64, Lib.pow10Tab) by simpa [C5v] using ht];obtain ⟨g', t', cs, fuel, p, h1, h2, h3, h4⟩ := A69 hv ("internal/strconv.uint64pow10", Lib.tabData .u64 Lib.pow10Tab) (.tail _ (.tail _ (.head _)));obtain rfl := wn ((show Tryz.prog.globalNamed "internal/strconv.uint64pow10" = some 0 by kernel_rfl).symm.trans h1);obtain rfl:=wn ((show (Tryz.prog.globals[0]?).map (·.type)=some 350 by kernel_rfl).symm.trans h2);unfold Lib.TabIs;rw[h3,←Lib.cells_of_tab Tryz.underlying350 Tryz.underlying330 k_ k_ h4]
 ·simp only[C3V,zi,yp,or_false] at hn;rcases hn with rfl|rfl
  ·skip;obtain ⟨g', t', cs, fuel, p, h1, h2, h3, h4⟩ := A69 hv ("strconv.ErrSyntax", Rows.laid_strconv_ErrSyntax) (.tail _ (.tail _ (.tail _ (.tail _ (.head _)))));obtain rfl := wn ((show (Tryz.prog.globalNamed "strconv.ErrSyntax") = some 2 by kernel_rfl).symm.trans h1);obtain rfl:=wn ((show (Tryz.prog.globals[2]?).map (·.type)=some 244 by kernel_rfl).symm.trans h2);obtain rfl:=wn (h1.symm.trans hg);exact B4s Tryz.underlying244 h1 h3 h4
  ·skip;obtain ⟨g', t', cs, fuel, p, h1, h2, h3, h4⟩ := A69 hv ("strconv.ErrRange", Rows.laid_strconv_ErrRange) (.tail _ (.tail _ (.tail _ (.head _))));obtain rfl := wn ((show (Tryz.prog.globalNamed "strconv.ErrRange") = some 3 by kernel_rfl).symm.trans h1);obtain rfl:=wn ((show (Tryz.prog.globals[3]?).map (·.type)=some 244 by kernel_rfl).symm.trans h2);obtain rfl:=wn (h1.symm.trans hg);exact B4s Tryz.underlying244 h1 h3 h4
def B6M:DataW Unit->Array Value
 | .agg l=>(l.map λ| .lit (.int k n)=>Value.int k n|_=>undef).toArray
 | _=>#[]
def C93:DataW Unit->Value
 | .iface _ (.ptr (.agg [.lit (.string s)]))=>.string ⟨⟨s⟩⟩
 | _=>undef
def A44(vs:Array Value):Obj->Obj
 | .cells _ t frozen=>.cells vs t frozen
 | o=>o
noncomputable def C3T(h:Array Obj):Array Obj :=
 (((((h.modify 0 (A44 (B6M Rows.laid_internal_strconv_uint64pow10))).modify 4 (A44 (B6M Rows.laid_math_bits_deBruijn32tab))).modify 5 (A44 (B6M Rows.laid_math_bits_deBruijn64tab))).modify
  2 (A44 #[.iface 412 (.pointer (some ⟨h.size,0,none⟩))])).modify 3 (A44 #[.iface 412 (.pointer (some ⟨h.size+1,0,none⟩))])) ++
  #[.cells #[C93 Rows.laid_strconv_ErrSyntax] 414 (0,0),.cells #[C93 Rows.laid_strconv_ErrRange] 414 (0,0)]
noncomputable def A70(os:Os):World :=
 { World.holding Tryz.prog os ⟨#[],#[],[]⟩ with heap:=C3T (World.holding Tryz.prog os ⟨#[],#[],[]⟩).heap }
def B2k{P:Program}{f:FuncId}{fn:Func}{s:ChangeSpec}{c:OpenClaim}
  (h0:(c.wf (OpenSpec.ofChange s)&&laidOutB P&&mapsRowed P&&fn.params.all (P.readableRec ·)&&namedTie P c.named s.vars&&(c.stops==[])&&(P.stops==[])&&(c.knobs==[])&&(P.stopKnobs==[]))=true)
  (h1:(c.inPlace==P.inPlace f)=true) (h2:(c.unfollowed==P.unfollowed f)=true) (h3:(c.recurses==P.recurses f)=true) (h4:(c.named==P.varsNamed f)=true)
  (h5:((c.maps==(fn.params.toList++s.plain.varTypes P).any (P.mapsRec ·))&&(c.ifaces==(fn.params.toList++s.plain.varTypes P).any (P.ifacesRec ·))&&(c.mapsOut==P.mapsAmong fn.resultTypes.toList) &&
   (c.loops==(fn.params.toList++s.plain.varTypes P).any (P.loopsFrom ·))&&(c.wideKeys==(fn.params.toList++s.plain.varTypes P++fn.resultTypes.toList).any (P.wideKeysFrom ·)) &&
   s.vars.all (P.varReadable ·)&&fn.resultTypes.all (λt=>P.readableRec t&&decide (t<P.types.size))&&(c.ifacesOut==fn.resultTypes.toList.any (P.ifacesRec ·))&&(c.loopsOut==fn.resultTypes.toList.any (P.loopsFrom ·)))=true)
  (h6:(c.plainKeys==P.plainKeys)=true)
  (h7:(c.shortTexts.isNone&&P.stopsHeard&&P.mayEnter&&(c.lifted==P.liftsFinal)&&(P.make==some c.make)&&(c.kinds==(if c.domain.isEmpty then [] else fn.params.toList.map λt=>match P.underlying t with|some (.int k)=>some k|_=>none))&&(c.pinned==c.pinnedBy) &&
   (c.veiled==(fn.params.toList++s.plain.varTypes P++fn.resultTypes.toList).any (P.veiledRec ·))&&c.veiledFits P fn.params.toList (fn.params.toList++s.plain.varTypes P++fn.resultTypes.toList))=true):joinedFacts P f fn s c=true:=by
 unfold joinedFacts;simp only[yk] at h0 h5 h7 ⊢;obtain⟨⟨⟨⟨⟨⟨⟨⟨a1,a2⟩,a3⟩,a4⟩,a5⟩,a6⟩,a7⟩,a8⟩,a9⟩:=h0;obtain⟨⟨⟨⟨⟨⟨⟨⟨b1,b2⟩,b3⟩,b4⟩,b5⟩,b6⟩,b7⟩,b8⟩,b9⟩:=h5;obtain⟨⟨⟨⟨⟨⟨⟨⟨d1,d2⟩,d3⟩,d4⟩,d5⟩,d6⟩,d7⟩,d8⟩,d9⟩:=h7;exact⟨⟨⟨⟨⟨⟨⟨⟨⟨⟨⟨⟨⟨⟨⟨⟨⟨⟨⟨⟨⟨⟨⟨⟨⟨⟨⟨⟨⟨⟨⟨a1,a2⟩,a3⟩,a4⟩,a5⟩,a6⟩,a7⟩,a8⟩,a9⟩,h1⟩,h2⟩,h3⟩,h4⟩,b1⟩,b2⟩,b3⟩,b4⟩,b5⟩,b6⟩,b7⟩,b8⟩,b9⟩,h6⟩,d1⟩,d2⟩,d3⟩,d4⟩,d5⟩,d6⟩,d7⟩,d8⟩,d9⟩
end Go.Proofs.YtphjabjjnncebaaGreatDoor
