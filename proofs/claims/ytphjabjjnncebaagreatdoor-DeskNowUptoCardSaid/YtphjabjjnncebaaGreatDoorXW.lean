/- Parts of the proof: an abstract machine for Go functions, and what functions of the program give back (Rj1, Am67, Rk1, Rk2, Rk3, Rk4, Dn2, Fb, Fv, Fd, Lw4, Jf). No condition. -/
import Derived.Test.YtphjabjjnncebaaGreatDoorXS
import Derived.Test.YtphjabjjnncebaaGreatDoorXF
import Derived.Test.YtphjabjjnncebaaGreatDoorXG
import Derived.LoopN
import Derived.Test.YtphjabjjnncebaaGreatDoorXQ
import Derived.Test.YtphjabjjnncebaaGreatDoorXV
import Derived.Test.YtphjabjjnncebaaGreatDoorXR
import Derived.Recover
import Derived.Test.YtphjabjjnncebaaGreatDoorXE
import Derived.Test.YtphjabjjnncebaaGreatDoorRows
import Derived.Test.YtphjabjjnncebaaGreatDoorXJ
import Derived.Deep.CondSized
import Derived.Test.YtphjabjjnncebaaGreatDoorXH
import Derived.Test.YtphjabjjnncebaaGreatDoorXP
import Derived.Test.YtphjabjjnncebaaGreatDoorCards
import Derived.Test.YtphjabjjnncebaaGreatDoorTie
import Derived.Deep.DeepHandedRow
import Derived.Lib.LaidTab
import Derived.LaidLaws
set_option maxRecDepth 100000
set_option linter.all false
set_option maxHeartbeats 16000000
namespace Go.Am
open Go Go.Proofs Go.RowKit Go.Proofs.Tryz
def bS(z s:List UInt8):Bx:=⟨[.agg [.str s]],.agg [.str z],false,false⟩
theorem A03(z s:List UInt8):bS z s=⟨[.agg [.str s]],.agg [.str z],false,false⟩:=rfl
def A5r(s w:List UInt8):Bool:=w.isPrefixOf s
def A4N(s w:List UInt8):List UInt8:=if A5r s w=true then s.drop w.length else s
def B49(s w:List UInt8):A5r s w=true↔w.length<=s.length/\s.take w.length=w:=by
 unfold A5r;rw[List.isPrefixOf_iff_prefix,List.prefix_iff_eq_take];constructor
 ·intro h;have:=congrArg List.length h;simp at this;exact⟨o_,h.symm⟩
 ·intro h; exact h.2.symm
def C4M(s w:List UInt8):(decide (w.length<=s.length)&&List.take w.length s==w)=A5r s w:=by
 rw[wm,B49];simp
def B0g(s w:List UInt8)(id:Nat):A2 prog 278 [.str s,.str w] [] id (.bool (A5r s w)) []:=by
 rw[←C4M];refine w278.e.1 λE hP hR hl hid=>?_;simp[w278];exact yP hR
def B2B(s w:List UInt8)(id:Nat):A2 prog 240 [.str s,.str w] [] id (.bool (A5r s w)) []:=by
 have h:=λid=>B0g s w id;refine w240.e.1 λE hP hR hl hid=>?_;simp[w240];(refine yH rfl (h _) ?_; simp);exact yP hR
def B8x(s w:List UInt8)(id:Nat):A2 prog 305 [.str s,.str w] [] id (.tup [.str (A4N s w),.bool (A5r s w)]) []:=by
 have h:=λid=>B0g s w id;by_cases g:A5r s w=true
 ·have g1:=((B49 s w).1 g).1;have e:A4N s w=s.drop w.length:=by unfold A4N; rw[zj g]
  rw[e,g];rw[g] at h;refine w305.e.1 λE hP hR hl hid=>?_;simp[w305];(refine yC rfl (h _) ?_; simp[g1]);exact yP hR
 ·have g:A5r s w=false:=by simpa using g
  have e:A4N s w=s:=by unfold A4N; rw[zf (t_ g)]
  rw[e,g];rw[g] at h;refine w305.e.1 λE hP hR hl hid=>?_;simp[w305];(refine yH rfl (h _) ?_; simp);exact yP hR
def B2C(s w:List UInt8)(id:Nat):A2 prog 277 [.str s,.str w] [] id (.tup [.str (A4N s w),.bool (A5r s w)]) []:=by
 have h:=λid=>B8x s w id;refine w277.e.1 λE hP hR hl hid=>?_;simp[w277];(refine yH rfl (h _) ?_; simp);exact yP hR
def C2Q(z s w:List UInt8)(J id:Nat):A2 prog 239 [.ptr J 0 0,.str w] [(J,bS z s)] id (.bool (A5r s w)) [(J,some (bS z (A4N s w)))]:=by
 have h:=λid=>B2C s w id;rw[A03];refine w239.e.1 λE hP hR hl hid=>?_;simp[w239];have hJ:=hl (J,_) (za ..);simp only at hJ;have J1:=lf hJ;(refine yC rfl (h _) ?_; simp[J1]);refine yE hR [] (by simp[bS,J1,A4 hid]) λhrn=>⟨?_,?_,?_,?_,?_,?_⟩<;>(try simp[bS,J1,A4 hid])
end Go.Am
namespace Go.Am
open Go Go.RowKit Go.Proofs.Tryz
def Rnd(E:O8)(k:List Itm)(c:CC):Nat->St->Prop
 | 0,_=>False
 | n+1,σ=>Wk E (.code c::.post (Rnd E k c n)::k) σ
def A5s{E:O8}{k:List Itm}{c:CC}{σ:St}(n:Nat)(h:Rnd E k c n σ):Wk E (.code (.loop c)::k) σ:=λd hc G a w hD=>by
 obtain⟨b,rfl,hb⟩:=A66 hc;refine wp_loop_rounds n ?_;induction n generalizing σ G a w with
 | zero=>exact h.elim
 | succ n ih =>
  refine wp_mono (h b hb G a w hD) λe a' w' hq=>?_;cases e with
  | normal=>obtain⟨σ',G',h1,h2⟩:=hq; exact ih h2 G' a' w' h1
  | _=>exact hq
end Go.Am
namespace Go.Am
open Go Go.Proofs Go.RowKit Go.Proofs.Tryz
def B7D{s w u:List UInt8}(h:A5r s w=true)(hu:s.drop w.length=u)(z:List UInt8)(J id:Nat):A2 prog 245 [.ptr J 0 0,.str w] [(J,bS z s)] id (.tup []) [(J,some (bS z u))]:=by
 have ht:=λid=>C2Q z s w J id;have e1:A4N s w=u:=by unfold A4N; rw[zj h,hu]
 rw[h,e1] at ht;rw[A03,A03] at ht;rw[A03];refine w245.e.1 λE hP hR hl hid=>?_;simp[w245];have hJ:=hl (J,_) (za ..);simp only at hJ;have J1:=lf hJ;(refine yC rfl (ht _) ?_; simp[J1]);refine yE hR [] (by simp[bS,J1,A4 hid]) λhrn=>⟨?_,?_,?_,?_,?_,?_⟩<;>(try simp[bS,J1,A4 hid])
def A14{s w u:List UInt8}{b:Bool}(h:A5r s w=b)(hu:A4N s w=u)(z:List UInt8)(J id:Nat):A2 prog 239 [.ptr J 0 0,.str w] [(J,bS z s)] id (.bool b) [(J,some (bS z u))]:=by
 have:=C2Q z s w J id;rw[h,hu] at this; exact this
def wl:IntKind.i64.wrap 1=1/\IntKind.i64.wrap 2=2/\IntKind.i64.wrap 3=3/\IntKind.i64.wrap 6=6/\IntKind.i64.wrap 7=7/\IntKind.i64.wrap 0=0:=by decide
def C7p(z:List UInt8)(J id:Nat):A2 prog 279 [.ptr J 0 0] [(J,bS z [34,92,117,48,48,48,49,92,110,34,93,125])] id (.int .u8 34) [(J,some (bS z [92,117,48,48,48,49,92,110,34,93,125]))]:=by
 have t1:=λid=>A14 (s:=[34,92,117,48,48,48,49,92,110,34,93,125]) (w:=[110]) (u:=[34,92,117,48,48,48,49,92,110,34,93,125]) (b:=false) d_ d_ z J id;have t2:=λid=>A14 (s:=[34,92,117,48,48,48,49,92,110,34,93,125]) (w:=[117,48,48]) (u:=[34,92,117,48,48,48,49,92,110,34,93,125]) (b:=false) d_ d_ z J id;simp only[A03] at *;refine w279.e.1 λE hP hR hl hid=>?_;simp[w279];have hJ:=hl (J,_) (za ..);simp only at hJ;have J1:=lf hJ;(refine yC rfl (t1 _) ?_; simp[J1]);(refine yC rfl (t2 _) ?_; simp[J1]);refine yE hR [] (by simp[bS,J1,A4 hid]) λhrn=>⟨?_,?_,?_,?_,?_,?_⟩<;>(try simp[bS,J1,A4 hid])
def C7q(z:List UInt8)(J id:Nat):A2 prog 279 [.ptr J 0 0] [(J,bS z [117,48,48,48,49,92,110,34,93,125])] id (.int .u8 1) [(J,some (bS z [92,110,34,93,125]))]:=by
 have t1:=λid=>A14 (s:=[117,48,48,48,49,92,110,34,93,125]) (w:=[110]) (u:=[117,48,48,48,49,92,110,34,93,125]) (b:=false) d_ d_ z J id;have t2:=λid=>A14 (s:=[117,48,48,48,49,92,110,34,93,125]) (w:=[117,48,48]) (u:=[48,49,92,110,34,93,125]) (b:=true) d_ d_ z J id;have x1:∀id,A2 prog 287 [.str [48,49,50,51,52,53,54,55,56,57,97,98,99,100,101,102],.int .u8 48] [] id (.int .i64 0) []:=λid=>A13 [48,49,50,51,52,53,54,55,56,57,97,98,99,100,101,102] 48 id;have x2:∀id,A2 prog 287 [.str [48,49,50,51,52,53,54,55,56,57,97,98,99,100,101,102],.int .u8 49] [] id (.int .i64 1) []:=λid=>A13 [48,49,50,51,52,53,54,55,56,57,97,98,99,100,101,102] 49 id;simp only[A03] at *;refine w279.e.1 λE hP hR hl hid=>?_;simp[w279];have hJ:=hl (J,_) (za ..);simp only at hJ;have J1:=lf hJ;(refine yC rfl (t1 _) ?_; simp[J1]);(refine yC rfl (t2 _) ?_; simp[J1]);(refine yC rfl (x1 _) ?_; simp[J1]);refine⟨d_,?_⟩;(refine yC rfl (x2 _) ?_; simp[J1]);rw[show Go.bits .or .i64 (IntKind.i64.wrap 0) 1=1 by decide];simp[J1,show IntKind.u8.wrap 1=1 by decide];refine yE hR [] (by simp[bS,J1,A4 hid]) λhrn=>⟨?_,?_,?_,?_,?_,?_⟩<;>(try simp[bS,J1,A4 hid])
def C7r(z:List UInt8)(J id:Nat):A2 prog 279 [.ptr J 0 0] [(J,bS z [110,34,93,125])] id (.int .u8 10) [(J,some (bS z [34,93,125]))]:=by
 have t1:=λid=>A14 (s:=[110,34,93,125]) (w:=[110]) (u:=[34,93,125]) (b:=true) d_ d_ z J id;simp only[A03] at *;refine w279.e.1 λE hP hR hl hid=>?_;simp[w279];have hJ:=hl (J,_) (za ..);simp only at hJ;have J1:=lf hJ;(refine yC rfl (t1 _) ?_; simp[J1]);refine yE hR [] (by simp[bS,J1,A4 hid]) λhrn=>⟨?_,?_,?_,?_,?_,?_⟩<;>(try simp[bS,J1,A4 hid])
def C7s(z:List UInt8)(J id:Nat):A2 prog 241 [.ptr J 0 0] [(J,bS z [34,97,34,58,91,110,117,108,108,44,34,113,92,34,92,117,48,48,48,49,92,110,34,93,125])] id (.str [97]) [(J,some (bS z [58,91,110,117,108,108,44,34,113,92,34,92,117,48,48,48,49,92,110,34,93,125]))]:=by
 have hN:=λid=>B7D (s:=[34,97,34,58,91,110,117,108,108,44,34,113,92,34,92,117,48,48,48,49,92,110,34,93,125]) (w:=[34]) (u:=[97,34,58,91,110,117,108,108,44,34,113,92,34,92,117,48,48,48,49,92,110,34,93,125]) d_ d_ z J id;have t0:=λid=>A14 (s:=[97,34,58,91,110,117,108,108,44,34,113,92,34,92,117,48,48,48,49,92,110,34,93,125]) (w:=[34]) (u:=[97,34,58,91,110,117,108,108,44,34,113,92,34,92,117,48,48,48,49,92,110,34,93,125]) (b:=false) d_ d_ z J id;have q0:∀id,A2 prog 124 [.str [97]] [] id (.str [34,97,34]) []:=λid=>A0L [97] id d_;have t1:=λid=>A14 (s:=[34,58,91,110,117,108,108,44,34,113,92,34,92,117,48,48,48,49,92,110,34,93,125]) (w:=[34]) (u:=[58,91,110,117,108,108,44,34,113,92,34,92,117,48,48,48,49,92,110,34,93,125]) (b:=true) d_ d_ z J id;simp only[A03] at *;refine w241.e.1 λE hP hR hl hid=>?_;simp[w241];have hJ:=hl (J,_) (za ..);simp only at hJ;have J1:=lf hJ;(refine yC rfl (hN _) ?_; simp[J1]);refine A5s 2 ?_;simp only[Rnd];refine A3 4000 ?_;simp[J1];(refine yC rfl (t0 _) ?_; simp[J1]);refine⟨d_,?_⟩;(refine yC rfl (q0 _) ?_; simp[J1]);simp[wl];refine⟨o_,?_⟩;refine A3 4000 ?_;simp[J1];(refine yC rfl (t1 _) ?_; simp[J1]);refine⟨d_,?_⟩;refine yE hR [] (by simp[bS,J1,A4 hid]) λhrn=>⟨?_,?_,?_,?_,?_,?_⟩<;>(try simp[bS,J1,A4 hid]);all_goals decide
def C7t(z:List UInt8)(J id:Nat):A2 prog 241 [.ptr J 0 0] [(J,bS z [34,113,92,34,92,117,48,48,48,49,92,110,34,93,125])] id (.str [113,34,1,10]) [(J,some (bS z [93,125]))]:=by
 have hN:=λid=>B7D (s:=[34,113,92,34,92,117,48,48,48,49,92,110,34,93,125]) (w:=[34]) (u:=[113,92,34,92,117,48,48,48,49,92,110,34,93,125]) d_ d_ z J id;have t0:=λid=>A14 (s:=[113,92,34,92,117,48,48,48,49,92,110,34,93,125]) (w:=[34]) (u:=[113,92,34,92,117,48,48,48,49,92,110,34,93,125]) (b:=false) d_ d_ z J id;have q0:∀id,A2 prog 124 [.str [113]] [] id (.str [34,113,34]) []:=λid=>A0L [113] id d_;have t1:=λid=>A14 (s:=[92,34,92,117,48,48,48,49,92,110,34,93,125]) (w:=[34]) (u:=[92,34,92,117,48,48,48,49,92,110,34,93,125]) (b:=false) d_ d_ z J id;have q1:∀id,A2 prog 124 [.str [34]] [] id (.str [34,92,34,34]) []:=λid=>A0L [34] id d_;have d1:=λid=>C7p z J id;have t2:=λid=>A14 (s:=[92,117,48,48,48,49,92,110,34,93,125]) (w:=[34]) (u:=[92,117,48,48,48,49,92,110,34,93,125]) (b:=false) d_ d_ z J id;have q2:∀id,A2 prog 124 [.str [1]] [] id (.str [34,92,117,48,48,48,49,34]) []:=λid=>A0L [1] id d_;have d2:=λid=>C7q z J id;have t3:=λid=>A14 (s:=[92,110,34,93,125]) (w:=[34]) (u:=[92,110,34,93,125]) (b:=false) d_ d_ z J id;have q3:∀id,A2 prog 124 [.str [10]] [] id (.str [34,92,110,34]) []:=λid=>A0L [10] id d_;have d3:=λid=>C7r z J id;have t4:=λid=>A14 (s:=[34,93,125]) (w:=[34]) (u:=[93,125]) (b:=true) d_ d_ z J id;simp only[A03] at *;refine w241.e.1 λE hP hR hl hid=>?_;simp[w241];have hJ:=hl (J,_) (za ..);simp only at hJ;have J1:=lf hJ;(refine yC rfl (hN _) ?_; simp[J1]);refine A5s 5 ?_;simp only[Rnd];refine A3 4000 ?_;simp[J1];(refine yC rfl (t0 _) ?_; simp[J1]);refine⟨d_,?_⟩;(refine yC rfl (q0 _) ?_; simp[J1]);simp[wl];refine⟨o_,?_⟩;refine A3 4000 ?_;simp[J1];(refine yC rfl (t1 _) ?_; simp[J1]);(refine yC rfl (d1 _) ?_; simp[J1]);refine⟨d_,?_⟩;(refine yC rfl (q1 _) ?_; simp[J1]);simp[wl];refine⟨o_,?_⟩;refine A3 4000 ?_;simp[J1];(refine yC rfl (t2 _) ?_; simp[J1]);(refine yC rfl (d2 _) ?_; simp[J1]);refine⟨d_,?_⟩;(refine yC rfl (q2 _) ?_; simp[J1]);simp[wl];refine⟨o_,?_⟩;refine A3 4000 ?_;simp[J1];(refine yC rfl (t3 _) ?_; simp[J1]);(refine yC rfl (d3 _) ?_; simp[J1]);refine⟨d_,?_⟩;(refine yC rfl (q3 _) ?_; simp[J1]);simp[wl];refine⟨o_,?_⟩;refine A3 4000 ?_;simp[J1];(refine yC rfl (t4 _) ?_; simp[J1]);refine⟨d_,?_⟩;refine yE hR [] (by simp[bS,J1,A4 hid]) λhrn=>⟨?_,?_,?_,?_,?_,?_⟩<;>(try simp[bS,J1,A4 hid]);all_goals decide
def kBj(k:Int)(kv lv:AV):Bx:=⟨[.agg [.int .i64 k,.int .i64 0,.str [],kv,lv]],.agg [.int .i64 0,.int .i64 0,.str [],.nils,.nils],false,false⟩
def pB(J:Nat):Bx:=⟨[.ptr J 0 0],.ptr J 0 0,false,false⟩
def lBj(l:List AV):Bx:=⟨l,.agg [.int .i64 0,.int .i64 0,.str [],.nils,.nils],false,false⟩
def sBj(l:List AV):Bx:=⟨l,.str [],false,false⟩
theorem A5t(k:Int)(kv lv:AV):kBj k kv lv=⟨[.agg [.int .i64 k,.int .i64 0,.str [],kv,lv]],.agg [.int .i64 0,.int .i64 0,.str [],.nils,.nils],false,false⟩:=rfl
theorem A5u(J:Nat):pB J=⟨[.ptr J 0 0],.ptr J 0 0,false,false⟩:=rfl
theorem A5v(l:List AV):lBj l=⟨l,.agg [.int .i64 0,.int .i64 0,.str [],.nils,.nils],false,false⟩:=rfl
theorem A5w(l:List AV):sBj l=⟨l,.str [],false,false⟩:=rfl
def ne1{x id:Nat}(h:x<id\/id+1024<=x):(x=id+1)=False/\(id+1=x)=False:=⟨eq_false o_,eq_false o_⟩
def C4N{id n0:Nat}(h:id+1024<=n0):id+1<n0/\(∀t:Nat,(id+1=n0+t)=False)/\(∀t:Nat,(n0+t=id+1)=False)/\(id+1=n0)=False/\(n0=id+1)=False:=⟨o_,λt=>eq_false o_,λt=>eq_false o_,eq_false o_,eq_false o_⟩
def C6N{s w:List UInt8}{b:Bool}(h:A5r s w=b)(id:Nat):A2 prog 240 [.str s,.str w] [] id (.bool b) []:=by
 have:=B2B s w id;rw[h] at this; exact this
def C8S(z:List UInt8)(J id:Nat):A2 prog 173 [.ptr J 0 0] [(J,bS z [110,117,108,108,44,34,113,92,34,92,117,48,48,48,49,92,110,34,93,125])] id (.agg [.int .i64 1,.int .i64 0,.str [],.nils,.nils]) [(J,some (bS z [44,34,113,92,34,92,117,48,48,48,49,92,110,34,93,125]))]:=by
 have t1:=λid=>A14 (s:=[110,117,108,108,44,34,113,92,34,92,117,48,48,48,49,92,110,34,93,125]) (w:=[110,117,108,108]) (u:=[44,34,113,92,34,92,117,48,48,48,49,92,110,34,93,125]) (b:=true) d_ d_ z J id;simp only[A03,A5t,A5u,A5v,A5w] at *;refine w173.e.1 λE hP hR hl hid=>?_;simp[w173];have hJ:=hl (J,_) (za ..);simp only at hJ;have J1:=lf hJ;(refine yC rfl (t1 _) ?_; simp[J1]);exact yF hR [] (a_ J1 (A4 hid))
def C8T(z:List UInt8)(J id:Nat):A2 prog 173 [.ptr J 0 0] [(J,bS z [34,113,92,34,92,117,48,48,48,49,92,110,34,93,125])] id (.agg [.int .i64 3,.int .i64 0,.str [113,34,1,10],.nils,.nils]) [(J,some (bS z [93,125]))]:=by
 have t1:=λid=>A14 (s:=[34,113,92,34,92,117,48,48,48,49,92,110,34,93,125]) (w:=[110,117,108,108]) (u:=[34,113,92,34,92,117,48,48,48,49,92,110,34,93,125]) (b:=false) d_ d_ z J id;have t2:=λid=>C6N (s:=[34,113,92,34,92,117,48,48,48,49,92,110,34,93,125]) (w:=[34]) (b:=true) d_ id;have t3:=λid=>C7t z J id;simp only[A03,A5t,A5u,A5v,A5w] at *;refine w173.e.1 λE hP hR hl hid=>?_;simp[w173];have hJ:=hl (J,_) (za ..);simp only at hJ;have J1:=lf hJ;(refine yC rfl (t1 _) ?_; simp[J1]);(refine yC rfl (t2 _) ?_; simp[J1]);(refine yC rfl (t3 _) ?_; simp[J1]);exact yF hR [] (a_ J1 (A4 hid))
def C8U(z:List UInt8)(J V K id:Nat)(d1:J≠V)(d2:J≠K)(d3:V≠K):A2 prog 243 [.ptr K 0 0,.ptr V 0 0] [(J,bS z [110,117,108,108,44,34,113,92,34,92,117,48,48,48,49,92,110,34,93,125]),(V,pB J),(K,kBj 4 .nils .nils)] id (.tup []) [(J,some (bS z [44,34,113,92,34,92,117,48,48,48,49,92,110,34,93,125])),(K,some (kBj 4 .nils (.bsl id 0 1))),(id,some (lBj [.agg [.int .i64 1,.int .i64 0,.str [],.nils,.nils]]))]:=by
 have ho:=λid=>C8S z J id;simp only[A03,A5t,A5u,A5v,A5w] at *;refine w243.e.1 λE hP hR hl hid=>?_;simp[w243];have hJ:=hl (J,_) (za ..);simp only at hJ;have J1:=lf hJ;have hV:=hl (V,_) (zb _ (za ..));simp only at hV;have V1:=lf hV;have hK:=hl (K,_) (zb _ (zb _ (za ..)));simp only at hK;have K1:=lf hK;simp[J1,V1,K1,d1,d1.symm,d2,d2.symm,d3,d3.symm];(refine yC rfl (ho _) ?_; simp[J1,V1,K1,d1,d1.symm,d2,d2.symm,d3,d3.symm]);refine yE hR [(id,E.n0+6144)] (by simp[J1,V1,K1,d1,d1.symm,d2,d2.symm,d3,d3.symm,A4 hid]) λhrn=>⟨?_,?_,?_,?_,?_,?_⟩<;>(try simp[J1,V1,K1,d1,d1.symm,d2,d2.symm,d3,d3.symm,A4 hid])
def C8V(z:List UInt8)(J V K M id:Nat)(d1:J≠V)(d2:J≠K)(d3:V≠K)(d4:J≠M)(d5:V≠M)(d6:K≠M):A2 prog 243 [.ptr K 0 0,.ptr V 0 0] [(J,bS z [34,113,92,34,92,117,48,48,48,49,92,110,34,93,125]),(V,pB J),(K,kBj 4 .nils (.bsl M 0 1)),(M,lBj [.agg [.int .i64 1,.int .i64 0,.str [],.nils,.nils]])] id (.tup []) [(J,some (bS z [93,125])),(K,some (kBj 4 .nils (.bsl id 0 2))),(M,none),(id,some (lBj [.agg [.int .i64 1,.int .i64 0,.str [],.nils,.nils],.agg [.int .i64 3,.int .i64 0,.str [113,34,1,10],.nils,.nils]]))]:=by
 have ho:=λid=>C8T z J id;simp only[A03,A5t,A5u,A5v,A5w] at *;refine w243.e.1 λE hP hR hl hid=>?_;simp[w243];have hJ:=hl (J,_) (za ..);simp only at hJ;have J1:=lf hJ;have hV:=hl (V,_) (zb _ (za ..));simp only at hV;have V1:=lf hV;have hK:=hl (K,_) (zb _ (zb _ (za ..)));simp only at hK;have K1:=lf hK;have hM:=hl (M,_) (zb _ (zb _ (zb _ (za ..))));simp only at hM;have M1:=lf hM;simp[J1,V1,K1,M1,d1,d1.symm,d2,d2.symm,d3,d3.symm,d4,d4.symm,d5,d5.symm,d6,d6.symm];(refine yC rfl (ho _) ?_; simp[J1,V1,K1,M1,d1,d1.symm,d2,d2.symm,d3,d3.symm,d4,d4.symm,d5,d5.symm,d6,d6.symm]);refine yE hR [(id,E.n0+6144)] (by simp[J1,V1,K1,M1,d1,d1.symm,d2,d2.symm,d3,d3.symm,d4,d4.symm,d5,d5.symm,d6,d6.symm,A4 hid]) λhrn=>⟨?_,?_,?_,?_,?_,?_⟩<;>(try simp[J1,V1,K1,M1,d1,d1.symm,d2,d2.symm,d3,d3.symm,d4,d4.symm,d5,d5.symm,d6,d6.symm,A4 hid])
def C7u(z:List UInt8)(J V K id:Nat)(d1:J≠V)(d2:J≠K)(d3:V≠K):A2 prog 242 [.ptr J 0 0,.str [93],.fn 243 [.ptr K 0 0,.ptr V 0 0]] [(J,bS z [110,117,108,108,44,34,113,92,34,92,117,48,48,48,49,92,110,34,93,125]),(V,pB J),(K,kBj 4 .nils .nils)] id (.tup []) [(J,some (bS z [125])),(K,some (kBj 4 .nils (.bsl id 0 2))),(id,some (lBj [.agg [.int .i64 1,.int .i64 0,.str [],.nils,.nils],.agg [.int .i64 3,.int .i64 0,.str [113,34,1,10],.nils,.nils]]))]:=by
 have t1:=λid=>A14 (s:=[110,117,108,108,44,34,113,92,34,92,117,48,48,48,49,92,110,34,93,125]) (w:=[93]) (u:=[110,117,108,108,44,34,113,92,34,92,117,48,48,48,49,92,110,34,93,125]) (b:=false) d_ d_ z J id;have t2:=λid=>A14 (s:=[44,34,113,92,34,92,117,48,48,48,49,92,110,34,93,125]) (w:=[93]) (u:=[44,34,113,92,34,92,117,48,48,48,49,92,110,34,93,125]) (b:=false) d_ d_ z J id;have t3:=λid=>A14 (s:=[93,125]) (w:=[93]) (u:=[125]) (b:=true) d_ d_ z J id;have hn:=λid=>B7D (s:=[44,34,113,92,34,92,117,48,48,48,49,92,110,34,93,125]) (w:=[44]) (u:=[34,113,92,34,92,117,48,48,48,49,92,110,34,93,125]) d_ d_ z J id;have ha:=λid=>C8U z J V K id d1 d2 d3;have hb:=λM id e1 e2 e3=>C8V z J V K M id d1 d2 d3 e1 e2 e3;simp only[A03,A5t,A5u,A5v,A5w] at *;refine w242.e.1 λE hP hR hl hid=>?_;simp[w242];have hJ:=hl (J,_) (za ..);simp only at hJ;have J1:=lf hJ;have hV:=hl (V,_) (zb _ (za ..));simp only at hV;have V1:=lf hV;have hK:=hl (K,_) (zb _ (zb _ (za ..)));simp only at hK;have K1:=lf hK;refine A5s 3 ?_;simp only[Rnd];refine A3 4000 ?_;simp[J1,V1,K1,d1,d1.symm,d2,d2.symm,d3,d3.symm];(refine yC rfl (t1 _) ?_; simp[J1,V1,K1,d1,d1.symm,d2,d2.symm,d3,d3.symm]);(refine F9 hP (by simp<;>exact⟨rfl,rfl⟩) rfl (ha _) (by simp[J1,V1,K1,d1,d1.symm,d2,d2.symm,d3,d3.symm]) (by simp[J1,V1,K1,d1,d1.symm,d2,d2.symm,d3,d3.symm]<;>rfl) ?_; refine A3 4000 ?_; simp[J1,V1,K1,d1,d1.symm,d2,d2.symm,d3,d3.symm]);refine A3 4000 ?_;simp[J1,V1,K1,d1,d1.symm,d2,d2.symm,d3,d3.symm];(refine yC rfl (t2 _) ?_; simp[J1,V1,K1,d1,d1.symm,d2,d2.symm,d3,d3.symm]);(refine yC rfl (hn _) ?_; simp[J1,V1,K1,d1,d1.symm,d2,d2.symm,d3,d3.symm]);(refine F9 hP (by simp<;>exact⟨rfl,rfl⟩) rfl (hb (E.n0+8192) _ (by simp[J1,V1,K1,d1,d1.symm,d2,d2.symm,d3,d3.symm]) (by simp[J1,V1,K1,d1,d1.symm,d2,d2.symm,d3,d3.symm]) (by simp[J1,V1,K1,d1,d1.symm,d2,d2.symm,d3,d3.symm])) (by simp[J1,V1,K1,d1,d1.symm,d2,d2.symm,d3,d3.symm]) (by simp[J1,V1,K1,d1,d1.symm,d2,d2.symm,d3,d3.symm]<;>rfl) ?_; refine A3 4000 ?_; simp[J1,V1,K1,d1,d1.symm,d2,d2.symm,d3,d3.symm]);refine A3 4000 ?_;simp[J1,V1,K1,d1,d1.symm,d2,d2.symm,d3,d3.symm];(refine yC rfl (t3 _) ?_; simp[J1,V1,K1,d1,d1.symm,d2,d2.symm,d3,d3.symm]);refine yE hR [(id,E.n0+19456)] (by simp[J1,V1,K1,d1,d1.symm,d2,d2.symm,d3,d3.symm,A4 hid]) λhrn=>⟨?_,?_,?_,?_,?_,?_⟩<;>(try simp[J1,V1,K1,d1,d1.symm,d2,d2.symm,d3,d3.symm,A4 hid])
def C8W(z:List UInt8)(J id:Nat):A2 prog 173 [.ptr J 0 0] [(J,bS z [91,110,117,108,108,44,34,113,92,34,92,117,48,48,48,49,92,110,34,93,125])] id (.agg [.int .i64 4,.int .i64 0,.str [],.nils,.sl [.agg [.int .i64 1,.int .i64 0,.str [],.nils,.nils],.agg [.int .i64 3,.int .i64 0,.str [113,34,1,10],.nils,.nils]]]) [(J,some (bS z [125]))]:=by
 have t1:=λid=>A14 (s:=[91,110,117,108,108,44,34,113,92,34,92,117,48,48,48,49,92,110,34,93,125]) (w:=[110,117,108,108]) (u:=[91,110,117,108,108,44,34,113,92,34,92,117,48,48,48,49,92,110,34,93,125]) (b:=false) d_ d_ z J id;have t2:=λid=>C6N (s:=[91,110,117,108,108,44,34,113,92,34,92,117,48,48,48,49,92,110,34,93,125]) (w:=[34]) (b:=false) d_ id;have t3:=λid=>A14 (s:=[91,110,117,108,108,44,34,113,92,34,92,117,48,48,48,49,92,110,34,93,125]) (w:=[91]) (u:=[110,117,108,108,44,34,113,92,34,92,117,48,48,48,49,92,110,34,93,125]) (b:=true) d_ d_ z J id;have hs:=λV K id e1 e2 e3=>C7u z J V K id e1 e2 e3;simp only[A03,A5t,A5u,A5v,A5w] at *;refine w173.e.1 λE hP hR hl hid=>?_;simp[w173];have hJ:=hl (J,_) (za ..);simp only at hJ;have J1:=lf hJ;(refine yC rfl (t1 _) ?_; simp[J1]);(refine yC rfl (t2 _) ?_; simp[J1]);(refine yC rfl (t3 _) ?_; simp[J1]);(refine yC rfl (hs E.n0 (E.n0+2048) _ (t_ J1) (t_ J1) s_) ?_; simp[J1]);have hrn:F3 []:=by simp[J1,A4 hid]
 rw[hR];refine I6 f_ (by simp[J1,A4 hid]<;>exact⟨rfl,rfl⟩) [] hrn ⟨?_,?_,?_,?_,?_,?_⟩<;>(try simp[J1,A4 hid]);exact A5 _ rfl
def doM(z:List UInt8)(J V K id:Nat)(d1:J≠V)(d2:J≠K)(d3:V≠K):A2 prog 244 [.ptr K 0 0,.ptr V 0 0] [(J,bS z [34,97,34,58,91,110,117,108,108,44,34,113,92,34,92,117,48,48,48,49,92,110,34,93,125]),(V,pB J),(K,kBj 5 .nils .nils)] id (.tup []) [(J,some (bS z [125])),(K,some (kBj 5 (.bsl id 0 1) (.bsl (id+1) 0 1))),(id,some (sBj [.str [97]])),(id+1,some (lBj [.agg [.int .i64 4,.int .i64 0,.str [],.nils,.sl [.agg [.int .i64 1,.int .i64 0,.str [],.nils,.nils],.agg [.int .i64 3,.int .i64 0,.str [113,34,1,10],.nils,.nils]]]]))]:=by
 have ht:=λid=>C7s z J id;have hn:=λid=>B7D (s:=[58,91,110,117,108,108,44,34,113,92,34,92,117,48,48,48,49,92,110,34,93,125]) (w:=[58]) (u:=[91,110,117,108,108,44,34,113,92,34,92,117,48,48,48,49,92,110,34,93,125]) d_ d_ z J id;have ho:=λid=>C8W z J id;simp only[A03,A5t,A5u,A5v,A5w] at *;refine w244.e.1 λE hP hR hl hid=>?_;simp[w244];have hJ:=hl (J,_) (za ..);simp only at hJ;have J1:=lf hJ;have hV:=hl (V,_) (zb _ (za ..));simp only at hV;have V1:=lf hV;have hK:=hl (K,_) (zb _ (zb _ (za ..)));simp only at hK;have K1:=lf hK;simp[J1,V1,K1,d1,d1.symm,d2,d2.symm,d3,d3.symm];(refine yC rfl (ht _) ?_; simp[J1,V1,K1,d1,d1.symm,d2,d2.symm,d3,d3.symm]);(refine yC rfl (hn _) ?_; simp[J1,V1,K1,d1,d1.symm,d2,d2.symm,d3,d3.symm]);(refine yC rfl (ho _) ?_; simp[J1,V1,K1,d1,d1.symm,d2,d2.symm,d3,d3.symm]);refine yE hR [(id,E.n0+5120),(id+1,E.n0+16384)] (by simp[J1,V1,K1,d1,d1.symm,d2,d2.symm,d3,d3.symm,ne1 hJ.2,ne1 hV.2,ne1 hK.2,C4N hid,A4 hid]) λhrn=>⟨?_,?_,?_,?_,?_,?_⟩<;>(try simp[J1,V1,K1,d1,d1.symm,d2,d2.symm,d3,d3.symm,ne1 hJ.2,ne1 hV.2,ne1 hK.2,C4N hid,A4 hid]);all_goals first|exact A5 _ rfl|exact⟨A5 _ rfl,A5 _ rfl⟩
def C7v(z:List UInt8)(J V K id:Nat)(d1:J≠V)(d2:J≠K)(d3:V≠K):A2 prog 242 [.ptr J 0 0,.str [125],.fn 244 [.ptr K 0 0,.ptr V 0 0]] [(J,bS z [34,97,34,58,91,110,117,108,108,44,34,113,92,34,92,117,48,48,48,49,92,110,34,93,125]),(V,pB J),(K,kBj 5 .nils .nils)] id (.tup []) [(J,some (bS z [])),(K,some (kBj 5 (.bsl id 0 1) (.bsl (id+1) 0 1))),(id,some (sBj [.str [97]])),(id+1,some (lBj [.agg [.int .i64 4,.int .i64 0,.str [],.nils,.sl [.agg [.int .i64 1,.int .i64 0,.str [],.nils,.nils],.agg [.int .i64 3,.int .i64 0,.str [113,34,1,10],.nils,.nils]]]]))]:=by
 have t1:=λid=>A14 (s:=[34,97,34,58,91,110,117,108,108,44,34,113,92,34,92,117,48,48,48,49,92,110,34,93,125]) (w:=[125]) (u:=[34,97,34,58,91,110,117,108,108,44,34,113,92,34,92,117,48,48,48,49,92,110,34,93,125]) (b:=false) d_ d_ z J id;have t2:=λid=>A14 (s:=[125]) (w:=[125]) (u:=[]) (b:=true) d_ d_ z J id;have ha:=λid=>doM z J V K id d1 d2 d3;simp only[A03,A5t,A5u,A5v,A5w] at *;refine w242.e.1 λE hP hR hl hid=>?_;simp[w242];have hJ:=hl (J,_) (za ..);simp only at hJ;have J1:=lf hJ;have hV:=hl (V,_) (zb _ (za ..));simp only at hV;have V1:=lf hV;have hK:=hl (K,_) (zb _ (zb _ (za ..)));simp only at hK;have K1:=lf hK;refine A5s 2 ?_;simp only[Rnd];refine A3 4000 ?_;simp[J1,V1,K1,d1,d1.symm,d2,d2.symm,d3,d3.symm];(refine yC rfl (t1 _) ?_; simp[J1,V1,K1,d1,d1.symm,d2,d2.symm,d3,d3.symm]);(refine F9 hP (by simp<;>exact⟨rfl,rfl⟩) rfl (ha _) (by simp[yq,J1,V1,K1,d1,d1.symm,d2,d2.symm,d3,d3.symm]) (by simp[yq,J1,V1,K1,d1,d1.symm,d2,d2.symm,d3,d3.symm]<;>rfl) ?_; refine A3 4000 ?_; simp[yq,J1,V1,K1,d1,d1.symm,d2,d2.symm,d3,d3.symm]);refine A3 4000 ?_;simp[J1,V1,K1,d1,d1.symm,d2,d2.symm,d3,d3.symm];(refine yC rfl (t2 _) ?_; simp[J1,V1,K1,d1,d1.symm,d2,d2.symm,d3,d3.symm]);refine yE hR [(id,E.n0+8192),(id+1,E.n0+8193)] (by simp[J1,V1,K1,d1,d1.symm,d2,d2.symm,d3,d3.symm,ne1 hJ.2,ne1 hV.2,ne1 hK.2,C4N hid,A4 hid]) λhrn=>⟨?_,?_,?_,?_,?_,?_⟩<;>(try simp[J1,V1,K1,d1,d1.symm,d2,d2.symm,d3,d3.symm,ne1 hJ.2,ne1 hV.2,ne1 hK.2,C4N hid,A4 hid]);all_goals first|exact A5 _ rfl|exact⟨A5 _ rfl,A5 _ rfl⟩
def C8X(z:List UInt8)(J id:Nat):A2 prog 173 [.ptr J 0 0] [(J,bS z [123,34,97,34,58,91,110,117,108,108,44,34,113,92,34,92,117,48,48,48,49,92,110,34,93,125])] id (.agg [.int .i64 5,.int .i64 0,.str [],.sl [.str [97]],.sl [.agg [.int .i64 4,.int .i64 0,.str [],.nils,.sl [.agg [.int .i64 1,.int .i64 0,.str [],.nils,.nils],.agg [.int .i64 3,.int .i64 0,.str [113,34,1,10],.nils,.nils]]]]]) [(J,some (bS z []))]:=by
 have t1:=λid=>A14 (s:=[123,34,97,34,58,91,110,117,108,108,44,34,113,92,34,92,117,48,48,48,49,92,110,34,93,125]) (w:=[110,117,108,108]) (u:=[123,34,97,34,58,91,110,117,108,108,44,34,113,92,34,92,117,48,48,48,49,92,110,34,93,125]) (b:=false) d_ d_ z J id;have t2:=λid=>C6N (s:=[123,34,97,34,58,91,110,117,108,108,44,34,113,92,34,92,117,48,48,48,49,92,110,34,93,125]) (w:=[34]) (b:=false) d_ id;have t3:=λid=>A14 (s:=[123,34,97,34,58,91,110,117,108,108,44,34,113,92,34,92,117,48,48,48,49,92,110,34,93,125]) (w:=[91]) (u:=[123,34,97,34,58,91,110,117,108,108,44,34,113,92,34,92,117,48,48,48,49,92,110,34,93,125]) (b:=false) d_ d_ z J id;have t4:=λid=>A14 (s:=[123,34,97,34,58,91,110,117,108,108,44,34,113,92,34,92,117,48,48,48,49,92,110,34,93,125]) (w:=[123]) (u:=[34,97,34,58,91,110,117,108,108,44,34,113,92,34,92,117,48,48,48,49,92,110,34,93,125]) (b:=true) d_ d_ z J id;have hs:=λV K id e1 e2 e3=>C7v z J V K id e1 e2 e3;simp only[A03,A5t,A5u,A5v,A5w] at *;refine w173.e.1 λE hP hR hl hid=>?_;simp[w173];have hJ:=hl (J,_) (za ..);simp only at hJ;have J1:=lf hJ;(refine yC rfl (t1 _) ?_; simp[J1]);(refine yC rfl (t2 _) ?_; simp[J1]);(refine yC rfl (t3 _) ?_; simp[J1]);(refine yC rfl (t4 _) ?_; simp[J1]);(refine yC rfl (hs E.n0 (E.n0+2048) _ (t_ J1) (t_ J1) s_) ?_; simp[yq,J1]);have hrn:F3 []:=by simp[J1,A4 hid]
 rw[hR];refine I6 f_ (by simp[J1,A4 hid]<;>exact⟨rfl,rfl⟩) [] hrn ⟨?_,?_,?_,?_,?_,?_⟩<;>(try simp[J1,A4 hid]);all_goals first|exact A5 _ rfl|exact⟨A5 _ rfl,A5 _ rfl⟩
def C7w{x m y r:Code}(h:f103.body=some (.seq x (.seq m (.seq y r)))):C8 prog f103.ntmps x=B1Z/\C8 prog f103.ntmps (.seq y r) = .seq B1a (.seq B1b (.seq (.seq B1c (.cond (.t 15) B1d CC.skip)) (.seq B1e CC.ret))):=by
 have h0:=C5o;rw[h] at h0;simp only[vj,zd,C4Z] at h0;obtain⟨_,_,e1,k1,h1⟩:=F7 h0;injection e1 with e1 e1'
 subst e1 e1';obtain⟨_,_,e2,_,h2⟩:=F7 h1;injection e2 with _ e2
 subst e2;exact⟨k1,h2⟩
def C4O{x m r:Code}(h:f103.body=some (.seq x (.seq m r))){Q:Exit->Act->World->Prop}{t:Array Value}{w:World}(hsz:5<t.size)
  (hQ:Q .normal ⟨t.setIfInBounds 5 (.func (.func 172) #[] #[t[2]?.getD undef,t[3]?.getD undef]),[⟨.fn (.func 172) #[t[2]?.getD undef,t[3]?.getD undef],#[]⟩]⟩ w):m.wp prog Q ⟨t,[]⟩ w:=by
 have e:f103.body=some (.seq _ (.seq _ _)):=rfl;rw[e] at h;injection h with h
 injection h with _ h
 injection h with h _
 subst h;refine wp_region ?_;have hmf:∀(fn:Fn) (first cap:Array Value) (w:World),(Instr.makeFunc fn first cap).run prog w = .ok (.func fn first cap) w:=λ_ _ _ _=>rfl;simp[wpOps,wpOp,go_sem,hmf,Exit.then,hsz];exact .inl (.inl hQ)
def C4P{C:Cx prog}{D:List Deferred}{G G':Gh}{w w':World}{bx:Nat->Option Bx}{n0 k id J4 J5:Nat}{F:Fr}{l:List (Nat×Option Bx)}{a:Act}{cs:List AV}{b:Bool}(own:∀i,n0<=i->bx i=none)(old:∀i,G.used i->i<n0)(hs:RS C G bx w)(hid:∀x,id<=x->x<id+1024->¬G.used x)
  (hD:F2 C f103.ntmps D n0 G w F (ov bx l) (· < n0+k) G' a w') (f4:F 2=some (true,.ptr J4 0 0)) (f5:F 3=some (true,.ptr J5 0 0)) (h4:ov bx l J4=some (bO (.agg cs))) (h5:ov bx l J5=some (bB b)) (hc:cs.length=5) (hp:F1 cs=true) (hl:∀q∈l,n0<=q.1) (d:J4≠J5) (j4:n0<=J4) (j5:n0<=J5) :
  ∃v,(results f103 a.tmps).run prog w' = .ok v w'/\∃G1,RS C G1 bx w'/\L0 G w G1 w'/\RV G1 w' (.tup [.agg cs,.bool b]) v/\∀x,G1.used x->G.used x\/(id<=x/\x<id+1024):=by
 let E:O8:=⟨prog,C,bx,f103.ntmps,n0,G,w,own,old,hs,D,λ_=>True,λ_ _=>False⟩
 have hD':Q3 E ⟨[(2,true,.ptr J4 0 0),(3,true,.ptr J5 0 0)],(J4,some (bO (.agg cs)))::(J5,some (bB b))::l,k⟩ G' a w':=by
  refine⟨hD.ev,?_,hD.used,hD.old,λn c v hl=>?_,hD.size,hD.defers⟩
  ·show RS C G' (ov bx _) w';simp only[ov];rw[Z2 (f:=ov bx l) h5,Z2 h4];exact hD.rs
  ·simp only[lk] at hl;repeat' split at hl
   all_goals first|cases hl|skip
   all_goals rename_i hn<;>subst hn
   ·exact hD.fr _ _ _ f4
   ·exact hD.fr _ _ _ f5
 have hh:J8 E.β []:=J8.nil;refine A68 (E:=E) (id:=id) (rd:=[]) (wr:=[]) (C5n) hh hid hD' ?_;simp only[C4a];have htk:cs.take 5=cs:=zm o_;refine E6 (by simp[bO,bB,d,zu d,hc,htk]<;>rfl) [] trivial (S4 s_ (t_ hp) ?_);exact H9.ofX λq hq=>by
  simp at hq;rcases hq with rfl|rfl|hq
  ·exact j4
  ·exact j5
  ·exact hl q hq
def C2R(v1 v2:Value)(w:World):CallsD prog 172 #[v1,v2] .returning w λe u' w'=>u' = .returning/\(∃v,e = .returned v)/\w'=w:=by
 refine callsD_of_wpS func172 rfl λc₀ cs hu=>?_;apply wpS_seq;apply wpS_region;simp[wpOpsS,go_sem,recoverD,hu,ntmps172,Exit.thenS];apply wpS_seq;apply wpS_region;simp[wpOpsS,go_sem,Exit.thenS];refine wpS_cond (t:=false) (by simp[Act.eval,Array.replicate]) ?_;simp only[xr,if_false];apply wpS_of_wp;refine wp_skip ?_;exact⟨rfl,_,by rw[←hu],_,by simp[results,results35]; rfl,rfl,⟨_,rfl⟩,rfl⟩
def C8Y{s:List UInt8}{o:D6}(ho:∀J id,A2 prog 173 [.ptr J 0 0] [(J,bS s s)] id (eO o) [(J,some (bS s []))])(id:Nat):
  A2 prog 103 [.str s] [] id (.tup [eO o,.bool true]) []:=by
 obtain⟨ok,on,ot,oks,ols,hoe⟩:∃(a b:Int) (c:List UInt8) (d:List (List UInt8)) (e:List D6),eO o = .agg [.int .i64 a,.int .i64 b,.str c,.sl (d.map .str),.sl (e.map eO)]:=by
  cases o with|mk a b c d e=>exact⟨a,b,c,d,e,A0o a b c d e⟩
 rw[hoe] at ho ⊢;refine⟨⟨_,func103,d_,rfl⟩,λC G bx w vs nb hs hv hh hnb hid=>calls_of_wp_defers func103 rfl ?_⟩;obtain⟨k1,kr⟩:=C7w rfl;have own:∀i,max nb (id+1024)<=i->bx i=none:=λi hi=>by
  cases hbi:bx i with
  | none=>rfl
  | some b=>exact (hnb i o_ (hs.boxNames hbi).1).elim
 have old:∀i,G.used i->i<max nb (id+1024):=λi hi=>by
  rcases yi i nb with h|h
  ·omega
  ·exact (hnb i h hi).elim
 generalize max nb (id+1024)=n0 at own old;let E:O8:=⟨prog,C,bx,f103.ntmps,n0,G,w,own,old,hs,[],λ_=>False,λ_ _=>False⟩
 have hD:Q3 E ⟨A1Y 0 [.str s],[],0⟩ G { tmps:=vs++Array.replicate (f103.ntmps - vs.size) undef,defers:=[] } w:=by
  refine⟨L0.refl G w,hs,λi hi=>by have:=old i hi; show i<n0+0; omega,λi _ hi=>hi,λn c v hl=>?_,?_,rfl⟩
  ·obtain⟨rfl,_,h3⟩:=A3y hl;simp only[rj] at h3;refine⟨λ_=>?_,λh=>by cases h⟩;have:=hv.2 n v h3;rw[zk] at this ⊢;rw[xy (by rw[←hv.1]; exact (ze.1 h3).1)];exact this
  ·have:=hv.1;simp[ntmps103] at this ⊢;show _=f103.ntmps;simp[ntmps103]; omega
 have hW:Wk E [.code B1Z,.post (λσ=>σ=⟨[(3,true,.ptr (n0+1024) 0 0),(2,true,.ptr n0 0 0),(0,true,.str s)],[(n0+1024,some (bB false)),(n0,some (bO zOut))],2048⟩)] ⟨A1Y 0 [.str s],[],0⟩:=by
  refine A3 4000 ?_;simp[B1Z,E,bB,bO,zOut]
 refine wp_seq (wp_mono (hW _ k1 G _ w hD) λe a w1 hq=>?_);clear hW;cases e with
 | normal =>
  obtain⟨σ,G1,hD1,rfl⟩:=hq;obtain⟨at1,ad1⟩:=a;have hd0:ad1=[]:=hD1.defers;subst hd0;have hsz:5<at1.size:=by have:=hD1.size; simp only at this; rw[this]; show 5<f103.ntmps; simp[ntmps103]
  show (Code.seq _ _).wp _ _ _ _;refine wp_seq (C4O rfl hsz ?_);obtain⟨v4,hv4⟩:∃v4,at1[2]?.getD undef=v4:=⟨_,rfl⟩;obtain⟨v5,hv5⟩:∃v5,at1[3]?.getD undef=v5:=⟨_,rfl⟩;have g4:RV G1 w1 (.ptr n0 0 0) v4:=by
   have:=(hD1.fr 2 true _ rfl).1 rfl;rw[zk] at this;rw[←hv4]; exact this
  have g5:RV G1 w1 (.ptr (n0+1024) 0 0) v5:=by
   have:=(hD1.fr 3 true _ rfl).1 rfl;rw[zk] at this;rw[←hv5]; exact this
  rw[hv4,hv5];have own1:∀i,n0+2048<=i->ov bx [(n0+1024,some (bB false)),(n0,some (bO zOut))] i=none:=λi hi=>by
   simp only[ov,T4];rw[zf o_,zf o_];exact own i o_
  have hev:L0 G w G1 w1:=hD1.ev;have hrs:RS C G1 (ov bx [(n0+1024,some (bB false)),(n0,some (bO zOut))]) w1:=hD1.rs;have hus:∀i,G1.used i->i<n0+2048:=hD1.used;have hol:∀i,i<n0->G1.used i->G.used i:=hD1.old;let D:List Deferred:=[⟨.fn (.func 172) #[v4,v5],#[]⟩]
  let E3:O8:=⟨prog,C,ov bx [(n0+1024,some (bB false)),(n0,some (bO zOut))],f103.ntmps,n0+2048,G1,w1,own1,hus,hrs,D,
   λσ=>bk σ.bx n0=some (bO (.agg [.int .i64 ok,.int .i64 on,.str ot,.sl (oks.map .str),.sl (ols.map eO)]))/\bk σ.bx (n0+1024)=some (bB true)/\lk σ.fr 2=some (true,.ptr n0 0 0)/\lk σ.fr 3=some (true,.ptr (n0+1024) 0 0)/\∀x∈σ.bx,n0<=x.1,λ_ _=>False⟩
  have hN3:E3.n0=n0+2048:=rfl;have hP3:E3.P=prog:=rfl;have hRt:∀σ,E3.Rt σ=(bk σ.bx n0=some (bO (.agg [.int .i64 ok,.int .i64 on,.str ot,.sl (oks.map .str),.sl (ols.map eO)]))/\bk σ.bx (n0+1024)=some (bB true)/\lk σ.fr 2=some (true,.ptr n0 0 0)/\lk σ.fr 3=some (true,.ptr (n0+1024) 0 0)/\∀x∈σ.bx,n0<=x.1):=λ_=>rfl;have hD2:Q3 E3 ⟨[(3,true,.ptr (n0+1024) 0 0),(2,true,.ptr n0 0 0),(0,true,.str s)],[(n0+1024,some (bB false)),(n0,some (bO zOut))],0⟩ G1 ⟨at1.setIfInBounds 5 (.func (.func 172) #[] #[v4,v5]),D⟩ w1:=by
   refine⟨L0.refl G1 w1,?_,λi hi=>by have:=hus i hi; show i<n0+2048+0; omega,λi _ hi=>hi,λn c v hl=>?_,?_,rfl⟩
   ·show RS C G1 (ov (ov bx _) _) w1;simp only[ov];rw[Z2 (f:=T4 (T4 bx n0 _) (n0+1024) _) (i:=n0) (by simp[T4]),Z2 (i:=n0+1024) (by simp[T4])];exact hrs
   ·have:=hD1.fr n c v hl;have hn:n≠5:=λh=>by subst h; simp at hl
    simp only[zk] at this ⊢;rw[vf (zu hn)];exact this
   ·have:=hD1.size;simp only[ud];exact this
  have hinv:∀w3,(invoke (.fn (.func 172) #[v4,v5]) #[]).run prog w3 = .ok (.enter 172 #[v4,v5]) w3:=λw3=>by simp[go_sem]
  have fin:∀{F:Fr} {l:List (Nat×Option Bx)} {k:Nat} {G3:Gh} {a3:Act} {w3:World} {cs:List AV} {b:Bool},F2 C f103.ntmps D (n0+2048) G1 w1 F (ov (ov bx [(n0+1024,some (bB false)),(n0,some (bO zOut))]) l) (· < n0+k) G3 a3 w3 ->
    F 2=some (true,.ptr n0 0 0)->F 3=some (true,.ptr (n0+1024) 0 0)->bk l n0=some (bO (.agg cs))->bk l (n0+1024)=some (bB b)->cs.length=5->F1 cs=true->(∀x∈l,n0<=x.1) ->
    ∃v,(results f103 a3.tmps).run prog w3 = .ok v w3/\∃G1,RS C G1 bx w3/\L0 G w G1 w3/\RV G1 w3 (.tup [.agg cs,.bool b]) v/\∀x,G1.used x->G.used x\/(id<=x/\x<id+1024):=λ{F l k G3 a3 w3 cs b} h f4 f5 b4 b5 hc hp hl=>by
   have h':=h.rebase (n0:=n0) o_ hev hol;have e4:=P3 (ov bx [(n0+1024,some (bB false)),(n0,some (bO zOut))]) b4;have e5:=P3 (ov bx [(n0+1024,some (bB false)),(n0,some (bO zOut))]) b5;rw[←V0] at h' e4 e5;exact C4P own old hs hid h' f4 f5 e4 e5 hc hp (λx hx=>by
    rcases zp.1 hx with hx|hx
    ·exact hl x hx
    ·simp at hx;rcases hx with rfl|rfl<;>simp) o_ o_ o_
  have hW3:Wk E3 [.code (.seq B1a (.seq B1b (.seq (.seq B1c (.cond (.t 15) B1d CC.skip)) (.seq B1e CC.ret))))] ⟨[(3,true,.ptr (n0+1024) 0 0),(2,true,.ptr n0 0 0),(0,true,.str s)],[(n0+1024,some (bB false)),(n0,some (bO zOut))],0⟩:=by
   clear k1 kr hD hD1 hD2 fin;refine A3 4000 ?_;simp[yq,B1a,B1b,B1c,B1d,B1e,hN3,bS,bO,bB,zOut];refine D9 hP3 rfl (ho _ _) s_ (by simp[bS]<;>rfl) ?_;refine A3 4000 ?_;simp[yq,hN3,hRt,bS,bO,bB,zOut]
  have ends:∀{R:Ending->World->Prop} {σ:St} {G3:Gh} {a3:Act} {w3:World},(∀v G4 w4,RS C G4 bx w4->L0 G w G4 w4->RV G4 w4 (.tup [.agg [.int .i64 ok,.int .i64 on,.str ot,.sl (oks.map .str),.sl (ols.map eO)],.bool true]) v->(∀x,G4.used x->G.used x\/(id<=x/\x<id+1024))->R (.returned v) w4)->Q3 E3 σ G3 a3 w3->E3.Rt σ->Leaves prog f103 a3.tmps R a3.defers .returning w3:=λ{R σ G3 a3 w3} hR h1 h2=>by
   obtain⟨b4,b5,f4,f5,hl⟩:=h2;rw[show a3.defers=D from h1.defers];refine leaves_cons s_ (hinv w3) ((C2R v4 v5 w3).mono ?_);rintro e u' w' ⟨rfl,⟨v,rfl⟩,rfl⟩;obtain⟨v,r1,G4,r2,r3,r4,r5⟩:=fin (h1.weak (U':=λx=>x<n0+(2048+σ.k)) (λx hx=>by have:x<n0+2048+σ.k:=hx; omega)) f4 f5 b4 b5 rfl s_ hl;exact⟨v,r1,hR v G4 w' r2 r3 r4 r5⟩
  have hR1:∀v G4 w4,RS C G4 bx w4->L0 G w G4 w4->RV G4 w4 (.tup [.agg [.int .i64 ok,.int .i64 on,.str ot,.sl (oks.map .str),.sl (ols.map eO)],.bool true]) v->(∀x,G4.used x->G.used x\/(id<=x/\x<id+1024)) ->
    ∃v' G',Ending.returned v = .returned v'/\RS C G' (E9 bx []) w4/\L0 G w G' w4/\RV G' w4 (.tup [.agg [.int .i64 ok,.int .i64 on,.str ot,.sl (oks.map .str),.sl (ols.map eO)],.bool true]) v'/\∀x,G'.used x->G.used x\/(id<=x/\x<id+1024):=λv G4 w4 r1 r2 r3 r4=>⟨v,G4,rfl,r1,r2,r3,r4⟩
  show (Code.seq _ _).wp _ _ _ _;refine wp_mono (hW3 _ kr G1 _ w1 hD2) λe a3 w3 hq=>?_;cases e with
  | ret=>obtain⟨σ,G3,h1,h2⟩:=hq; exact ends hR1 h1 h2
  | normal=>obtain⟨σ,G3,h1,h2⟩:=hq; exact ends hR1 h1 h2
  | exit id=>obtain⟨_,_,_,h2⟩:=hq; exact h2.elim
  | panic chain =>
   obtain⟨pv,u,σ,F,B,U,G',rfl,h1,h2,h3,h4⟩:=hq;exact h4.elim
  | _=>exact hq.elim
 | ret=>obtain⟨_,_,_,h2⟩:=hq; exact h2.elim
 | exit id=>obtain⟨_,_,_,h2⟩:=hq; exact h2.elim
 | panic chain =>
  obtain⟨pv,u,σ,F,B,U,G',rfl,h1,h2,h3,h4⟩:=hq;exact h4.elim
 | _=>exact hq.elim
def outJ:D6:=V9 [[97]] [N7 [X9,Y0 [113,34,1,10]]]
def B4A:List UInt8:=[123,34,97,34,58,91,110,117,108,108,44,34,113,92,34,92,117,48,48,48,49,92,110,34,93,125]
def C2S:A5j outJ=0:=by decide
def C4q:okO outJ:=by simp[outJ,V9,N7,X9,Y0,okO,B5K]
def C8Z:jS outJ=B4A:=by decide
theorem C7x:eO outJ = .agg [.int .i64 5,.int .i64 0,.str [],.sl [.str [97]],.sl [.agg [.int .i64 4,.int .i64 0,.str [],.sl [],.sl [.agg [.int .i64 1,.int .i64 0,.str [],.sl [],.sl []],.agg [.int .i64 3,.int .i64 0,.str [113,34,1,10],.sl [],.sl []]]]]]:=rfl
def Rd.own{L:List (Nat×Bx)}{id n:Nat}{b:Bx}(hb:(id,b)∈L)(hn:b.xs.length=n):Rd L (.bsl id 0 n) (.sl b.xs) :=
 .bsl id 0 n b b.xs hb o_ hn (λi x y hx hy=>by rw[xe,hy] at hx; injection hx with hx; rw[hx]) (λi x y j c d hx hy hc hd=>by rw[xe,hy] at hx; injection hx with hx; subst hx; rw[hc] at hd; injection hd with hd; rw[hd]; exact .same _)
def C6O(id:Nat):A2 prog 45 [.str B4A] [] id (.tup [eO outJ,.int .i64 0]) []:=by
 have hPr:=λid=>C8Y (s:=B4A) (o:=outJ) (λJ id=>A2.nrm (C8X B4A J id)) id;have hC:=λid=>A6g outJ id d_ C4q;rw[C7x] at *;rw[C2S] at hC;unfold B4A at *;refine w45.e.1 λE hP hR hl hid=>?_;simp[w45];(refine yH rfl (hPr _) ?_; simp);(refine yH rfl (hC _) ?_; simp);exact yP hR
def B2D(id:Nat):A2 prog 13 [] [] id (.bool true) []:=by
 have hPr:∀id,A2 prog 22 [.agg [.int .i64 5,.int .i64 0,.str [],.sl [.str [97]],.sl [.agg [.int .i64 4,.int .i64 0,.str [],.nils,.sl [.agg [.int .i64 1,.int .i64 0,.str [],.nils,.nils],.agg [.int .i64 3,.int .i64 0,.str [113,34,1,10],.nils,.nils]]]]]] [] id (.tup [.str B4A,.int .i64 0]) []:=λid=>by
  have:=A6j outJ id d_ C4q;rw[show A25 outJ=B4A by unfold A25; rw[zj C2S,C8Z],C2S] at this;exact A2.nrmA this
 have hRd:=λid=>C6O id;rw[C7x] at hRd;have hS:∀id,A2 prog 25 [.agg [.int .i64 5,.int .i64 0,.str [],.sl [.str [97]],.sl [.agg [.int .i64 4,.int .i64 0,.str [],.sl [],.sl [.agg [.int .i64 1,.int .i64 0,.str [],.sl [],.sl []],.agg [.int .i64 3,.int .i64 0,.str [113,34,1,10],.sl [],.sl []]]]]],.agg [.int .i64 5,.int .i64 0,.str [],.sl [.str [97]],.sl [.agg [.int .i64 4,.int .i64 0,.str [],.nils,.sl [.agg [.int .i64 1,.int .i64 0,.str [],.nils,.nils],.agg [.int .i64 3,.int .i64 0,.str [113,34,1,10],.nils,.nils]]]]]] [] id (.bool true) []:=λid=>by
  have:=B79 (outJ.sz+1) outJ outJ id (wb _) d_;rw[sg rfl] at this;exact A2.nrmA this
 unfold B4A at hPr hRd;refine A4a w13.hf w13.hc w13.hn w13.hr (by simp[ntmps13]) λE hP hR hl hid=>?_;refine A3 51 ?_;simp[w13];refine A4Y (D5.deepBox (E.n0+8192) [(E.n0+6144,⟨[.agg [.int .i64 4,.int .i64 0,.str [],.nils,.sl [.agg [.int .i64 1,.int .i64 0,.str [],.nils,.nils],.agg [.int .i64 3,.int .i64 0,.str [113,34,1,10],.nils,.nils]]]],.agg [.int .i64 0,.int .i64 0,.str [],.nils,.nils],false,false⟩),(E.n0+1024,⟨[.str [97]],.str [],false,false⟩)] [] (x:=.agg [.int .i64 5,.int .i64 0,.str [],.bsl (E.n0+1024) 0 1,.bsl (E.n0+6144) 0 1]) (y:=.agg [.int .i64 5,.int .i64 0,.str [],.sl [.str [97]],.sl [.agg [.int .i64 4,.int .i64 0,.str [],.nils,.sl [.agg [.int .i64 1,.int .i64 0,.str [],.nils,.nils],.agg [.int .i64 3,.int .i64 0,.str [113,34,1,10],.nils,.nils]]]]]) (by simp; rfl) rfl rfl (λm c d h1 h2=>?_) (λq hq=>?_) ⟨λy b hb=>?_,λq hq=>?_⟩ (λq hq=>?_)) ?_
 ·match m,h1,h2 with
  | 0,h1,h2|1,h1,h2|2,h1,h2=>simp at h1 h2; rw[←h1,←h2]; exact .same _
  | 3,h1,h2=>simp at h1 h2; rw[←h1,←h2]; exact Rd.own (b:=⟨[.str [97]],.str [],false,false⟩) s_ rfl
  | 4,h1,h2=>simp at h1 h2; rw[←h1,←h2]; exact Rd.own (b:=⟨[.agg [.int .i64 4,.int .i64 0,.str [],.nils,.sl [.agg [.int .i64 1,.int .i64 0,.str [],.nils,.nils],.agg [.int .i64 3,.int .i64 0,.str [113,34,1,10],.nils,.nils]]]],.agg [.int .i64 0,.int .i64 0,.str [],.nils,.nils],false,false⟩) s_ rfl
  | m+5,h1,h2=>simp at h1
 ·simp at hq;rcases hq with rfl|rfl<;>simp
 ·cases hb
 ·simp at hq;rcases hq with h|h|h|h|h|h<;>subst h<;>simp
 ·simp at hq;rcases hq with rfl|rfl<;>simp
 refine A3 4000 ?_;simp;(refine yH rfl (hPr _) ?_; simp);(refine yH rfl (hRd _) ?_; simp);(refine yG rfl (hS _) ?_; simp);exact yP hR
def B5X(l:List Ty)(d:Dk)(text:List UInt8)(id:Nat):A2 prog 4 [.sl (l.map I7),eDk d,.str text] [] id (.bool true) []:=by
 have hA:=λid=>B26 id;have hB:=λid=>B28 id;have hC:=λid=>A9V id;have hD:=λid=>B2D id;have hO:=λid=>B41 l d id;by_cases h:opE l d=0
 rotate_left
 ·rw[C49 h,A6X h] at hO;generalize opE l d=e at *;unfold eDk at *;refine w4.e.1 λE hP hR hl hid=>?_;simp[w4];(refine yH rfl (hA _) ?_; simp);(refine yG rfl (hB _) ?_; simp);(refine yG rfl (hC _) ?_; simp);(refine yG rfl (hD _) ?_; simp);(refine yH rfl (hO _) ?_; simp);refine A7 (v_ h) ?_;simp;exact yP hR
 have hQ:=λid=>A3n text id;have hK:=λid=>A7l l d text ((L7 d.seg).length:Nat) id;have hZ:=λid=>A7l l d text (0:Nat) id;rw[h,show B40 0 (L7 d.seg) = .sl ((L7 d.seg).map eBt) from rfl,show A1a 0 (opS l d)=H4 (opS l d) from rfl] at hO;cases hq:A36 text with
 | error e =>
  rw[hq] at hQ;have hQ:∀id,A2 prog 16 [.str text] [] id (.tup [.nils,.int .i64 e]) []:=hQ;rw[B78 h (zy _) hq] at hK;rw[B78 h (sd _) hq] at hZ;have hne:e≠0:=B25 hq;unfold H4 at *;generalize (opS l d).types.map I7=da at *;generalize (opS l d).things.map W3=db at *;generalize L7 d.seg=X at *;unfold eDk at *;refine w4.e.1 λE hP hR hl hid=>?_;simp[w4];(refine yH rfl (hA _) ?_; simp);(refine yG rfl (hB _) ?_; simp);(refine yG rfl (hC _) ?_; simp);(refine yG rfl (hD _) ?_; simp);(refine yH rfl (hO _) ?_; simp);(refine yH rfl (hQ _) ?_; simp);(refine yH rfl (hK _) ?_; simp);(refine yH rfl (hZ _) ?_; simp);refine A7 (v_ hne) ?_;simp;exact yP hR
 | ok q =>
  rw[hq] at hQ;have hQ:∀id,A2 prog 16 [.str text] [] id (.tup [.sl (q.map C6),.int .i64 0]) []:=hQ;have hz:=C6B hq;rw[B45 h (zy _) hq,C2G] at hK;rw[B45 h (sd _) hq,C6F] at hZ;have hX:=λid=>A8z (opS l d) q id o_;have hY:=λid=>B8s l q id o_;have hPr:=λh id=>B77 (s:=opS l d) (q:=q) h id;have hN:=λh id=>B77 (s:=⟨l,[]⟩) (q:=q) h id;generalize hf:Q1 (opS l d) q=f at *;generalize hi:Q1 ⟨l,[]⟩ q=i at *;obtain⟨xa,xb,xc,xk,xl,hxo⟩:=B0e (opS l d) q;obtain⟨ya,yb,yc,yk,yl,hyo⟩:=B0e ⟨l,[]⟩ q;rw[hxo] at hX;rw[hyo] at hY;simp only[hxo] at hPr;simp only[hyo] at hN;clear hxo hyo;generalize jS (qO (opS l d) q)=tx at *;generalize jS (qO ⟨l,[]⟩ q)=ty at *;unfold H4 at *;generalize (opS l d).types.map I7=da at *;generalize (opS l d).things.map W3=db at *;generalize L7 d.seg=X at *;unfold eDk at *;refine w4.e.1 λE hP hR hl hid=>?_;simp[w4];(refine yH rfl (hA _) ?_; simp);(refine yG rfl (hB _) ?_; simp);(refine yG rfl (hC _) ?_; simp);(refine yG rfl (hD _) ?_; simp);(refine yH rfl (hO _) ?_; simp);(refine yH rfl (hQ _) ?_; simp);(refine yH rfl (hK _) ?_; simp);(refine yH rfl (hZ _) ?_; simp);(refine yH rfl (hX _) ?_; simp);(refine yH rfl (hY _) ?_; simp);refine D4 (λh1=>?_) (λh1=>?_)
  ·have h1:f=0:=(v_ h1);simp[h1];(refine yC rfl (hPr h1 _) ?_; simp[h1]);refine D4 (λh2=>?_) (λh2=>?_)
   ·have h2:i≠0:=(v_ h2);simp[h2];exact yP hR
   ·have h2:i=0:=(v_ h2);simp[h2];(refine yC rfl (hN h2 _) ?_; simp[h2]);exact yP hR
  ·have h1:f≠0:=(v_ h1);simp[h1];refine D4 (λh2=>?_) (λh2=>?_)
   ·have h2:i≠0:=(v_ h2);simp[h2];exact yP hR
   ·have h2:i=0:=(v_ h2);simp[h2];(refine yC rfl (hN h2 _) ?_; simp[h2]);exact yP hR
end Go.Am
namespace Go.Proofs.YtphjabjjnncebaaGreatDoor
open Go Go.Am Go.RowKit
def Tryz.own:ownKnob Tryz.prog.godebug=none:=by kernel_rfl
def Tryz.laidOut:laidOutB Tryz.prog=true:=by kernel_rfl
noncomputable def tys(fn:Func):List TypeId:=B9h Tryz.prog 8 fn.params.toList
def C4Q{n:Nat}{x:AV}(h:A0y Tryz.prog n 122 x):∃f:Am.Fd,x=T5 f:=by
 obtain⟨m,ys,rfl,rfl,h0⟩:=B15 Tryz.underlying122 h;obtain⟨a,ys,rfl,ha,h0⟩:=R7 h0;obtain⟨b,ys,rfl,hb,h0⟩:=R7 h0;obtain⟨c,ys,rfl,hc,h0⟩:=R7 h0;obtain rfl:=A3z h0;obtain⟨a,rfl,_⟩:=A3H Tryz.underlying9 ha;obtain⟨b,rfl,_⟩:=B2o Tryz.underlying3 hb;obtain⟨c,rfl,_⟩:=A3H Tryz.underlying9 hc;exact⟨⟨a,b,c⟩,rfl⟩
def C4R{n:Nat}{x:AV}(h:A0y Tryz.prog n 62 x):∃t:Am.Ty,x=I7 t:=by
 obtain⟨m,ys,rfl,rfl,h0⟩:=B15 Tryz.underlying62 h;obtain⟨a,ys,rfl,ha,h0⟩:=R7 h0;obtain⟨b,ys,rfl,hb,h0⟩:=R7 h0;obtain rfl:=A3z h0;obtain⟨a,rfl,_⟩:=A3H Tryz.underlying9 ha;obtain⟨k,xs,rfl,rfl,hl,hx⟩:=B14 Tryz.underlying60 hb;obtain⟨l,rfl⟩:=A2c λy hy=>C4Q (hx y hy);exact⟨⟨a,l⟩,rfl⟩
def C2T{n:Nat}{x:AV}(h:A0y Tryz.prog n 22 x):∃l:List Am.Ty,x = .sl (l.map I7):=by
 obtain⟨k,xs,rfl,rfl,hl,hx⟩:=B14 Tryz.underlying22 h;obtain⟨l,rfl⟩:=A2c λy hy=>C4R (hx y hy);exact⟨l,rfl⟩
def C4S{n:Nat}{x:AV}(h:A0y Tryz.prog n 25 x):∃d:Dk,x=eDk d/\d.seg.length<=reachBytes:=by
 obtain⟨m,ys,rfl,rfl,h0⟩:=B15 Tryz.underlying25 h;obtain⟨a,ys,rfl,ha,h0⟩:=R7 h0;obtain⟨b,ys,rfl,hb,h0⟩:=R7 h0;obtain rfl:=A3z h0;obtain⟨k,xs,rfl,rfl,hl,hx⟩:=B14 Tryz.underlying23 ha;obtain⟨b,rfl,_⟩:=B2o Tryz.underlying3 hb;obtain⟨l,rfl⟩:=A2c (f:=AV.str) λy hy=>let ⟨s,h,_⟩:=A3H Tryz.underlying9 (hx y hy); ⟨s,h⟩;exact⟨⟨l,b⟩,rfl,v_ hl⟩
def A5x{P:Program}{W:World}:∀{l:List (String×DataW Unit)} {ps:List MemPlace},DataW.LaidVars P W l ps->∀x∈l,∃g t cs fuel p,P.globalNamed x.1=some g/\(P.globals[g]?).map (·.type)=some t/\W.var? P x.1=some cs/\DataW.trod (λ_=>()) P W 0 (λ_=>true) false fuel t cs.toList=some (x.2,p)
 | [],_,_,x,hx=>by cases hx
 | (n,d)::r,ps,⟨g,t,cs,fuel,p,q,h1,h2,h3,h4,h5,_⟩,x,hx=>by
  rcases zh.1 hx with rfl|hx
  ·exact⟨g,t,cs,fuel,p,h1,h2,h3,h4⟩
  ·exact A5x h5 x hx
def B4B{P:Program}{W:World}{g t:Nat}{name T:String}{m:Array (String×TypeId)}{cs:Array Value}{d:DataW Unit}{fuel:Nat}{p:List MemPlace}(hu:P.underlying t=some (.interface m))(hg:P.globalNamed name=some g)(hv:W.var? P name=some cs)
  (h:DataW.trod (λ_=>()) P W 0 (λ_=>true) false fuel t cs.toList=some (.iface T d,p)):∃v,W.cell? ⟨g,0,none⟩=some v/\(v = .nilIface\/∃te pe,v = .iface te pe):=by
 have hc:∃u v,cs.toList=[.iface u v]:=by
  cases fuel with
  | zero=>cases h
  | succ fuel =>
   simp only[DataW.trod,hu] at h;split at h
   all_goals first|cases h; done|exact⟨_,_,by assumption⟩|(simp_all; done)|skip
 obtain⟨u,v,hc⟩:=hc;refine⟨.iface u v,?_,.inr ⟨u,v,rfl⟩⟩;unfold World.var? at hv;rw[hg] at hv;simp only[tc] at hv;unfold World.cell?;split at hv
 ·rename_i cs' e f hh;injection hv with hv
  subst hv;rw[hh];have:cs' = #[.iface u v]:=by cases cs'; simp at hc ⊢; exact hc
  rw[this]; rfl
 ·cases hv
noncomputable abbrev C2U:List (String×DataW Unit):=Rows.deskForeverUptoRow.laid
def B5Y{W:World}(h:laidMetH Tryz.prog C2U W):laidMet Tryz.prog C2U W:=h
def B8y{W:World}(h:laidMetH Tryz.prog C2U W):A37 Tryz.prog W:=by
 obtain⟨ps,hv,_,_⟩:=B5Y h;refine⟨λt ht g hg=>?_,λn hn g hg=>?_⟩
 ·skip;rw [show t = ("internal/strconv.uint64pow10", .u64, Lib.pow10Tab) by simpa [C4r] using ht];obtain ⟨g', t', cs, fuel, p, h1, h2, h3, h4⟩ := A5x hv ("internal/strconv.uint64pow10", Lib.tabData .u64 Lib.pow10Tab) (.tail _ (.tail _ (.head _)));obtain rfl := ws ((show Tryz.prog.globalNamed "internal/strconv.uint64pow10" = some 0 by kernel_rfl).symm.trans h1);obtain rfl:=ws ((show (Tryz.prog.globals[0]?).map (·.type)=some 350 by kernel_rfl).symm.trans h2);unfold Lib.TabIs;rw[h3,←Lib.cells_of_tab Tryz.underlying350 Tryz.underlying330 k_ k_ h4]
 ·simp only[C2X,zh,yv,or_false] at hn;rcases hn with rfl|rfl
  ·skip;obtain ⟨g', t', cs, fuel, p, h1, h2, h3, h4⟩ := A5x hv ("strconv.ErrSyntax", Rows.laid_strconv_ErrSyntax) (.tail _ (.tail _ (.tail _ (.tail _ (.head _)))));obtain rfl := ws ((show (Tryz.prog.globalNamed "strconv.ErrSyntax") = some 2 by kernel_rfl).symm.trans h1);obtain rfl:=ws ((show (Tryz.prog.globals[2]?).map (·.type)=some 244 by kernel_rfl).symm.trans h2);obtain rfl:=ws (h1.symm.trans hg);exact B4B Tryz.underlying244 h1 h3 h4
  ·skip;obtain ⟨g', t', cs, fuel, p, h1, h2, h3, h4⟩ := A5x hv ("strconv.ErrRange", Rows.laid_strconv_ErrRange) (.tail _ (.tail _ (.tail _ (.head _))));obtain rfl := ws ((show (Tryz.prog.globalNamed "strconv.ErrRange") = some 3 by kernel_rfl).symm.trans h1);obtain rfl:=ws ((show (Tryz.prog.globals[3]?).map (·.type)=some 244 by kernel_rfl).symm.trans h2);obtain rfl:=ws (h1.symm.trans hg);exact B4B Tryz.underlying244 h1 h3 h4
def B5Z:DataW Unit->Array Value
 | .agg l=>(l.map λ| .lit (.int k n)=>Value.int k n|_=>undef).toArray
 | _=>#[]
def C7y:DataW Unit->Value
 | .iface _ (.ptr (.agg [.lit (.string s)]))=>.string ⟨⟨s⟩⟩
 | _=>undef
def A3q(vs:Array Value):Obj->Obj
 | .cells _ t frozen=>.cells vs t frozen
 | o=>o
noncomputable def C2V(h:Array Obj):Array Obj :=
 (((((h.modify 0 (A3q (B5Z Rows.laid_internal_strconv_uint64pow10))).modify 4 (A3q (B5Z Rows.laid_math_bits_deBruijn32tab))).modify 5 (A3q (B5Z Rows.laid_math_bits_deBruijn64tab))).modify
  2 (A3q #[.iface 412 (.pointer (some ⟨h.size,0,none⟩))])).modify 3 (A3q #[.iface 412 (.pointer (some ⟨h.size+1,0,none⟩))])) ++
  #[.cells #[C7y Rows.laid_strconv_ErrSyntax] 414 (0,0),.cells #[C7y Rows.laid_strconv_ErrRange] 414 (0,0)]
noncomputable def A6n(os:Os):World :=
 { World.holding Tryz.prog os ⟨#[],#[],[]⟩ with heap:=C2V (World.holding Tryz.prog os ⟨#[],#[],[]⟩).heap }
def B2E{P:Program}{f:FuncId}{fn:Func}{s:ChangeSpec}{c:OpenClaim}
  (h0:(c.wf (OpenSpec.ofChange s)&&laidOutB P&&mapsRowed P&&fn.params.all (P.readableRec ·)&&namedTie P c.named s.vars&&(c.stops==[])&&(P.stops==[])&&(c.knobs==[])&&(P.stopKnobs==[]))=true)
  (h1:(c.inPlace==P.inPlace f)=true) (h2:(c.unfollowed==P.unfollowed f)=true) (h3:(c.recurses==P.recurses f)=true) (h4:(c.named==P.varsNamed f)=true)
  (h5:((c.maps==(fn.params.toList++s.plain.varTypes P).any (P.mapsRec ·))&&(c.ifaces==(fn.params.toList++s.plain.varTypes P).any (P.ifacesRec ·))&&(c.mapsOut==P.mapsAmong fn.resultTypes.toList) &&
   (c.loops==(fn.params.toList++s.plain.varTypes P).any (P.loopsFrom ·))&&(c.wideKeys==(fn.params.toList++s.plain.varTypes P++fn.resultTypes.toList).any (P.wideKeysFrom ·)) &&
   s.vars.all (P.varReadable ·)&&fn.resultTypes.all (λt=>P.readableRec t&&decide (t<P.types.size))&&(c.ifacesOut==fn.resultTypes.toList.any (P.ifacesRec ·))&&(c.loopsOut==fn.resultTypes.toList.any (P.loopsFrom ·)))=true)
  (h6:(c.plainKeys==P.plainKeys)=true)
  (h7:(c.shortTexts.isNone&&P.stopsHeard&&P.mayEnter&&(c.lifted==P.liftsFinal)&&(P.make==some c.make)&&(c.kinds==(if c.domain.isEmpty then [] else fn.params.toList.map λt=>match P.underlying t with|some (.int k)=>some k|_=>none))&&(c.pinned==c.pinnedBy) &&
   (c.veiled==(fn.params.toList++s.plain.varTypes P++fn.resultTypes.toList).any (P.veiledRec ·))&&c.veiledFits P fn.params.toList (fn.params.toList++s.plain.varTypes P++fn.resultTypes.toList))=true):joinedFacts P f fn s c=true:=by
 unfold joinedFacts;simp only[yn] at h0 h5 h7 ⊢;obtain⟨⟨⟨⟨⟨⟨⟨⟨a1,a2⟩,a3⟩,a4⟩,a5⟩,a6⟩,a7⟩,a8⟩,a9⟩:=h0;obtain⟨⟨⟨⟨⟨⟨⟨⟨b1,b2⟩,b3⟩,b4⟩,b5⟩,b6⟩,b7⟩,b8⟩,b9⟩:=h5;obtain⟨⟨⟨⟨⟨⟨⟨⟨d1,d2⟩,d3⟩,d4⟩,d5⟩,d6⟩,d7⟩,d8⟩,d9⟩:=h7;exact⟨⟨⟨⟨⟨⟨⟨⟨⟨⟨⟨⟨⟨⟨⟨⟨⟨⟨⟨⟨⟨⟨⟨⟨⟨⟨⟨⟨⟨⟨⟨a1,a2⟩,a3⟩,a4⟩,a5⟩,a6⟩,a7⟩,a8⟩,a9⟩,h1⟩,h2⟩,h3⟩,h4⟩,b1⟩,b2⟩,b3⟩,b4⟩,b5⟩,b6⟩,b7⟩,b8⟩,b9⟩,h6⟩,d1⟩,d2⟩,d3⟩,d4⟩,d5⟩,d6⟩,d7⟩,d8⟩,d9⟩
end Go.Proofs.YtphjabjjnncebaaGreatDoor
