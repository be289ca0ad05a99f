/- Parts of the proof: an abstract machine for Go functions, and what functions of the program give back (Lb1, Lb2). No condition. -/
import Derived.Test.YthghjjancoopoaaDoorProg
import Derived.Shelf.Strconv.Itoa3
import Derived.Shelf.Strings.OnBuilder
import Derived.KernelRfl
import Derived.Test.YthghjjancoopoaaDoorXD
import Derived.Test.YthghjjancoopoaaDoorXJ
namespace Go.Am
set_option linter.all false
set_option linter.all false
open Go Go.Proofs Go.Shelf
set_option maxRecDepth 100000
def layItoa_ren:Go.Shelf.Ren:=⟨fun|171=>32|243=>61|246=>91|283=>109|284=>110|285=>111|286=>112|129=>128|317=>127|318=>129|319=>130|320=>131|337=>141|338=>142|n=>n,fun|3=>3|9=>9|2=>2|4=>4|171=>155|0=>0|53=>156|37=>69|5=>5|173=>159|212=>174|51=>175|20=>20|213=>176|46=>107|232=>193|233=>194|n=>n,fun|17=>0|18=>4|19=>5|n=>n⟩
theorem layItoa:Go.Proofs.LaysM.n171 Tryd.prog layItoa_ren:={ mixed:=by kernel_rfl,f129:=Tryd.func128.trans (congrArg some (by kernel_rfl)),f171:=Tryd.func32.trans (congrArg some (by kernel_rfl)),f243:=Tryd.func61.trans (congrArg some (by kernel_rfl)),f246:=Tryd.func91.trans (congrArg some (by kernel_rfl)),f283:=Tryd.func109.trans (congrArg some (by kernel_rfl)),f284:=Tryd.func110.trans (congrArg some (by kernel_rfl)),f285:=Tryd.func111.trans (congrArg some (by kernel_rfl)),f286:=Tryd.func112.trans (congrArg some (by kernel_rfl)),f317:=Tryd.func127.trans (congrArg some (by kernel_rfl)),f318:=Tryd.func129.trans (congrArg some (by kernel_rfl)),f319:=Tryd.func130.trans (congrArg some (by kernel_rfl)),f320:=Tryd.func131.trans (congrArg some (by kernel_rfl)),f337:=Tryd.func141.trans (congrArg some (by kernel_rfl)),f338:=Tryd.func142.trans (congrArg some (by kernel_rfl)),t0:=Tryd.underlying0,a0:=Tryd.isAgg0,z0:=Tryd.sizeOf0,v0:=Tryd.zeroValue0,t2:=Tryd.underlying2,a2:=Tryd.isAgg2,z2:=Tryd.sizeOf2,v2:=Tryd.zeroValue2,t3:=Tryd.underlying3,a3:=Tryd.isAgg3,z3:=Tryd.sizeOf3,v3:=Tryd.zeroValue3,t4:=Tryd.underlying4,a4:=Tryd.isAgg4,z4:=Tryd.sizeOf4,v4:=Tryd.zeroValue4,t5:=Tryd.underlying5,a5:=Tryd.isAgg5,z5:=Tryd.sizeOf5,v5:=Tryd.zeroValue5,t9:=Tryd.underlying9,a9:=Tryd.isAgg9,z9:=Tryd.sizeOf9,v9:=Tryd.zeroValue9,t20:=Tryd.underlying20,a20:=Tryd.isAgg20,z20:=Tryd.sizeOf20,v20:=Tryd.zeroValue20,t37:=Tryd.underlying69,a37:=Tryd.isAgg69,z37:=Tryd.sizeOf69,v37:=Tryd.zeroValue69,t46:=Tryd.underlying107,a46:=Tryd.isAgg107,z46:=Tryd.sizeOf107,v46:=Tryd.zeroValue107,t51:=Tryd.underlying175,a51:=Tryd.isAgg175,z51:=Tryd.sizeOf175,v51:=Tryd.zeroValue175,t53:=Tryd.underlying156,a53:=Tryd.isAgg156,z53:=Tryd.sizeOf156,v53:=Tryd.zeroValue156,t171:=Tryd.underlying155,a171:=Tryd.isAgg155,z171:=Tryd.sizeOf155,v171:=Tryd.zeroValue155,t173:=Tryd.underlying159,a173:=Tryd.isAgg159,z173:=Tryd.sizeOf159,v173:=Tryd.zeroValue159,t212:=Tryd.underlying174,a212:=Tryd.isAgg174,z212:=Tryd.sizeOf174,v212:=Tryd.zeroValue174,t213:=Tryd.underlying176,a213:=Tryd.isAgg176,z213:=Tryd.sizeOf176,t232:=Tryd.underlying193,a232:=Tryd.isAgg193,z232:=Tryd.sizeOf193,v232:=Tryd.zeroValue193,t233:=Tryd.underlying194,a233:=Tryd.isAgg194,z233:=Tryd.sizeOf194,v233:=Tryd.zeroValue194,g17:=by kernel_rfl,g18:=by kernel_rfl,g19:=by kernel_rfl,i0:=by kernel_rfl,i2:=by kernel_rfl,i3:=by kernel_rfl,i4:=by kernel_rfl,i5:=by kernel_rfl,i9:=by kernel_rfl,i20:=by kernel_rfl,i37:=by kernel_rfl,i46:=by kernel_rfl,i51:=by kernel_rfl,i53:=by kernel_rfl,i171:=by kernel_rfl,i173:=by kernel_rfl,i212:=by kernel_rfl,i232:=by kernel_rfl,i233:=by kernel_rfl,m17:=by kernel_rfl,m18:=by kernel_rfl,m19:=by kernel_rfl }
def layJoin_ren:Go.Shelf.Ren:=⟨fun|156=>34|165=>62|166=>63|169=>64|240=>92|241=>93|276=>113|277=>114|n=>n,fun|31=>22|9=>9|3=>3|4=>4|0=>0|20=>20|72=>110|76=>114|70=>108|37=>69|75=>113|127=>143|164=>161|5=>5|80=>116|n=>n,fun|n=>n⟩
theorem layJoin:Go.Proofs.Lays.n156 Tryd.prog layJoin_ren:={ mixed:=by kernel_rfl,f156:=Tryd.func34.trans (congrArg some (by kernel_rfl)),f165:=Tryd.func62.trans (congrArg some (by kernel_rfl)),f166:=Tryd.func63.trans (congrArg some (by kernel_rfl)),f169:=Tryd.func64.trans (congrArg some (by kernel_rfl)),f240:=Tryd.func92.trans (congrArg some (by kernel_rfl)),f241:=Tryd.func93.trans (congrArg some (by kernel_rfl)),f276:=Tryd.func113.trans (congrArg some (by kernel_rfl)),f277:=Tryd.func114.trans (congrArg some (by kernel_rfl)),t0:=Tryd.underlying0,a0:=Tryd.isAgg0,z0:=Tryd.sizeOf0,v0:=Tryd.zeroValue0,t3:=Tryd.underlying3,a3:=Tryd.isAgg3,z3:=Tryd.sizeOf3,v3:=Tryd.zeroValue3,t4:=Tryd.underlying4,a4:=Tryd.isAgg4,z4:=Tryd.sizeOf4,v4:=Tryd.zeroValue4,t9:=Tryd.underlying9,a9:=Tryd.isAgg9,z9:=Tryd.sizeOf9,v9:=Tryd.zeroValue9,t20:=Tryd.underlying20,a20:=Tryd.isAgg20,z20:=Tryd.sizeOf20,v20:=Tryd.zeroValue20,t31:=Tryd.underlying22,a31:=Tryd.isAgg22,z31:=Tryd.sizeOf22,v31:=Tryd.zeroValue22,t37:=Tryd.underlying69,a37:=Tryd.isAgg69,z37:=Tryd.sizeOf69,v37:=Tryd.zeroValue69,t70:=Tryd.underlying108,a70:=Tryd.isAgg108,z70:=Tryd.sizeOf108,v70:=Tryd.zeroValue108,t72:=Tryd.underlying110,a72:=Tryd.isAgg110,z72:=Tryd.sizeOf110,v72:=Tryd.zeroValue110,t75:=Tryd.underlying113,a75:=Tryd.isAgg113,z75:=Tryd.sizeOf113,v75:=Tryd.zeroValue113,t76:=Tryd.underlying114,a76:=Tryd.isAgg114,z76:=Tryd.sizeOf114,v76:=Tryd.zeroValue114,t127:=Tryd.underlying143,a127:=Tryd.isAgg143,z127:=Tryd.sizeOf143,v127:=Tryd.zeroValue143,t164:=Tryd.underlying161,a164:=Tryd.isAgg161,z164:=Tryd.sizeOf161,v164:=Tryd.zeroValue161 }
theorem extraJoin:Builder.Extra Tryd.prog layJoin_ren:={ sizeBuilder:=by kernel_rfl,liesBuilder:=by kernel_rfl,t5:=Tryd.underlying5,a5:=Tryd.isAgg5,z5:=Tryd.sizeOf5,v5:=Tryd.zeroValue5,infoByte:=by kernel_rfl,cellsByte:=by kernel_rfl,sizeByte:=by kernel_rfl,neB5:=by decide }
end Go.Am
namespace Go.Am
set_option linter.all false
open Go Go.RowKit Go.Proofs Go.Shelf
set_option maxRecDepth 100000
set_option linter.all false
theorem itoa_pl1 : (Tryd.f32.name == "runtime.NumGoroutine") = false := by decide
theorem itoa_pl2:Tryd.f32.body.isNone=false:=rfl
theorem join_pl1 : (Tryd.f34.name == "runtime.NumGoroutine") = false := by decide
theorem join_pl2:Tryd.f34.body.isNone=false:=rfl
theorem itoa_plain:PlainF Tryd.prog 32:=⟨_,Tryd.func32,itoa_pl1,itoa_pl2⟩
theorem join_plain:PlainF Tryd.prog 34:=⟨_,Tryd.func34,join_pl1,join_pl2⟩
theorem pow10_named : (Tryd.prog.globalNamed "internal/strconv.uint64pow10").isSome = true := by kernel_rfl
theorem pow10_is {w : World} (h : Tabs Tryd.prog w) : Lib.TabIs Tryd.prog w "internal/strconv.uint64pow10" .u64 Lib.pow10Tab := by
 obtain⟨g,hg⟩:=Option.isSome_iff_exists.1 pow10_named
 exact h.tab ("internal/strconv.uint64pow10", .u64, Lib.pow10Tab) (by simp [tabL]) g hg
theorem below_grow{w:World}(k:Nat)(os:Array Obj):Below w.heap.size w (Sort.grow (w.drewN k) os) :=
 ⟨rfl,rfl,rfl,by simp[Sort.grow,World.drewN],fun i hi=>by
  show ((w.drewN k).heap++os)[i]?=_
  rw[Array.getElem?_append_left (by show i<w.heap.size; exact hi)]
  rfl⟩
theorem Itoa_ok(n:Int)(id:Nat)(h:I64 n):FnOk Tryd.prog 32 [.int .i64 n] [] id (.str (Lib.itoa n)) []:=by
 refine fn_old itoa_plain fun C G bx w vs hs hv=>?_
 obtain⟨v,rfl,hv1⟩:=rvs_one_inv hv
 cases hv1
 refine (Any.strconv_Itoa layItoa n (by unfold I64 at h; omega) (by unfold I64 at h; omega) w (pow10_is hs.tabs)).mono ?_
 rintro e w' ⟨h1,k,os,rfl⟩
 exact⟨_,h1,fun _ _=>.str _,below_grow k os⟩
theorem Join_ok(xs:List (List UInt8))(sep:List UInt8)(id:Nat)(hN:xs.length≤140737488355328)(hlen:(Lib.join xs sep).length≤140737488355328):
  FnOk Tryd.prog 34 [.sl (xs.map .str),.str sep] [] id (.str (Lib.join xs sep)) []:=by
 refine fn_old join_plain fun C G bx w vs hs hv=>?_
 obtain⟨u,v,rfl,hv1,hv2⟩:=rvs_two_inv hv
 cases hv2
 obtain⟨A,c,rfl,h1,h2,h3⟩:=rv_strs hs hv1
 have hmap:(xs.map fun x=>(⟨⟨x⟩⟩:ByteArray)).map (·.data.toList)=xs:=by simp[Function.comp_def]
 rcases h3 with rfl|⟨b,o,rfl,h4,h5⟩
 ·refine (Any.strings_Join_none layJoin extraJoin A c ⟨⟨sep⟩⟩ w).mono ?_
  rintro e w' ⟨q1,rfl⟩
  exact⟨_,q1,fun _ _=>.str _,Below.refl _ _⟩
 ·have:=Any.strings_Join layJoin extraJoin b o c (xs.map fun x=>⟨⟨x⟩⟩) ⟨⟨sep⟩⟩ w (fun j x hx=>by
   rw[List.getElem?_map] at hx
   cases hj:xs[j]? with
   | none=>rw[hj] at hx; cases hx
   | some y=>rw[hj] at hx; injection hx with hx; subst hx; exact h5 j y hj) h4 (by simpa using hN) (by simpa using h1) (by rw[hmap]; exact hlen)
  rw[hmap] at this
  simp only[List.length_map] at this
  refine this.mono ?_
  rintro e w' ⟨q1,q2⟩
  exact⟨_,q1,fun _ _=>.str _,q2⟩
end Go.Am
