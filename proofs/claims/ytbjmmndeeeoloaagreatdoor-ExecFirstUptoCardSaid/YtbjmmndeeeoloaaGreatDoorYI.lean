/- Parts of the proof: an abstract machine for Go functions, and what functions of the program give back (Lb1, Lb2). No condition. -/
import Derived.Test.YtbjmmndeeeoloaaGreatDoorProg
import Derived.Shelf.Strconv.Itoa3
import Derived.Shelf.Strings.OnBuilder
import Derived.KernelRfl
import Derived.Test.YtbjmmndeeeoloaaGreatDoorXD
import Derived.Test.YtbjmmndeeeoloaaGreatDoorXJ
namespace Go.Am
set_option linter.all false
set_option linter.all false
open Go Go.Proofs Go.Shelf
set_option maxRecDepth 100000
def layItoa_ren:Go.Shelf.Ren:=⟨fun|171=>78|243=>102|246=>124|283=>139|284=>140|285=>141|286=>142|129=>151|317=>150|318=>152|319=>153|320=>154|337=>159|338=>160|n=>n,fun|3=>3|9=>9|2=>2|4=>4|171=>183|0=>0|53=>184|37=>145|5=>5|173=>187|212=>197|51=>198|20=>20|213=>199|46=>144|232=>205|233=>206|n=>n,fun|17=>0|18=>2|19=>3|n=>n⟩
theorem layItoa:Go.Proofs.LaysM.n171 Tryz.prog layItoa_ren:={ mixed:=by kernel_rfl,f129:=Tryz.func151.trans (congrArg some (by kernel_rfl)),f171:=Tryz.func78.trans (congrArg some (by kernel_rfl)),f243:=Tryz.func102.trans (congrArg some (by kernel_rfl)),f246:=Tryz.func124.trans (congrArg some (by kernel_rfl)),f283:=Tryz.func139.trans (congrArg some (by kernel_rfl)),f284:=Tryz.func140.trans (congrArg some (by kernel_rfl)),f285:=Tryz.func141.trans (congrArg some (by kernel_rfl)),f286:=Tryz.func142.trans (congrArg some (by kernel_rfl)),f317:=Tryz.func150.trans (congrArg some (by kernel_rfl)),f318:=Tryz.func152.trans (congrArg some (by kernel_rfl)),f319:=Tryz.func153.trans (congrArg some (by kernel_rfl)),f320:=Tryz.func154.trans (congrArg some (by kernel_rfl)),f337:=Tryz.func159.trans (congrArg some (by kernel_rfl)),f338:=Tryz.func160.trans (congrArg some (by kernel_rfl)),t0:=Tryz.underlying0,a0:=Tryz.isAgg0,z0:=Tryz.sizeOf0,v0:=Tryz.zeroValue0,t2:=Tryz.underlying2,a2:=Tryz.isAgg2,z2:=Tryz.sizeOf2,v2:=Tryz.zeroValue2,t3:=Tryz.underlying3,a3:=Tryz.isAgg3,z3:=Tryz.sizeOf3,v3:=Tryz.zeroValue3,t4:=Tryz.underlying4,a4:=Tryz.isAgg4,z4:=Tryz.sizeOf4,v4:=Tryz.zeroValue4,t5:=Tryz.underlying5,a5:=Tryz.isAgg5,z5:=Tryz.sizeOf5,v5:=Tryz.zeroValue5,t9:=Tryz.underlying9,a9:=Tryz.isAgg9,z9:=Tryz.sizeOf9,v9:=Tryz.zeroValue9,t20:=Tryz.underlying20,a20:=Tryz.isAgg20,z20:=Tryz.sizeOf20,v20:=Tryz.zeroValue20,t37:=Tryz.underlying145,a37:=Tryz.isAgg145,z37:=Tryz.sizeOf145,v37:=Tryz.zeroValue145,t46:=Tryz.underlying144,a46:=Tryz.isAgg144,z46:=Tryz.sizeOf144,v46:=Tryz.zeroValue144,t51:=Tryz.underlying198,a51:=Tryz.isAgg198,z51:=Tryz.sizeOf198,v51:=Tryz.zeroValue198,t53:=Tryz.underlying184,a53:=Tryz.isAgg184,z53:=Tryz.sizeOf184,v53:=Tryz.zeroValue184,t171:=Tryz.underlying183,a171:=Tryz.isAgg183,z171:=Tryz.sizeOf183,v171:=Tryz.zeroValue183,t173:=Tryz.underlying187,a173:=Tryz.isAgg187,z173:=Tryz.sizeOf187,v173:=Tryz.zeroValue187,t212:=Tryz.underlying197,a212:=Tryz.isAgg197,z212:=Tryz.sizeOf197,v212:=Tryz.zeroValue197,t213:=Tryz.underlying199,a213:=Tryz.isAgg199,z213:=Tryz.sizeOf199,t232:=Tryz.underlying205,a232:=Tryz.isAgg205,z232:=Tryz.sizeOf205,v232:=Tryz.zeroValue205,t233:=Tryz.underlying206,a233:=Tryz.isAgg206,z233:=Tryz.sizeOf206,v233:=Tryz.zeroValue206,g17:=by kernel_rfl,g18:=by kernel_rfl,g19:=by kernel_rfl,i0:=by kernel_rfl,i2:=by kernel_rfl,i3:=by kernel_rfl,i4:=by kernel_rfl,i5:=by kernel_rfl,i9:=by kernel_rfl,i20:=by kernel_rfl,i37:=by kernel_rfl,i46:=by kernel_rfl,i51:=by kernel_rfl,i53:=by kernel_rfl,i171:=by kernel_rfl,i173:=by kernel_rfl,i212:=by kernel_rfl,i232:=by kernel_rfl,i233:=by kernel_rfl,m17:=by kernel_rfl,m18:=by kernel_rfl,m19:=by kernel_rfl }
def layJoin_ren:Go.Shelf.Ren:=⟨fun|156=>80|165=>103|166=>104|169=>105|240=>125|241=>126|276=>143|277=>144|n=>n,fun|31=>40|9=>9|3=>3|4=>4|0=>0|20=>20|72=>148|76=>152|70=>146|37=>145|75=>151|127=>170|164=>189|5=>5|80=>154|n=>n,fun|n=>n⟩
theorem layJoin:Go.Proofs.Lays.n156 Tryz.prog layJoin_ren:={ mixed:=by kernel_rfl,f156:=Tryz.func80.trans (congrArg some (by kernel_rfl)),f165:=Tryz.func103.trans (congrArg some (by kernel_rfl)),f166:=Tryz.func104.trans (congrArg some (by kernel_rfl)),f169:=Tryz.func105.trans (congrArg some (by kernel_rfl)),f240:=Tryz.func125.trans (congrArg some (by kernel_rfl)),f241:=Tryz.func126.trans (congrArg some (by kernel_rfl)),f276:=Tryz.func143.trans (congrArg some (by kernel_rfl)),f277:=Tryz.func144.trans (congrArg some (by kernel_rfl)),t0:=Tryz.underlying0,a0:=Tryz.isAgg0,z0:=Tryz.sizeOf0,v0:=Tryz.zeroValue0,t3:=Tryz.underlying3,a3:=Tryz.isAgg3,z3:=Tryz.sizeOf3,v3:=Tryz.zeroValue3,t4:=Tryz.underlying4,a4:=Tryz.isAgg4,z4:=Tryz.sizeOf4,v4:=Tryz.zeroValue4,t9:=Tryz.underlying9,a9:=Tryz.isAgg9,z9:=Tryz.sizeOf9,v9:=Tryz.zeroValue9,t20:=Tryz.underlying20,a20:=Tryz.isAgg20,z20:=Tryz.sizeOf20,v20:=Tryz.zeroValue20,t31:=Tryz.underlying40,a31:=Tryz.isAgg40,z31:=Tryz.sizeOf40,v31:=Tryz.zeroValue40,t37:=Tryz.underlying145,a37:=Tryz.isAgg145,z37:=Tryz.sizeOf145,v37:=Tryz.zeroValue145,t70:=Tryz.underlying146,a70:=Tryz.isAgg146,z70:=Tryz.sizeOf146,v70:=Tryz.zeroValue146,t72:=Tryz.underlying148,a72:=Tryz.isAgg148,z72:=Tryz.sizeOf148,v72:=Tryz.zeroValue148,t75:=Tryz.underlying151,a75:=Tryz.isAgg151,z75:=Tryz.sizeOf151,v75:=Tryz.zeroValue151,t76:=Tryz.underlying152,a76:=Tryz.isAgg152,z76:=Tryz.sizeOf152,v76:=Tryz.zeroValue152,t127:=Tryz.underlying170,a127:=Tryz.isAgg170,z127:=Tryz.sizeOf170,v127:=Tryz.zeroValue170,t164:=Tryz.underlying189,a164:=Tryz.isAgg189,z164:=Tryz.sizeOf189,v164:=Tryz.zeroValue189 }
theorem extraJoin:Builder.Extra Tryz.prog layJoin_ren:={ sizeBuilder:=by kernel_rfl,liesBuilder:=by kernel_rfl,t5:=Tryz.underlying5,a5:=Tryz.isAgg5,z5:=Tryz.sizeOf5,v5:=Tryz.zeroValue5,infoByte:=by kernel_rfl,cellsByte:=by kernel_rfl,sizeByte:=by kernel_rfl,neB5:=by decide }
end Go.Am
namespace Go.Am
set_option linter.all false
open Go Go.RowKit Go.Proofs Go.Shelf
set_option maxRecDepth 100000
set_option linter.all false
theorem itoa_pl1 : (Tryz.f78.name == "runtime.NumGoroutine") = false := by decide
theorem itoa_pl2:Tryz.f78.body.isNone=false:=rfl
theorem join_pl1 : (Tryz.f80.name == "runtime.NumGoroutine") = false := by decide
theorem join_pl2:Tryz.f80.body.isNone=false:=rfl
theorem itoa_plain:PlainF Tryz.prog 78:=⟨_,Tryz.func78,itoa_pl1,itoa_pl2⟩
theorem join_plain:PlainF Tryz.prog 80:=⟨_,Tryz.func80,join_pl1,join_pl2⟩
theorem pow10_named : (Tryz.prog.globalNamed "internal/strconv.uint64pow10").isSome = true := by kernel_rfl
theorem pow10_is {w : World} (h : Tabs Tryz.prog w) : Lib.TabIs Tryz.prog w "internal/strconv.uint64pow10" .u64 Lib.pow10Tab := by
 obtain⟨g,hg⟩:=Option.isSome_iff_exists.1 pow10_named
 exact h ("internal/strconv.uint64pow10", .u64, Lib.pow10Tab) (by simp [tabL]) g hg
theorem below_grow{w:World}(k:Nat)(os:Array Obj):Below w.heap.size w (Sort.grow (w.drewN k) os) :=
 ⟨rfl,rfl,rfl,by simp[Sort.grow,World.drewN],fun i hi=>by
  show ((w.drewN k).heap++os)[i]?=_
  rw[Array.getElem?_append_left (by show i<w.heap.size; exact hi)]
  rfl⟩
theorem Itoa_ok(n:Int)(id:Nat)(h:I64 n):FnOk Tryz.prog 78 [.int .i64 n] [] id (.str (Lib.itoa n)) []:=by
 refine fn_old itoa_plain fun C G bx w vs hs hv=>?_
 obtain⟨v,rfl,hv1⟩:=rvs_one_inv hv
 cases hv1
 refine (Any.strconv_Itoa layItoa n (by unfold I64 at h; omega) (by unfold I64 at h; omega) w (pow10_is hs.tabs)).mono ?_
 rintro e w' ⟨h1,k,os,rfl⟩
 exact⟨_,h1,fun _ _=>.str _,below_grow k os⟩
theorem Join_ok(xs:List (List UInt8))(sep:List UInt8)(id:Nat)(hN:xs.length≤140737488355328)(hlen:(Lib.join xs sep).length≤140737488355328):
  FnOk Tryz.prog 80 [.sl (xs.map .str),.str sep] [] id (.str (Lib.join xs sep)) []:=by
 refine fn_old join_plain fun C G bx w vs hs hv=>?_
 obtain⟨u,v,rfl,hv1,hv2⟩:=rvs_two_inv hv
 cases hv2
 obtain⟨A,c,rfl,h1,h2,h3⟩:=rv_strs hs hv1
 have hmap:(xs.map fun x=>(⟨⟨x⟩⟩:ByteArray)).map (·.data.toList)=xs:=by simp[Function.comp_def]
 rcases h3 with rfl|⟨b,o,rfl,h4,h5⟩
 ·refine (Any.strings_Join_none layJoin extraJoin A c ⟨⟨sep⟩⟩ w).mono ?_
  rintro e w' ⟨q1,rfl⟩
  exact⟨_,q1,fun _ _=>.str _,Below.refl _ _⟩
 ·have:=Any.strings_Join layJoin extraJoin b o c (xs.map fun x=>⟨⟨x⟩⟩) ⟨⟨sep⟩⟩ w (fun j x hx=>by
   rw[List.getElem?_map] at hx
   cases hj:xs[j]? with
   | none=>rw[hj] at hx; cases hx
   | some y=>rw[hj] at hx; injection hx with hx; subst hx; exact h5 j y hj) h4 (by simpa using hN) (by simpa using h1) (by rw[hmap]; exact hlen)
  rw[hmap] at this
  simp only[List.length_map] at this
  refine this.mono ?_
  rintro e w' ⟨q1,q2⟩
  exact⟨_,q1,fun _ _=>.str _,q2⟩
end Go.Am
