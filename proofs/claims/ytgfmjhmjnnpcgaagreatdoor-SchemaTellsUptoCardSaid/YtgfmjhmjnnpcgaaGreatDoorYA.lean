/- Parts of the proof: an abstract machine for Go functions, and what functions of the program give back (Lz0, Lb1, Lb2, Lb3, Lb4, Lb5). No condition. -/
import Derived.Test.YtgfmjhmjnnpcgaaGreatDoorXF
import Derived.Test.YtgfmjhmjnnpcgaaGreatDoorXH
import Derived.Test.YtgfmjhmjnnpcgaaGreatDoorProg
import Derived.Shelf.Strconv.Itoa3
import Derived.Shelf.Strings.OnBuilder
import Derived.KernelRfl
import Derived.Test.YtgfmjhmjnnpcgaaGreatDoorXD
import Derived.Shelf.Small.Strs
import Derived.Shelf.Strconv.AtoiAll
import Derived.Shelf.Strings.Search3
namespace Go.Am
set_option linter.all false
set_option linter.all false
def I64(n:Int):Prop:=-9223372036854775808≤n∧n≤9223372036854775807
end Go.Am
namespace Go.Am
set_option linter.all false
open Go Go.Proofs Go.Shelf
set_option maxRecDepth 100000
set_option linter.all false
def layItoa_ren:Go.Shelf.Ren:=⟨fun|171=>111|243=>132|246=>145|283=>160|284=>161|285=>162|286=>163|129=>175|317=>174|318=>176|319=>177|320=>178|337=>187|338=>188|n=>n,fun|3=>3|9=>9|2=>2|4=>4|171=>177|0=>0|53=>178|37=>102|5=>5|173=>181|212=>206|51=>141|20=>20|213=>207|46=>169|232=>237|233=>238|n=>n,fun|17=>3|18=>4|19=>5|n=>n⟩
theorem layItoa:Go.Proofs.LaysM.n171 Tryz.prog layItoa_ren:={ mixed:=by kernel_rfl,f129:=Tryz.func175.trans (congrArg some (by kernel_rfl)),f171:=Tryz.func111.trans (congrArg some (by kernel_rfl)),f243:=Tryz.func132.trans (congrArg some (by kernel_rfl)),f246:=Tryz.func145.trans (congrArg some (by kernel_rfl)),f283:=Tryz.func160.trans (congrArg some (by kernel_rfl)),f284:=Tryz.func161.trans (congrArg some (by kernel_rfl)),f285:=Tryz.func162.trans (congrArg some (by kernel_rfl)),f286:=Tryz.func163.trans (congrArg some (by kernel_rfl)),f317:=Tryz.func174.trans (congrArg some (by kernel_rfl)),f318:=Tryz.func176.trans (congrArg some (by kernel_rfl)),f319:=Tryz.func177.trans (congrArg some (by kernel_rfl)),f320:=Tryz.func178.trans (congrArg some (by kernel_rfl)),f337:=Tryz.func187.trans (congrArg some (by kernel_rfl)),f338:=Tryz.func188.trans (congrArg some (by kernel_rfl)),t0:=Tryz.underlying0,a0:=Tryz.isAgg0,z0:=Tryz.sizeOf0,v0:=Tryz.zeroValue0,t2:=Tryz.underlying2,a2:=Tryz.isAgg2,z2:=Tryz.sizeOf2,v2:=Tryz.zeroValue2,t3:=Tryz.underlying3,a3:=Tryz.isAgg3,z3:=Tryz.sizeOf3,v3:=Tryz.zeroValue3,t4:=Tryz.underlying4,a4:=Tryz.isAgg4,z4:=Tryz.sizeOf4,v4:=Tryz.zeroValue4,t5:=Tryz.underlying5,a5:=Tryz.isAgg5,z5:=Tryz.sizeOf5,v5:=Tryz.zeroValue5,t9:=Tryz.underlying9,a9:=Tryz.isAgg9,z9:=Tryz.sizeOf9,v9:=Tryz.zeroValue9,t20:=Tryz.underlying20,a20:=Tryz.isAgg20,z20:=Tryz.sizeOf20,v20:=Tryz.zeroValue20,t37:=Tryz.underlying102,a37:=Tryz.isAgg102,z37:=Tryz.sizeOf102,v37:=Tryz.zeroValue102,t46:=Tryz.underlying169,a46:=Tryz.isAgg169,z46:=Tryz.sizeOf169,v46:=Tryz.zeroValue169,t51:=Tryz.underlying141,a51:=Tryz.isAgg141,z51:=Tryz.sizeOf141,v51:=Tryz.zeroValue141,t53:=Tryz.underlying178,a53:=Tryz.isAgg178,z53:=Tryz.sizeOf178,v53:=Tryz.zeroValue178,t171:=Tryz.underlying177,a171:=Tryz.isAgg177,z171:=Tryz.sizeOf177,v171:=Tryz.zeroValue177,t173:=Tryz.underlying181,a173:=Tryz.isAgg181,z173:=Tryz.sizeOf181,v173:=Tryz.zeroValue181,t212:=Tryz.underlying206,a212:=Tryz.isAgg206,z212:=Tryz.sizeOf206,v212:=Tryz.zeroValue206,t213:=Tryz.underlying207,a213:=Tryz.isAgg207,z213:=Tryz.sizeOf207,t232:=Tryz.underlying237,a232:=Tryz.isAgg237,z232:=Tryz.sizeOf237,v232:=Tryz.zeroValue237,t233:=Tryz.underlying238,a233:=Tryz.isAgg238,z233:=Tryz.sizeOf238,v233:=Tryz.zeroValue238,g17:=by kernel_rfl,g18:=by kernel_rfl,g19:=by kernel_rfl,i0:=by kernel_rfl,i2:=by kernel_rfl,i3:=by kernel_rfl,i4:=by kernel_rfl,i5:=by kernel_rfl,i9:=by kernel_rfl,i20:=by kernel_rfl,i37:=by kernel_rfl,i46:=by kernel_rfl,i51:=by kernel_rfl,i53:=by kernel_rfl,i171:=by kernel_rfl,i173:=by kernel_rfl,i212:=by kernel_rfl,i232:=by kernel_rfl,i233:=by kernel_rfl,m17:=by kernel_rfl,m18:=by kernel_rfl,m19:=by kernel_rfl }
def layJoin_ren:Go.Shelf.Ren:=⟨fun|156=>77|165=>114|166=>115|169=>116|240=>135|241=>136|276=>149|277=>150|n=>n,fun|31=>99|9=>9|3=>3|4=>4|0=>0|20=>20|72=>122|76=>126|70=>120|37=>102|75=>125|127=>155|164=>165|5=>5|80=>106|n=>n,fun|n=>n⟩
theorem layJoin:Go.Proofs.Lays.n156 Tryz.prog layJoin_ren:={ mixed:=by kernel_rfl,f156:=Tryz.func77.trans (congrArg some (by kernel_rfl)),f165:=Tryz.func114.trans (congrArg some (by kernel_rfl)),f166:=Tryz.func115.trans (congrArg some (by kernel_rfl)),f169:=Tryz.func116.trans (congrArg some (by kernel_rfl)),f240:=Tryz.func135.trans (congrArg some (by kernel_rfl)),f241:=Tryz.func136.trans (congrArg some (by kernel_rfl)),f276:=Tryz.func149.trans (congrArg some (by kernel_rfl)),f277:=Tryz.func150.trans (congrArg some (by kernel_rfl)),t0:=Tryz.underlying0,a0:=Tryz.isAgg0,z0:=Tryz.sizeOf0,v0:=Tryz.zeroValue0,t3:=Tryz.underlying3,a3:=Tryz.isAgg3,z3:=Tryz.sizeOf3,v3:=Tryz.zeroValue3,t4:=Tryz.underlying4,a4:=Tryz.isAgg4,z4:=Tryz.sizeOf4,v4:=Tryz.zeroValue4,t9:=Tryz.underlying9,a9:=Tryz.isAgg9,z9:=Tryz.sizeOf9,v9:=Tryz.zeroValue9,t20:=Tryz.underlying20,a20:=Tryz.isAgg20,z20:=Tryz.sizeOf20,v20:=Tryz.zeroValue20,t31:=Tryz.underlying99,a31:=Tryz.isAgg99,z31:=Tryz.sizeOf99,v31:=Tryz.zeroValue99,t37:=Tryz.underlying102,a37:=Tryz.isAgg102,z37:=Tryz.sizeOf102,v37:=Tryz.zeroValue102,t70:=Tryz.underlying120,a70:=Tryz.isAgg120,z70:=Tryz.sizeOf120,v70:=Tryz.zeroValue120,t72:=Tryz.underlying122,a72:=Tryz.isAgg122,z72:=Tryz.sizeOf122,v72:=Tryz.zeroValue122,t75:=Tryz.underlying125,a75:=Tryz.isAgg125,z75:=Tryz.sizeOf125,v75:=Tryz.zeroValue125,t76:=Tryz.underlying126,a76:=Tryz.isAgg126,z76:=Tryz.sizeOf126,v76:=Tryz.zeroValue126,t127:=Tryz.underlying155,a127:=Tryz.isAgg155,z127:=Tryz.sizeOf155,v127:=Tryz.zeroValue155,t164:=Tryz.underlying165,a164:=Tryz.isAgg165,z164:=Tryz.sizeOf165,v164:=Tryz.zeroValue165 }
theorem extraJoin:Builder.Extra Tryz.prog layJoin_ren:={ sizeBuilder:=by kernel_rfl,liesBuilder:=by kernel_rfl,t5:=Tryz.underlying5,a5:=Tryz.isAgg5,z5:=Tryz.sizeOf5,v5:=Tryz.zeroValue5,infoByte:=by kernel_rfl,cellsByte:=by kernel_rfl,sizeByte:=by kernel_rfl,neB5:=by decide }
end Go.Am
namespace Go.Am
set_option linter.all false
open Go Go.RowKit Go.Proofs Go.Shelf
set_option maxRecDepth 100000
set_option linter.all false
theorem itoa_pl1 : (Tryz.f111.name == "runtime.NumGoroutine") = false := by decide
theorem itoa_pl2:Tryz.f111.body.isNone=false:=rfl
theorem join_pl1 : (Tryz.f77.name == "runtime.NumGoroutine") = false := by decide
theorem join_pl2:Tryz.f77.body.isNone=false:=rfl
theorem itoa_plain:PlainF Tryz.prog 111:=⟨_,Tryz.func111,itoa_pl1,itoa_pl2⟩
theorem join_plain:PlainF Tryz.prog 77:=⟨_,Tryz.func77,join_pl1,join_pl2⟩
theorem pow10_named : (Tryz.prog.globalNamed "internal/strconv.uint64pow10").isSome = true := by kernel_rfl
theorem pow10_is {w : World} (h : Tabs Tryz.prog w) : Lib.TabIs Tryz.prog w "internal/strconv.uint64pow10" .u64 Lib.pow10Tab := by
 obtain⟨g,hg⟩:=Option.isSome_iff_exists.1 pow10_named
 exact h.tab ("internal/strconv.uint64pow10", .u64, Lib.pow10Tab) (by simp [tabL]) g hg
theorem below_grow{w:World}(k:Nat)(os:Array Obj):Below w.heap.size w (Sort.grow (w.drewN k) os) :=
 ⟨rfl,rfl,rfl,by simp[Sort.grow,World.drewN],fun i hi=>by
  show ((w.drewN k).heap++os)[i]?=_
  rw[Array.getElem?_append_left (by show i<w.heap.size; exact hi)]
  rfl⟩
theorem Itoa_ok(n:Int)(id:Nat)(h:I64 n):FnOk Tryz.prog 111 [.int .i64 n] [] id (.str (Lib.itoa n)) []:=by
 refine fn_old itoa_plain fun C G bx w vs hs hv=>?_
 obtain⟨v,rfl,hv1⟩:=rvs_one_inv hv
 cases hv1
 refine (Any.strconv_Itoa layItoa n (by unfold I64 at h; omega) (by unfold I64 at h; omega) w (pow10_is hs.tabs)).mono ?_
 rintro e w' ⟨h1,k,os,rfl⟩
 exact⟨_,h1,fun _ _=>.str _,below_grow k os⟩
theorem Join_ok(xs:List (List UInt8))(sep:List UInt8)(id:Nat)(hN:xs.length≤140737488355328)(hlen:(Lib.join xs sep).length≤140737488355328):
  FnOk Tryz.prog 77 [.sl (xs.map .str),.str sep] [] id (.str (Lib.join xs sep)) []:=by
 refine fn_old join_plain fun C G bx w vs hs hv=>?_
 obtain⟨u,v,rfl,hv1,hv2⟩:=rvs_two_inv hv
 cases hv2
 obtain⟨A,c,rfl,h1,h2,h3⟩:=rv_strs hs hv1
 have hmap:(xs.map fun x=>(⟨⟨x⟩⟩:ByteArray)).map (·.data.toList)=xs:=by simp[Function.comp_def]
 rcases h3 with rfl|⟨b,o,rfl,h4,h5⟩
 ·refine (Any.strings_Join_none layJoin extraJoin A c ⟨⟨sep⟩⟩ w).mono ?_
  rintro e w' ⟨q1,rfl⟩
  exact⟨_,q1,fun _ _=>.str _,Below.refl _ _⟩
 ·have:=Any.strings_Join layJoin extraJoin b o c (xs.map fun x=>⟨⟨x⟩⟩) ⟨⟨sep⟩⟩ w (fun j x hx=>by
   rw[List.getElem?_map] at hx
   cases hj:xs[j]? with
   | none=>rw[hj] at hx; cases hx
   | some y=>rw[hj] at hx; injection hx with hx; subst hx; exact h5 j y hj) h4 (by simpa using hN) (by simpa using h1) (by rw[hmap]; exact hlen)
  rw[hmap] at this
  simp only[List.length_map] at this
  refine this.mono ?_
  rintro e w' ⟨q1,q2⟩
  exact⟨_,q1,fun _ _=>.str _,q2⟩
end Go.Am
namespace Go.Am
set_option linter.all false
open Go Go.RowKit Go.Proofs Go.Shelf
set_option maxRecDepth 100000
set_option linter.all false
def layIndexByte_ren:Go.Shelf.Ren:=⟨fun|137=>110|217=>131|266=>144|n=>n,fun|9=>9|5=>5|3=>3|n=>n,fun|n=>n⟩
theorem layIndexByte:Go.Proofs.Lays.n137 Tryz.prog layIndexByte_ren:={ mixed:=by kernel_rfl,f137:=Tryz.func110.trans (congrArg some (by kernel_rfl)),f217:=Tryz.func131.trans (congrArg some (by kernel_rfl)),f266:=Tryz.func144.trans (congrArg some (by kernel_rfl)),t3:=Tryz.underlying3,a3:=Tryz.isAgg3,z3:=Tryz.sizeOf3,v3:=Tryz.zeroValue3,t5:=Tryz.underlying5,a5:=Tryz.isAgg5,z5:=Tryz.sizeOf5,v5:=Tryz.zeroValue5,t9:=Tryz.underlying9,a9:=Tryz.isAgg9,z9:=Tryz.sizeOf9,v9:=Tryz.zeroValue9 }
theorem ixb_pl1 : (Tryz.f110.name == "runtime.NumGoroutine") = false := by decide
theorem ixb_pl2:Tryz.f110.body.isNone=false:=rfl
theorem ixb_plain:PlainF Tryz.prog 110:=⟨_,Tryz.func110,ixb_pl1,ixb_pl2⟩
theorem IndexByte_ok(s:List UInt8)(c:UInt8)(id:Nat):FnOk Tryz.prog 110 [.str s,.int .u8 c.toNat] [] id (.int .i64 (Lib.indexByte s c)) []:=by
 refine fn_old ixb_plain fun C G bx w vs hs hv=>?_
 obtain⟨u,v,rfl,hv1,hv2⟩:=rvs_two_inv hv
 cases hv1
 cases hv2
 refine (Any.strings_IndexByte layIndexByte ⟨⟨s⟩⟩ c.toNat w).mono ?_
 rintro e w' ⟨h1,rfl⟩
 refine⟨_,h1,fun _ _=>?_,Below.refl _ _⟩
 simpa using RV.int (G:=_) (w:=_) .i64 (Lib.indexByte s c)
end Go.Am
namespace Go.Am
set_option linter.all false
open Go Go.RowKit Go.Proofs Go.Shelf
set_option maxRecDepth 100000
set_option linter.all false
def layAtoi_ren:Go.Shelf.Ren:=⟨fun|172=>130|244=>142|245=>143|247=>155|279=>156|280=>157|281=>158|282=>159|287=>171|316=>172|171=>111|205=>173|321=>185|322=>186|243=>132|246=>145|283=>160|284=>161|285=>162|286=>163|129=>175|317=>174|318=>176|319=>177|320=>178|337=>187|338=>188|n=>n,fun|9=>9|3=>3|75=>125|76=>126|4=>4|5=>5|167=>171|37=>102|0=>0|85=>172|2=>2|168=>174|53=>178|175=>200|46=>169|210=>203|127=>155|145=>226|143=>224|21=>21|171=>177|173=>181|212=>206|51=>141|20=>20|213=>207|232=>237|233=>238|80=>106|n=>n,fun|15=>1|16=>2|17=>3|18=>4|19=>5|n=>n⟩
theorem layAtoi:Go.Proofs.LaysC.n172 Tryz.prog layAtoi_ren:={ mixed:=by kernel_rfl,f129:=Tryz.func175.trans (congrArg some (by kernel_rfl)),f171:=Tryz.func111.trans (congrArg some (by kernel_rfl)),f172:=Tryz.func130.trans (congrArg some (by kernel_rfl)),f205:=Tryz.func173.trans (congrArg some (by kernel_rfl)),f243:=Tryz.func132.trans (congrArg some (by kernel_rfl)),f244:=Tryz.func142.trans (congrArg some (by kernel_rfl)),f245:=Tryz.func143.trans (congrArg some (by kernel_rfl)),f246:=Tryz.func145.trans (congrArg some (by kernel_rfl)),f247:=Tryz.func155.trans (congrArg some (by kernel_rfl)),f279:=Tryz.func156.trans (congrArg some (by kernel_rfl)),f280:=Tryz.func157.trans (congrArg some (by kernel_rfl)),f281:=Tryz.func158.trans (congrArg some (by kernel_rfl)),f282:=Tryz.func159.trans (congrArg some (by kernel_rfl)),f283:=Tryz.func160.trans (congrArg some (by kernel_rfl)),f284:=Tryz.func161.trans (congrArg some (by kernel_rfl)),f285:=Tryz.func162.trans (congrArg some (by kernel_rfl)),f286:=Tryz.func163.trans (congrArg some (by kernel_rfl)),f287:=Tryz.func171.trans (congrArg some (by kernel_rfl)),f316:=Tryz.func172.trans (congrArg some (by kernel_rfl)),f317:=Tryz.func174.trans (congrArg some (by kernel_rfl)),f318:=Tryz.func176.trans (congrArg some (by kernel_rfl)),f319:=Tryz.func177.trans (congrArg some (by kernel_rfl)),f320:=Tryz.func178.trans (congrArg some (by kernel_rfl)),f321:=Tryz.func185.trans (congrArg some (by kernel_rfl)),f322:=Tryz.func186.trans (congrArg some (by kernel_rfl)),f337:=Tryz.func187.trans (congrArg some (by kernel_rfl)),f338:=Tryz.func188.trans (congrArg some (by kernel_rfl)),t0:=Tryz.underlying0,a0:=Tryz.isAgg0,z0:=Tryz.sizeOf0,v0:=Tryz.zeroValue0,t2:=Tryz.underlying2,a2:=Tryz.isAgg2,z2:=Tryz.sizeOf2,v2:=Tryz.zeroValue2,t3:=Tryz.underlying3,a3:=Tryz.isAgg3,z3:=Tryz.sizeOf3,v3:=Tryz.zeroValue3,t4:=Tryz.underlying4,a4:=Tryz.isAgg4,z4:=Tryz.sizeOf4,v4:=Tryz.zeroValue4,t5:=Tryz.underlying5,a5:=Tryz.isAgg5,z5:=Tryz.sizeOf5,v5:=Tryz.zeroValue5,t9:=Tryz.underlying9,a9:=Tryz.isAgg9,z9:=Tryz.sizeOf9,v9:=Tryz.zeroValue9,t20:=Tryz.underlying20,a20:=Tryz.isAgg20,z20:=Tryz.sizeOf20,v20:=Tryz.zeroValue20,t21:=Tryz.underlying21,a21:=Tryz.isAgg21,z21:=Tryz.sizeOf21,v21:=Tryz.zeroValue21,t37:=Tryz.underlying102,a37:=Tryz.isAgg102,z37:=Tryz.sizeOf102,v37:=Tryz.zeroValue102,t46:=Tryz.underlying169,a46:=Tryz.isAgg169,z46:=Tryz.sizeOf169,v46:=Tryz.zeroValue169,t51:=Tryz.underlying141,a51:=Tryz.isAgg141,z51:=Tryz.sizeOf141,v51:=Tryz.zeroValue141,t53:=Tryz.underlying178,a53:=Tryz.isAgg178,z53:=Tryz.sizeOf178,v53:=Tryz.zeroValue178,t75:=Tryz.underlying125,a75:=Tryz.isAgg125,z75:=Tryz.sizeOf125,v75:=Tryz.zeroValue125,t76:=Tryz.underlying126,a76:=Tryz.isAgg126,z76:=Tryz.sizeOf126,v76:=Tryz.zeroValue126,t85:=Tryz.underlying172,a85:=Tryz.isAgg172,z85:=Tryz.sizeOf172,v85:=Tryz.zeroValue172,t127:=Tryz.underlying155,a127:=Tryz.isAgg155,z127:=Tryz.sizeOf155,v127:=Tryz.zeroValue155,t143:=Tryz.underlying224,a143:=Tryz.isAgg224,z143:=Tryz.sizeOf224,v143:=Tryz.zeroValue224,t145:=Tryz.underlying226,a145:=Tryz.isAgg226,z145:=Tryz.sizeOf226,v145:=Tryz.zeroValue226,t167:=Tryz.underlying171,a167:=Tryz.isAgg171,z167:=Tryz.sizeOf171,v167:=Tryz.zeroValue171,t168:=Tryz.underlying174,a168:=Tryz.isAgg174,z168:=Tryz.sizeOf174,v168:=Tryz.zeroValue174,t171:=Tryz.underlying177,a171:=Tryz.isAgg177,z171:=Tryz.sizeOf177,v171:=Tryz.zeroValue177,t173:=Tryz.underlying181,a173:=Tryz.isAgg181,z173:=Tryz.sizeOf181,v173:=Tryz.zeroValue181,t175:=Tryz.underlying200,a175:=Tryz.isAgg200,z175:=Tryz.sizeOf200,v175:=Tryz.zeroValue200,t210:=Tryz.underlying203,a210:=Tryz.isAgg203,z210:=Tryz.sizeOf203,v210:=Tryz.zeroValue203,t212:=Tryz.underlying206,a212:=Tryz.isAgg206,z212:=Tryz.sizeOf206,v212:=Tryz.zeroValue206,t213:=Tryz.underlying207,a213:=Tryz.isAgg207,z213:=Tryz.sizeOf207,t232:=Tryz.underlying237,a232:=Tryz.isAgg237,z232:=Tryz.sizeOf237,v232:=Tryz.zeroValue237,t233:=Tryz.underlying238,a233:=Tryz.isAgg238,z233:=Tryz.sizeOf238,v233:=Tryz.zeroValue238,g15:=by kernel_rfl,g16:=by kernel_rfl,g17:=by kernel_rfl,g18:=by kernel_rfl,g19:=by kernel_rfl,t80:=Tryz.underlying106,a80:=Tryz.isAgg106,z80:=Tryz.sizeOf106,v80:=Tryz.zeroValue106,i0:=by kernel_rfl,i2:=by kernel_rfl,i3:=by kernel_rfl,i4:=by kernel_rfl,i5:=by kernel_rfl,i9:=by kernel_rfl,i20:=by kernel_rfl,i21:=by kernel_rfl,i37:=by kernel_rfl,i46:=by kernel_rfl,i51:=by kernel_rfl,i53:=by kernel_rfl,i75:=by kernel_rfl,i76:=by kernel_rfl,i80:=by kernel_rfl,i85:=by kernel_rfl,i127:=by kernel_rfl,i143:=by kernel_rfl,i145:=by kernel_rfl,i167:=by kernel_rfl,i168:=by kernel_rfl,i171:=by kernel_rfl,i173:=by kernel_rfl,i175:=by kernel_rfl,i210:=by kernel_rfl,i212:=by kernel_rfl,i232:=by kernel_rfl,i233:=by kernel_rfl,m15:=by kernel_rfl,m16:=by kernel_rfl,m17:=by kernel_rfl,m18:=by kernel_rfl,m19:=by kernel_rfl,c0:=by kernel_rfl,c2:=by kernel_rfl,c3:=by kernel_rfl,c4:=by kernel_rfl,c5:=by kernel_rfl,c9:=by kernel_rfl,c20:=by kernel_rfl,c21:=by kernel_rfl,c37:=by kernel_rfl,c46:=by kernel_rfl,c51:=by kernel_rfl,c53:=by kernel_rfl,c75:=by kernel_rfl,c76:=by kernel_rfl,c80:=by kernel_rfl,c85:=by kernel_rfl,c127:=by kernel_rfl,c143:=by kernel_rfl,c145:=by kernel_rfl,c167:=by kernel_rfl,c168:=by kernel_rfl,c171:=by kernel_rfl,c173:=by kernel_rfl,c175:=by kernel_rfl,c210:=by kernel_rfl,c212:=by kernel_rfl,c213:=by kernel_rfl,c232:=by kernel_rfl,c233:=by kernel_rfl }
theorem atoi_pl1 : (Tryz.f130.name == "runtime.NumGoroutine") = false := by decide
theorem atoi_pl2:Tryz.f130.body.isNone=false:=rfl
theorem atoi_plain:PlainF Tryz.prog 130:=⟨_,Tryz.func130,atoi_pl1,atoi_pl2⟩
theorem syn_is {w : World} (h : Tabs Tryz.prog w) : ∃ v, w.cell? ⟨1, 0, none⟩ = some v ∧ (v = .nilIface ∨ ∃ te pe, v = .iface te pe) := h.err "strconv.ErrSyntax" (by simp [errL]) _ (by kernel_rfl)
theorem rng_is {w : World} (h : Tabs Tryz.prog w) : ∃ v, w.cell? ⟨2, 0, none⟩ = some v ∧ (v = .nilIface ∨ ∃ te pe, v = .iface te pe) := h.err "strconv.ErrRange" (by simp [errL]) _ (by kernel_rfl)
theorem rv_two{G:Gh}{w:World}{x y:AV}{u v:Value}(h1:RV G w x u)(h2:RV G w y v):RV G w (.tup [x,y]) (.tuple #[u,v]):=.tup _ _ rfl fun i z hz=>by
 match i,hz with
 | 0,hz=>simp at hz; subst hz; exact h1
 | 1,hz=>simp at hz; subst hz; exact h2
 | i+2,hz=>simp at hz
def numErr:AV:=.iface 174 (.cptr [])
theorem rv_numErr{G:Gh}{w:World}(a:Addr):RV G w numErr (.iface 174 (.pointer (some a))):=.iface _ _ _ (.cptr [] a (fun _=>undef) (fun j y h=>by simp at h) (fun j y h=>by simp at h) (fun j y h=>by simp at h))
theorem Atoi_ok(s:List UInt8)(n:Int)(id:Nat)(h:s.length≤281474976710656)(hn:Lib.atoiAll s = .ok n):FnOk Tryz.prog 130 [.str s] [] id (.tup [.int .i64 n,.nili]) []:=by
 refine fn_old atoi_plain fun C G bx w vs hs hv=>?_
 obtain⟨v,rfl,hv1⟩:=rvs_one_inv hv
 cases hv1
 refine (Any.strconv_Atoi_ok layAtoi ⟨⟨s⟩⟩ (by show s.length≤_; omega) n hn w).mono ?_
 rintro e w' ⟨h1,hw⟩
 refine⟨_,h1,fun _ _=>rv_two (.int _ _) .nili,?_⟩
 rcases hw with rfl|⟨t,rfl⟩
 ·exact Below.refl _ _
 ·exact Lib.bytesWorld_below _ _ _
theorem Atoi_syn(s:List UInt8)(id:Nat)(h:s.length≤281474976710656){e:Lib.NumEnd Int}(hn:Lib.atoiAll s=e)(h1:∀n,e≠.ok n)(h2:e≠.range):FnOk Tryz.prog 130 [.str s] [] id (.tup [.int .i64 0,numErr]) []:=by
 refine fn_old atoi_plain fun C G bx w vs hs hv=>?_
 obtain⟨v,rfl,hv1⟩:=rvs_one_inv hv
 cases hv1
 obtain⟨ev,k1,k2⟩:=syn_is hs.tabs
 rcases e with n|_|_
 ·exact (h1 n rfl).elim
 rotate_left
 ·exact (h2 rfl).elim
 refine (Any.strconv_Atoi_syntax layAtoi ⟨⟨s⟩⟩ h hn ev w k1 k2).mono ?_
 rintro e w' ⟨N,h1,_,_,h4⟩
 exact⟨_,h1,fun _ _=>rv_two (.int _ _) (rv_numErr _),h4⟩
theorem Atoi_rng(s:List UInt8)(id:Nat)(h:s.length≤281474976710656)(hn:Lib.atoiAll s = .range):FnOk Tryz.prog 130 [.str s] [] id (.tup [.int .i64 (Lib.atoiSat s),numErr]) []:=by
 refine fn_old atoi_plain fun C G bx w vs hs hv=>?_
 obtain⟨v,rfl,hv1⟩:=rvs_one_inv hv
 cases hv1
 obtain⟨ev,k1,k2⟩:=rng_is hs.tabs
 refine (Any.strconv_Atoi_range layAtoi ⟨⟨s⟩⟩ h hn ev w k1 k2).mono ?_
 rintro e w' ⟨N,h1,_,_,h4⟩
 exact⟨_,h1,fun _ _=>rv_two (.int _ _) (rv_numErr _),h4⟩
end Go.Am
namespace Go.Am
set_option linter.all false
open Go Go.RowKit Go.Proofs Go.Shelf
set_option maxRecDepth 100000
set_option linter.all false
end Go.Am
