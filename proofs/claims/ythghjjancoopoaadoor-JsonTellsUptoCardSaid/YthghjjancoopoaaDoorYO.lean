/- Parts of the proof: an abstract machine for Go functions, and what functions of the program give back (Lb3, Lb4, Rj1, Rj2). No condition. -/
import Derived.Test.YthghjjancoopoaaDoorYI
import Derived.Shelf.Small.Strs
import Derived.Shelf.Strconv.AtoiAll
import Derived.Test.YthghjjancoopoaaDoorYJ
import Derived.Test.YthghjjancoopoaaDoorXD
namespace Go.Am
set_option linter.all false
open Go Go.RowKit Go.Proofs Go.Shelf
set_option maxRecDepth 100000
set_option linter.all false
def layIndexByte_ren:Go.Shelf.Ren:=⟨fun|137=>116|217=>132|266=>143|n=>n,fun|9=>9|5=>5|3=>3|n=>n,fun|n=>n⟩
theorem layIndexByte:Go.Proofs.Lays.n137 Tryd.prog layIndexByte_ren:={ mixed:=by kernel_rfl,f137:=Tryd.func116.trans (congrArg some (by kernel_rfl)),f217:=Tryd.func132.trans (congrArg some (by kernel_rfl)),f266:=Tryd.func143.trans (congrArg some (by kernel_rfl)),t3:=Tryd.underlying3,a3:=Tryd.isAgg3,z3:=Tryd.sizeOf3,v3:=Tryd.zeroValue3,t5:=Tryd.underlying5,a5:=Tryd.isAgg5,z5:=Tryd.sizeOf5,v5:=Tryd.zeroValue5,t9:=Tryd.underlying9,a9:=Tryd.isAgg9,z9:=Tryd.sizeOf9,v9:=Tryd.zeroValue9 }
theorem ixb_pl1 : (Tryd.f116.name == "runtime.NumGoroutine") = false := by decide
theorem ixb_pl2:Tryd.f116.body.isNone=false:=rfl
theorem ixb_plain:PlainF Tryd.prog 116:=⟨_,Tryd.func116,ixb_pl1,ixb_pl2⟩
theorem IndexByte_ok(s:List UInt8)(c:UInt8)(id:Nat):FnOk Tryd.prog 116 [.str s,.int .u8 c.toNat] [] id (.int .i64 (Lib.indexByte s c)) []:=by
 refine fn_old ixb_plain fun C G bx w vs hs hv=>?_
 obtain⟨u,v,rfl,hv1,hv2⟩:=rvs_two_inv hv
 cases hv1
 cases hv2
 refine (Any.strings_IndexByte layIndexByte ⟨⟨s⟩⟩ c.toNat w).mono ?_
 rintro e w' ⟨h1,rfl⟩
 refine⟨_,h1,fun _ _=>?_,Below.refl _ _⟩
 simpa using RV.int (G:=_) (w:=_) .i64 (Lib.indexByte s c)
end Go.Am
namespace Go.Am
set_option linter.all false
open Go Go.RowKit Go.Proofs Go.Shelf
set_option maxRecDepth 100000
set_option linter.all false
def layAtoi_ren:Go.Shelf.Ren:=⟨fun|172=>97|244=>117|245=>118|247=>133|279=>134|280=>135|281=>136|282=>137|287=>144|316=>145|171=>32|205=>146|321=>147|322=>148|243=>61|246=>91|283=>109|284=>110|285=>111|286=>112|129=>128|317=>127|318=>129|319=>130|320=>131|337=>141|338=>142|n=>n,fun|9=>9|3=>3|75=>113|76=>114|4=>4|5=>5|167=>178|37=>69|0=>0|85=>179|2=>2|168=>181|53=>156|175=>188|46=>107|210=>191|127=>143|145=>198|143=>196|21=>21|171=>155|173=>159|212=>174|51=>175|20=>20|213=>176|232=>193|233=>194|80=>116|n=>n,fun|15=>2|16=>3|17=>0|18=>4|19=>5|n=>n⟩
theorem layAtoi:Go.Proofs.LaysC.n172 Tryd.prog layAtoi_ren:={ mixed:=by kernel_rfl,f129:=Tryd.func128.trans (congrArg some (by kernel_rfl)),f171:=Tryd.func32.trans (congrArg some (by kernel_rfl)),f172:=Tryd.func97.trans (congrArg some (by kernel_rfl)),f205:=Tryd.func146.trans (congrArg some (by kernel_rfl)),f243:=Tryd.func61.trans (congrArg some (by kernel_rfl)),f244:=Tryd.func117.trans (congrArg some (by kernel_rfl)),f245:=Tryd.func118.trans (congrArg some (by kernel_rfl)),f246:=Tryd.func91.trans (congrArg some (by kernel_rfl)),f247:=Tryd.func133.trans (congrArg some (by kernel_rfl)),f279:=Tryd.func134.trans (congrArg some (by kernel_rfl)),f280:=Tryd.func135.trans (congrArg some (by kernel_rfl)),f281:=Tryd.func136.trans (congrArg some (by kernel_rfl)),f282:=Tryd.func137.trans (congrArg some (by kernel_rfl)),f283:=Tryd.func109.trans (congrArg some (by kernel_rfl)),f284:=Tryd.func110.trans (congrArg some (by kernel_rfl)),f285:=Tryd.func111.trans (congrArg some (by kernel_rfl)),f286:=Tryd.func112.trans (congrArg some (by kernel_rfl)),f287:=Tryd.func144.trans (congrArg some (by kernel_rfl)),f316:=Tryd.func145.trans (congrArg some (by kernel_rfl)),f317:=Tryd.func127.trans (congrArg some (by kernel_rfl)),f318:=Tryd.func129.trans (congrArg some (by kernel_rfl)),f319:=Tryd.func130.trans (congrArg some (by kernel_rfl)),f320:=Tryd.func131.trans (congrArg some (by kernel_rfl)),f321:=Tryd.func147.trans (congrArg some (by kernel_rfl)),f322:=Tryd.func148.trans (congrArg some (by kernel_rfl)),f337:=Tryd.func141.trans (congrArg some (by kernel_rfl)),f338:=Tryd.func142.trans (congrArg some (by kernel_rfl)),t0:=Tryd.underlying0,a0:=Tryd.isAgg0,z0:=Tryd.sizeOf0,v0:=Tryd.zeroValue0,t2:=Tryd.underlying2,a2:=Tryd.isAgg2,z2:=Tryd.sizeOf2,v2:=Tryd.zeroValue2,t3:=Tryd.underlying3,a3:=Tryd.isAgg3,z3:=Tryd.sizeOf3,v3:=Tryd.zeroValue3,t4:=Tryd.underlying4,a4:=Tryd.isAgg4,z4:=Tryd.sizeOf4,v4:=Tryd.zeroValue4,t5:=Tryd.underlying5,a5:=Tryd.isAgg5,z5:=Tryd.sizeOf5,v5:=Tryd.zeroValue5,t9:=Tryd.underlying9,a9:=Tryd.isAgg9,z9:=Tryd.sizeOf9,v9:=Tryd.zeroValue9,t20:=Tryd.underlying20,a20:=Tryd.isAgg20,z20:=Tryd.sizeOf20,v20:=Tryd.zeroValue20,t21:=Tryd.underlying21,a21:=Tryd.isAgg21,z21:=Tryd.sizeOf21,v21:=Tryd.zeroValue21,t37:=Tryd.underlying69,a37:=Tryd.isAgg69,z37:=Tryd.sizeOf69,v37:=Tryd.zeroValue69,t46:=Tryd.underlying107,a46:=Tryd.isAgg107,z46:=Tryd.sizeOf107,v46:=Tryd.zeroValue107,t51:=Tryd.underlying175,a51:=Tryd.isAgg175,z51:=Tryd.sizeOf175,v51:=Tryd.zeroValue175,t53:=Tryd.underlying156,a53:=Tryd.isAgg156,z53:=Tryd.sizeOf156,v53:=Tryd.zeroValue156,t75:=Tryd.underlying113,a75:=Tryd.isAgg113,z75:=Tryd.sizeOf113,v75:=Tryd.zeroValue113,t76:=Tryd.underlying114,a76:=Tryd.isAgg114,z76:=Tryd.sizeOf114,v76:=Tryd.zeroValue114,t85:=Tryd.underlying179,a85:=Tryd.isAgg179,z85:=Tryd.sizeOf179,v85:=Tryd.zeroValue179,t127:=Tryd.underlying143,a127:=Tryd.isAgg143,z127:=Tryd.sizeOf143,v127:=Tryd.zeroValue143,t143:=Tryd.underlying196,a143:=Tryd.isAgg196,z143:=Tryd.sizeOf196,v143:=Tryd.zeroValue196,t145:=Tryd.underlying198,a145:=Tryd.isAgg198,z145:=Tryd.sizeOf198,v145:=Tryd.zeroValue198,t167:=Tryd.underlying178,a167:=Tryd.isAgg178,z167:=Tryd.sizeOf178,v167:=Tryd.zeroValue178,t168:=Tryd.underlying181,a168:=Tryd.isAgg181,z168:=Tryd.sizeOf181,v168:=Tryd.zeroValue181,t171:=Tryd.underlying155,a171:=Tryd.isAgg155,z171:=Tryd.sizeOf155,v171:=Tryd.zeroValue155,t173:=Tryd.underlying159,a173:=Tryd.isAgg159,z173:=Tryd.sizeOf159,v173:=Tryd.zeroValue159,t175:=Tryd.underlying188,a175:=Tryd.isAgg188,z175:=Tryd.sizeOf188,v175:=Tryd.zeroValue188,t210:=Tryd.underlying191,a210:=Tryd.isAgg191,z210:=Tryd.sizeOf191,v210:=Tryd.zeroValue191,t212:=Tryd.underlying174,a212:=Tryd.isAgg174,z212:=Tryd.sizeOf174,v212:=Tryd.zeroValue174,t213:=Tryd.underlying176,a213:=Tryd.isAgg176,z213:=Tryd.sizeOf176,t232:=Tryd.underlying193,a232:=Tryd.isAgg193,z232:=Tryd.sizeOf193,v232:=Tryd.zeroValue193,t233:=Tryd.underlying194,a233:=Tryd.isAgg194,z233:=Tryd.sizeOf194,v233:=Tryd.zeroValue194,g15:=by kernel_rfl,g16:=by kernel_rfl,g17:=by kernel_rfl,g18:=by kernel_rfl,g19:=by kernel_rfl,t80:=Tryd.underlying116,a80:=Tryd.isAgg116,z80:=Tryd.sizeOf116,v80:=Tryd.zeroValue116,i0:=by kernel_rfl,i2:=by kernel_rfl,i3:=by kernel_rfl,i4:=by kernel_rfl,i5:=by kernel_rfl,i9:=by kernel_rfl,i20:=by kernel_rfl,i21:=by kernel_rfl,i37:=by kernel_rfl,i46:=by kernel_rfl,i51:=by kernel_rfl,i53:=by kernel_rfl,i75:=by kernel_rfl,i76:=by kernel_rfl,i80:=by kernel_rfl,i85:=by kernel_rfl,i127:=by kernel_rfl,i143:=by kernel_rfl,i145:=by kernel_rfl,i167:=by kernel_rfl,i168:=by kernel_rfl,i171:=by kernel_rfl,i173:=by kernel_rfl,i175:=by kernel_rfl,i210:=by kernel_rfl,i212:=by kernel_rfl,i232:=by kernel_rfl,i233:=by kernel_rfl,m15:=by kernel_rfl,m16:=by kernel_rfl,m17:=by kernel_rfl,m18:=by kernel_rfl,m19:=by kernel_rfl,c0:=by kernel_rfl,c2:=by kernel_rfl,c3:=by kernel_rfl,c4:=by kernel_rfl,c5:=by kernel_rfl,c9:=by kernel_rfl,c20:=by kernel_rfl,c21:=by kernel_rfl,c37:=by kernel_rfl,c46:=by kernel_rfl,c51:=by kernel_rfl,c53:=by kernel_rfl,c75:=by kernel_rfl,c76:=by kernel_rfl,c80:=by kernel_rfl,c85:=by kernel_rfl,c127:=by kernel_rfl,c143:=by kernel_rfl,c145:=by kernel_rfl,c167:=by kernel_rfl,c168:=by kernel_rfl,c171:=by kernel_rfl,c173:=by kernel_rfl,c175:=by kernel_rfl,c210:=by kernel_rfl,c212:=by kernel_rfl,c213:=by kernel_rfl,c232:=by kernel_rfl,c233:=by kernel_rfl }
theorem atoi_pl1 : (Tryd.f97.name == "runtime.NumGoroutine") = false := by decide
theorem atoi_pl2:Tryd.f97.body.isNone=false:=rfl
theorem atoi_plain:PlainF Tryd.prog 97:=⟨_,Tryd.func97,atoi_pl1,atoi_pl2⟩
theorem syn_is {w : World} (h : Tabs Tryd.prog w) : ∃ v, w.cell? ⟨2, 0, none⟩ = some v ∧ (v = .nilIface ∨ ∃ te pe, v = .iface te pe) := h.err "strconv.ErrSyntax" (by simp [errL]) _ (by kernel_rfl)
theorem rng_is {w : World} (h : Tabs Tryd.prog w) : ∃ v, w.cell? ⟨3, 0, none⟩ = some v ∧ (v = .nilIface ∨ ∃ te pe, v = .iface te pe) := h.err "strconv.ErrRange" (by simp [errL]) _ (by kernel_rfl)
theorem rv_two{G:Gh}{w:World}{x y:AV}{u v:Value}(h1:RV G w x u)(h2:RV G w y v):RV G w (.tup [x,y]) (.tuple #[u,v]):=.tup _ _ rfl fun i z hz=>by
 match i,hz with
 | 0,hz=>simp at hz; subst hz; exact h1
 | 1,hz=>simp at hz; subst hz; exact h2
 | i+2,hz=>simp at hz
def numErr:AV:=.iface 181 (.cptr [])
theorem rv_numErr{G:Gh}{w:World}(a:Addr):RV G w numErr (.iface 181 (.pointer (some a))):=.iface _ _ _ (.cptr [] a (fun _=>undef) (fun j y h=>by simp at h) (fun j y h=>by simp at h) (fun j y h=>by simp at h))
theorem Atoi_ok(s:List UInt8)(n:Int)(id:Nat)(h:s.length≤281474976710656)(hn:Lib.atoiAll s = .ok n):FnOk Tryd.prog 97 [.str s] [] id (.tup [.int .i64 n,.nili]) []:=by
 refine fn_old atoi_plain fun C G bx w vs hs hv=>?_
 obtain⟨v,rfl,hv1⟩:=rvs_one_inv hv
 cases hv1
 refine (Any.strconv_Atoi_ok layAtoi ⟨⟨s⟩⟩ (by show s.length≤_; omega) n hn w).mono ?_
 rintro e w' ⟨h1,hw⟩
 refine⟨_,h1,fun _ _=>rv_two (.int _ _) .nili,?_⟩
 rcases hw with rfl|⟨t,rfl⟩
 ·exact Below.refl _ _
 ·exact Lib.bytesWorld_below _ _ _
theorem Atoi_syn(s:List UInt8)(id:Nat)(h:s.length≤281474976710656){e:Lib.NumEnd Int}(hn:Lib.atoiAll s=e)(h1:∀n,e≠.ok n)(h2:e≠.range):FnOk Tryd.prog 97 [.str s] [] id (.tup [.int .i64 0,numErr]) []:=by
 refine fn_old atoi_plain fun C G bx w vs hs hv=>?_
 obtain⟨v,rfl,hv1⟩:=rvs_one_inv hv
 cases hv1
 obtain⟨ev,k1,k2⟩:=syn_is hs.tabs
 rcases e with n|_|_
 ·exact (h1 n rfl).elim
 rotate_left
 ·exact (h2 rfl).elim
 refine (Any.strconv_Atoi_syntax layAtoi ⟨⟨s⟩⟩ h hn ev w k1 k2).mono ?_
 rintro e w' ⟨N,h1,_,_,h4⟩
 exact⟨_,h1,fun _ _=>rv_two (.int _ _) (rv_numErr _),h4⟩
theorem Atoi_rng(s:List UInt8)(id:Nat)(h:s.length≤281474976710656)(hn:Lib.atoiAll s = .range):FnOk Tryd.prog 97 [.str s] [] id (.tup [.int .i64 (Lib.atoiSat s),numErr]) []:=by
 refine fn_old atoi_plain fun C G bx w vs hs hv=>?_
 obtain⟨v,rfl,hv1⟩:=rvs_one_inv hv
 cases hv1
 obtain⟨ev,k1,k2⟩:=rng_is hs.tabs
 refine (Any.strconv_Atoi_range layAtoi ⟨⟨s⟩⟩ h hn ev w k1 k2).mono ?_
 rintro e w' ⟨N,h1,_,_,h4⟩
 exact⟨_,h1,fun _ _=>rv_two (.int _ _) (rv_numErr _),h4⟩
end Go.Am
namespace Go.Am
set_option linter.all false
open Go Go.RowKit Go.Proofs
set_option maxRecDepth 100000
set_option linter.all false
def bS(z s:List UInt8):Bx:=⟨[.agg [.str s]],.agg [.str z],false,false⟩
theorem bS_eq(z s:List UInt8):bS z s=⟨[.agg [.str s]],.agg [.str z],false,false⟩:=rfl
def wv:AV:=.iface 60 (.agg [])
def rdR(J:Nat)(z:List UInt8):Option (AV×List UInt8)→Except AV (AV×List (Nat×Option Bx))
 | some (v,s)=>.ok (v,[(J,some (bS z s))])
 | none=>.error wv
theorem rdR_ok{J:Nat}{z:List UInt8}{o:Option (AV×List UInt8)}{v:AV}{s:List UInt8}(h:o=some (v,s)):rdR J z o = .ok (v,[(J,some (bS z s))]):=by rw[h]; rfl
theorem rdR_no{J:Nat}{z:List UInt8}{o:Option (AV×List UInt8)}(h:o=none):rdR J z o = .error wv:=by rw[h]; rfl
def cutB(s w:List UInt8):Bool:=w.isPrefixOf s
def cutL(s w:List UInt8):List UInt8:=if cutB s w=true then s.drop w.length else s
theorem cutB_iff(s w:List UInt8):cutB s w=true↔w.length≤s.length∧s.take w.length=w:=by
 unfold cutB
 rw[List.isPrefixOf_iff_prefix,List.prefix_iff_eq_take]
 constructor
 ·intro h
  have:=congrArg List.length h
  simp at this
  exact⟨by omega,h.symm⟩
 ·intro h; exact h.2.symm
theorem cutB_eq(s w:List UInt8):(decide (w.length≤s.length)&&List.take w.length s==w)=cutB s w:=by
 rw[Bool.eq_iff_iff,cutB_iff]
 simp
theorem fail_ok(id:Nat):FnE Tryd.prog 37 [] [] id (.error wv):=by
 refine fn_okE Tryd.func37 hcc37 (by decide) hcr37 (by simp[Tryd.ntmps37]) fun E hP hR hPn hl hid hB hu=>?_
 simp only[cr37] at hR
 refine w_go 9 ?_
 simp[cc37]
 refine w_panic (by simp<;>rfl) (by simp) ⟨by simp,hPn _ _ rfl rfl (by simp)⟩
theorem hasPre_ok(s w:List UInt8)(id:Nat):FnOk Tryd.prog 95 [.str s,.str w] [] id (.bool (cutB s w)) []:=by
 rw[←cutB_eq]
 refine fn_okc Tryd.func95 hcc95 (by decide) hcr95 (by simp[Tryd.ntmps95]) fun E hP hR hl hid=>?_
 simp only[cr95] at hR
 refine w_go 4000 ?_
 simp[cc95]
 rw[hR]; exact rt_end (by simp<;>rfl) [] trivial (end_pure (by simp) (by simp) (by simp))
theorem hasPrefix_ok(s w:List UInt8)(id:Nat):FnOk Tryd.prog 66 [.str s,.str w] [] id (.bool (cutB s w)) []:=by
 have h:=fun id=>hasPre_ok s w id
 refine fn_okc Tryd.func66 hcc66 (by decide) hcr66 (by simp[Tryd.ntmps66]) fun E hP hR hl hid=>?_
 simp only[cr66] at hR
 refine w_go 4000 ?_
 simp[cc66]
 (refine w_call hP rfl (h _) (by simp) (by simp<;>rfl) ?_; refine w_go 4000 ?_; simp)
 rw[hR]; exact rt_end (by simp<;>rfl) [] trivial (end_pure (by simp) (by simp) (by simp))
theorem cutPre_ok(s w:List UInt8)(id:Nat):FnOk Tryd.prog 115 [.str s,.str w] [] id (.tup [.str (cutL s w),.bool (cutB s w)]) []:=by
 have h:=fun id=>hasPre_ok s w id
 by_cases g:cutB s w=true
 ·have g1:=((cutB_iff s w).1 g).1
  have e:cutL s w=s.drop w.length:=by unfold cutL; rw[if_pos g]
  rw[e,g]
  rw[g] at h
  refine fn_okc Tryd.func115 hcc115 (by decide) hcr115 (by simp[Tryd.ntmps115]) fun E hP hR hl hid=>?_
  simp only[cr115] at hR
  refine w_go 4000 ?_
  simp[cc115]
  (refine w_call hP rfl (h _) (by simp[g1]) (by simp[g1]<;>rfl) ?_; refine w_go 4000 ?_; simp[g1])
  rw[hR]; exact rt_end (by simp<;>rfl) [] trivial (end_pure (by simp) (by simp) (by simp))
 ·have g:cutB s w=false:=by simpa using g
  have e:cutL s w=s:=by unfold cutL; rw[if_neg (by simp[g])]
  rw[e,g]
  rw[g] at h
  refine fn_okc Tryd.func115 hcc115 (by decide) hcr115 (by simp[Tryd.ntmps115]) fun E hP hR hl hid=>?_
  simp only[cr115] at hR
  refine w_go 4000 ?_
  simp[cc115]
  (refine w_call hP rfl (h _) (by simp) (by simp<;>rfl) ?_; refine w_go 4000 ?_; simp)
  rw[hR]; exact rt_end (by simp<;>rfl) [] trivial (end_pure (by simp) (by simp) (by simp))
theorem cutPrefix_ok(s w:List UInt8)(id:Nat):FnOk Tryd.prog 94 [.str s,.str w] [] id (.tup [.str (cutL s w),.bool (cutB s w)]) []:=by
 have h:=fun id=>cutPre_ok s w id
 refine fn_okc Tryd.func94 hcc94 (by decide) hcr94 (by simp[Tryd.ntmps94]) fun E hP hR hl hid=>?_
 simp only[cr94] at hR
 refine w_go 4000 ?_
 simp[cc94]
 (refine w_call hP rfl (h _) (by simp) (by simp<;>rfl) ?_; refine w_go 4000 ?_; simp)
 rw[hR]; exact rt_end (by simp<;>rfl) [] trivial (end_pure (by simp) (by simp) (by simp))
theorem try_ok(z s w:List UInt8)(J id:Nat):FnOk Tryd.prog 65 [.ptr J 0 0,.str w] [(J,bS z s)] id (.bool (cutB s w)) [(J,some (bS z (cutL s w)))]:=by
 have h:=fun id=>cutPrefix_ok s w id
 rw[bS_eq]
 refine fn_okc Tryd.func65 hcc65 (by decide) hcr65 (by simp[Tryd.ntmps65]) fun E hP hR hl hid=>?_
 simp only[cr65] at hR
 refine w_go 4000 ?_
 simp[cc65]
 have hJ:=hl (J,_) (List.mem_cons_self ..)
 simp only at hJ
 have J1:=lf hJ
 (refine w_call hP rfl (h _) (by simp[J1]) (by simp[J1]<;>rfl) ?_; refine w_go 4000 ?_; simp[J1])
 have hrn:rnOk []:=by simp[bS,J1,idO hid]
 rw[hR]
 refine rt_end (by simp<;>rfl) [] hrn ⟨?_,?_,?_,?_,?_,?_⟩<;>(try simp[bS,J1,idO hid])
def pNeed(s w:List UInt8):Option (AV×List UInt8):=if cutB s w=true then some (.tup [],s.drop w.length) else none
theorem need_ok(z s w:List UInt8)(J id:Nat):FnE Tryd.prog 71 [.ptr J 0 0,.str w] [(J,bS z s)] id (rdR J z (pNeed s w)):=by
 have h:=fun id=>try_ok z s w J id
 have hf:=fun id=>fail_ok id
 by_cases g:cutB s w=true
 ·have e:pNeed s w=some (.tup [],s.drop w.length):=by unfold pNeed; rw[if_pos g]
  have e1:cutL s w=s.drop w.length:=by unfold cutL; rw[if_pos g]
  rw[g,e1] at h
  rw[bS_eq,bS_eq] at h
  rw[bS_eq]
  refine fn_okE Tryd.func71 hcc71 (by decide) hcr71 (by simp[Tryd.ntmps71]) fun E hP hR hPn hl hid hB hu=>?_
  simp only[cr71] at hR
  refine w_go 4000 ?_
  simp[cc71]
  have hJ:=hl (J,_) (List.mem_cons_self ..)
  simp only at hJ
  have J1:=lf hJ
  (refine w_call hP rfl (h _) (by simp[J1]) (by simp[J1]<;>rfl) ?_; refine w_go 4000 ?_; simp[J1])
  have hrn:rnOk []:=by simp[bS,J1,idO hid]
  refine hR _ _ _ (rdR_ok e) ?_
  refine rt_end (by simp[bS,J1,idO hid]<;>rfl) [] hrn ⟨?_,?_,?_,?_,?_,?_⟩<;>(try simp[bS,J1,idO hid])
 ·have g:cutB s w=false:=by simpa using g
  have e:pNeed s w=none:=by unfold pNeed; rw[if_neg (by simp[g])]
  have e1:cutL s w=s:=by unfold cutL; rw[if_neg (by simp[g])]
  rw[g,e1] at h
  rw[bS_eq] at h ⊢
  refine fn_okE Tryd.func71 hcc71 (by decide) hcr71 (by simp[Tryd.ntmps71]) fun E hP hR hPn hl hid hB hu=>?_
  simp only[cr71] at hR
  refine w_go 4000 ?_
  simp[cc71]
  have hJ:=hl (J,_) (List.mem_cons_self ..)
  simp only at hJ
  have J1:=lf hJ
  (refine w_call hP rfl (h _) (by simp[J1]) (by simp[J1]<;>rfl) ?_; refine w_go 4000 ?_; simp[J1])
  refine w_callE hP rfl (hf _) (by simp[J1]) (by simp[J1]<;>rfl) (fun pv hpv=>⟨by simp[J1],by injection hpv with hpv; subst hpv; exact hPn _ _ (rdR_no e) rfl (by simp[J1])⟩) (fun v wr h=>by cases h)
end Go.Am
namespace Go.Am
set_option linter.all false
open Go Go.RowKit Go.Proofs
set_option maxRecDepth 100000
set_option linter.all false
def ixH(c:UInt8):Int:=Lib.indexByte hexT c
def hexN(a b:UInt8):Int:=Go.bits .or .i64 (IntKind.i64.wrap (ixH a*16)) (ixH b)
def tHex:List UInt8→Option (UInt8×List UInt8)
 | a::b::r=>if hexN a b<0 then none else some (UInt8.ofNat (hexN a b).toNat,r)
 | _=>none
def tOne:List UInt8→Option (UInt8×List UInt8)
 | []=>none
 | c::r=>some (c,r)
def pTold(s:List UInt8):Option (UInt8×List UInt8) :=
 if cutB s [110]=true then some (10,s.drop 1) else if cutB s [117,48,48]=true then tHex (s.drop 3) else tOne s
def byteR(o:Option (UInt8×List UInt8)):Option (AV×List UInt8):=o.map fun p=>(.int .u8 p.1.toNat,p.2)
theorem wrap8n{n:Int}(h:0≤n):((UInt8.ofNat n.toNat).toNat:Int)=IntKind.u8.wrap n:=by
 have e:IntKind.u8.wrap n=n % 256:=by simp[IntKind.wrap,IntKind.signed,IntKind.bits]
 rw[e]
 simp
 omega
set_option maxHeartbeats 4000000 in
theorem told_ok(z s:List UInt8)(J id:Nat)(h8:s.length≤1099511627776):FnE Tryd.prog 96 [.ptr J 0 0] [(J,bS z s)] id (rdR J z (byteR (pTold s))):=by
 have ht:=fun w id=>try_ok z s w J id
 have hf:=fun id=>fail_ok id
 by_cases g1:cutB s [110]=true
 ·have e:byteR (pTold s)=some (.int .u8 10,s.drop 1):=by unfold pTold; rw[if_pos g1]; rfl
  have e1:cutL s [110]=s.drop 1:=by unfold cutL; rw[if_pos g1]; rfl
  have ht1:=ht [110]
  rw[g1,e1] at ht1
  rw[bS_eq] at *
  refine fn_okE Tryd.func96 hcc96 (by decide) hcr96 (by simp[Tryd.ntmps96]) fun E hP hR hPn hl hid hB hu=>?_
  simp only[cr96] at hR
  refine w_go 4000 ?_
  simp[cc96]
  have hJ:=hl (J,_) (List.mem_cons_self ..)
  simp only at hJ
  have J1:=lf hJ
  (refine w_call hP rfl (ht1 _) (by simp[J1]) (by simp[J1]<;>rfl) ?_; refine w_go 4000 ?_; simp[J1])
  have hrn:rnOk []:=by simp[bS,J1,idO hid]
  refine hR _ _ _ (rdR_ok e) ?_
  refine rt_end (by simp[bS,J1,idO hid]<;>rfl) [] hrn ⟨?_,?_,?_,?_,?_,?_⟩<;>(try simp[bS,J1,idO hid])
 have g1:cutB s [110]=false:=by simpa using g1
 have e1:cutL s [110]=s:=by unfold cutL; rw[if_neg (by simp[g1])]
 have ht1:=ht [110]
 rw[g1,e1] at ht1
 have ht2:=ht [117,48,48]
 by_cases g2:cutB s [117,48,48]=true
 ·have e2:cutL s [117,48,48]=s.drop 3:=by unfold cutL; rw[if_pos g2]; rfl
  rw[g2,e2] at ht2
  have hX:=fun c id=>IndexByte_ok hexT c id
  have hlen:(s.drop 3).length≤1099511627776:=by simp; omega
  have e0:pTold s=tHex (s.drop 3):=by unfold pTold; rw[if_neg (by simp[g1]),if_pos g2]
  generalize s.drop 3=t at *
  rw[bS_eq,bS_eq] at *
  by_cases h2:t.length<2
  ·have e:byteR (pTold s)=none:=by
    rw[e0]
    match t,h2 with
    | [],_=>rfl
    | [_],_=>rfl
    | _::_::_,h=>simp at h; omega
   refine fn_okE Tryd.func96 hcc96 (by decide) hcr96 (by simp[Tryd.ntmps96]) fun E hP hR hPn hl hid hB hu=>?_
   simp only[cr96] at hR
   refine w_go 4000 ?_
   simp[cc96]
   have hJ:=hl (J,_) (List.mem_cons_self ..)
   simp only at hJ
   have J1:=lf hJ
   (refine w_call hP rfl (ht1 _) (by simp[J1]) (by simp[J1]<;>rfl) ?_; refine w_go 4000 ?_; simp[J1])
   (refine w_call hP rfl (ht2 _) (by simp[J1]) (by simp[J1]<;>rfl) ?_; refine w_go 4000 ?_; simp[J1])
   refine goc_true (by simp; omega) ?_
   simp
   refine w_callE hP rfl (hf _) (by simp[J1]) (by simp[J1]<;>rfl) (fun pv hpv=>⟨by simp[J1],by injection hpv with hpv; subst hpv; exact hPn _ _ (rdR_no e) rfl (by simp[J1])⟩) (fun v wr h=>by cases h)
  match t,h2,hlen,e0,ht2 with
  | [],h,_,_,_=>exact (h (by simp)).elim
  | [_],h,_,_,_=>exact (h (by simp)).elim
  | a::b::r,h2,hlen,e0,ht2 =>
   have e0:pTold s=if hexN a b<0 then none else some (UInt8.ofNat (hexN a b).toNat,r):=e0
   have hXa:=hX a
   have hXb:=hX b
   rw[show hexT=[48,49,50,51,52,53,54,55,56,57,97,98,99,100,101,102] from rfl] at hXa hXb
   generalize hia:Lib.indexByte [48,49,50,51,52,53,54,55,56,57,97,98,99,100,101,102] a=ia at *
   generalize hib:Lib.indexByte [48,49,50,51,52,53,54,55,56,57,97,98,99,100,101,102] b=ib at *
   refine fn_okE Tryd.func96 hcc96 (by decide) hcr96 (by simp[Tryd.ntmps96]) fun E hP hR hPn hl hid hB hu=>?_
   simp only[cr96] at hR
   refine w_go 4000 ?_
   simp[cc96]
   have hJ:=hl (J,_) (List.mem_cons_self ..)
   simp only at hJ
   have J1:=lf hJ
   (refine w_call hP rfl (ht1 _) (by simp[J1]) (by simp[J1]<;>rfl) ?_; refine w_go 4000 ?_; simp[J1])
   (refine w_call hP rfl (ht2 _) (by simp[J1]) (by simp[J1]<;>rfl) ?_; refine w_go 4000 ?_; simp[J1])
   refine goc_false (by simp; omega) ?_
   simp[J1]
   (refine w_call hP rfl (hXa _) (by simp[J1]) (by simp[J1]<;>rfl) ?_; refine w_go 4000 ?_; simp[J1])
   refine⟨by decide,?_⟩
   (refine w_call hP rfl (hXb _) (by simp[J1]) (by simp[J1]<;>rfl) ?_; refine w_go 4000 ?_; simp[J1])
   have hn:hexN a b=Go.bits .or .i64 (IntKind.i64.wrap (ia*16)) ib:=by unfold hexN ixH; rw[←hia,←hib]; rfl
   rw[←hn]
   refine⟨by omega,?_⟩
   by_cases h3:hexN a b<0
   ·have e:byteR (pTold s)=none:=by rw[e0,if_pos h3]; rfl
    refine goc_true (by simpa using h3) ?_
    simp
    refine w_callE hP rfl (hf _) (by simp[J1]) (by simp[J1]<;>rfl) (fun pv hpv=>⟨by simp[J1],by injection hpv with hpv; subst hpv; exact hPn _ _ (rdR_no e) rfl (by simp[J1])⟩) (fun v wr h=>by cases h)
   ·have e:byteR (pTold s)=some (.int .u8 (IntKind.u8.wrap (hexN a b)),r):=by rw[e0,if_neg h3,←wrap8n (Int.not_lt.1 h3)]; rfl
    refine goc_false (by simpa using h3) ?_
    simp[J1]
    have hrn:rnOk []:=by simp[bS,J1,idO hid]
    refine hR _ _ _ (rdR_ok e) ?_
    refine rt_end (by simp[bS,J1,idO hid]<;>rfl) [] hrn ⟨?_,?_,?_,?_,?_,?_⟩<;>(try simp[bS,J1,idO hid])
 have g2:cutB s [117,48,48]=false:=by simpa using g2
 have e2:cutL s [117,48,48]=s:=by unfold cutL; rw[if_neg (by simp[g2])]
 rw[g2,e2] at ht2
 have e0:pTold s=tOne s:=by unfold pTold; rw[if_neg (by simp[g1]),if_neg (by simp[g2])]
 clear ht e1 e2 g1 g2
 cases s with
 | nil =>
  have e:byteR (pTold [])=none:=by rw[e0]; rfl
  rw[bS_eq] at *
  refine fn_okE Tryd.func96 hcc96 (by decide) hcr96 (by simp[Tryd.ntmps96]) fun E hP hR hPn hl hid hB hu=>?_
  simp only[cr96] at hR
  refine w_go 4000 ?_
  simp[cc96]
  have hJ:=hl (J,_) (List.mem_cons_self ..)
  simp only at hJ
  have J1:=lf hJ
  (refine w_call hP rfl (ht1 _) (by simp[J1]) (by simp[J1]<;>rfl) ?_; refine w_go 4000 ?_; simp[J1])
  (refine w_call hP rfl (ht2 _) (by simp[J1]) (by simp[J1]<;>rfl) ?_; refine w_go 4000 ?_; simp[J1])
  refine w_callE hP rfl (hf _) (by simp[J1]) (by simp[J1]<;>rfl) (fun pv hpv=>⟨by simp[J1],by injection hpv with hpv; subst hpv; exact hPn _ _ (rdR_no e) rfl (by simp[J1])⟩) (fun v wr h=>by cases h)
 | cons c r =>
  have e:byteR (pTold (c::r))=some (.int .u8 c.toNat,r):=by rw[e0]; rfl
  rw[bS_eq] at *
  refine fn_okE Tryd.func96 hcc96 (by decide) hcr96 (by simp[Tryd.ntmps96]) fun E hP hR hPn hl hid hB hu=>?_
  simp only[cr96] at hR
  refine w_go 4000 ?_
  simp[cc96]
  have hJ:=hl (J,_) (List.mem_cons_self ..)
  simp only at hJ
  have J1:=lf hJ
  (refine w_call hP rfl (ht1 _) (by simp[J1]) (by simp[J1]<;>rfl) ?_; refine w_go 4000 ?_; simp[J1])
  (refine w_call hP rfl (ht2 _) (by simp[J1]) (by simp[J1]<;>rfl) ?_; refine w_go 4000 ?_; simp[J1])
  refine⟨by omega,?_⟩
  have hrn:rnOk []:=by simp[bS,J1,idO hid]
  refine hR _ _ _ (rdR_ok e) ?_
  refine rt_end (by simp[bS,J1,idO hid]<;>rfl) [] hrn ⟨?_,?_,?_,?_,?_,?_⟩<;>(try simp[bS,J1,idO hid])
end Go.Am
