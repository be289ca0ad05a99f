/- Parts of the proof: an abstract machine for Go functions, and what functions of the program give back (Am58, Rp2, Rp3, Rp4, Rp5, Rp6, Rp7, Am59, Rp8, Rp9, Rp10, Ss0, Tl1, Tl2). No condition. -/
import Derived.Test.YtgfmjhmjnnpcgaaGreatDoorXO
import Derived.Tactics
import Derived.Tactics2
import Derived.Defers
import Derived.Laws.Pointers
import Derived.RegionTactic
import Derived.RegionCalls
import Derived.ChangeAlike
import Derived.Test.YtgfmjhmjnnpcgaaGreatDoorXE
import Derived.Shelf.Strings.Count
import Derived.KernelRfl
import Derived.Test.YtgfmjhmjnnpcgaaGreatDoorXM
import Derived.Test.YtgfmjhmjnnpcgaaGreatDoorXH
namespace Go.Am
set_option linter.all false
open Go Go.RowKit
set_option linter.all false
end Go.Am
namespace Go.Am
set_option linter.all false
open Go Go.RowKit Go.Proofs
set_option maxRecDepth 100000
set_option linter.all false
theorem bLoad_ok(J:Nat)(cs:List AV)(d:AV)(n:Int)(id:Nat)(hc:cs[0]?=some (.int .u32 n))(hp:pureL cs=true):FnOk Tryz.prog 146 [.ptr J 0 0] [(J,caB cs d)] id (.bool (n != 0)) []:=by
 have hr:=fun id=>raw_load (x:=.t 5) (J:=J) (off:=0) (d:=d) (id:=id) hc
 rw[caB_eq] at hr ⊢
 refine fn_okc Tryz.func146 hcc146 (by decide) hcr146 (by simp[Tryz.ntmps146]) fun E hP hR hl hid=>?_
 simp only[cr146] at hR
 refine w_go 4000 ?_
 simp[cc146]
 have hJ:=hl (J,_) (List.mem_cons_self ..)
 simp only at hJ
 have J1:=lf hJ
 refine w_raw hP rfl (by simp[COp.args]<;>rfl) (hr _) (by simp) (by simp) ?_
 refine w_go 4000 ?_
 simp
 have hrn:rnOk []:=by simp[J1,idO hid]
 rw[hR]
 refine rt_end (by simp<;>rfl) [] hrn ⟨?_,?_,?_,?_,?_,?_⟩<;>(try simp[J1,idO hid])
 all_goals exact renL_pure rfl hp
theorem store_deferred(a:Addr)(x:Value)(u:FrameMode)(w:World)(hc:w.cell? a=some x)(hz:w.frozen? a=false):
  CallsD Tryz.prog 167 #[.pointer (some a),.bool true] u w fun e u' w'=>u'=u∧(e = .returned (.tuple #[])∧w'=w.drew.setCell a (.int .u32 1)):=by
 have hc':w.drew.cell? a=some x:=by go_simp
 have hz':w.drew.frozen? a=false:=by go_simp
 have hst:=run_call_store (P:=Tryz.prog) Tryz.func181 (by kernel_rfl) (by kernel_rfl) (by kernel_rfl) (by kernel_rfl) (k:=.u32) (y:=1) hc' hz'
 go_enter_d Tryz.func167,Tryz.ntmps167
 go_wp2
 go_region_calls
 all_goals (go_end0; exact⟨rfl,rfl⟩)
set_option maxHeartbeats 1600000 in
theorem slow_any(b:Nat)(g:FuncId)(v1:Value)(w:World)(Q:World→Prop)(h0:w.cell? ⟨b,0,none⟩=some (.int .u32 0))(h1:w.cell? ⟨b,1,none⟩=some (.int .i32 0))(f1:w.frozen? ⟨b,1,none⟩=false)
  (hpl:PlainF Tryz.prog g) (hf:Calls Tryz.prog g #[v1] (w.setCell ⟨b,1,none⟩ (.int .i32 1)) fun e w2=>(∃v,e = .returned v)∧(∃x,w2.cell? ⟨b,0,none⟩=some x)∧w2.frozen? ⟨b,0,none⟩=false∧w2.cell? ⟨b,1,none⟩=some (.int .i32 1)∧w2.frozen? ⟨b,1,none⟩=false∧Q w2) :
  Calls Tryz.prog 147 #[.pointer (some ⟨b,0,none⟩),.func (.func g) #[v1] #[]] w fun e w'=>e = .returned (.tuple #[])∧∃w2,Q w2∧w'=(w2.drew.setCell ⟨b,0,none⟩ (.int .u32 1)).setCell ⟨b,1,none⟩ (.int .i32 0):=by
 have hl:=run_call_load (P:=Tryz.prog) Tryz.func164 (by kernel_rfl) (by kernel_rfl) (by kernel_rfl) .u32 (by kernel_rfl) (w:=w.setCell ⟨b,1,none⟩ (.int .i32 1)) (a:=⟨b,0,none⟩) (x:=0) ((World.cell?_setCell_other _ ⟨b,1,none⟩ ⟨b,0,none⟩ _ (by simp)).trans h0)
 have hnot:∀(x:Bool) (w:World),(Op.unary .not (.bool x)).run Tryz.prog w = .ok (.bool (!x)) w:=fun _ _=>rfl
 have hcf:=callFunc_run hpl
 go_enter_defers Tryz.func147,Tryz.ntmps147
 go_wp2_with (go_at_call 165; refine (Go.MuLone.lock_free muLib ⟨b,1,none⟩ _ (by first|exact h1|simpa [go_sem] using h1) (by first|exact f1|simpa [go_sem] using f1)).mono ?_; rintro e w' ⟨rfl,rfl⟩)
 go_wp2
 refine hf.mono ?_
 rintro e w2 ⟨⟨v,rfl⟩,⟨x,hx⟩,z0,l1,z1,hq⟩
 go_wp2
 refine leaves_cons (f:=167) (args:=#[.pointer (some ⟨b,0,none⟩),.bool true]) (by simp) (by simp[go_sem]) ?_
 refine (store_deferred ⟨b,0,none⟩ x .returning _ hx z0).mono ?_
 rintro e u' w'' ⟨rfl,rfl,rfl⟩
 refine leaves_cons (f:=166) (args:=#[.pointer (some ⟨b,1,none⟩)]) (by simp[settle]) (by simp[go_sem]) ?_
 refine (Go.MuLone.unlock_deferred muLib ⟨b,1,none⟩ _ _ ?_ (by simp[z1])).mono ?_
 ·refine (World.cell?_setCell_other _ ⟨b,0,none⟩ ⟨b,1,none⟩ _ (by simp)).trans ?_
  rw[World.cell?_drew]
  exact l1
 rintro e u' w'' ⟨rfl,rfl,rfl⟩
 simp[Leaves,settle,results,Tryz.results147]
 exact⟨w2,hq,rfl⟩
end Go.Am
namespace Go.Am
set_option linter.all false
open Go Go.RowKit Go.Proofs
set_option maxRecDepth 100000
set_option linter.all false
theorem updTwice{f:Nat→Option Bx}{J:Nat}{a b:Option Bx}:upd (upd f J a) J b=upd f J b:=by
 funext y
 by_cases h:y=J
 ·subst h; rw[upd_eq,upd_eq]
 ·rw[upd_ne _ _ _ h,upd_ne _ _ _ h,upd_ne _ _ _ h]
theorem appl_upd{f:Nat→Option Bx}{J:Nat}{c:Option Bx}{W:List (Nat×Option Bx)}(h:J∉keysW W):upd (appl f W) J c=appl (upd f J c) W:=by
 funext y
 by_cases hy:y=J
 ·subst hy; rw[upd_eq,appl_out h,upd_eq]
 ·rw[upd_ne _ _ _ hy]
  by_cases hk:y∈keysW W
  ·exact appl_in hk
  ·rw[appl_out hk,appl_out hk,upd_ne _ _ _ hy]
section
variable {P:Program} {C:Cx P} {G:Gh} {bx:Nat→Option Bx} {w:World}
theorem cell_set'(hs:RS C G bx w){J:Nat}{cs:List AV}{d:AV}(hb:bx J=some (caB cs d)){blk:Nat}(hv:RV G w (.ptr J 0 0) (.pointer (some ⟨blk,0,none⟩))){off:Nat}(hoff:off<cs.length){z:AV}{u:Value}(hz:RV G w z u)(hone:z.one=true)(hc:z.cells=[z]){t:TypeId}(hi:(P.info? t).map (·.size)=some 1):
  ∃G',RS C G' (upd bx J (some (caB (cs.set off z) d))) (w.setCell ⟨blk,off,none⟩ u)∧Evo G w G' (w.setCell ⟨blk,off,none⟩ u)∧∀i,G'.used i→G.used i:=by
 obtain⟨blk',s,h1,hptr,hcell⟩:=cell_at hs hb
 have:=hptr 0 _ hv
 injection this with this
 injection this with this
 injection this with e1 e2 e3
 subst e1
 exact cell_set hs hb h1 hoff hz hone hc hi
theorem cell_at'(hs:RS C G bx w){J:Nat}{cs:List AV}{d:AV}(hb:bx J=some (caB cs d)){blk:Nat}(hv:RV G w (.ptr J 0 0) (.pointer (some ⟨blk,0,none⟩))){off:Nat}{c:AV}(hc:cs[off]?=some c):(∃u,w.cell? ⟨blk,off,none⟩=some u∧RV G w c u)∧w.frozen? ⟨blk,off,none⟩=false:=by
 obtain⟨blk',s,h1,hptr,hcell⟩:=cell_at hs hb
 have:=hptr 0 _ hv
 injection this with this
 injection this with this
 injection this with e1 e2 e3
 subst e1
 exact hcell off c hc
end
theorem slow_ok(g J:Nat)(cs cs1:List AV)(d:AV)(W:List (Nat×Option Bx))(res:AV)(id:Nat)(h0:cs[0]?=some (.int .u32 0))(h1:cs[1]?=some (.int .i32 0))(c0:∃n,cs1[0]?=some (.int .u32 n))(c1:cs1[1]?=some (.int .i32 1))(hW:J∉keysW W)
  (hg:FnOk Tryz.prog g [.ptr J 0 0] [(J,caB (cs.set 1 (.int .i32 1)) d)] id res ((J,some (caB cs1 d))::W)) :
  FnOk Tryz.prog 147 [.ptr J 0 0,.fnb g [.ptr J 0 0]] [(J,caB cs d)] id (.tup []) ((J,some (caB ((cs1.set 0 (.int .u32 1)).set 1 (.int .i32 0)) d))::W):=by
 refine⟨⟨_,Tryz.func147,by kernel_rfl,by kernel_rfl⟩,fun C G bx w vs nb hs hv hh hnb hid=>?_⟩
 have hb:=hh _ (List.mem_singleton.2 rfl)
 simp only at hb
 obtain⟨n,c0⟩:=c0
 obtain⟨v,fv,rfl,hv1,hv2⟩:=rvsA2 hv
 obtain⟨blk,s,hbm,hptr,hcell⟩:=cell_at hs hb
 have e1:=hptr 0 _ hv1
 subst e1
 obtain⟨us,rfl,hus⟩:∃us,fv = .func (.func g) us #[]∧RVs G w [.ptr J 0 0] us:=by
  cases hv2 with|fnb _ _ us hl hh=>exact⟨us,rfl,hl,hh⟩
 obtain⟨u,rfl,hu⟩:=rvsA1 hus
 have e2:=hptr 0 _ hu
 subst e2
 obtain⟨⟨x0,hx0,r0⟩,z0⟩:=hcell 0 _ h0
 obtain⟨⟨x1,hx1,r1⟩,z1⟩:=hcell 1 _ h1
 cases r0
 cases r1
 have hl1:1<cs.length:=(List.getElem?_eq_some_iff.1 h1).1
 obtain⟨G1,s1,ev1,us1⟩:=cell_set hs hb hbm hl1 (z:=.int .i32 1) (u:=.int .i32 1) (.int _ _) rfl rfl i32info
 have hcall:=hg.2 C G1 _ _ #[.pointer (some ⟨blk,0,none⟩)] nb s1 ⟨rfl,fun i y hy=>?_⟩ (fun q hq=>by rw[List.mem_singleton.1 hq]; exact upd_eq _ _ _) (fun x hx h=>hnb x hx (us1 x h)) (fun x hx hx' h=>hid x hx hx' (us1 x h))
 rotate_left
 ·match i,hy with
  | 0,hy=>injection hy with hy; subst hy; exact hv1.mono ev1
  | i+1,hy=>simp at hy
 refine (slow_any blk g (.pointer (some ⟨blk,0,none⟩)) w (fun w2=>∃G2,RS C G2 (appl (upd bx J (some (caB (cs.set 1 (.int .i32 1)) d))) ((J,some (caB cs1 d))::W)) w2∧Evo G w G2 w2∧∀x,G2.used x→G.used x∨(id≤x∧x<id+1024)) hx0 hx1 z1 hg.1 (hcall.mono ?_)).mono ?_
 ·rintro e w2 ⟨v2,G2,rfl,s2,ev2,rv2,us2⟩
  have hb2:appl (upd bx J (some (caB (cs.set 1 (.int .i32 1)) d))) ((J,some (caB cs1 d))::W) J=some (caB cs1 d):=by
   simp only[appl]
   rw[appl_out hW,upd_eq]
  have hp2:=(hv1.mono ev1).mono ev2
  obtain⟨⟨y0,hy0,_⟩,q0⟩:=cell_at' s2 hb2 hp2 c0
  obtain⟨⟨y1,hy1,t1⟩,q1⟩:=cell_at' s2 hb2 hp2 c1
  cases t1
  exact⟨⟨v2,rfl⟩,⟨y0,hy0⟩,q0,hy1,q1,G2,s2,ev1.trans ev2,fun x hx=>(us2 x hx).imp (us1 x) _root_.id⟩
 ·rintro e w' ⟨rfl,w2,⟨G2,s2,ev2,us2⟩,rfl⟩
  simp only[appl] at s2
  rw[updTwice] at s2
  have hb2:appl (upd bx J (some (caB cs1 d))) W J=some (caB cs1 d):=by rw[appl_out hW,upd_eq]
  obtain⟨s3,ev3⟩:=s2.drew
  have hp3:=hv1.mono (ev2.trans ev3)
  obtain⟨G4,s4,ev4,us4⟩:=cell_set' s3 hb2 hp3 (off:=0) (List.getElem?_eq_some_iff.1 c0).1 (z:=.int .u32 1) (u:=.int .u32 1) (.int _ _) rfl rfl u32info
  have hp4:=hp3.mono ev4
  obtain⟨G5,s5,ev5,us5⟩:=cell_set' s4 (upd_eq _ _ _) hp4 (off:=1) (by rw[List.length_set]; exact (List.getElem?_eq_some_iff.1 c1).1) (z:=.int .i32 0) (u:=.int .i32 0) (.int _ _) rfl rfl i32info
  refine⟨.tuple #[],G5,rfl,?_,((ev2.trans ev3).trans ev4).trans ev5,.tup [] #[] rfl fun i y hy=>by simp at hy,fun x hx=>us2 x (us4 x (us5 x hx))⟩
  simp only[appl]
  rw[updTwice,appl_upd hW,updTwice] at s5
  exact s5
end Go.Am
namespace Go.Am
set_option linter.all false
open Go Go.RowKit Go.Proofs
set_option maxRecDepth 100000
set_option linter.all false
theorem rd_selfR(M:Nat)(b:Bx):Rd [(M,b)] (.bsl M 0 b.xs.length) (.sl b.xs) :=
 .bsl M 0 b.xs.length b b.xs (List.mem_cons_self ..) (by omega) rfl (fun i x y h1 h2=>by rw[Nat.zero_add] at h1; rw[h1] at h2; injection h2 with h2; rw[h2]) fun i x y j c d h1 h2 h3 h4=>by
  rw[Nat.zero_add] at h1; rw[h1] at h2; injection h2 with h2; subst h2; rw[h3] at h4; injection h4 with h4; subst h4; exact .same _
def tblL(f:Nat→AV)(tr:AV):List AV:=(List.range 256).map f++[tr]
@[simp] theorem tbl_len (f:Nat→AV) (tr:AV):(tblL f tr).length=257:=by simp[tblL]
theorem tbl_get(f:Nat→AV)(tr:AV){k:Nat}(h:k<256):(tblL f tr)[k]?=some (f k):=by
 unfold tblL
 rw[List.getElem?_append_left (by simp; omega)]
 simp[h]
theorem tbl_last(f:Nat→AV)(tr:AV):(tblL f tr)[256]?=some tr:=by
 unfold tblL
 rw[List.getElem?_append_right (by simp)]
 simp
theorem drop_get{l:List AV}{k:Nat}{x:AV}(h:l[k]?=some x):l.drop k=x::l.drop (k+1):=by
 have hk:=(List.getElem?_eq_some_iff.1 h).1
 rw[List.drop_eq_getElem_cons hk,(List.getElem?_eq_some_iff.1 h).2]
theorem tbl_drop(f:Nat→AV)(tr:AV){k:Nat}(h:k<256):(tblL f tr).drop k=f k::(tblL f tr).drop (k+1):=drop_get (tbl_get f tr h)
@[simp] theorem tbl_drop256 (f:Nat→AV) (tr:AV):(tblL f tr).drop 256=[tr]:=by
 rw[drop_get (tbl_last f tr),List.drop_of_length_le (by simp)]
@[simp] theorem tbl_drop257 (f:Nat→AV) (tr:AV):(tblL f tr).drop 257=[]:=List.drop_of_length_le (by simp)
def fset(f:Nat→AV)(k:Nat)(v:AV):Nat→AV:=fun n=>if n=k then v else f n
theorem tbl_set(f:Nat→AV)(tr:AV){k:Nat}(h:k<256)(v:AV):(tblL f tr).take k++v::(tblL f tr).drop (k+1)=tblL (fset f k v) tr:=by
 have e:(tblL f tr).take k++v::(tblL f tr).drop (k+1)=(tblL f tr).set k v:=by
  rw[List.set_eq_take_append_cons_drop,if_pos (by simp; omega)]
 rw[e]
 apply List.ext_getElem?
 intro i
 rw[List.getElem?_set]
 by_cases hi:k=i
 ·subst hi
  rw[if_pos rfl,if_pos (by simp; omega),tbl_get _ _ h]
  simp[fset]
 ·rw[if_neg hi]
  rcases Nat.lt_trichotomy i 256 with h1|h1|h1
  ·rw[tbl_get _ _ h1,tbl_get _ _ h1]
   simp[fset,Ne.symm hi]
  ·subst h1; rw[tbl_last,tbl_last]
  ·rw[List.getElem?_eq_none (by simp; omega),List.getElem?_eq_none (by simp; omega)]
@[simp] theorem tbl_set256 (f:Nat→AV) (tr v:AV):(tblL f tr).take 256++[v]=tblL f v:=by
 unfold tblL
 rw[List.take_left' (by simp)]
@[simp] theorem zR_len:zR.length=257:=by simp[zR]
@[simp] theorem zR_drop:zR.drop 257=[]:=List.drop_of_length_le (by simp)
@[simp] theorem zR_fill (v:AV):zR.take 256++[v]=tblL (fun _=>.nils) v:=by
 unfold zR tblL
 rw[List.take_replicate]
 congr 1
theorem tbl_one{f:Nat→AV}{tr:AV}(hf:∀n,(match f n with | .agg _=>false | .tup _=>false|_=>true)=true)(ht:(match tr with | .agg _=>false | .tup _=>false|_=>true)=true):∀x∈tblL f tr,(match x with | .agg _=>false | .tup _=>false|_=>true)=true:=fun x hx=>by
 unfold tblL at hx
 rcases List.mem_append.1 hx with h|h
 ·obtain⟨n,_,rfl⟩:=List.mem_map.1 h
  exact hf n
 ·rw[List.mem_singleton.1 h]; exact ht
def L6:List (List UInt8):=[[34],[92,34],[92],[92,92],[10],[92,110]]
def fT1:Nat→AV:=fset (fun _=>.nils) 10 (.sl [.int .u8 92,.int .u8 110])
def fT2:Nat→AV:=fset fT1 92 (.sl [.int .u8 92,.int .u8 92])
def fT3:Nat→AV:=fset fT2 34 (.sl [.int .u8 92,.int .u8 34])
def L3:List (List UInt8):=[[10],[92],[34]]
def kB:Bx:=caB (tblL fT3 (.sl (L3.map .str))) (.agg zR)
def fN:Nat→Nat→AV
 | 0=>fun _=>.nils
 | 1=>fT1
 | 2=>fT2
 | _=>fT3
def bS4(E:Env)(J:Nat)(a b c:Int)(d:AV)(r:Nat):St :=
 ⟨[(0,true,.ptr J 0 0),(3,true,.sl (L6.map .str)),(11,true,.ptr E.n0 0 0),(12,true,.int .i64 (4 - 2*r))],[(J,some ⟨[.agg [.int .u32 a,.int .i32 b,.int .u32 c,.nili,.sl (L6.map .str)]],d,false,false⟩),
  (E.n0,some ⟨[.agg (tblL (fN r) (.bsl (E.n0+1) 0 r))],.agg zR,false,false⟩),(E.n0+1,some ⟨(L3.take r).map .str,.str [],false,false⟩)],2⟩
theorem pure_fN(r n:Nat):(fN r n).pureB=true:=by
 match r with
 | 0=>rfl
 | 1=>simp only[fN,fT1,fset]; split<;>rfl
 | 2 =>
  simp only[fN,fT2,fT1,fset]
  repeat' split
  all_goals rfl
 | r+3 =>
  simp only[fN,fT3,fT2,fT1,fset]
  repeat' split
  all_goals rfl
theorem ren_tbl{R:Rn}{S:Nat→Prop}{f:Nat→AV}{a b:AV}(hf:∀n,(f n).pureB=true)(h:RenR R S a b):RenL R S (tblL f a) (tblL f b):=renL_app (renL_pure rfl (pureL_map hf _)) (.cons _ _ _ _ h .nil)
set_option maxHeartbeats 8000000 in
theorem rbuild_ok(J:Nat)(a b c:Int)(d:AV)(id:Nat):FnOk Tryz.prog 148 [.ptr J 0 0] [(J,caB [.int .u32 a,.int .i32 b,.int .u32 c,.nili,.sl (L6.map .str)] d)] id (.iface 197 (.ptr id 0 0)) [(id,some kB)]:=by
 rw[caB_eq]
 refine fn_okc Tryz.func148 hcc148 (by decide) hcr148 (by simp[Tryz.ntmps148]) fun E hP hR hl hid=>?_
 simp only[cr148] at hR
 refine w_go 4000 ?_
 simp[cc148]
 have hJ:=hl (J,_) (List.mem_cons_self ..)
 simp only at hJ
 have J1:=lf hJ
 have w1:IntKind.i64.wrap 1=1:=wrap64 (by omega)
 have w2:IntKind.i64.wrap 2=2:=wrap64 (by omega)
 have w3:IntKind.i64.wrap 3=3:=wrap64 (by omega)
 have w4:IntKind.i64.wrap 4=4:=wrap64 (by omega)
 have w5:IntKind.i64.wrap 5=5:=wrap64 (by omega)
 have w6:IntKind.i64.wrap 6=6:=wrap64 (by omega)
 have w0:IntKind.i64.wrap 0=0:=wrap64 (by omega)
 have wm:IntKind.i64.wrap (-2) = -2:=wrap64 (by omega)
 simp[L6,J1,w1,w2,w3,w4,w5,w6]
 refine w_loop (X:=Nat) (fun q=>⟨[(0,true,.ptr J 0 0),(3,true,.sl (L6.map .str)),(4,true,.bool (decide (q=0))),(5,true,.int .i64 (2*q))],[(J,some ⟨[.agg [.int .u32 a,.int .i32 b,.int .u32 c,.nili,.sl (L6.map .str)]],d,false,false⟩)],0⟩) (fun q=>q≤3) (fun q=>3 - q) 0 ?_ (by omega) ?_
 ·have hrn:rnOk []:=by simp[L6,J1]
  refine Conv.sub [] hrn ?_ ?_ ?_ ?_ ?_<;>(try simp[L6,J1])
  all_goals exact namesL_pure _ rfl
 rintro q hq p hp
 match q,hq,hp with
 | 0,_,hp =>
  refine w_go 4000 ?_
  simp[L6,J1,w1,w2,w3,w4,w5,w6]
  refine hp _ 1 (by omega) (by omega) ?_
  have hrn:rnOk []:=by simp[L6,J1]
  refine Conv.sub [] hrn ?_ ?_ ?_ ?_ ?_<;>(try simp[L6,J1])
  all_goals exact namesL_pure _ rfl
 | 1,_,hp =>
  refine w_go 4000 ?_
  simp[L6,J1,w1,w2,w3,w4,w5,w6]
  refine hp _ 2 (by omega) (by omega) ?_
  have hrn:rnOk []:=by simp[L6,J1]
  refine Conv.sub [] hrn ?_ ?_ ?_ ?_ ?_<;>(try simp[L6,J1])
  all_goals exact namesL_pure _ rfl
 | 2,_,hp =>
  refine w_go 4000 ?_
  simp[L6,J1,w1,w2,w3,w4,w5,w6]
  refine hp _ 3 (by omega) (by omega) ?_
  have hrn:rnOk []:=by simp[L6,J1]
  refine Conv.sub [] hrn ?_ ?_ ?_ ?_ ?_<;>(try simp[L6,J1])
  all_goals exact namesL_pure _ rfl
 | q+4,hq,_=>omega
 | 3,_,hp =>
  refine w_go 4000 ?_
  simp[L6,J1,w1,w2,w3,w4,w5,w6]
  refine⟨tbl_one (fun _=>rfl) rfl,?_⟩
  refine w_loop (X:=Nat) (fun r=>bS4 E J a b c d r) (fun r=>r≤3) (fun r=>3 - r) 0 ?_ (by omega) ?_
  ·unfold bS4
   have hrn:rnOk [(E.n0,E.n0+10240),(E.n0+1,E.n0+8192)]:=by simp[L6,L3,fN,J1]
   refine Conv.sub [(E.n0,E.n0+10240),(E.n0+1,E.n0+8192)] hrn ?_ ?_ ?_ ?_ ?_<;>(try simp[L6,L3,fN,J1])
   ·exact namesL_pure _ rfl
   ·exact⟨namesL_pure _ rfl,ren_tbl (fun _=>rfl) (.bsl _ _ _ _ (by simp))⟩
  rintro r hr p hp
  have g0:fN 0 10 = .nils:=rfl
  have g1:fN 1 92 = .nils:=rfl
  have g2:fN 2 34 = .nils:=rfl
  have s10:=fun f tr v=>tbl_set f tr (k:=10) (by omega) v
  have s92:=fun f tr v=>tbl_set f tr (k:=92) (by omega) v
  have s34:=fun f tr v=>tbl_set f tr (k:=34) (by omega) v
  simp only[Nat.reduceAdd] at s10 s92 s34
  have u10:toU8 (.int .u8 10)=10:=rfl
  have u92:toU8 (.int .u8 92)=92:=rfl
  have u34:toU8 (.int .u8 34)=34:=rfl
  match r,hr,hp with
  | 0,_,hp =>
   unfold bS4
   refine w_go 4000 ?_
   simp[L6,L3,J1,w1,w2,w3,w4,w5,w6,w0,wm,tbl_drop (k:=10),g0,g1,g2,s10,s92,s34,u10,u92,u34]
   refine⟨rfl,?_⟩
   refine hp _ 1 (by omega) (by omega) ?_
   unfold bS4
   have hf:fset (fN 0) 10 (.sl [.int .u8 92,.int .u8 110])=fN 1:=rfl
   have hrn:rnOk [(E.n0,E.n0),(E.n0+1,E.n0+25602)]:=by simp[L6,L3,hf,u10,u92,u34,w0,wm,J1]
   refine Conv.sub [(E.n0,E.n0),(E.n0+1,E.n0+25602)] hrn ?_ ?_ ?_ ?_ ?_<;>(try simp[L6,L3,hf,u10,u92,u34,w0,wm,J1])
   ·exact namesL_pure _ rfl
   ·exact⟨namesL_pure _ rfl,ren_tbl (pure_fN _) (.bsl _ _ _ _ (by simp))⟩
  | 1,_,hp =>
   unfold bS4
   refine w_go 4000 ?_
   simp[L6,L3,J1,w1,w2,w3,w4,w5,w6,w0,wm,tbl_drop (k:=92),g0,g1,g2,s10,s92,s34,u10,u92,u34]
   refine⟨rfl,?_⟩
   refine hp _ 2 (by omega) (by omega) ?_
   unfold bS4
   have hf:fset (fN 1) 92 (.sl [.int .u8 92,.int .u8 92])=fN 2:=rfl
   have hrn:rnOk [(E.n0,E.n0),(E.n0+1,E.n0+25602)]:=by simp[L6,L3,hf,u10,u92,u34,w0,wm,J1]
   refine Conv.sub [(E.n0,E.n0),(E.n0+1,E.n0+25602)] hrn ?_ ?_ ?_ ?_ ?_<;>(try simp[L6,L3,hf,u10,u92,u34,w0,wm,J1])
   ·exact namesL_pure _ rfl
   ·exact⟨namesL_pure _ rfl,ren_tbl (pure_fN _) (.bsl _ _ _ _ (by simp))⟩
  | 2,_,hp =>
   unfold bS4
   refine w_go 4000 ?_
   simp[L6,L3,J1,w1,w2,w3,w4,w5,w6,w0,wm,tbl_drop (k:=34),g0,g1,g2,s10,s92,s34,u10,u92,u34]
   refine⟨rfl,?_⟩
   refine hp _ 3 (by omega) (by omega) ?_
   unfold bS4
   have hf:fset (fN 2) 34 (.sl [.int .u8 92,.int .u8 34])=fN 3:=rfl
   have hrn:rnOk [(E.n0,E.n0),(E.n0+1,E.n0+25602)]:=by simp[L6,L3,hf,u10,u92,u34,w0,wm,J1]
   refine Conv.sub [(E.n0,E.n0),(E.n0+1,E.n0+25602)] hrn ?_ ?_ ?_ ?_ ?_<;>(try simp[L6,L3,hf,u10,u92,u34,w0,wm,J1])
   ·exact namesL_pure _ rfl
   ·exact⟨namesL_pure _ rfl,ren_tbl (pure_fN _) (.bsl _ _ _ _ (by simp))⟩
  | r+4,hr,_=>omega
  | 3,_,hp =>
   have hDE:Conv E (bS4 E J a b c d 3) ⟨(bS4 E J a b c d 3).fr,[(E.n0,some kB),(J,some ⟨[.agg [.int .u32 a,.int .i32 b,.int .u32 c,.nili,.sl (L6.map .str)]],d,false,false⟩)],2⟩:=by
    refine Conv.deepBox (σ:=bS4 E J a b c d 3) E.n0 [(E.n0+1,⟨L3.map .str,.str [],false,false⟩)] [(J,some ⟨[.agg [.int .u32 a,.int .i32 b,.int .u32 c,.nili,.sl (L6.map .str)]],d,false,false⟩)] (b:=caB (tblL (fN 3) (.bsl (E.n0+1) 0 3)) (.agg zR)) (x:=.agg (tblL (fN 3) (.bsl (E.n0+1) 0 3))) (y:=.agg (tblL fT3 (.sl (L3.map .str)))) ?_ rfl (by simp[AV.cells]) ?_ ?_ ⟨?_,?_⟩ ?_
    ·simp[bS4,J1]; rfl
    ·intro m c e h1 h2
     simp only[AV.cells] at h1 h2
     rcases Nat.lt_trichotomy m 256 with hm|hm|hm
     ·rw[tbl_get _ _ hm] at h1 h2
      injection h1 with h1
      injection h2 with h2
      subst h1 h2
      exact .same _
     ·subst hm
      rw[tbl_last] at h1 h2
      injection h1 with h1
      injection h2 with h2
      subst h1 h2
      exact rd_selfR (E.n0+1) ⟨L3.map .str,.str [],false,false⟩
     ·rw[List.getElem?_eq_none (by simp; omega)] at h1
      cases h1
    ·intro q hq
     obtain rfl:=List.mem_singleton.1 hq
     exact⟨by simp[bS4,J1]; rfl,rfl⟩
    ·intro y b' hy
     simp only[bk] at hy
     split at hy
     ·rename_i hyJ
      subst hyJ
      refine⟨by simp only[bS4,bk,if_true]; exact hy,fun q hq=>?_⟩
      obtain rfl:=List.mem_singleton.1 hq
      show E.n0+1≠y
      have:=hJ.1
      omega
     ·cases hy
    ·intro q hq
     simp[bS4] at hq
     rcases hq with rfl|rfl|rfl
     ·exact .inr (by simp)
     ·exact .inl (by simp)
     ·exact .inl (by simp)
    ·intro q hq
     obtain rfl:=List.mem_singleton.1 hq
     show E.n0+1≠E.n0
     omega
   refine w_conv hDE ?_
   unfold bS4 kB
   rw[caB_eq]
   refine w_go 4000 ?_
   simp[L6,L3,J1,w1,w2,w3,w4,w5,w6,w0,wm]
   have hrn:rnOk [(id,E.n0)]:=by simp[kB,caB,L3,L6,J1,idO hid]
   rw[hR]
   refine rt_end (by simp<;>rfl) [(id,E.n0)] hrn ⟨?_,?_,?_,?_,?_,?_⟩<;>(try simp[kB,caB,L3,L6,J1,idO hid])
   exact⟨namesL_pure _ rfl,ren_tbl (pure_fN 3) (renR_pure rfl rfl)⟩
end Go.Am
namespace Go.Am
set_option linter.all false
open Go Go.RowKit Go.Proofs
set_option maxRecDepth 100000
set_option linter.all false
def rZ(a b c:Int):List AV:=[.int .u32 a,.int .i32 b,.int .u32 c,.nili,.sl (L6.map .str)]
def rY(K:Nat)(a b c:Int):List AV:=[.int .u32 a,.int .i32 b,.int .u32 c,.iface 197 (.ptr K 0 0),.nils]
theorem once_ok(J:Nat)(a b c:Int)(d:AV)(id:Nat):FnOk Tryz.prog 134 [.ptr J 0 0] [(J,caB (rZ a b c) d)] id (.tup []) [(J,some (caB (rY id a b c) d)),(id,some kB)]:=by
 have hB:=fun id=>rbuild_ok J a b c d id
 unfold rZ rY
 rw[caB_eq] at hB
 rw[caB_eq,caB_eq]
 refine fn_okc Tryz.func134 hcc134 (by decide) hcr134 (by simp[Tryz.ntmps134]) fun E hP hR hl hid=>?_
 simp only[cr134] at hR
 refine w_go 4000 ?_
 simp[cc134]
 have hJ:=hl (J,_) (List.mem_cons_self ..)
 simp only at hJ
 have J1:=lf hJ
 (refine w_call hP rfl (hB _) (by simp[J1]) (by simp[J1]<;>rfl) ?_; refine w_go 4000 ?_; simp[J1])
 have hrn:rnOk [(id,E.n0+2048)]:=by simp[kB,caB,L3,L6,J1,idO hid]
 rw[hR]
 refine rt_end (by simp<;>rfl) [(id,E.n0+2048)] hrn ⟨?_,?_,?_,?_,?_,?_⟩<;>(try simp[kB,caB,L3,L6,J1,idO hid])
 exact ren_tbl (pure_fN 3) (renR_pure rfl rfl)
theorem do_ok(J:Nat)(d:AV)(id:Nat):FnOk Tryz.prog 133 [.ptr J 0 0,.fnb 134 [.ptr J 0 0]] [(J,caB (rZ 0 0 0) d)] id (.tup []) [(J,some (caB (rY id 1 0 0) d)),(id,some kB)]:=by
 have hL:=fun id=>bLoad_ok J (rZ 0 0 0) d 0 id rfl rfl
 have hS:∀id,J≠id→FnOk Tryz.prog 147 [.ptr J 0 0,.fnb 134 [.ptr J 0 0]] [(J,caB (rZ 0 0 0) d)] id (.tup []) [(J,some (caB (rY id 1 0 0) d)),(id,some kB)]:=fun id hn=>slow_ok 134 J (rZ 0 0 0) (rY id 0 1 0) d [(id,some kB)] (.tup []) id rfl rfl ⟨0,rfl⟩ rfl (by simpa [keysW] using hn) (once_ok J 0 1 0 d id)
 rw[caB_eq] at hL hS
 simp only[caB_eq] at hS
 unfold rZ rY at *
 rw[caB_eq,caB_eq]
 refine fn_okc Tryz.func133 hcc133 (by decide) hcr133 (by simp[Tryz.ntmps133]) fun E hP hR hl hid=>?_
 simp only[cr133] at hR
 refine w_go 4000 ?_
 simp[cc133]
 have hJ:=hl (J,_) (List.mem_cons_self ..)
 simp only at hJ
 have J1:=lf hJ
 (refine w_call hP rfl (hL _) (by simp[J1]) (by simp[J1]<;>rfl) ?_; refine w_go 4000 ?_; simp[J1])
 have hS':=fun t=>hS (E.n0+t) (by simp[J1])
 (refine w_call hP rfl (hS' _) (by simp[J1]) (by simp[J1]<;>rfl) ?_; refine w_go 4000 ?_; simp[J1])
 have hrn:rnOk [(id,E.n0+7168)]:=by simp[kB,caB,L3,L6,J1,idO hid]
 rw[hR]
 refine rt_end (by simp<;>rfl) [(id,E.n0+7168)] hrn ⟨?_,?_,?_,?_,?_,?_⟩<;>(try simp[kB,caB,L3,L6,J1,idO hid])
 all_goals exact ren_tbl (pure_fN 3) (renR_pure rfl rfl)
theorem newRep_ok(id:Nat):FnOk Tryz.prog 112 [.sl (L6.map .str)] [] id (.ptr id 0 0) [(id,some (caB (rZ 0 0 0) (.agg (rZ 0 0 0))))]:=by
 unfold rZ
 rw[caB_eq]
 refine fn_okc Tryz.func112 hcc112 (by decide) hcr112 (by simp[Tryz.ntmps112]) fun E hP hR hl hid=>?_
 simp only[cr112] at hR
 unfold cc112
 refine w_cut3 (X:=Unit) (fun _=>⟨[(2,true,.ptr E.n0 0 0)],[(E.n0,some ⟨[.agg [.int .u32 0,.int .i32 0,.int .u32 0,.nili,.sl (L6.map .str)]],.agg [.int .u32 0,.int .i32 0,.int .u32 0,.nili,.sl (L6.map .str)],false,false⟩)],1⟩) (fun _=>True) (fun q hq=>?_) (fun _ _=>?_)
 ·refine w_go 4000 ?_
  simp[L6]
  refine hq _ () trivial ?_
  generalize hσ:(St.mk _ _ _)=σ
  have hDE:Conv E σ ⟨σ.fr,[(E.n0+8192,some ⟨[.agg [.int .u32 0,.int .i32 0,.int .u32 0,.nili,.sl (L6.map .str)]],.agg [.int .u32 0,.int .i32 0,.int .u32 0,.nili,.bsl (E.n0+6144) 0 6],false,false⟩)],σ.k⟩:=by
   subst hσ
   refine Conv.deepBox (E.n0+8192) [(E.n0+6144,⟨L6.map .str,.str [],false,false⟩)] [] (b:=⟨[.agg [.int .u32 0,.int .i32 0,.int .u32 0,.nili,.bsl (E.n0+6144) 0 6]],.agg [.int .u32 0,.int .i32 0,.int .u32 0,.nili,.bsl (E.n0+6144) 0 6],false,false⟩) (x:=.agg [.int .u32 0,.int .i32 0,.int .u32 0,.nili,.bsl (E.n0+6144) 0 6]) (y:=.agg [.int .u32 0,.int .i32 0,.int .u32 0,.nili,.sl (L6.map .str)]) (by simp) rfl rfl (fun m c d h1 h2=>?_) (fun q hq=>?_) ⟨fun y b hy=>?_,fun q hq=>?_⟩ (fun q hq=>?_)
   ·match m,h1,h2 with
    | 0,h1,h2|1,h1,h2|2,h1,h2|3,h1,h2=>injection h1 with h1; injection h2 with h2; subst h1 h2; exact .same _
    | 4,h1,h2 =>
     injection h1 with h1; injection h2 with h2; subst h1 h2
     exact rd_selfR (E.n0+6144) ⟨L6.map .str,.str [],false,false⟩
    | m+5,h1,h2=>simp[AV.cells] at h1
   ·obtain rfl:=List.mem_singleton.1 hq
    exact⟨by simp[L6],rfl⟩
   ·cases hy
   ·simp at hq
    rcases hq with rfl|rfl<;>exact .inl (by simp)
   ·obtain rfl:=List.mem_singleton.1 hq
    show E.n0+6144≠E.n0+8192
    omega
  refine hDE.trans ?_
  subst hσ
  have hrn:rnOk [(E.n0,E.n0+8192)]:=by simp[L6]
  refine Conv.sub [(E.n0,E.n0+8192)] hrn ?_ ?_ ?_ ?_ ?_<;>(try simp[L6])
  all_goals exact namesL_pure _ rfl
 ·refine w_go 100 ?_
  simp[L6]
  have hrn:rnOk [(id,E.n0)]:=by simp[L6,idO hid]
  rw[hR]
  refine rt_end (by simp<;>rfl) [(id,E.n0)] hrn ⟨?_,?_,?_,?_,?_,?_⟩<;>(try simp[L6,idO hid])
  all_goals exact namesL_pure _ rfl
end Go.Am
namespace Go.Am
set_option linter.all false
open Go Go.RowKit Go.Proofs
set_option maxRecDepth 100000
set_option linter.all false
theorem meth197 : MethOk Tryz.prog 197 "Replace" 234 := fun a w => by kernel_rfl
theorem rep_ok(s u:List UInt8)(J:Nat)(d:AV)(id:Nat)(hT:∀K id,FnOk Tryz.prog 234 [.ptr K 0 0,.str s] [(K,kB)] id (.str u) []):
  FnOk Tryz.prog 113 [.ptr J 0 0,.str s] [(J,caB (rZ 0 0 0) d)] id (.str u) [(J,some (caB (rY id 1 0 0) d)),(id,some kB)]:=by
 have hD:=fun id=>do_ok J d id
 unfold rZ rY at hD ⊢
 simp only[caB_eq] at hD ⊢
 refine fn_okc Tryz.func113 hcc113 (by decide) hcr113 (by simp[Tryz.ntmps113]) fun E hP hR hl hid=>?_
 simp only[cr113] at hR
 refine w_go 4000 ?_
 simp[cc113]
 have hJ:=hl (J,_) (List.mem_cons_self ..)
 simp only at hJ
 have J1:=lf hJ
 (refine w_call hP rfl (hD _) (by simp[J1]) (by simp[J1]<;>rfl) ?_; refine w_go 4000 ?_; simp[J1])
 refine w_inv (t:=197) (J:=E.n0+6144) hP (by simp[J1]) meth197 (by simp[J1]<;>rfl) (hT _ _) ⟨kB,_,by simp,rfl⟩ (by simp[J1]) (by simp[J1]) ?_
 refine w_go 4000 ?_
 simp[J1]
 have hrn:rnOk [(id,E.n0+6144)]:=by simp[kB,caB,L3,L6,J1,idO hid]
 rw[hR]
 refine rt_end (by simp<;>rfl) [(id,E.n0+6144)] hrn ⟨?_,?_,?_,?_,?_,?_⟩<;>(try simp[kB,caB,L3,L6,J1,idO hid])
 all_goals exact ren_tbl (pure_fN 3) (renR_pure rfl rfl)
end Go.Am
namespace Go.Am
set_option linter.all false
open Go Go.RowKit Go.Proofs
set_option maxRecDepth 100000
set_option linter.all false
def rQ(c:UInt8):List UInt8:=if c=34 then [92,34] else if c=92 then [92,92] else if c=10 then [92,110] else [c]
def rQs(s:List UInt8):List UInt8:=s.flatMap rQ
def rSp(c:UInt8):Bool:=c==34||c==92||c==10
theorem rQ_sp{c:UInt8}(h:rSp c=true):∃e:UInt8,rQ c=[92,e]∧fT3 c.toNat = .sl [.int .u8 92,.int .u8 e.toNat]:=by
 simp only[rSp,Bool.or_eq_true,beq_iff_eq] at h
 rcases h with (rfl|rfl)|rfl
 ·exact⟨34,rfl,rfl⟩
 ·exact⟨92,rfl,rfl⟩
 ·exact⟨110,rfl,rfl⟩
theorem rQ_no{c:UInt8}(h:rSp c=false):rQ c=[c]∧fT3 c.toNat = .nils:=by
 simp only[rSp,Bool.or_eq_false_iff,beq_eq_false_iff_ne,ne_eq] at h
 obtain⟨⟨h1,h2⟩,h3⟩:=h
 have t1:c.toNat≠34:=fun e=>h1 (UInt8.toNat_inj.1 (by rw[e]; rfl))
 have t2:c.toNat≠92:=fun e=>h2 (UInt8.toNat_inj.1 (by rw[e]; rfl))
 have t3:c.toNat≠10:=fun e=>h3 (UInt8.toNat_inj.1 (by rw[e]; rfl))
 refine⟨by unfold rQ; rw[if_neg h1,if_neg h2,if_neg h3],?_⟩
 simp only[fT3,fT2,fT1,fset,if_neg t1,if_neg t2,if_neg t3]
theorem rQs_take{s:List UInt8}{i:Nat}{c:UInt8}(h:s[i]?=some c):rQs (s.take (i+1))=rQs (s.take i)++rQ c:=by
 rw[List.take_succ,h]; simp[rQs]
theorem rQs_len(s:List UInt8):s.length≤(rQs s).length∧(rQs s).length≤2*s.length:=by
 induction s with
 | nil=>simp[rQs]
 | cons c r ih =>
  have:1≤(rQ c).length∧(rQ c).length≤2:=by
   unfold rQ
   repeat' split
   all_goals simp
  simp[rQs] at ih ⊢; omega
theorem rQs_mono(s:List UInt8)(i:Nat):(rQs (s.take i)).length≤(rQs s).length:=by
 have h:rQs (s.take i)++rQs (s.drop i)=rQs s:=by
  unfold rQs
  rw[←List.flatMap_append,List.take_append_drop]
 rw[←h,List.length_append]; omega
theorem rQs_same{s:List UInt8}(h:s.any rSp=false):rQs s=s:=by
 induction s with
 | nil=>rfl
 | cons c r ih =>
  simp only[List.any_cons,Bool.or_eq_false_iff] at h
  have:=ih h.2
  simp only[rQs] at this ⊢
  rw[List.flatMap_cons,(rQ_no h.1).1,this]; rfl
end Go.Am
namespace Go.Am
set_option linter.all false
open Go Go.RowKit
set_option linter.all false
theorem comp_sli{P:Program}{op:Op}{n:Nat}{x lo:Opd}(h:comp P op=some (.sli n x (some lo) none)):∃(t:TypeId) (X L:Operand) (e:TypeId),op = .slice t X (some L) none none∧opd X=some x∧opd L=some lo∧P.underlying t=some (.slice e)∧sizeB P e=some n:=by
 unfold comp at h
 split at h
 all_goals try simp only[compCall,compLen,compApp,compMM,compCpy,compInv] at h
 all_goals repeat' split at h
 all_goals first|cases h; done|(refine (map_ne h ?_).elim; intro a h; cases h; done)|skip
 rename_i t X LO HI _ _ _ _ xo loo hio e hX hL hH ht
 obtain⟨m,hm,h2⟩:=Option.map_eq_some_iff.1 h
 injection h2 with e1 e2 e3 e4
 subst e1 e2 e3 e4
 cases LO with
 | none=>simp[opdo] at hL
 | some L =>
  cases HI with
  | some H =>
   simp only[opdo,Option.map_eq_some_iff] at hH
   obtain⟨_,_,hH⟩:=hH
   cases hH
  | none =>
   simp only[opdo,Option.map_eq_some_iff] at hL
   obtain⟨lo',h3,h4⟩:=hL
   injection h4 with h4
   subst h4
   exact⟨t,X,L,e,rfl,hX,h3,ht,hm⟩
theorem raw_sli{P:Program}{n:Nat}{x lo:Opd}{J off len l:Nat}{b:Bx}{id:Nat}(hl:l<len)(hb:off+len≤b.xs.length)(hsz:∀z∈b.xs,z.cells.length=n):
  RawOk P (.sli n x (some lo) none) [.bsl J off len,.int .i64 l] [(J,b)] id (.bsl J (off+l) (len - l)) []:=by
 intro op hcomp C ρ G bx w ve o hρ ho ha hs hh hu hr
 obtain⟨t,X,L,e,rfl,hX,hL,ht,hz⟩:=comp_sli hcomp
 simp only[COp.args,Option.toList_some,List.map_cons,List.map_nil,List.cons.injEq,and_true] at ha
 have rX:RV G w (.bsl J off len) (ρ X):=by
  rw[←ha.1]; exact hr X (by simp[Op.operands]) x hX
 have rL:RV G w (.int .i64 l) (ρ L):=by
  rw[←ha.2]; exact hr L (by simp[Op.operands]) lo hL
 have hbJ:=hh _ (List.mem_singleton.2 rfl)
 simp only at hbJ
 obtain⟨z0,hz0⟩:∃z0,b.xs[0]?=some z0:=⟨_,List.getElem?_eq_getElem (by omega)⟩
 obtain⟨blk,s,cur,el,k1,k2,k3,⟨k4,k5⟩,k6,k7⟩:=hs.box J b hbJ (hs.lies hbJ hz0)
 have hs1:s=n:=by rw[←(k6 0 z0 hz0).1]; exact hsz z0 (List.mem_of_getElem? hz0)
 subst hs1
 cases rX with|bsl _ _ _ _ hone hu2 hbm hnl =>
 obtain⟨cp,cur',el',hv,hlc,hcm,hh2,hz2⟩:=hbm blk s k1
 have hbd:=run_bounds (P:=P) (isS:=true) (cap:=cp) (w:=w) (G:=G) (len:=len) (hi:=none) (lo:=some (.int .i64 l)) hlc rfl (l:=l) (by simp[bound0]; omega) (hiv:=none) (lov:=some (ρ L)) rL trivial
 have hne:cp≠l:=by omega
 have hrun:(Instr.sliceAt t (ρ X) (some (ρ L)) none none).run P w = .ok (.slice (some ⟨blk,(off+l)*s,none⟩) (len - l) (cp - l)) w:=by
  rw[hv]
  simp only[Instr.sliceAt,Sem.run_bind,run_underlying ht,Result.andThen_ok,Instr.slice,hbd,run_sizeOf hz,Sem.run_pure]
  rw[if_neg hne]
  simp[Addr.add_lit,Nat.add_mul]
 have hexec:(execOp ρ o).run P w = .ok (.value (.slice (some ⟨blk,(off+l)*s,none⟩) (len - l) (cp - l))) w:=by
  unfold execOp
  simp only[ho,Option.map_some,Option.map_none,Sem.run_bind,hrun,Result.andThen_ok,Sem.run_pure]
 refine OpOk.still hs hexec (.bsl J (off+l) (len - l) _ rfl hu2 (fun b' s' hb'=>?_) fun hn=>?_) _
 ·rw[k1] at hb'
  injection hb' with hb'
  injection hb' with e1 e2
  subst e1 e2
  exact⟨cp - l,cur',el',rfl,by omega,by omega,hh2,by rw[hz2]; congr 1; omega⟩
 ·exact absurd hn (hs.lies hbJ hz0)
end Go.Am
namespace Go.Am
set_option linter.all false
open Go Go.RowKit Go.Proofs
set_option maxRecDepth 100000
set_option linter.all false
theorem dropConsR{α:Type}{l:List α}{i:Nat}(h:i<l.length):∃x,l[i]?=some x∧l.drop i=x::l.drop (i+1):=⟨l[i],List.getElem?_eq_getElem h,List.drop_eq_getElem_cons h⟩
theorem anyT{s:List UInt8}{i:Nat}{c:UInt8}(h:s[i]?=some c):(s.take (i+1)).any rSp=((s.take i).any rSp||rSp c):=by
 rw[List.take_succ,h]; simp
def cn(s:List UInt8)(r:Nat):Nat:=((([10,92,34]:List UInt8).take r).map fun c=>s.count c).sum
theorem cn_le(s:List UInt8)(r:Nat):cn s r≤3*s.length:=by
 have h1:=List.count_le_length (a:=(10:UInt8)) (l:=s)
 have h2:=List.count_le_length (a:=(92:UInt8)) (l:=s)
 have h3:=List.count_le_length (a:=(34:UInt8)) (l:=s)
 match r with
 | 0=>simp[cn]
 | 1=>simp[cn]; omega
 | 2=>simp[cn]; omega
 | r+3=>simp[cn]; omega
theorem rQs_cnt(s:List UInt8):(rQs s).length=s.length+cn s 3∧decide (cn s 3≠0)=s.any rSp:=by
 have e:∀s:List UInt8,cn s 3=s.count 10+(s.count 92+s.count 34):=fun s=>by simp[cn]
 induction s with
 | nil=>exact⟨rfl,rfl⟩
 | cons c r ih =>
  obtain⟨h1,h2⟩:=ih
  rw[e] at h1 h2 ⊢
  have hl:(rQs (c::r)).length=(rQ c).length+(rQs r).length:=by simp[rQs]
  simp only[List.count_cons,List.any_cons,List.length_cons]
  rw[hl,h1]
  by_cases h34:c=34
  ·subst h34
   exact⟨by simp[rQ]; omega,by simp[rSp]⟩
  by_cases h92:c=92
  ·subst h92
   exact⟨by simp[rQ]; omega,by simp[rSp]⟩
  by_cases h10:c=10
  ·subst h10
   exact⟨by simp[rQ]; omega,by simp[rSp]⟩
  ·refine⟨by simp[rQ,h34,h92,h10]; omega,?_⟩
   rw[←h2]
   simp[rSp,h34,h92,h10]
def kX:Bx:=⟨[.agg (tblL fT3 (.sl (L3.map .str)))],.agg zR,false,false⟩
theorem kX_eq:kB=kX:=rfl
def sz(E:Env)(K:Nat)(s:List UInt8)(n:Nat)(b:Bool):St :=
 ⟨[(0,true,.ptr K 0 0),(1,true,.str s),(5,true,.int .i64 n),(6,true,.bool b)],[(K,some kX)],0⟩
def eU(l:List UInt8):List AV:=l.map fun b=>.int .u8 b.toNat
theorem eU_back(l:List UInt8):(eU l).map toU8=l:=by
 unfold eU
 rw[List.map_map]
 conv=>rhs; rw[←List.map_id l]
 exact List.map_congr_left fun b _=>by simp[toU8]
theorem eU_u8(l:List UInt8):∀x∈eU l,isU8 x=true:=fun x hx=>by
 obtain⟨b,_,rfl⟩:=List.mem_map.1 hx
 have:=b.toNat_lt
 simp[isU8]
theorem pure_eU(l:List UInt8):pureL (eU l)=true:=pureL_map (fun _=>rfl) l
theorem pure_rep(n:Nat):pureL (List.replicate n (.int .u8 0))=true:=by
 induction n with
 | zero=>rfl
 | succ n ih=>rw[List.replicate_succ]; simp[pureL,AV.pureB,ih]
def cpB(s:List UInt8)(i:Nat):Bx:=⟨eU (rQs (s.take i))++List.replicate ((rQs s).length - (rQs (s.take i)).length) (.int .u8 0),.int .u8 0,false,false⟩
def cpS(E:Env)(K:Nat)(s:List UInt8)(i:Nat):St :=
 ⟨[(0,true,.ptr K 0 0),(1,true,.str s),(12,true,.bsl E.n0 0 (rQs s).length),(13,true,.int .i64 (rQs (s.take i)).length),(14,true,.int .i64 i)],[(K,some kX),(E.n0,some (cpB s i))],1⟩
set_option maxHeartbeats 8000000 in
theorem tRep_ok(s:List UInt8)(K id:Nat)(h8:s.length≤100000)(hC:∀(c:UInt8) id,FnOk Tryz.prog 236 [.str s,.str [c]] [] id (.int .i64 (s.count c)) []):
  FnOk Tryz.prog 234 [.ptr K 0 0,.str s] [(K,kB)] id (.str (rQs s)) []:=by
 rw[kX_eq]
 refine fn_okc Tryz.func234 hcc234 (by decide) hcr234 (by simp[Tryz.ntmps234]) fun E hP hR hl hid=>?_
 simp only[cr234] at hR
 unfold cc234
 have hK:=hl (K,_) (List.mem_cons_self ..)
 simp only at hK
 have K1:=lf hK
 refine w_cut3 (X:=Unit) (fun _=>sz E K s s.length false) (fun _=>True) (fun q hq=>?_) (fun _ _=>?_)
 ·refine w_go 4000 ?_
  simp[K1]
  refine hq _ () trivial ?_
  unfold sz kX
  have hrn:rnOk []:=by simp[K1]
  refine Conv.sub [] hrn ?_ ?_ ?_ ?_ ?_<;>(try simp[K1])
  all_goals exact renL_pure rfl (pureL_append (pureL_map (pure_fN 3) _) rfl)
 refine w_seq ?_
 refine w_cut (X:=Unit) (fun _=>sz E K s (rQs s).length (s.any rSp)) (fun _=>True) (fun q hq=>?_) (fun _ _=>?_)
 ·unfold sz kX
  refine w_go 4000 ?_
  simp[K1]
  refine goc (fun g=>?_) (fun g=>?_)
  ·simp
   have c0:cn s 0=0:=rfl
   have f10:fT3 10 = .sl [.int .u8 92,.int .u8 110]:=rfl
   have f92:fT3 92 = .sl [.int .u8 92,.int .u8 92]:=rfl
   have f34:fT3 34 = .sl [.int .u8 92,.int .u8 34]:=rfl
   refine w_loop (X:=Nat) (fun r=>⟨[(0,true,.ptr K 0 0),(1,true,.str s),(5,true,.int .i64 (s.length+cn s r:Nat)),(6,true,.bool (decide (cn s r≠0))),(30,true,.sl (L3.map .str)),(31,true,.int .i64 3),(32,true,.int .i64 r)],[(K,some kX)],0⟩) (fun r=>r≤3) (fun r=>3 - r) 0 ?_ (by omega) ?_
   ·unfold kX
    have hrn:rnOk []:=by simp[c0,L3,K1]
    refine Conv.sub [] hrn ?_ ?_ ?_ ?_ ?_<;>(try simp[c0,L3,K1])
    all_goals first|exact namesL_pure _ rfl|exact renL_pure rfl (pureL_append (pureL_map (pure_fN 3) _) rfl)|exact⟨namesL_pure _ rfl,wrap64 (by omega)⟩
   rintro r hr p hp
   match r,hr,hp with
   | 0,_,hp =>
    have hw1:IntKind.i64.wrap 1=1:=wrap64 (by omega)
    have hcl:=List.count_le_length (a:=(10:UInt8)) (l:=s)
    have hsl:=cn_le s 0
    have hsn:cn s 1=cn s 0+s.count 10:=by simp[cn]; try omega
    have hm:IntKind.i64.wrap (s.count 10:Int)=(s.count 10:Int):=wrap64 (by omega)
    have hn:IntKind.i64.wrap ((s.length:Int)+(cn s 0:Int)+(s.count 10:Int))=(s.length:Int)+(cn s 1:Int):=by
     rw[wrap64 (by omega),hsn]; omega
    unfold kX
    refine w_go 4000 ?_
    simp[L3,K1]
    (refine w_call hP rfl (hC 10 _) (by simp[L3,K1]) (by simp[L3,K1]<;>rfl) ?_; refine w_go 4000 ?_; simp[L3,K1])
    refine goc (fun g=>?_) (fun g=>?_)
    ·have g:s.count 10≠0:=by simpa using g
     simp[L3,tbl_drop fT3 _ (k:=10),f10,hw1,hm,hn,K1]
     refine hp _ 1 (by omega) (by omega) ?_
     have hb:decide (cn s 1≠0)=true:=by simp; omega
     unfold kX
     have hrn:rnOk []:=by simp[L3,hb,K1]
     refine Conv.sub [] hrn ?_ ?_ ?_ ?_ ?_<;>(try simp[L3,hb,K1])
     all_goals first|exact namesL_pure _ rfl|exact renL_pure rfl (pureL_append (pureL_map (pure_fN 3) _) rfl)|exact⟨namesL_pure _ rfl,wrap64 (by omega)⟩
    ·have g:s.count 10=0:=by simpa using g
     rw[g,Nat.add_zero] at hsn
     simp[L3,K1]
     refine hp _ 1 (by omega) (by omega) ?_
     unfold kX
     have hrn:rnOk []:=by simp[L3,hsn,K1]
     refine Conv.sub [] hrn ?_ ?_ ?_ ?_ ?_<;>(try simp[L3,hsn,K1])
     all_goals first|exact namesL_pure _ rfl|exact renL_pure rfl (pureL_append (pureL_map (pure_fN 3) _) rfl)|exact⟨namesL_pure _ rfl,wrap64 (by omega)⟩
   | 1,_,hp =>
    have hw1:IntKind.i64.wrap 1=1:=wrap64 (by omega)
    have hcl:=List.count_le_length (a:=(92:UInt8)) (l:=s)
    have hsl:=cn_le s 1
    have hsn:cn s 2=cn s 1+s.count 92:=by simp[cn]; try omega
    have hm:IntKind.i64.wrap (s.count 92:Int)=(s.count 92:Int):=wrap64 (by omega)
    have hn:IntKind.i64.wrap ((s.length:Int)+(cn s 1:Int)+(s.count 92:Int))=(s.length:Int)+(cn s 2:Int):=by
     rw[wrap64 (by omega),hsn]; omega
    unfold kX
    refine w_go 4000 ?_
    simp[L3,K1]
    (refine w_call hP rfl (hC 92 _) (by simp[L3,K1]) (by simp[L3,K1]<;>rfl) ?_; refine w_go 4000 ?_; simp[L3,K1])
    refine goc (fun g=>?_) (fun g=>?_)
    ·have g:s.count 92≠0:=by simpa using g
     simp[L3,tbl_drop fT3 _ (k:=92),f92,hw1,hm,hn,K1]
     refine hp _ 2 (by omega) (by omega) ?_
     have hb:decide (cn s 2≠0)=true:=by simp; omega
     unfold kX
     have hrn:rnOk []:=by simp[L3,hb,K1]
     refine Conv.sub [] hrn ?_ ?_ ?_ ?_ ?_<;>(try simp[L3,hb,K1])
     all_goals first|exact namesL_pure _ rfl|exact renL_pure rfl (pureL_append (pureL_map (pure_fN 3) _) rfl)|exact⟨namesL_pure _ rfl,wrap64 (by omega)⟩
    ·have g:s.count 92=0:=by simpa using g
     rw[g,Nat.add_zero] at hsn
     simp[L3,K1]
     refine hp _ 2 (by omega) (by omega) ?_
     unfold kX
     have hrn:rnOk []:=by simp[L3,hsn,K1]
     refine Conv.sub [] hrn ?_ ?_ ?_ ?_ ?_<;>(try simp[L3,hsn,K1])
     all_goals first|exact namesL_pure _ rfl|exact renL_pure rfl (pureL_append (pureL_map (pure_fN 3) _) rfl)|exact⟨namesL_pure _ rfl,wrap64 (by omega)⟩
   | 2,_,hp =>
    have hw1:IntKind.i64.wrap 1=1:=wrap64 (by omega)
    have hcl:=List.count_le_length (a:=(34:UInt8)) (l:=s)
    have hsl:=cn_le s 2
    have hsn:cn s 3=cn s 2+s.count 34:=by simp[cn]; try omega
    have hm:IntKind.i64.wrap (s.count 34:Int)=(s.count 34:Int):=wrap64 (by omega)
    have hn:IntKind.i64.wrap ((s.length:Int)+(cn s 2:Int)+(s.count 34:Int))=(s.length:Int)+(cn s 3:Int):=by
     rw[wrap64 (by omega),hsn]; omega
    unfold kX
    refine w_go 4000 ?_
    simp[L3,K1]
    (refine w_call hP rfl (hC 34 _) (by simp[L3,K1]) (by simp[L3,K1]<;>rfl) ?_; refine w_go 4000 ?_; simp[L3,K1])
    refine goc (fun g=>?_) (fun g=>?_)
    ·have g:s.count 34≠0:=by simpa using g
     simp[L3,tbl_drop fT3 _ (k:=34),f34,hw1,hm,hn,K1]
     refine hp _ 3 (by omega) (by omega) ?_
     have hb:decide (cn s 3≠0)=true:=by simp; omega
     unfold kX
     have hrn:rnOk []:=by simp[L3,hb,K1]
     refine Conv.sub [] hrn ?_ ?_ ?_ ?_ ?_<;>(try simp[L3,hb,K1])
     all_goals first|exact namesL_pure _ rfl|exact renL_pure rfl (pureL_append (pureL_map (pure_fN 3) _) rfl)|exact⟨namesL_pure _ rfl,wrap64 (by omega)⟩
    ·have g:s.count 34=0:=by simpa using g
     rw[g,Nat.add_zero] at hsn
     simp[L3,K1]
     refine hp _ 3 (by omega) (by omega) ?_
     unfold kX
     have hrn:rnOk []:=by simp[L3,hsn,K1]
     refine Conv.sub [] hrn ?_ ?_ ?_ ?_ ?_<;>(try simp[L3,hsn,K1])
     all_goals first|exact namesL_pure _ rfl|exact renL_pure rfl (pureL_append (pureL_map (pure_fN 3) _) rfl)|exact⟨namesL_pure _ rfl,wrap64 (by omega)⟩
   | r+4,hr,_=>omega
   | 3,_,hp =>
    obtain⟨q1,q2⟩:=rQs_cnt s
    unfold kX
    refine w_go 4000 ?_
    simp[L3,K1]
    refine hq _ () trivial ?_
    unfold sz kX
    have hrn:rnOk []:=by simp[L3,q1,←q2,K1]
    refine Conv.sub [] hrn ?_ ?_ ?_ ?_ ?_<;>(try simp[L3,q1,←q2,K1])
    all_goals first|exact namesL_pure _ rfl|exact renL_pure rfl (pureL_append (pureL_map (pure_fN 3) _) rfl)|exact⟨namesL_pure _ rfl,wrap64 (by omega)⟩
  have i0:rQs []=[]:=rfl
  simp
  refine w_loop (X:=Nat) (fun i=>⟨[(0,true,.ptr K 0 0),(1,true,.str s),(5,true,.int .i64 (s.length - i+(rQs (s.take i)).length:Nat)),(6,true,.bool ((s.take i).any rSp)),(10,true,.int .i64 i)],[(K,some kX)],0⟩) (fun i=>i≤s.length) (fun i=>s.length - i) 0 ?_ (by omega) ?_
  ·unfold kX
   have hrn:rnOk []:=by simp[i0,K1]
   refine Conv.sub [] hrn ?_ ?_ ?_ ?_ ?_<;>(try simp[i0,K1])
   all_goals exact renL_pure rfl (pureL_append (pureL_map (pure_fN 3) _) rfl)
  rintro i hi p hp
  rcases Nat.lt_or_ge i s.length with hlt|hge
  rotate_left
  ·have hie:i=s.length:=by omega
   subst hie
   unfold kX
   refine w_go 4000 ?_
   simp[K1]
   refine hq _ () trivial ?_
   unfold sz kX
   have hrn:rnOk []:=by simp[K1]
   refine Conv.sub [] hrn ?_ ?_ ?_ ?_ ?_<;>(try simp[K1])
   all_goals exact renL_pure rfl (pureL_append (pureL_map (pure_fN 3) _) rfl)
  obtain⟨c,hc,hd⟩:=dropConsR hlt
  have hci:s[i]=c:=by
   rw[List.getElem?_eq_getElem hlt] at hc
   injection hc
  have hc8:=c.toNat_lt
  have hi1:IntKind.i64.wrap ((i:Int)+1)=((i+1:Nat):Int):=wrap64 (by omega)
  have hql:=rQs_len (s.take (i+1))
  have hst:=rQs_take hc
  have han:=anyT hc
  cases hsp:rSp c with
  | true =>
   obtain⟨e,e1,e2⟩:=rQ_sp hsp
   rw[e1] at hst
   rw[hsp,Bool.or_true] at han
   unfold kX
   refine w_go 4000 ?_
   have hw1:IntKind.i64.wrap 1=1:=wrap64 (by omega)
   have hn:IntKind.i64.wrap (((s.length - i:Nat):Int)+((rQs (s.take i)).length:Int)+1)=((s.length - (i+1):Nat):Int)+((rQs (s.take i)).length+2:Nat):=by
    rw[wrap64 (by simp only[hst,List.length_append,List.length_cons,List.length_nil,List.length_take] at hql; omega)]
    omega
   simp[hlt,hci,tbl_drop fT3 _ (k:=c.toNat) hc8,e2,hw1,hn,K1]
   refine⟨by omega,by omega,by omega,by omega,?_⟩
   refine hp _ (i+1) hlt (by omega) ?_
   unfold kX
   have hrn:rnOk []:=by simp[hi1,hst,han,K1]
   refine Conv.sub [] hrn ?_ ?_ ?_ ?_ ?_<;>(try simp[hi1,hst,han,K1])
   all_goals exact renL_pure rfl (pureL_append (pureL_map (pure_fN 3) _) rfl)
  | false =>
   obtain⟨e1,e2⟩:=rQ_no hsp
   rw[e1] at hst
   rw[hsp,Bool.or_false] at han
   unfold kX
   refine w_go 4000 ?_
   simp[hlt,hci,tbl_drop fT3 _ (k:=c.toNat) hc8,e2,K1]
   refine⟨by omega,by omega,?_⟩
   refine hp _ (i+1) hlt (by omega) ?_
   unfold kX
   have hn:((s.length - i:Nat):Int)=((s.length - (i+1):Nat):Int)+1:=by omega
   have hrn:rnOk []:=by simp[hi1,hst,han,hn,K1]
   refine Conv.sub [] hrn ?_ ?_ ?_ ?_ ?_<;>(try simp[hi1,hst,han,hn,K1])
   ·omega
   ·exact renL_pure rfl (pureL_append (pureL_map (pure_fN 3) _) rfl)
 have hN:=rQs_len s
 cases hany:s.any rSp with
 | false =>
  rw[rQs_same hany] at hR ⊢
  unfold sz kX
  refine w_go 4000 ?_
  simp[K1]
  have hrn:rnOk []:=by simp[kX,K1,idO hid]
  rw[hR]
  refine rt_end (by simp<;>rfl) [] hrn ⟨?_,?_,?_,?_,?_,?_⟩<;>(try simp[kX,K1,idO hid])
  all_goals exact renL_pure rfl (pureL_append (pureL_map (pure_fN 3) _) rfl)
 | true =>
  have e0:eU []=[]:=rfl
  have i0:rQs []=[]:=rfl
  unfold sz kX
  refine w_go 4000 ?_
  simp[K1]
  refine⟨by omega,?_⟩
  refine w_loop (X:=Nat) (fun i=>cpS E K s i) (fun i=>i≤s.length) (fun i=>s.length - i) 0 ?_ (by omega) ?_
  ·unfold cpS kX
   have hrn:rnOk [(E.n0,E.n0+3072)]:=by simp[e0,i0,eU,cpB,K1]
   refine Conv.sub [(E.n0,E.n0+3072)] hrn ?_ ?_ ?_ ?_ ?_<;>(try simp[e0,i0,eU,cpB,K1])
   all_goals exact⟨renL_pure rfl (pureL_append (pureL_map (pure_fN 3) _) rfl),renL_pure rfl (pure_rep _)⟩
  rintro i hi p hp
  have hql:=rQs_mono s i
  rcases Nat.lt_or_ge i s.length with hlt|hge
  rotate_left
  ·have hie:i=s.length:=by omega
   subst hie
   have hz:(rQs s).length - (rQs s).length=0:=by omega
   have hu1:=eU_back (rQs s)
   have hu2:=eU_u8 (rQs s)
   have hul:(eU (rQs s)).length=(rQs s).length:=by simp[eU]
   unfold cpS cpB kX
   refine w_go 4000 ?_
   simp[hz,hu1,hu2,hul,K1]
   refine⟨fun x hx=>hu2 x (List.mem_of_mem_take hx),?_⟩
   have hrn:rnOk []:=by simp[kX,K1,idO hid]
   rw[hR]
   refine rt_end (by simp<;>rfl) [] hrn ⟨?_,?_,?_,?_,?_,?_⟩<;>(try simp[kX,K1,idO hid])
   all_goals exact renL_pure rfl (pureL_append (pureL_map (pure_fN 3) _) rfl)
  obtain⟨c,hc,hd⟩:=dropConsR hlt
  have hci:s[i]=c:=by
   rw[List.getElem?_eq_getElem hlt] at hc
   injection hc
  have hc8:=c.toNat_lt
  have hi1:IntKind.i64.wrap ((i:Int)+1)=((i+1:Nat):Int):=wrap64 (by omega)
  have hst:=rQs_take hc
  have hqm:=rQs_mono s (i+1)
  have hul:(eU (rQs (s.take i))).length=(rQs (s.take i)).length:=by simp[eU]
  have hxs:∀y∈eU (rQs (s.take i))++List.replicate ((rQs s).length - (rQs (s.take i)).length) (AV.int .u8 0),y.cells.length=1:=fun y hy=>by
   rcases List.mem_append.1 hy with h|h
   ·obtain⟨b,_,rfl⟩:=List.mem_map.1 h
    rfl
   ·rw[(List.mem_replicate.1 h).2]; rfl
  cases hsp:rSp c with
  | true =>
   obtain⟨e,e1,e2⟩:=rQ_sp hsp
   rw[e1] at hst
   rw[hst] at hqm
   simp only[List.length_append,List.length_cons,List.length_nil] at hqm
   have hcp:=fun id=>raw_cpy (P:=Tryz.prog) (x:=.t 105) (y:=.t 111) (J:=E.n0) (off:=(rQs (s.take i)).length) (len:=(rQs s).length - (rQs (s.take i)).length) (b:=cpB s i) (ys:=[.int .u8 92,.int .u8 e.toNat]) (id:=id) rfl rfl (by simp; omega) (by simp[cpB,hul]; omega) (by simp[AV.cells,AV.one]) (fun y hy=>hxs y hy) (by simp[cpB,hul]; omega)
   have hX:(eU (rQs (s.take i))++List.replicate ((rQs s).length - (rQs (s.take i)).length) (AV.int .u8 0)).take (rQs (s.take i)).length++[.int .u8 92,.int .u8 e.toNat]++(eU (rQs (s.take i))++List.replicate ((rQs s).length - (rQs (s.take i)).length) (AV.int .u8 0)).drop ((rQs (s.take i)).length+2)=eU (rQs (s.take (i+1)))++List.replicate ((rQs s).length - (rQs (s.take (i+1))).length) (.int .u8 0):=by
    rw[List.take_left' hul,List.drop_append,List.drop_of_length_le (by omega),List.drop_replicate,hst,hul]
    simp only[eU,List.map_append,List.map_cons,List.map_nil,List.length_append,List.length_cons,List.length_nil,List.nil_append]
    congr 2
    omega
   simp only[cpB] at hcp
   simp only[List.length_cons,List.length_nil,Nat.zero_add,Nat.reduceAdd] at hcp
   rw[hX] at hcp
   have hsl:=fun id=>raw_sli (P:=Tryz.prog) (n:=1) (x:=.t 103) (lo:=.t 104) (J:=E.n0) (off:=0) (len:=(rQs s).length) (l:=(rQs (s.take i)).length) (b:=cpB s i) (id:=id) (by omega) (by simp[cpB,hul]; omega) (fun y hy=>hxs y hy)
   simp only[cpB,Nat.zero_add] at hsl
   have hj2:IntKind.i64.wrap (((rQs (s.take i)).length:Int)+2)=((rQs (s.take (i+1))).length:Int):=by
    rw[wrap64 (by omega),hst]; simp
   unfold cpS cpB kX
   refine w_go 92 ?_
   simp[hlt,hci,tbl_drop fT3 _ (k:=c.toNat) hc8,e2,hul,K1]
   refine⟨by omega,by omega,?_⟩
   refine w_raw hP rfl (by simp[COp.args]<;>exact⟨rfl,rfl⟩) (hsl _) (by simp) (by simp[K1]) ?_
   refine w_go 4000 ?_
   simp[hlt,hci,tbl_drop fT3 _ (k:=c.toNat) hc8,e2,hul,K1]
   refine⟨by omega,by omega,?_⟩
   refine w_raw hP rfl (by simp[COp.args]<;>exact⟨rfl,rfl⟩) (hcp _) (by simp) (by simp[K1]) ?_
   refine w_go 4000 ?_
   simp[hul,K1]
   refine hp _ (i+1) hlt (by omega) ?_
   unfold cpS cpB kX
   have hrn:rnOk [(E.n0,E.n0)]:=by simp[hi1,hj2,K1]
   refine Conv.sub [(E.n0,E.n0)] hrn ?_ ?_ ?_ ?_ ?_<;>(try simp[hi1,hj2,K1])
   exact⟨renL_pure rfl (pureL_append (pureL_map (pure_fN 3) _) rfl),renL_pure rfl (pureL_append (pure_eU _) (pure_rep _))⟩
  | false =>
   obtain⟨e1,e2⟩:=rQ_no hsp
   rw[e1] at hst
   rw[hst] at hqm
   simp only[List.length_append,List.length_cons,List.length_nil] at hqm
   obtain⟨m,hm⟩:∃m,(rQs s).length - (rQs (s.take i)).length=m+1:=⟨(rQs s).length - (rQs (s.take i)).length - 1,by omega⟩
   have hgj:(eU (rQs (s.take i))++List.replicate (m+1) (AV.int .u8 0))[(rQs (s.take i)).length]?=some (.int .u8 0):=by
    rw[List.getElem?_append_right (by omega),hul,Nat.sub_self]; rfl
   have hX:(eU (rQs (s.take i))++List.replicate (m+1) (AV.int .u8 0)).set (rQs (s.take i)).length (.int .u8 c.toNat)=eU (rQs (s.take (i+1)))++List.replicate ((rQs s).length - (rQs (s.take (i+1))).length) (.int .u8 0):=by
    rw[List.set_append_right _ _ (by omega),hul,Nat.sub_self,List.replicate_succ,List.set_cons_zero,hst]
    have:(rQs s).length - (rQs (s.take i)++[c]).length=m:=by simp; omega
    rw[this]
    simp[eU]
   have hj1:IntKind.i64.wrap (((rQs (s.take i)).length:Int)+1)=((rQs (s.take (i+1))).length:Int):=by
    rw[wrap64 (by omega),hst]; simp
   unfold cpS cpB kX
   rw[hm]
   refine w_go 4000 ?_
   simp[hlt,hci,tbl_drop fT3 _ (k:=c.toNat) hc8,e2,hul,hgj,K1]
   refine⟨by omega,by omega,by omega,?_⟩
   refine hp _ (i+1) hlt (by omega) ?_
   unfold cpS cpB kX
   have hrn:rnOk [(E.n0,E.n0)]:=by simp[hi1,hj1,hX,K1]
   refine Conv.sub [(E.n0,E.n0)] hrn ?_ ?_ ?_ ?_ ?_<;>(try simp[hi1,hj1,hX,K1])
   rw[List.set_append_right _ _ (by omega),hul,Nat.sub_self] at hX
   exact⟨renL_pure rfl (pureL_append (pureL_map (pure_fN 3) _) rfl),renL_pure hX (by rw[hX]; exact pureL_append (pure_eU _) (pure_rep _))⟩
end Go.Am
namespace Go.Am
set_option linter.all false
open Go Go.RowKit Go.Proofs Go.Shelf
set_option maxRecDepth 100000
set_option linter.all false
def layCount_ren:Go.Shelf.Ren:=⟨fun|138=>236|195=>237|218=>238|143=>117|219=>137|217=>131|225=>151|224=>152|267=>153|266=>144|314=>170|n=>n,fun|9=>9|3=>3|4=>4|5=>5|0=>0|46=>169|146=>198|51=>141|n=>n,fun|1=>0|n=>n⟩
theorem layCount:Go.Proofs.Lays.n138 Tryz.prog layCount_ren:={ mixed:=by kernel_rfl,f138:=Tryz.func236.trans (congrArg some (by kernel_rfl)),f143:=Tryz.func117.trans (congrArg some (by kernel_rfl)),f195:=Tryz.func237.trans (congrArg some (by kernel_rfl)),f217:=Tryz.func131.trans (congrArg some (by kernel_rfl)),f218:=Tryz.func238.trans (congrArg some (by kernel_rfl)),f219:=Tryz.func137.trans (congrArg some (by kernel_rfl)),f224:=Tryz.func152.trans (congrArg some (by kernel_rfl)),f225:=Tryz.func151.trans (congrArg some (by kernel_rfl)),f266:=Tryz.func144.trans (congrArg some (by kernel_rfl)),f267:=Tryz.func153.trans (congrArg some (by kernel_rfl)),f314:=Tryz.func170.trans (congrArg some (by kernel_rfl)),t0:=Tryz.underlying0,a0:=Tryz.isAgg0,z0:=Tryz.sizeOf0,v0:=Tryz.zeroValue0,t3:=Tryz.underlying3,a3:=Tryz.isAgg3,z3:=Tryz.sizeOf3,v3:=Tryz.zeroValue3,t4:=Tryz.underlying4,a4:=Tryz.isAgg4,z4:=Tryz.sizeOf4,v4:=Tryz.zeroValue4,t5:=Tryz.underlying5,a5:=Tryz.isAgg5,z5:=Tryz.sizeOf5,v5:=Tryz.zeroValue5,t9:=Tryz.underlying9,a9:=Tryz.isAgg9,z9:=Tryz.sizeOf9,v9:=Tryz.zeroValue9,t46:=Tryz.underlying169,a46:=Tryz.isAgg169,z46:=Tryz.sizeOf169,v46:=Tryz.zeroValue169,t51:=Tryz.underlying141,a51:=Tryz.isAgg141,z51:=Tryz.sizeOf141,v51:=Tryz.zeroValue141,t146:=Tryz.underlying198,a146:=Tryz.isAgg198,z146:=Tryz.sizeOf198,v146:=Tryz.zeroValue198,g1:=by kernel_rfl }
theorem count_pl1 : (Tryz.f236.name == "runtime.NumGoroutine") = false := by decide
theorem count_pl2:Tryz.f236.body.isNone=false:=rfl
theorem count_plain:PlainF Tryz.prog 236:=⟨_,Tryz.func236,count_pl1,count_pl2⟩
theorem Count_ok(s:List UInt8)(c:UInt8)(id:Nat):FnOk Tryz.prog 236 [.str s,.str [c]] [] id (.int .i64 (s.count c)) []:=by
 refine fn_old count_plain fun C G bx w vs hs hv=>?_
 obtain⟨u,v,rfl,hv1,hv2⟩:=rvs_two_inv hv
 cases hv1
 cases hv2
 refine (Any.strings_Count_one layCount ⟨⟨s⟩⟩ c w).mono ?_
 rintro e w' ⟨h1,rfl⟩
 have hc:Lib.countByte s c=s.count c:=rfl
 refine⟨_,h1,fun _ _=>?_,Below.refl _ _⟩
 rw[←hc]
 exact .int _ _
end Go.Am
namespace Go.Am
set_option linter.all false
open Go Go.RowKit Go.Proofs
set_option maxRecDepth 100000
set_option linter.all false
theorem rQs_eq(s:List UInt8):rQs s=lQs s:=rfl
theorem wri_txt(n:Int)(tx:List UInt8)(h:tx.length≤100000):Wri ⟨3,tx,n⟩:=fun id=>by
 have hN:=fun id=>newRep_ok id
 have hT:=fun K id=>tRep_ok tx K id h fun c id=>Count_ok tx c id
 have hRp:=fun J d id=>rep_ok tx (rQs tx) J d id hT
 unfold eTk
 have e:wrTk ⟨3,tx,n⟩=34::(rQs tx++[34]):=by simp[wrTk,rQs_eq]
 rw[e]
 unfold rZ at hN hRp
 simp only[caB_eq] at hN hRp
 refine fn_okc Tryz.func76 hcc76 (by decide) hcr76 (by simp[Tryz.ntmps76]) fun E hP hR hl hid=>?_
 simp only[cr76] at hR
 refine w_go 4000 ?_
 simp[cc76]
 (refine w_callR hP rfl (hN _) (by simp[L6]<;>rfl) (by simp[L6]) (by simp[L6]<;>rfl) (by simp[L6]) ?_; refine w_go 4000 ?_; simp[L6])
 (refine w_call hP rfl (hRp _ _ _) (by simp[L6]) (by simp[L6]<;>rfl) ?_; refine w_go 4000 ?_; simp[L6])
 have hq:=(rQs_cnt tx).1
 have hq2:=cn_le tx 3
 refine⟨by omega,by omega,?_⟩
 rw[hR]; exact rt_end (by simp<;>rfl) [] trivial (end_pure (by simp) (by simp) (by simp))
end Go.Am
namespace Go.Am
set_option linter.all false
open Go Go.RowKit Go.Proofs
set_option maxRecDepth 100000
set_option linter.all false
deriving instance DecidableEq for Fd
deriving instance DecidableEq for Ty
theorem take_eq_succ{α:Type}{l m:List α}{i:Nat}{x:α}(h:l.take i=m.take i)(h1:l[i]?=some x)(h2:m[i]?=some x):l.take (i+1)=m.take (i+1):=by rw[List.take_succ,List.take_succ,h,h1,h2]
theorem take_eq_all{α:Type}{l m:List α}{i:Nat}(hl:l.length=m.length)(h:l.take i=m.take i)(hi:l.length≤i):l=m:=by
 rw[List.take_of_length_le hi,List.take_of_length_le (by omega)] at h
 exact h
theorem ne_at{α:Type}{l m:List α}{i:Nat}{x y:α}(h1:l[i]?=some x)(h2:m[i]?=some y)(hn:x≠y):l≠m:=fun e=>by
 subst e
 rw[h1] at h2
 injection h2 with h2
 exact hn h2
end Go.Am
namespace Go.Am
set_option linter.all false
open Go Go.RowKit Go.Proofs
set_option maxRecDepth 100000
set_option linter.all false
deriving instance DecidableEq for Tk
theorem eTk_inj{x y:Tk}:x=y↔x.kind=y.kind∧x.text=y.text∧x.n=y.n:=by
 obtain⟨a,b,c⟩:=x
 obtain⟨d,e,f⟩:=y
 simp
set_option maxHeartbeats 1000000 in
theorem SameTokens_ok(a b:List Tk)(id:Nat)(ha:a.length≤1000000):FnOk Tryz.prog 15 [.sl (a.map eTk),.sl (b.map eTk)] [] id (.bool (decide (a=b))) []:=by
 refine fn_okc Tryz.func15 hcc15 (by decide) hcr15 (by simp[Tryz.ntmps15]) fun E hP hR hl hid=>?_
 simp only[cr15] at hR
 refine w_go 4000 ?_
 simp[cc15]
 refine goc (fun h=>?_) (fun h=>?_)<;>simp
 ·have hn:a≠b:=fun e=>by subst e; simp at h
  rw[hR]; exact rt_end (by simp<;>rfl) [] trivial (end_pure (by simp; simp[hn]) (by simp) (by simp))
 have hl:a.length=b.length:=by simp at h; omega
 refine w_loop (X:=Nat) (fun i=>⟨[(0,true,.sl (a.map eTk)),(1,true,.sl (b.map eTk)),(5,true,.int .i64 i)],[],0⟩) (fun i=>i≤a.length∧a.take i=b.take i) (fun i=>a.length - i) 0 ?_ ⟨by omega,by simp⟩ ?_
 ·have hrn:rnOk []:=by simp
  refine Conv.sub [] hrn ?_ ?_ ?_ ?_ ?_<;>(try simp)
 ·rintro i ⟨hi,hf⟩ p hp
  refine w_go 4000 ?_
  simp
  refine goc (fun h=>?_) (fun h=>?_)
  ·have h:=of_decide_eq_true h
   have hi2:i<b.length:=by omega
   obtain⟨x,hx⟩:∃x,a[i]?=some x:=⟨_,List.getElem?_eq_getElem h⟩
   obtain⟨y,hy⟩:∃y,b[i]?=some y:=⟨_,List.getElem?_eq_getElem hi2⟩
   have hi1:IntKind.i64.wrap ((i:Int)+1)=((i+1:Nat):Int):=wrap64 (by omega)
   simp[hx,hy,eTk,eqAll,eqOne]
   (repeat (refine And.intro (by first|assumption|omega|(simp; omega)|(simp_all; done)) ?_))
   refine goc (fun g=>?_) (fun g=>?_)<;>simp
   ·have hn:a≠b:=ne_at hx hy fun e=>by subst e; simp at g
    rw[hR]; exact rt_end (by simp<;>rfl) [] trivial (end_pure (by simp; simp[hn]) (by simp) (by simp))
   have hxy:x=y:=by
    rw[eTk_inj]
    simp at g
    grind
   subst hxy
   refine hp _ (i+1) ⟨by omega,take_eq_succ hf hx hy⟩ (by omega) ?_
   have hrn:rnOk []:=by simp[hi1]
   refine Conv.sub [] hrn ?_ ?_ ?_ ?_ ?_<;>(try simp[hi1])
  ·have h:=of_decide_eq_false h
   simp
   have hab:a=b:=take_eq_all hl hf (by omega)
   rw[hR]; exact rt_end (by simp<;>rfl) [] trivial (end_pure (by simp; simp[hab]) (by simp) (by simp))
theorem wri_all{t:Tk}(h:fTk t=0):Wri t:=by
 obtain⟨k,tx,n⟩:=t
 unfold fTk at h
 obtain⟨h1,h⟩:=ite0 h (by decide)
 obtain⟨h2,h⟩:=ite0 h (by decide)
 by_cases k2:k=2
 ·subst k2
  refine wri_num n tx ?_
  simp at h
  omega
 by_cases k3:k=3
 ·subst k3
  refine wri_txt n tx ?_
  simp at h
  omega
 exact wri_oth k n tx k2 k3
theorem wri_allL{l:List Tk}(h:fTks l=0):∀t∈l,Wri t:=fun t ht=>wri_all (((fTks_all l).1 h).2 t ht)
def tPr(l:List Tk):List UInt8×Int:=if fTks l=0 then (tkB l,0) else ([],fTks l)
theorem tPr_ok{l:List Tk}(h:fTks l=0):tPr l=(tkB l,0):=by unfold tPr; rw[if_pos h]
theorem tPr_no{l:List Tk}(h:fTks l≠0):tPr l=([],fTks l):=by unfold tPr; rw[if_neg h]
theorem tPrint_ok(l:List Tk)(id:Nat):FnOk Tryz.prog 16 [.sl (l.map eTk)] [] id (.tup [.str (tPr l).1,.int .i64 (tPr l).2]) []:=by
 have hC:=fun id=>tCheck_ok l id
 by_cases hc:fTks l=0
 ·obtain⟨h1,h2⟩:=(fTks_all l).1 hc
  have h3:=wSum_le (l:=l) h2
  have hB:=fun id=>tBytes_ok l id (wri_allL hc) (by omega) (by omega)
  rw[hc] at hC
  rw[tPr_ok hc]
  refine fn_okc Tryz.func16 hcc16 (by decide) hcr16 (by simp[Tryz.ntmps16]) fun E hP hR hl hid=>?_
  simp only[cr16] at hR
  refine w_go 4000 ?_
  simp[cc16]
  (refine w_call hP rfl (hC _) (by simp) (by simp<;>rfl) ?_; refine w_go 4000 ?_; simp)
  (refine w_call hP rfl (hB _) (by simp) (by simp<;>rfl) ?_; refine w_go 4000 ?_; simp)
  rw[hR]; exact rt_end (by simp<;>rfl) [] trivial (end_pure (by simp) (by simp) (by simp))
 ·rw[tPr_no hc]
  refine fn_okc Tryz.func16 hcc16 (by decide) hcr16 (by simp[Tryz.ntmps16]) fun E hP hR hl hid=>?_
  simp only[cr16] at hR
  refine w_go 4000 ?_
  simp[cc16]
  (refine w_call hP rfl (hC _) (by simp) (by simp<;>rfl) ?_; refine w_go 4000 ?_; simp)
  refine goc_true (by simpa using hc) ?_
  simp
  rw[hR]; exact rt_end (by simp<;>rfl) [] trivial (end_pure (by simp) (by simp) (by simp))
end Go.Am
namespace Go.Am
set_option linter.all false
open Go Go.RowKit Go.Proofs
set_option maxRecDepth 100000
set_option linter.all false
def someW:List Tk:=[⟨1,[97,49],0⟩,⟨4,[58],0⟩,⟨2,[],-7⟩,⟨3,[113,34,92,10],0⟩]
def arW:List UInt8:=[32,97,49,32,58,44,45,55,32,35,32,99,10,34,113,92,34,92,92,92,110,34]
def prW:List UInt8:=[97,49,32,58,32,45,55,32,34,113,92,34,92,92,92,110,34]
theorem some_raw(id:Nat):FnOk Tryz.prog 38 [] [] id (.sl [.agg [.int .i64 1,.str [97,49],.int .i64 0],.agg [.int .i64 4,.str [58],.int .i64 0],.agg [.int .i64 2,.str [],.int .i64 (-7)],.agg [.int .i64 3,.str [113,34,92,10],.int .i64 0]]) []:=by
 refine fn_okc Tryz.func38 hcc38 (by decide) hcr38 (by simp[Tryz.ntmps38]) fun E hP hR hl hid=>?_
 simp only[cr38] at hR
 refine w_go 4000 ?_
 simp[cc38]
 have hrn:rnOk []:=by simp[idO hid]
 rw[hR]
 refine rt_endR (by simp<;>rfl) (by simp[idO hid]<;>exact⟨rfl,rfl⟩) [] hrn ⟨?_,?_,?_,?_,?_,?_⟩<;>(try simp[idO hid])
 all_goals exact namesL_pure _ rfl
theorem some_ok(id:Nat):FnOk Tryz.prog 38 [] [] id (.sl (someW.map eTk)) []:=some_raw id
theorem fl_arW:fLex arW = .ok someW:=by kernel_rfl
theorem tp_someW:tPr someW=(prW,0):=by kernel_rfl
theorem chk_someW:fTks someW=0:=by kernel_rfl
theorem fl_noW:fLex [48,49] = .error 1:=by kernel_rfl
set_option maxHeartbeats 4000000 in
theorem lexBegun_ok(id:Nat):FnOk Tryz.prog 14 [] [] id (.bool true) []:=by
 have hR:=fun id=>Read_ok arW id
 rw[fl_arW] at hR
 have hRd:∀id,FnOk Tryz.prog 13 [.str arW] [] id (.tup [.sl (someW.map eTk),.int .i64 0]) []:=hR
 have hR2:=fun id=>Read_ok [48,49] id
 rw[fl_noW] at hR2
 have hR2:∀id,FnOk Tryz.prog 13 [.str [48,49]] [] id (.tup [.nils,.int .i64 1]) []:=hR2
 have hPr:=fun id=>tPrint_ok someW id
 rw[tp_someW] at hPr
 have hC:=fun id=>tCheck_ok someW id
 rw[chk_someW] at hC
 have hS:=fun id=>SameTokens_ok someW someW id (by decide)
 rw[decide_eq_true rfl] at hS
 have hTy:=fun id=>some_ok id
 clear hR
 generalize htw:someW=tw at *
 unfold arW at hRd
 refine fn_okc Tryz.func14 hcc14 (by decide) hcr14 (by simp[Tryz.ntmps14]) fun E hP hR hl hid=>?_
 simp only[cr14] at hR
 refine w_go 4000 ?_
 simp[cc14]
 (refine w_call hP rfl (hRd _) (by simp) (by simp<;>rfl) ?_; refine w_go 4000 ?_; simp)
 (refine w_call hP rfl (hTy _) (by simp) (by simp<;>rfl) ?_; refine w_go 4000 ?_; simp)
 (refine w_call hP rfl (hPr _) (by simp) (by simp<;>rfl) ?_; refine w_go 4000 ?_; simp)
 (refine w_call hP rfl (hR2 _) (by simp) (by simp<;>rfl) ?_; refine w_go 4000 ?_; simp)
 (refine w_callg hP (by simp) rfl (fun hc=>⟨hTy _,by revert hc; simp; try grind,by simp⟩) ?_; refine w_go 4000 ?_; simp)
 (refine w_callg hP (by simp) rfl (fun hc=>⟨hC _,by revert hc; simp; try grind,by simp⟩) ?_; refine w_go 4000 ?_; simp)
 (refine w_callg hP (by simp) rfl (fun hc=>⟨hTy _,by revert hc; simp; try grind,by simp⟩) ?_; refine w_go 4000 ?_; simp)
 (refine w_callg hP (by simp) rfl (fun hc=>⟨hS _,by revert hc; simp; try grind,by simp⟩) ?_; refine w_go 4000 ?_; simp)
 simp[prW]
 rw[hR]; exact rt_end (by simp<;>rfl) [] trivial (end_pure (by simp) (by simp) (by simp))
end Go.Am
