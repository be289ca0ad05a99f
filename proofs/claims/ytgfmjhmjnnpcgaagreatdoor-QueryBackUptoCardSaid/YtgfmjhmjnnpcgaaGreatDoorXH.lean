/- Parts of the proof: an abstract machine for Go functions, and what functions of the program give back (Bt1, Bt2, Bt3, Bt4, Bt5, Bt6, Bt7, Rf1, CcS, Sc1, Sc2, Sc3, Sc4, Lz0, Lb2, Lb4, CcV, Vl1, Vl2, Vl3, Vl4). No condition. -/
import Derived.Test.YtgfmjhmjnnpcgaaGreatDoorXG
import Derived.Test.YtgfmjhmjnnpcgaaGreatDoorXE
import Derived.Test.YtgfmjhmjnnpcgaaGreatDoorXF
import Derived.Shelf.Strconv.AtoiAll
namespace Go.Am
set_option linter.all false
set_option linter.all false
open Go Go.RowKit Go.Proofs
set_option maxRecDepth 100000
theorem lexInt_ok(n:Int)(id:Nat):FnOk Tryz.prog 79 [.int .i64 n] [] id (.bool (decide (-999999999≤n)&&decide (n≤999999999))) []:=by
 refine fn_okc Tryz.func79 hcc79 (by decide) hcr79 (by simp[Tryz.ntmps79]) fun E hP hR hl hid=>?_
 simp only[cr79] at hR
 refine w_go 4000 ?_
 simp[cc79]
 rw[hR]; exact rt_end (by simp<;>rfl) [] trivial (end_pure (by simp) (by simp) (by simp))
structure Ev where
 kind:Int
 type:Int
 id:Int
 field:Int
 n:Int
 text:List UInt8
def eEv(e:Ev):AV:=.agg [.int .i64 e.kind,.int .i64 e.type,.int .i64 e.id,.int .i64 e.field,.int .i64 e.n,.str e.text]
theorem drop_cons{α:Type}{l:List α}{i:Nat}(h:i<l.length):∃x,l[i]?=some x∧l.drop i=x::l.drop (i+1) :=
 ⟨l[i],List.getElem?_eq_getElem h,List.drop_eq_getElem_cons h⟩
end Go.Am
namespace Go.Am
set_option linter.all false
set_option linter.all false
open Go Go.RowKit Go.Proofs
set_option maxRecDepth 100000
def eB(l:List UInt8):List AV:=l.map fun b=>.int .u8 b.toNat
@[simp] theorem pure_eB (l:List UInt8):pureL (eB l)=true:=pureL_map (fun _=>rfl) l
@[simp] theorem len_eB (l:List UInt8):(eB l).length=l.length:=by simp[eB]
@[simp] theorem take_eB (l:List UInt8):(eB l).take l.length=eB l:=List.take_of_length_le (by simp)
theorem eB_append(a b:List UInt8):eB (a++b)=eB a++eB b:=by simp[eB]
theorem mem_eB{l:List UInt8}{x:AV}(h:x∈eB l):∃b,x = .int .u8 (UInt8.toNat b):=by
 simp only[eB,List.mem_map] at h
 obtain⟨b,_,rfl⟩:=h
 exact⟨b,rfl⟩
theorem eB_toU8(l:List UInt8):(eB l).map toU8=l:=by
 simp only[eB,List.map_map]
 conv=>rhs; rw[←List.map_id l]
 refine List.map_congr_left fun b _=>?_
 simp[toU8]
@[simp] def bxB (l:List UInt8):Bx:=⟨eB l,.int .u8 0,false,false⟩
@[simp] def bxW (c:AV) (d:AV):Bx:=⟨[.agg [c]],d,false,false⟩
end Go.Am
namespace Go.Am
set_option linter.all false
set_option linter.all false
open Go Go.RowKit Go.Proofs
set_option maxRecDepth 100000
def wr3(i j id:Nat)(d:AV)(l:List UInt8):List (Nat×Option Bx):=[(i,some (bxW (.bsl id 0 l.length) d)),(j,none),(id,some (bxB l))]
attribute [simp] wr3
end Go.Am
namespace Go.Am
set_option linter.all false
set_option linter.all false
open Go Go.RowKit Go.Proofs
set_option maxRecDepth 100000
end Go.Am
namespace Go.Am
set_option linter.all false
set_option linter.all false
open Go Go.RowKit Go.Proofs
set_option maxRecDepth 100000
end Go.Am
namespace Go.Am
set_option linter.all false
set_option linter.all false
open Go Go.RowKit Go.Proofs
set_option maxRecDepth 100000
end Go.Am
namespace Go.Am
set_option linter.all false
set_option linter.all false
open Go Go.RowKit Go.Proofs
set_option maxRecDepth 100000
def bxE(l:List Ev)(f:Bool):Bx:=⟨l.map eEv,.agg [.int .i64 0,.int .i64 0,.int .i64 0,.int .i64 0,.int .i64 0,.str []],false,f⟩
attribute [simp] bxE
end Go.Am
namespace Go.Am
set_option linter.all false
set_option linter.all false
open Go Go.RowKit Go.Proofs
set_option maxRecDepth 100000
theorem between_ok(n a b:Int)(id:Nat):FnOk Tryz.prog 44 [.int .i64 n,.int .i64 a,.int .i64 b] [] id (.bool (decide (a≤n)&&decide (n≤b))) []:=by
 refine fn_okc Tryz.func44 hcc44 (by decide) hcr44 (by simp[Tryz.ntmps44]) fun E hP hR hl hid=>?_
 simp only[cr44] at hR
 refine w_go 4000 ?_
 simp[cc44]
 rw[hR]; exact rt_end (by simp<;>rfl) [] trivial (end_pure (by simp) (by simp) (by simp))
theorem rIsInt_ok(n:Int)(id:Nat):FnOk Tryz.prog 46 [.int .i64 n] [] id (.bool (decide (-999999999≤n)&&decide (n≤999999999))) []:=by
 refine fn_okc Tryz.func46 hcc46 (by decide) hcr46 (by simp[Tryz.ntmps46]) fun E hP hR hl hid=>?_
 simp only[cr46] at hR
 refine w_go 4000 ?_
 simp[cc46]
 (refine w_call hP rfl (between_ok _ _ _ _) (by simp) (by simp<;>rfl) ?_; refine w_go 4000 ?_; simp)
 rw[hR]; exact rt_end (by simp<;>rfl) [] trivial (end_pure (by simp) (by simp) (by simp))
@[simp] theorem toU8_byte (b:UInt8):toU8 (.int .u8 b.toNat)=b:=by simp[toU8]
end Go.Am
namespace Go.Am
set_option linter.all false
set_option linter.all false
end Go.Am
namespace Go.Am
set_option linter.all false
open Go Go.RowKit Go.Proofs
set_option maxRecDepth 100000
set_option linter.all false
structure Fd where
 name:List UInt8
 kind:Int
 of:List UInt8
structure Ty where
 name:List UInt8
 fields:List Fd
def findJ{α:Type}(p:α→Bool):List α→Nat→Int
 | [],_=>-1
 | x::l,i=>if p x then (i:Int) else findJ p l (i+1)
theorem findJ_any{α:Type}(p:α→Bool):∀(l:List α) (i:Nat),decide (0≤findJ p l i)=l.any p
 | [],i=>by simp[findJ]
 | x::l,i=>by
  simp only[findJ,List.any_cons]
  by_cases hx:p x=true
  ·simp[hx]
  ·simp[hx,findJ_any p l (i+1)]
end Go.Am
namespace Go.Am
set_option linter.all false
open Go Go.RowKit Go.Proofs
set_option maxRecDepth 100000
set_option linter.all false
def isLt(c:UInt8):Bool:=(decide (97≤c.toNat)&&decide (c.toNat≤122))||(decide (65≤c.toNat)&&decide (c.toNat≤90))||decide (c.toNat=95)
def isDg(c:UInt8):Bool:=decide (48≤c.toNat)&&decide (c.toNat≤57)
def anC(c:UInt8):Bool:=isLt c||isDg c
def nameOk:List UInt8→Bool
 | []=>false
 | c::r=>isLt c&&r.all anC
def fName(s:List UInt8):Int:=if 12<s.length then 2 else if nameOk s=true then 0 else 1
theorem letter_ok(c:UInt8)(id:Nat):FnOk Tryz.prog 105 [.int .u8 c.toNat] [] id (.bool (isLt c)) []:=by
 refine fn_okc Tryz.func105 hcc105 (by decide) hcr105 (by simp[Tryz.ntmps105]) fun E hP hR hl hid=>?_
 simp only[cr105] at hR
 refine w_go 4000 ?_
 simp[cc105]
 refine⟨by grind,by grind,by grind,?_⟩
 rw[hR]; exact rt_end (by simp<;>rfl) [] trivial (end_pure (by simp; unfold isLt; rw[Bool.eq_iff_iff]; simp; omega) (by simp) (by simp))
theorem digit_ok(c:UInt8)(id:Nat):FnOk Tryz.prog 107 [.int .u8 c.toNat] [] id (.bool (isDg c)) []:=by
 refine fn_okc Tryz.func107 hcc107 (by decide) hcr107 (by simp[Tryz.ntmps107]) fun E hP hR hl hid=>?_
 simp only[cr107] at hR
 refine w_go 4000 ?_
 simp[cc107]
 rw[hR]; exact rt_end (by simp<;>rfl) [] trivial (end_pure (by simp; unfold isDg; rw[Bool.eq_iff_iff]; simp; omega) (by simp) (by simp))
theorem rLetter_ok(c:UInt8)(id:Nat):FnOk Tryz.prog 40 [.int .u8 c.toNat] [] id (.bool (isLt c)) []:=by
 have hw:IntKind.i64.wrap (c.toNat:Int)=(c.toNat:Int):=wrap64 (by have:=c.toNat_lt; omega)
 refine fn_okc Tryz.func40 hcc40 (by decide) hcr40 (by simp[Tryz.ntmps40]) fun E hP hR hl hid=>?_
 simp only[cr40] at hR
 refine w_go 4000 ?_
 simp[cc40,hw]
 (refine w_call hP rfl (between_ok _ _ _ _) (by simp[hw]) (by simp[hw]<;>rfl) ?_; refine w_go 4000 ?_; simp[hw])
 (refine w_callg hP (by simp[hw]) rfl (fun hc=>⟨between_ok _ _ _ _,by revert hc; simp[hw]; try grind,by simp[hw]⟩) ?_; refine w_go 4000 ?_; simp[hw])
 refine⟨by grind,by grind,?_⟩
 rw[hR]; exact rt_end (by simp<;>rfl) [] trivial (end_pure (by simp; unfold isLt; rw[Bool.eq_iff_iff]; simp; omega) (by simp) (by simp))
theorem rDigit_ok(c:UInt8)(id:Nat):FnOk Tryz.prog 41 [.int .u8 c.toNat] [] id (.bool (isDg c)) []:=by
 have hw:IntKind.i64.wrap (c.toNat:Int)=(c.toNat:Int):=wrap64 (by have:=c.toNat_lt; omega)
 refine fn_okc Tryz.func41 hcc41 (by decide) hcr41 (by simp[Tryz.ntmps41]) fun E hP hR hl hid=>?_
 simp only[cr41] at hR
 refine w_go 4000 ?_
 simp[cc41,hw]
 (refine w_call hP rfl (between_ok _ _ _ _) (by simp[hw]) (by simp[hw]<;>rfl) ?_; refine w_go 4000 ?_; simp[hw])
 rw[hR]; exact rt_end (by simp<;>rfl) [] trivial (end_pure (by simp; unfold isDg; rw[Bool.eq_iff_iff]; simp; omega) (by simp) (by simp))
def okN:List UInt8→Bool→Bool
 | [],_=>true
 | c::r,fst=>(isLt c||(!fst&&isDg c))&&okN r false
theorem okN_false(l:List UInt8):okN l false=l.all anC:=by
 induction l with
 | nil=>rfl
 | cons c r ih=>simp[okN,ih,anC]
theorem okN_name(s:List UInt8)(h:s≠[]):okN s true=nameOk s:=by
 cases s with
 | nil=>exact (h rfl).elim
 | cons c r=>simp[okN,nameOk,okN_false]
theorem Name_ok(s:List UInt8)(id:Nat):FnOk Tryz.prog 78 [.str s] [] id (.int .i64 (fName s)) []:=by
 refine fn_okc Tryz.func78 hcc78 (by decide) hcr78 (by simp[Tryz.ntmps78]) fun E hP hR hl hid=>?_
 simp only[cr78] at hR
 refine w_go 4000 ?_
 simp[cc78]
 refine goc (fun h=>?_) (fun h=>?_)
 ·simp
  rw[hR]; exact rt_end (by simp<;>rfl) [] trivial (end_pure (by simp; simp at h; unfold fName; rw[if_pos (by omega)]) (by simp) (by simp))
 ·simp
  have h12:¬12<s.length:=by simp at h; omega
  refine w_loop (X:=Nat) (fun i=>⟨[(0,true,.str s),(8,true,.int .i64 s.length),(9,true,.int .i64 i)],[],0⟩) (fun i=>i≤s.length∧okN (s.drop i) (decide (i=0))=okN s true) (fun i=>s.length - i) 0 ?_ ⟨by omega,rfl⟩ ?_
  ·have hrn:rnOk []:=by simp
   refine Conv.sub [] hrn ?_ ?_ ?_ ?_ ?_<;>(try simp)
  ·rintro i ⟨hi,hf⟩ p hp
   refine w_go 4000 ?_
   simp
   refine goc (fun h=>?_) (fun h=>?_)
   ·have h:=of_decide_eq_true h
    obtain⟨x,hx,hd⟩:=drop_cons h
    rw[hd] at hf
    simp only[okN] at hf
    have hi1:IntKind.i64.wrap ((i:Int)+1)=((i+1:Nat):Int):=wrap64 (by omega)
    simp[hx]
    refine⟨h,?_⟩
    (refine w_call hP rfl (letter_ok x _) (by simp[hx]) (by simp[hx]<;>rfl) ?_; refine w_go 4000 ?_; simp[hx])
    refine⟨fun h1 h2=>⟨⟨h1,h2⟩,h⟩,?_⟩
    (refine w_callg hP (by simp[hx]) rfl (fun hc=>⟨digit_ok x _,by revert hc; simp[hx]; try grind,by simp[hx]⟩) ?_; refine w_go 4000 ?_; simp[hx])
    refine⟨by grind,?_⟩
    have hb:(isLt x||(!decide (i=0)&&isDg x))=!(!isLt x&&(((i:Int)==0)||!isDg x)):=by
     have:decide (i=0)=((i:Int)==0):=by rw[Bool.eq_iff_iff]; simp
     rw[this]; simp
    rw[hb] at hf
    refine goc (fun h1=>?_) (fun h1=>?_)
    ·simp
     rw[h1] at hf
     simp at hf
     have hne:s≠[]:=by rintro rfl; simp at h
     rw[hR]; exact rt_end (by simp<;>rfl) [] trivial (end_pure (by simp; unfold fName; rw[if_neg h12,←okN_name s hne,hf]; rfl) (by simp) (by simp))
    ·simp
     rw[h1] at hf
     simp at hf
     refine hp _ (i+1) ⟨h,by simpa using hf⟩ (by omega) ?_
     have hrn:rnOk []:=by simp[hi1]
     refine Conv.sub [] hrn ?_ ?_ ?_ ?_ ?_<;>(try simp[hi1])
   ·have h:=of_decide_eq_false h
    simp
    rw[List.drop_of_length_le (by omega)] at hf
    simp only[okN] at hf
    refine goc (fun h=>?_) (fun h=>?_)
    ·simp
     rw[hR]; exact rt_end (by simp<;>rfl) [] trivial (end_pure (by simp; simp at h; subst h; rfl) (by simp) (by simp))
    ·simp
     have hne:s≠[]:=by simpa using h
     rw[hR]; exact rt_end (by simp<;>rfl) [] trivial (end_pure (by simp; unfold fName; rw[if_neg h12,←okN_name s hne,←hf]; rfl) (by simp) (by simp))
def okP(c:UInt8)(r:List UInt8)(i:Nat):Bool:=isLt c&&((c::r).take i).all anC
theorem okP_zero(c:UInt8)(r:List UInt8):okP c r 0=isLt c:=by simp[okP]
theorem okP_succ{c:UInt8}{r:List UInt8}{i:Nat}{x:UInt8}(hx:(c::r)[i]?=some x):okP c r (i+1)=(okP c r i&&(isLt x||isDg x)):=by
 have ht:(c::r).take (i+1)=(c::r).take i++[x]:=by rw[List.take_succ,hx]; rfl
 simp only[okP,ht,List.all_append,List.all_cons,List.all_nil,Bool.and_true,Bool.and_assoc,anC]
theorem okP_end{c:UInt8}{r:List UInt8}{i:Nat}(h:(c::r).length≤i):okP c r i=nameOk (c::r):=by
 unfold okP nameOk
 rw[List.take_of_length_le h,List.all_cons]
 cases hc:isLt c<;>simp[anC,hc]
theorem CheckName_ok(s:List UInt8)(id:Nat):FnOk Tryz.prog 45 [.str s] [] id (.int .i64 (fName s)) []:=by
 by_cases h12:12<s.length
 ·refine fn_okc Tryz.func45 hcc45 (by decide) hcr45 (by simp[Tryz.ntmps45]) fun E hP hR hl hid=>?_
  simp only[cr45] at hR
  refine w_go 4000 ?_
  simp[cc45]
  refine goc_true (by simp; omega) ?_
  simp
  rw[hR]; exact rt_end (by simp<;>rfl) [] trivial (end_pure (by simp; unfold fName; rw[if_pos h12]) (by simp) (by simp))
 cases s with
 | nil =>
  refine fn_okc Tryz.func45 hcc45 (by decide) hcr45 (by simp[Tryz.ntmps45]) fun E hP hR hl hid=>?_
  simp only[cr45] at hR
  refine w_go 4000 ?_
  simp[cc45]
  refine w_split (.bool false) (by simp) (fun hg=>by simp at hg) (fun _=>?_)
  refine w_go 4000 ?_
  simp
  refine w_loop (X:=Nat) (fun i=>⟨[(0,true,.str []),(3,true,.bool false),(4,true,.int .i64 0)],[],0⟩) (fun i=>i=0) (fun i=>i) 0 ?_ rfl ?_
  ·have hrn:rnOk []:=by simp
   refine Conv.sub [] hrn ?_ ?_ ?_ ?_ ?_<;>(try simp)
  ·rintro i rfl p hp
   refine w_go 4000 ?_
   simp
   rw[hR]; exact rt_end (by simp<;>rfl) [] trivial (end_pure (by simp; rfl) (by simp) (by simp))
 | cons c r =>
  refine fn_okc Tryz.func45 hcc45 (by decide) hcr45 (by simp[Tryz.ntmps45]) fun E hP hR hl hid=>?_
  simp only[cr45] at hR
  refine w_go 4000 ?_
  simp[cc45]
  refine goc_false (by simp at h12 ⊢; omega) ?_
  simp
  (refine w_callg hP (by simp) rfl (fun hc=>⟨rLetter_ok c _,by revert hc; simp; try grind,by simp⟩) ?_; refine w_go 4000 ?_; simp)
  refine w_loop (X:=Nat) (fun i=>⟨[(0,true,.str (c::r)),(3,true,.bool (okP c r i)),(4,true,.int .i64 i)],[],0⟩) (fun i=>i≤(c::r).length) (fun i=>(c::r).length - i) 0 ?_ (by simp) ?_
  ·have hrn:rnOk []:=by simp[okP_zero]
   refine Conv.sub [] hrn ?_ ?_ ?_ ?_ ?_<;>(try simp[okP_zero])
  ·rintro i hi p hp
   refine w_go 4000 ?_
   simp
   refine goc (fun h=>?_) (fun h=>?_)
   ·have h:=of_decide_eq_true h
    obtain⟨x,hx,hd⟩:=drop_cons (l:=c::r) (i:=i) (by simp; omega)
    have ht:=okP_succ hx
    have hi1:IntKind.i64.wrap ((i:Int)+1)=((i+1:Nat):Int):=wrap64 (by simp at h12; omega)
    simp[hx]
    refine⟨fun hh=>⟨hh,by omega⟩,?_⟩
    (refine w_callg hP (by simp[hx]) rfl (fun hc=>⟨rLetter_ok x _,by revert hc; simp[hx]; try grind,by simp[hx]⟩) ?_; refine w_go 4000 ?_; simp[hx])
    refine⟨fun h1 h2=>⟨⟨h1,h2⟩,by omega⟩,?_⟩
    (refine w_callg hP (by simp[hx]) rfl (fun hc=>⟨rDigit_ok x _,by revert hc; simp[hx]; try grind,by simp[hx]⟩) ?_; refine w_go 4000 ?_; simp[hx])
    refine⟨by grind,hp _ (i+1) (by simp; omega) (by simp; omega) ?_⟩
    have hrn:rnOk []:=by simp[hi1,ht]
    refine Conv.sub [] hrn ?_ ?_ ?_ ?_ ?_<;>(try simp[hi1,ht])
   ·have h:=of_decide_eq_false h
    simp
    have hn:=okP_end (c:=c) (r:=r) (i:=i) (by simp; omega)
    refine goc (fun h1=>?_) (fun h1=>?_)
    ·simp
     rw[hR]; exact rt_end (by simp<;>rfl) [] trivial (end_pure (by simp; unfold fName; rw[if_neg h12,←hn]; simp at h1; rw[h1]; rfl) (by simp) (by simp))
    ·simp
     rw[hR]; exact rt_end (by simp<;>rfl) [] trivial (end_pure (by simp; unfold fName; rw[if_neg h12,←hn]; simp at h1; rw[h1]; rfl) (by simp) (by simp))
end Go.Am
namespace Go.Am
set_option linter.all false
open Go Go.RowKit Go.Proofs
set_option maxRecDepth 100000
set_option linter.all false
def tNumber:List UInt8:=[78,117,109,98,101,114]
def tText:List UInt8:=[84,101,120,116]
def firstIx{α:Type}(f:Nat→α→Int):List α→Nat→Int
 | [],_=>0
 | x::l,i=>if f i x≠0 then f i x else firstIx f l (i+1)
end Go.Am
namespace Go.Am
set_option linter.all false
open Go Go.RowKit Go.Proofs
set_option maxRecDepth 100000
set_option linter.all false
end Go.Am
namespace Go.Am
set_option linter.all false
set_option linter.all false
def I64(n:Int):Prop:=-9223372036854775808≤n∧n≤9223372036854775807
end Go.Am
namespace Go.Am
set_option linter.all false
open Go Go.RowKit Go.Proofs Go.Shelf
set_option maxRecDepth 100000
set_option linter.all false
theorem itoa_pl1 : (Tryz.f111.name == "runtime.NumGoroutine") = false := by decide
theorem itoa_pl2:Tryz.f111.body.isNone=false:=rfl
theorem join_pl1 : (Tryz.f77.name == "runtime.NumGoroutine") = false := by decide
theorem join_pl2:Tryz.f77.body.isNone=false:=rfl
theorem itoa_plain:PlainF Tryz.prog 111:=⟨_,Tryz.func111,itoa_pl1,itoa_pl2⟩
theorem join_plain:PlainF Tryz.prog 77:=⟨_,Tryz.func77,join_pl1,join_pl2⟩
theorem pow10_named : (Tryz.prog.globalNamed "internal/strconv.uint64pow10").isSome = true := by kernel_rfl
theorem pow10_is {w : World} (h : Tabs Tryz.prog w) : Lib.TabIs Tryz.prog w "internal/strconv.uint64pow10" .u64 Lib.pow10Tab := by
 obtain⟨g,hg⟩:=Option.isSome_iff_exists.1 pow10_named
 exact h.tab ("internal/strconv.uint64pow10", .u64, Lib.pow10Tab) (by simp [tabL]) g hg
theorem below_grow{w:World}(k:Nat)(os:Array Obj):Below w.heap.size w (Sort.grow (w.drewN k) os) :=
 ⟨rfl,rfl,rfl,by simp[Sort.grow,World.drewN],fun i hi=>by
  show ((w.drewN k).heap++os)[i]?=_
  rw[Array.getElem?_append_left (by show i<w.heap.size; exact hi)]
  rfl⟩
theorem Itoa_ok(n:Int)(id:Nat)(h:I64 n):FnOk Tryz.prog 111 [.int .i64 n] [] id (.str (Lib.itoa n)) []:=by
 refine fn_old itoa_plain fun C G bx w vs hs hv=>?_
 obtain⟨v,rfl,hv1⟩:=rvs_one_inv hv
 cases hv1
 refine (Any.strconv_Itoa layItoa n (by unfold I64 at h; omega) (by unfold I64 at h; omega) w (pow10_is hs.tabs)).mono ?_
 rintro e w' ⟨h1,k,os,rfl⟩
 exact⟨_,h1,fun _ _=>.str _,below_grow k os⟩
theorem Join_ok(xs:List (List UInt8))(sep:List UInt8)(id:Nat)(hN:xs.length≤140737488355328)(hlen:(Lib.join xs sep).length≤140737488355328):
  FnOk Tryz.prog 77 [.sl (xs.map .str),.str sep] [] id (.str (Lib.join xs sep)) []:=by
 refine fn_old join_plain fun C G bx w vs hs hv=>?_
 obtain⟨u,v,rfl,hv1,hv2⟩:=rvs_two_inv hv
 cases hv2
 obtain⟨A,c,rfl,h1,h2,h3⟩:=rv_strs hs hv1
 have hmap:(xs.map fun x=>(⟨⟨x⟩⟩:ByteArray)).map (·.data.toList)=xs:=by simp[Function.comp_def]
 rcases h3 with rfl|⟨b,o,rfl,h4,h5⟩
 ·refine (Any.strings_Join_none layJoin extraJoin A c ⟨⟨sep⟩⟩ w).mono ?_
  rintro e w' ⟨q1,rfl⟩
  exact⟨_,q1,fun _ _=>.str _,Below.refl _ _⟩
 ·have:=Any.strings_Join layJoin extraJoin b o c (xs.map fun x=>⟨⟨x⟩⟩) ⟨⟨sep⟩⟩ w (fun j x hx=>by
   rw[List.getElem?_map] at hx
   cases hj:xs[j]? with
   | none=>rw[hj] at hx; cases hx
   | some y=>rw[hj] at hx; injection hx with hx; subst hx; exact h5 j y hj) h4 (by simpa using hN) (by simpa using h1) (by rw[hmap]; exact hlen)
  rw[hmap] at this
  simp only[List.length_map] at this
  refine this.mono ?_
  rintro e w' ⟨q1,q2⟩
  exact⟨_,q1,fun _ _=>.str _,q2⟩
end Go.Am
namespace Go.Am
set_option linter.all false
open Go Go.RowKit Go.Proofs Go.Shelf
set_option maxRecDepth 100000
set_option linter.all false
def layAtoi_ren:Go.Shelf.Ren:=⟨fun|172=>130|244=>142|245=>143|247=>155|279=>156|280=>157|281=>158|282=>159|287=>171|316=>172|171=>111|205=>173|321=>185|322=>186|243=>132|246=>145|283=>160|284=>161|285=>162|286=>163|129=>175|317=>174|318=>176|319=>177|320=>178|337=>187|338=>188|n=>n,fun|9=>9|3=>3|75=>125|76=>126|4=>4|5=>5|167=>171|37=>102|0=>0|85=>172|2=>2|168=>174|53=>178|175=>200|46=>169|210=>203|127=>155|145=>226|143=>224|21=>21|171=>177|173=>181|212=>206|51=>141|20=>20|213=>207|232=>237|233=>238|80=>106|n=>n,fun|15=>1|16=>2|17=>3|18=>4|19=>5|n=>n⟩
theorem layAtoi:Go.Proofs.LaysC.n172 Tryz.prog layAtoi_ren:={ mixed:=by kernel_rfl,f129:=Tryz.func175.trans (congrArg some (by kernel_rfl)),f171:=Tryz.func111.trans (congrArg some (by kernel_rfl)),f172:=Tryz.func130.trans (congrArg some (by kernel_rfl)),f205:=Tryz.func173.trans (congrArg some (by kernel_rfl)),f243:=Tryz.func132.trans (congrArg some (by kernel_rfl)),f244:=Tryz.func142.trans (congrArg some (by kernel_rfl)),f245:=Tryz.func143.trans (congrArg some (by kernel_rfl)),f246:=Tryz.func145.trans (congrArg some (by kernel_rfl)),f247:=Tryz.func155.trans (congrArg some (by kernel_rfl)),f279:=Tryz.func156.trans (congrArg some (by kernel_rfl)),f280:=Tryz.func157.trans (congrArg some (by kernel_rfl)),f281:=Tryz.func158.trans (congrArg some (by kernel_rfl)),f282:=Tryz.func159.trans (congrArg some (by kernel_rfl)),f283:=Tryz.func160.trans (congrArg some (by kernel_rfl)),f284:=Tryz.func161.trans (congrArg some (by kernel_rfl)),f285:=Tryz.func162.trans (congrArg some (by kernel_rfl)),f286:=Tryz.func163.trans (congrArg some (by kernel_rfl)),f287:=Tryz.func171.trans (congrArg some (by kernel_rfl)),f316:=Tryz.func172.trans (congrArg some (by kernel_rfl)),f317:=Tryz.func174.trans (congrArg some (by kernel_rfl)),f318:=Tryz.func176.trans (congrArg some (by kernel_rfl)),f319:=Tryz.func177.trans (congrArg some (by kernel_rfl)),f320:=Tryz.func178.trans (congrArg some (by kernel_rfl)),f321:=Tryz.func185.trans (congrArg some (by kernel_rfl)),f322:=Tryz.func186.trans (congrArg some (by kernel_rfl)),f337:=Tryz.func187.trans (congrArg some (by kernel_rfl)),f338:=Tryz.func188.trans (congrArg some (by kernel_rfl)),t0:=Tryz.underlying0,a0:=Tryz.isAgg0,z0:=Tryz.sizeOf0,v0:=Tryz.zeroValue0,t2:=Tryz.underlying2,a2:=Tryz.isAgg2,z2:=Tryz.sizeOf2,v2:=Tryz.zeroValue2,t3:=Tryz.underlying3,a3:=Tryz.isAgg3,z3:=Tryz.sizeOf3,v3:=Tryz.zeroValue3,t4:=Tryz.underlying4,a4:=Tryz.isAgg4,z4:=Tryz.sizeOf4,v4:=Tryz.zeroValue4,t5:=Tryz.underlying5,a5:=Tryz.isAgg5,z5:=Tryz.sizeOf5,v5:=Tryz.zeroValue5,t9:=Tryz.underlying9,a9:=Tryz.isAgg9,z9:=Tryz.sizeOf9,v9:=Tryz.zeroValue9,t20:=Tryz.underlying20,a20:=Tryz.isAgg20,z20:=Tryz.sizeOf20,v20:=Tryz.zeroValue20,t21:=Tryz.underlying21,a21:=Tryz.isAgg21,z21:=Tryz.sizeOf21,v21:=Tryz.zeroValue21,t37:=Tryz.underlying102,a37:=Tryz.isAgg102,z37:=Tryz.sizeOf102,v37:=Tryz.zeroValue102,t46:=Tryz.underlying169,a46:=Tryz.isAgg169,z46:=Tryz.sizeOf169,v46:=Tryz.zeroValue169,t51:=Tryz.underlying141,a51:=Tryz.isAgg141,z51:=Tryz.sizeOf141,v51:=Tryz.zeroValue141,t53:=Tryz.underlying178,a53:=Tryz.isAgg178,z53:=Tryz.sizeOf178,v53:=Tryz.zeroValue178,t75:=Tryz.underlying125,a75:=Tryz.isAgg125,z75:=Tryz.sizeOf125,v75:=Tryz.zeroValue125,t76:=Tryz.underlying126,a76:=Tryz.isAgg126,z76:=Tryz.sizeOf126,v76:=Tryz.zeroValue126,t85:=Tryz.underlying172,a85:=Tryz.isAgg172,z85:=Tryz.sizeOf172,v85:=Tryz.zeroValue172,t127:=Tryz.underlying155,a127:=Tryz.isAgg155,z127:=Tryz.sizeOf155,v127:=Tryz.zeroValue155,t143:=Tryz.underlying224,a143:=Tryz.isAgg224,z143:=Tryz.sizeOf224,v143:=Tryz.zeroValue224,t145:=Tryz.underlying226,a145:=Tryz.isAgg226,z145:=Tryz.sizeOf226,v145:=Tryz.zeroValue226,t167:=Tryz.underlying171,a167:=Tryz.isAgg171,z167:=Tryz.sizeOf171,v167:=Tryz.zeroValue171,t168:=Tryz.underlying174,a168:=Tryz.isAgg174,z168:=Tryz.sizeOf174,v168:=Tryz.zeroValue174,t171:=Tryz.underlying177,a171:=Tryz.isAgg177,z171:=Tryz.sizeOf177,v171:=Tryz.zeroValue177,t173:=Tryz.underlying181,a173:=Tryz.isAgg181,z173:=Tryz.sizeOf181,v173:=Tryz.zeroValue181,t175:=Tryz.underlying200,a175:=Tryz.isAgg200,z175:=Tryz.sizeOf200,v175:=Tryz.zeroValue200,t210:=Tryz.underlying203,a210:=Tryz.isAgg203,z210:=Tryz.sizeOf203,v210:=Tryz.zeroValue203,t212:=Tryz.underlying206,a212:=Tryz.isAgg206,z212:=Tryz.sizeOf206,v212:=Tryz.zeroValue206,t213:=Tryz.underlying207,a213:=Tryz.isAgg207,z213:=Tryz.sizeOf207,t232:=Tryz.underlying237,a232:=Tryz.isAgg237,z232:=Tryz.sizeOf237,v232:=Tryz.zeroValue237,t233:=Tryz.underlying238,a233:=Tryz.isAgg238,z233:=Tryz.sizeOf238,v233:=Tryz.zeroValue238,g15:=by kernel_rfl,g16:=by kernel_rfl,g17:=by kernel_rfl,g18:=by kernel_rfl,g19:=by kernel_rfl,t80:=Tryz.underlying106,a80:=Tryz.isAgg106,z80:=Tryz.sizeOf106,v80:=Tryz.zeroValue106,i0:=by kernel_rfl,i2:=by kernel_rfl,i3:=by kernel_rfl,i4:=by kernel_rfl,i5:=by kernel_rfl,i9:=by kernel_rfl,i20:=by kernel_rfl,i21:=by kernel_rfl,i37:=by kernel_rfl,i46:=by kernel_rfl,i51:=by kernel_rfl,i53:=by kernel_rfl,i75:=by kernel_rfl,i76:=by kernel_rfl,i80:=by kernel_rfl,i85:=by kernel_rfl,i127:=by kernel_rfl,i143:=by kernel_rfl,i145:=by kernel_rfl,i167:=by kernel_rfl,i168:=by kernel_rfl,i171:=by kernel_rfl,i173:=by kernel_rfl,i175:=by kernel_rfl,i210:=by kernel_rfl,i212:=by kernel_rfl,i232:=by kernel_rfl,i233:=by kernel_rfl,m15:=by kernel_rfl,m16:=by kernel_rfl,m17:=by kernel_rfl,m18:=by kernel_rfl,m19:=by kernel_rfl,c0:=by kernel_rfl,c2:=by kernel_rfl,c3:=by kernel_rfl,c4:=by kernel_rfl,c5:=by kernel_rfl,c9:=by kernel_rfl,c20:=by kernel_rfl,c21:=by kernel_rfl,c37:=by kernel_rfl,c46:=by kernel_rfl,c51:=by kernel_rfl,c53:=by kernel_rfl,c75:=by kernel_rfl,c76:=by kernel_rfl,c80:=by kernel_rfl,c85:=by kernel_rfl,c127:=by kernel_rfl,c143:=by kernel_rfl,c145:=by kernel_rfl,c167:=by kernel_rfl,c168:=by kernel_rfl,c171:=by kernel_rfl,c173:=by kernel_rfl,c175:=by kernel_rfl,c210:=by kernel_rfl,c212:=by kernel_rfl,c213:=by kernel_rfl,c232:=by kernel_rfl,c233:=by kernel_rfl }
theorem atoi_pl1 : (Tryz.f130.name == "runtime.NumGoroutine") = false := by decide
theorem atoi_pl2:Tryz.f130.body.isNone=false:=rfl
theorem atoi_plain:PlainF Tryz.prog 130:=⟨_,Tryz.func130,atoi_pl1,atoi_pl2⟩
theorem syn_is {w : World} (h : Tabs Tryz.prog w) : ∃ v, w.cell? ⟨1, 0, none⟩ = some v ∧ (v = .nilIface ∨ ∃ te pe, v = .iface te pe) := h.err "strconv.ErrSyntax" (by simp [errL]) _ (by kernel_rfl)
theorem rng_is {w : World} (h : Tabs Tryz.prog w) : ∃ v, w.cell? ⟨2, 0, none⟩ = some v ∧ (v = .nilIface ∨ ∃ te pe, v = .iface te pe) := h.err "strconv.ErrRange" (by simp [errL]) _ (by kernel_rfl)
theorem rv_two{G:Gh}{w:World}{x y:AV}{u v:Value}(h1:RV G w x u)(h2:RV G w y v):RV G w (.tup [x,y]) (.tuple #[u,v]):=.tup _ _ rfl fun i z hz=>by
 match i,hz with
 | 0,hz=>simp at hz; subst hz; exact h1
 | 1,hz=>simp at hz; subst hz; exact h2
 | i+2,hz=>simp at hz
def numErr:AV:=.iface 174 (.cptr [])
theorem rv_numErr{G:Gh}{w:World}(a:Addr):RV G w numErr (.iface 174 (.pointer (some a))):=.iface _ _ _ (.cptr [] a (fun _=>undef) (fun j y h=>by simp at h) (fun j y h=>by simp at h) (fun j y h=>by simp at h))
theorem Atoi_ok(s:List UInt8)(n:Int)(id:Nat)(h:s.length≤281474976710656)(hn:Lib.atoiAll s = .ok n):FnOk Tryz.prog 130 [.str s] [] id (.tup [.int .i64 n,.nili]) []:=by
 refine fn_old atoi_plain fun C G bx w vs hs hv=>?_
 obtain⟨v,rfl,hv1⟩:=rvs_one_inv hv
 cases hv1
 refine (Any.strconv_Atoi_ok layAtoi ⟨⟨s⟩⟩ (by show s.length≤_; omega) n hn w).mono ?_
 rintro e w' ⟨h1,hw⟩
 refine⟨_,h1,fun _ _=>rv_two (.int _ _) .nili,?_⟩
 rcases hw with rfl|⟨t,rfl⟩
 ·exact Below.refl _ _
 ·exact Lib.bytesWorld_below _ _ _
theorem Atoi_syn(s:List UInt8)(id:Nat)(h:s.length≤281474976710656){e:Lib.NumEnd Int}(hn:Lib.atoiAll s=e)(h1:∀n,e≠.ok n)(h2:e≠.range):FnOk Tryz.prog 130 [.str s] [] id (.tup [.int .i64 0,numErr]) []:=by
 refine fn_old atoi_plain fun C G bx w vs hs hv=>?_
 obtain⟨v,rfl,hv1⟩:=rvs_one_inv hv
 cases hv1
 obtain⟨ev,k1,k2⟩:=syn_is hs.tabs
 rcases e with n|_|_
 ·exact (h1 n rfl).elim
 rotate_left
 ·exact (h2 rfl).elim
 refine (Any.strconv_Atoi_syntax layAtoi ⟨⟨s⟩⟩ h hn ev w k1 k2).mono ?_
 rintro e w' ⟨N,h1,_,_,h4⟩
 exact⟨_,h1,fun _ _=>rv_two (.int _ _) (rv_numErr _),h4⟩
theorem Atoi_rng(s:List UInt8)(id:Nat)(h:s.length≤281474976710656)(hn:Lib.atoiAll s = .range):FnOk Tryz.prog 130 [.str s] [] id (.tup [.int .i64 (Lib.atoiSat s),numErr]) []:=by
 refine fn_old atoi_plain fun C G bx w vs hs hv=>?_
 obtain⟨v,rfl,hv1⟩:=rvs_one_inv hv
 cases hv1
 obtain⟨ev,k1,k2⟩:=rng_is hs.tabs
 refine (Any.strconv_Atoi_range layAtoi ⟨⟨s⟩⟩ h hn ev w k1 k2).mono ?_
 rintro e w' ⟨N,h1,_,_,h4⟩
 exact⟨_,h1,fun _ _=>rv_two (.int _ _) (rv_numErr _),h4⟩
end Go.Am
namespace Go.Am
set_option linter.all false
set_option linter.all false
end Go.Am
namespace Go.Am
set_option linter.all false
open Go Go.RowKit Go.Proofs
set_option maxRecDepth 100000
set_option linter.all false
structure Ag where
 name:List UInt8
 isText:Bool
 text:List UInt8
 n:Int
def eAg(a:Ag):AV:=.agg [.str a.name,.bool a.isText,.str a.text,.int .i64 a.n]
theorem eAg_eq(a:Ag):eAg a = .agg [.str a.name,.bool a.isText,.str a.text,.int .i64 a.n]:=rfl
theorem pure_eAg(f:Ag):(eAg f).pureB=true:=rfl
@[simp] theorem pure_ags (l:List Ag):pureL (l.map eAg)=true:=pureL_map pure_eAg l
@[simp] theorem names_ags (S:Nat→Prop) (l:List Ag):namesL S (l.map eAg):=namesL_pure _ (pure_ags l)
@[simp] theorem ren_ags (R:Rn) (S:Nat→Prop) (l:List Ag):RenL R S (l.map eAg) (l.map eAg):=renL_pure rfl (pure_ags l)
inductive Sel where
 | mk (alias name:List UInt8) (args:List Ag) (kids:List Sel)
def Sel.alias:Sel→List UInt8 | .mk a _ _ _=>a
def Sel.name:Sel→List UInt8 | .mk _ n _ _=>n
def Sel.args:Sel→List Ag | .mk _ _ x _=>x
def Sel.kids:Sel→List Sel | .mk _ _ _ k=>k
mutual
def eSel:Sel→AV
 | .mk a n x k=>.agg [.str a,.str n,.sl (x.map eAg),.sl (eSels k)]
def eSels:List Sel→List AV
 | []=>[]
 | s::r=>eSel s::eSels r
end
theorem eSels_map(l:List Sel):eSels l=l.map eSel:=by
 induction l with
 | nil=>rfl
 | cons s r ih=>simp[eSels,ih]
theorem eSel_eq(s:Sel):eSel s = .agg [.str s.alias,.str s.name,.sl (s.args.map eAg),.sl (s.kids.map eSel)]:=by
 cases s with
 | mk a n x k=>simp[eSel,eSels_map,Sel.alias,Sel.name,Sel.args,Sel.kids]
mutual
theorem pure_eSel:∀s:Sel,(eSel s).pureB=true
 | .mk a n x k=>by simp[eSel,pure_eSels k]
theorem pure_eSels:∀l:List Sel,pureL (eSels l)=true
 | []=>rfl
 | s::r=>by simp[eSels,pure_eSel s,pure_eSels r]
end
@[simp] theorem ren_ag (R:Rn) (S:Nat→Prop) (a:Ag):RenR R S (eAg a) (eAg a):=renR_pure rfl rfl
@[simp] theorem ren_sel (R:Rn) (S:Nat→Prop) (s:Sel):RenR R S (eSel s) (eSel s):=renR_pure rfl (pure_eSel s)
@[simp] theorem pure_sels (l:List Sel):pureL (l.map eSel)=true:=pureL_map pure_eSel l
@[simp] theorem names_sels (S:Nat→Prop) (l:List Sel):namesL S (l.map eSel):=namesL_pure _ (pure_sels l)
@[simp] theorem ren_sels (R:Rn) (S:Nat→Prop) (l:List Sel):RenL R S (l.map eSel) (l.map eSel):=renL_pure rfl (pure_sels l)
mutual
def Sel.sz:Sel→Nat
 | .mk _ _ x k=>1+x.length+szL k
def szL:List Sel→Nat
 | []=>0
 | s::r=>s.sz+szL r
end
theorem sz_eq(s:Sel):s.sz=1+s.args.length+szL s.kids:=by cases s; rfl
theorem szL_len(l:List Sel):l.length≤szL l:=by
 induction l with
 | nil=>simp[szL]
 | cons s r ih=>have:=sz_eq s; simp[szL]; omega
theorem szL_mem{l:List Sel}{s:Sel}(h:s∈l):s.sz≤szL l:=by
 induction l with
 | nil=>cases h
 | cons x r ih =>
  simp only[szL]
  rcases List.mem_cons.1 h with rfl|h
  ·omega
  ·have:=ih h; omega
theorem szL_kids{l:List Sel}{s:Sel}(h:s∈l):szL s.kids<szL l:=by
 have:=szL_mem h; have:=sz_eq s; omega
def called(s:Sel):List UInt8:=if s.alias≠[] then s.alias else s.name
def fArg(a:Ag):Int :=
 if (a.isText=true∧a.n≠0)∨(a.isText=false∧a.text≠[]) then 1 else if 40<a.text.length then 2 else if ¬(-999999999≤a.n∧a.n≤999999999) then 3 else 0
def hasA(l:List Ag)(n:List UInt8):Bool:=l.any fun x=>x.name==n
def fArg1(a:Ag)(ahead:List Ag):Int :=
 if fName a.name≠0 then fName a.name else if hasA ahead a.name=true then 6 else fArg a
def fArgs(l:List Ag):Int:=if 5<l.length then 2 else firstIx (fun k a=>fArg1 a (l.take k)) l 0
theorem Called_ok(s:Sel)(id:Nat):FnOk Tryz.prog 97 [eSel s] [] id (.str (called s)) []:=by
 rw[eSel_eq]
 refine fn_okc Tryz.func97 hcc97 (by decide) hcr97 (by simp[Tryz.ntmps97]) fun E hP hR hl hid=>?_
 simp only[cr97] at hR
 refine w_go 4000 ?_
 simp[cc97]
 refine goc (fun h=>?_) (fun h=>?_)<;>simp
 ·rw[hR]; exact rt_end (by simp<;>rfl) [] trivial (end_pure (by simp; simp at h; unfold called; rw[if_pos h]) (by simp) (by simp))
 ·have h:¬s.alias≠[]:=by simpa using h
  rw[hR]; exact rt_end (by simp<;>rfl) [] trivial (end_pure (by simp; unfold called; rw[if_neg h]) (by simp) (by simp))
theorem checkArg_ok(a:Ag)(id:Nat):FnOk Tryz.prog 126 [eAg a] [] id (.int .i64 (fArg a)) []:=by
 unfold eAg
 refine fn_okc Tryz.func126 hcc126 (by decide) hcr126 (by simp[Tryz.ntmps126]) fun E hP hR hl hid=>?_
 simp only[cr126] at hR
 refine w_go 4000 ?_
 simp[cc126]
 repeat' first
  | (refine And.intro ?_ ?_)
  | (refine goc (fun h=>?_) (fun h=>?_)<;>simp)
  | (refine w_call hP rfl (lexInt_ok _ _) (by simp) (by simp<;>rfl) ?_; refine w_go 4000 ?_; simp)
 all_goals first
  | (rw[hR]; refine rt_end (by simp<;>rfl) [] trivial (end_pure ?_ (by simp) (by simp)); simp; done)
  | (rw[hR]; refine rt_end (by simp<;>rfl) [] trivial (end_pure ?_ (by simp) (by simp)); (try simp); simp[fArg] at *; grind; done)
  | omega
  | (simp_all; done)
  | grind
theorem args1_ok(x:Ag)(j:Nat)(a:Ag)(id:Nat):FnOk Tryz.prog 125 [eAg x,.ptr j 0 0] [(j,⟨[eAg a],.agg [.str [],.bool false,.str [],.int .i64 0],false,false⟩)] id (.bool (x.name==a.name)) []:=by
 unfold eAg
 refine fn_okc Tryz.func125 hcc125 (by decide) hcr125 (by simp[Tryz.ntmps125]) fun E hP hR hl hid=>?_
 simp only[cr125] at hR
 refine w_go 4000 ?_
 simp[cc125]
 have hj:=hl (j,_) (List.mem_cons_self ..)
 simp only at hj
 have j1:=lf hj
 simp[j1]
 have hrn:rnOk []:=by simp[j1,idO hid]
 rw[hR]
 refine rt_end (by simp<;>rfl) [] hrn ⟨?_,?_,?_,?_,?_,?_⟩<;>(try simp[j1,idO hid])
theorem IndexAg_ok(l:List Ag)(j:Nat)(a:Ag)(id:Nat)(hl8:l.length<9223372036854775807):FnOk Tryz.prog 141 [.sl (l.map eAg),.fn 125 [.ptr j 0 0]] [(j,⟨[eAg a],.agg [.str [],.bool false,.str [],.int .i64 0],false,false⟩)] id (.int .i64 (findJ (fun x=>x.name==a.name) l 0)) []:=by
 refine fn_okc Tryz.func141 hcc141 (by decide) hcr141 (by simp[Tryz.ntmps141]) fun E hP hR hl hid=>?_
 simp only[cr141] at hR
 refine w_go 4000 ?_
 simp[cc141]
 have hj:=hl (j,_) (List.mem_cons_self ..)
 simp only at hj
 have j1:=lf hj
 refine w_loop (X:=Nat) (fun i=>⟨[(0,true,.sl (l.map eAg)),(1,true,.fn 125 [.ptr j 0 0]),(7,true,.int .i64 l.length),(8,true,.int .i64 i)],[(j,some (⟨[eAg a],.agg [.str [],.bool false,.str [],.int .i64 0],false,false⟩))],0⟩) (fun i=>i≤l.length∧findJ (fun x=>x.name==a.name) (l.drop i) i=findJ (fun x=>x.name==a.name) l 0) (fun i=>l.length - i) 0 ?_ ⟨by omega,rfl⟩ ?_
 ·have hrn:rnOk []:=by simp[j1]
  refine Conv.sub [] hrn ?_ ?_ ?_ ?_ ?_<;>(try simp[j1])
 ·rintro i ⟨hi,hf⟩ p hp
  refine w_go 4000 ?_
  simp
  refine goc (fun h=>?_) (fun h=>?_)
  ·have h:=of_decide_eq_true h
   obtain⟨x,hx,hd⟩:=drop_cons h
   have hcl:=args1_ok x j a
   simp only[eAg_eq x] at hcl
   rw[hd] at hf
   simp only[findJ] at hf
   have hi1:IntKind.i64.wrap ((i:Int)+1)=((i+1:Nat):Int):=wrap64 (by omega)
   simp[hx,eAg_eq x]
   refine⟨h,?_⟩
   refine w_callv hP rfl rfl (hcl _) (by simp) (by simp[j1]<;>rfl) ?_
   refine w_go 4000 ?_
   simp[j1]
   refine goc (fun h1=>?_) (fun h1=>?_)
   ·simp[j1]
    rw[if_pos h1] at hf
    rw[←hf] at hR
    have hrn:rnOk []:=by simp[j1,findJ,idO hid]
    rw[hR]
    refine rt_end (by simp<;>rfl) [] hrn ⟨?_,?_,?_,?_,?_,?_⟩<;>(try simp[j1,findJ,idO hid])
   ·simp[j1]
    rw[if_neg (by simpa using h1)] at hf
    refine hp _ (i+1) ⟨h,hf⟩ (by omega) ?_
    have hrn:rnOk []:=by simp[hi1,j1]
    refine Conv.sub [] hrn ?_ ?_ ?_ ?_ ?_<;>(try simp[hi1,j1])
  ·have h:=of_decide_eq_false h
   simp
   rw[List.drop_of_length_le (by omega)] at hf
   rw[←hf] at hR
   have hrn:rnOk []:=by simp[j1,findJ,idO hid]
   rw[hR]
   refine rt_end (by simp<;>rfl) [] hrn ⟨?_,?_,?_,?_,?_,?_⟩<;>(try simp[j1,findJ,idO hid])
theorem ContainsAg_ok(l:List Ag)(j:Nat)(a:Ag)(id:Nat)(hl8:l.length<9223372036854775807):FnOk Tryz.prog 124 [.sl (l.map eAg),.fn 125 [.ptr j 0 0]] [(j,⟨[eAg a],.agg [.str [],.bool false,.str [],.int .i64 0],false,false⟩)] id (.bool (hasA l a.name)) []:=by
 refine fn_okc Tryz.func124 hcc124 (by decide) hcr124 (by simp[Tryz.ntmps124]) fun E hP hR hl hid=>?_
 simp only[cr124] at hR
 refine w_go 4000 ?_
 simp[cc124]
 have hj:=hl (j,_) (List.mem_cons_self ..)
 simp only at hj
 have j1:=lf hj
 (refine w_call hP rfl (IndexAg_ok l j a _ hl8) (by simp[j1]) (by simp[j1]<;>rfl) ?_; refine w_go 4000 ?_; simp[j1])
 have hrn:rnOk []:=by simp[j1,idO hid]
 rw[hR]
 refine rt_end (by simp<;>rfl) [] hrn ⟨?_,?_,?_,?_,?_,?_⟩<;>(try simp[j1,idO hid])
 exact findJ_any _ l 0
theorem check1_ok(x:Sel)(j:Nat)(s:Sel)(id:Nat):FnOk Tryz.prog 96 [eSel x,.ptr j 0 0] [(j,⟨[eSel s],.agg [.str [],.str [],.nils,.nils],false,false⟩)] id (.bool (called x==called s)) []:=by
 have h1:=Called_ok x
 have h2:=Called_ok s
 rw[eSel_eq] at h1 h2
 rw[eSel_eq x,eSel_eq s]
 refine fn_okc Tryz.func96 hcc96 (by decide) hcr96 (by simp[Tryz.ntmps96]) fun E hP hR hl hid=>?_
 simp only[cr96] at hR
 refine w_go 4000 ?_
 simp[cc96]
 have hj:=hl (j,_) (List.mem_cons_self ..)
 simp only at hj
 have j1:=lf hj
 (refine w_call hP rfl (h1 _) (by simp[j1]) (by simp[j1]<;>rfl) ?_; refine w_go 4000 ?_; simp[j1])
 (refine w_call hP rfl (h2 _) (by simp[j1]) (by simp[j1]<;>rfl) ?_; refine w_go 4000 ?_; simp[j1])
 have hrn:rnOk []:=by simp[j1,idO hid]
 rw[hR]
 refine rt_end (by simp<;>rfl) [] hrn ⟨?_,?_,?_,?_,?_,?_⟩<;>(try simp[j1,idO hid])
theorem IndexSel_ok(l:List Sel)(j:Nat)(s:Sel)(id:Nat)(hl8:l.length<9223372036854775807):FnOk Tryz.prog 127 [.sl (l.map eSel),.fn 96 [.ptr j 0 0]] [(j,⟨[eSel s],.agg [.str [],.str [],.nils,.nils],false,false⟩)] id (.int .i64 (findJ (fun x=>called x==called s) l 0)) []:=by
 refine fn_okc Tryz.func127 hcc127 (by decide) hcr127 (by simp[Tryz.ntmps127]) fun E hP hR hl hid=>?_
 simp only[cr127] at hR
 refine w_go 4000 ?_
 simp[cc127]
 have hj:=hl (j,_) (List.mem_cons_self ..)
 simp only at hj
 have j1:=lf hj
 refine w_loop (X:=Nat) (fun i=>⟨[(0,true,.sl (l.map eSel)),(1,true,.fn 96 [.ptr j 0 0]),(7,true,.int .i64 l.length),(8,true,.int .i64 i)],[(j,some (⟨[eSel s],.agg [.str [],.str [],.nils,.nils],false,false⟩))],0⟩) (fun i=>i≤l.length∧findJ (fun x=>called x==called s) (l.drop i) i=findJ (fun x=>called x==called s) l 0) (fun i=>l.length - i) 0 ?_ ⟨by omega,rfl⟩ ?_
 ·have hrn:rnOk []:=by simp[j1]
  refine Conv.sub [] hrn ?_ ?_ ?_ ?_ ?_<;>(try simp[j1])
 ·rintro i ⟨hi,hf⟩ p hp
  refine w_go 4000 ?_
  simp
  refine goc (fun h=>?_) (fun h=>?_)
  ·have h:=of_decide_eq_true h
   obtain⟨x,hx,hd⟩:=drop_cons h
   have hcl:=check1_ok x j s
   simp only[eSel_eq x] at hcl
   rw[hd] at hf
   simp only[findJ] at hf
   have hi1:IntKind.i64.wrap ((i:Int)+1)=((i+1:Nat):Int):=wrap64 (by omega)
   simp[hx,eSel_eq x]
   refine⟨h,?_⟩
   refine w_callv hP rfl rfl (hcl _) (by simp) (by simp[j1]<;>rfl) ?_
   refine w_go 4000 ?_
   simp[j1]
   refine goc (fun h1=>?_) (fun h1=>?_)
   ·simp[j1]
    rw[if_pos h1] at hf
    rw[←hf] at hR
    have hrn:rnOk []:=by simp[j1,findJ,idO hid]
    rw[hR]
    refine rt_end (by simp<;>rfl) [] hrn ⟨?_,?_,?_,?_,?_,?_⟩<;>(try simp[j1,findJ,idO hid])
   ·simp[j1]
    rw[if_neg (by simpa using h1)] at hf
    refine hp _ (i+1) ⟨h,hf⟩ (by omega) ?_
    have hrn:rnOk []:=by simp[hi1,j1]
    refine Conv.sub [] hrn ?_ ?_ ?_ ?_ ?_<;>(try simp[hi1,j1])
  ·have h:=of_decide_eq_false h
   simp
   rw[List.drop_of_length_le (by omega)] at hf
   rw[←hf] at hR
   have hrn:rnOk []:=by simp[j1,findJ,idO hid]
   rw[hR]
   refine rt_end (by simp<;>rfl) [] hrn ⟨?_,?_,?_,?_,?_,?_⟩<;>(try simp[j1,findJ,idO hid])
theorem ContainsSel_ok(l:List Sel)(j:Nat)(s:Sel)(id:Nat)(hl8:l.length<9223372036854775807):FnOk Tryz.prog 95 [.sl (l.map eSel),.fn 96 [.ptr j 0 0]] [(j,⟨[eSel s],.agg [.str [],.str [],.nils,.nils],false,false⟩)] id (.bool (l.any fun x=>called x==called s)) []:=by
 refine fn_okc Tryz.func95 hcc95 (by decide) hcr95 (by simp[Tryz.ntmps95]) fun E hP hR hl hid=>?_
 simp only[cr95] at hR
 refine w_go 4000 ?_
 simp[cc95]
 have hj:=hl (j,_) (List.mem_cons_self ..)
 simp only at hj
 have j1:=lf hj
 (refine w_call hP rfl (IndexSel_ok l j s _ hl8) (by simp[j1]) (by simp[j1]<;>rfl) ?_; refine w_go 4000 ?_; simp[j1])
 have hrn:rnOk []:=by simp[j1,idO hid]
 rw[hR]
 refine rt_end (by simp<;>rfl) [] hrn ⟨?_,?_,?_,?_,?_,?_⟩<;>(try simp[j1,idO hid])
 exact findJ_any _ l 0
end Go.Am
namespace Go.Am
set_option linter.all false
open Go Go.RowKit Go.Proofs
set_option maxRecDepth 100000
set_option linter.all false
set_option maxHeartbeats 1000000 in
theorem args_ok(l:List Ag)(id:Nat):FnOk Tryz.prog 94 [.sl (l.map eAg)] [] id (.int .i64 (fArgs l)) []:=by
 refine fn_okc Tryz.func94 hcc94 (by decide) hcr94 (by simp[Tryz.ntmps94]) fun E hP hR hl hid=>?_
 simp only[cr94] at hR
 refine w_go 4000 ?_
 simp[cc94]
 refine goc (fun h=>?_) (fun h=>?_)<;>simp
 ·rw[hR]; exact rt_end (by simp<;>rfl) [] trivial (end_pure (by simp; simp at h; unfold fArgs; rw[if_pos (by omega)]) (by simp) (by simp))
 have h5:¬5<l.length:=by simp at h; omega
 have hft:fArgs l=firstIx (fun k a=>fArg1 a (l.take k)) l 0:=by unfold fArgs; rw[if_neg h5]
 rw[hft] at hR
 refine w_loop (X:=Nat) (fun i=>⟨[(0,true,.sl (l.map eAg)),(9,true,.sl (l.map eAg)),(10,true,.int .i64 l.length),(11,true,.int .i64 i)],[],0⟩) (fun i=>i≤l.length∧firstIx (fun k a=>fArg1 a (l.take k)) (l.drop i) i=firstIx (fun k a=>fArg1 a (l.take k)) l 0) (fun i=>l.length - i) 0 ?_ ⟨by omega,rfl⟩ ?_
 ·have hrn:rnOk []:=by simp
  refine Conv.sub [] hrn ?_ ?_ ?_ ?_ ?_<;>(try simp)
 ·rintro i ⟨hi,hf⟩ p hp
  refine w_go 4000 ?_
  simp
  refine goc (fun h=>?_) (fun h=>?_)
  ·have h:=of_decide_eq_true h
   obtain⟨x,hx,hd⟩:=drop_cons h
   rw[hd] at hf
   simp only[firstIx] at hf
   have hi1:IntKind.i64.wrap ((i:Int)+1)=((i+1:Nat):Int):=wrap64 (by omega)
   have hC:=fun j=>ContainsAg_ok (l.take i) j x
   simp only[List.map_take] at hC
   have hA:=checkArg_ok x
   rw[eAg_eq] at hA
   simp[hx,eAg_eq x]
   refine⟨h,?_⟩
   (refine w_call hP rfl (Name_ok x.name _) (by simp) (by simp<;>rfl) ?_; refine w_go 4000 ?_; simp)
   refine⟨fun h0=>⟨h0,fun a _=>rfl,hi⟩,?_⟩
   refine w_callg hP (by simp) rfl (fun hc=>⟨hC (E.n0+4096) _ (by simp; omega),by revert hc; simp; try grind,by simp<;>rfl⟩) ?_
   refine w_go 4000 ?_
   simp
   refine goc (fun h1=>?_) (fun h1=>?_)<;>simp
   ·simp at h1
    have hv:fArg1 x (l.take i)=6:=by unfold fArg1; rw[if_neg (by simp[h1.1]),if_pos h1.2]
    rw[hv,if_pos (by decide)] at hf
    rw[hR]; exact rt_end (by simp<;>rfl) [] trivial (end_pure (by simp; exact hf) (by simp) (by simp))
   ·refine goc (fun h2=>?_) (fun h2=>?_)<;>simp
    ·simp at h1 h2
     have hv:fArg1 x (l.take i)=fArg x:=by unfold fArg1; rw[if_neg (by simp[h2]),if_neg (by simp[h1 h2])]
     rw[hv] at hf
     (refine w_call hP rfl (hA _) (by simp) (by simp<;>rfl) ?_; refine w_go 4000 ?_; simp)
     refine goc (fun h3=>?_) (fun h3=>?_)<;>simp
     ·rw[if_pos (by simpa using h3)] at hf
      rw[hR]; exact rt_end (by simp<;>rfl) [] trivial (end_pure (by simp; exact hf) (by simp) (by simp))
     ·rw[if_neg (by simpa using h3)] at hf
      refine hp _ (i+1) ⟨h,hf⟩ (by omega) ?_
      have hrn:rnOk []:=by simp[hi1]
      refine Conv.sub [] hrn ?_ ?_ ?_ ?_ ?_<;>(try simp[hi1])
    ·have h2:fName x.name≠0:=by simpa using h2
     have hv:fArg1 x (l.take i)=fName x.name:=by unfold fArg1; rw[if_pos h2]
     rw[hv,if_pos h2] at hf
     refine goc_true (by simpa using h2) ?_
     simp
     rw[hR]; exact rt_end (by simp<;>rfl) [] trivial (end_pure (by simp; exact hf) (by simp) (by simp))
  ·have h:=of_decide_eq_false h
   simp
   rw[List.drop_of_length_le (by omega)] at hf
   rw[hR]; exact rt_end (by simp<;>rfl) [] trivial (end_pure (by simp; exact hf) (by simp) (by simp))
end Go.Am
namespace Go.Am
set_option linter.all false
open Go Go.RowKit Go.Proofs
set_option maxRecDepth 100000
set_option linter.all false
def manyL:Nat→List Sel→Nat
 | 0,l=>l.length
 | m+1,l=>l.length+(l.map fun s=>manyL m s.kids).sum
def deepL:Nat→List Sel→Nat
 | 0,l=>min l.length 1
 | m+1,l=>l.foldl (fun d s=>max d (deepL m s.kids+1)) (min l.length 1)
def manyP(m:Nat)(l:List Sel)(i:Nat):Nat:=l.length+((l.take i).map fun s=>manyL m s.kids).sum
def deepP(m:Nat)(l:List Sel)(i:Nat):Nat:=(l.take i).foldl (fun d s=>max d (deepL m s.kids+1)) (min l.length 1)
theorem manyP_zero(m:Nat)(l:List Sel):manyP m l 0=l.length:=by simp[manyP]
theorem deepP_zero(m:Nat)(l:List Sel):deepP m l 0=min l.length 1:=by simp[deepP]
theorem take_snoc{α:Type}{l:List α}{i:Nat}{x:α}(hx:l[i]?=some x):l.take (i+1)=l.take i++[x]:=by rw[List.take_succ,hx]; rfl
theorem manyP_succ{m:Nat}{l:List Sel}{i:Nat}{x:Sel}(hx:l[i]?=some x):manyP m l (i+1)=manyP m l i+manyL m x.kids:=by
 simp[manyP,take_snoc hx]; omega
theorem deepP_succ{m:Nat}{l:List Sel}{i:Nat}{x:Sel}(hx:l[i]?=some x):deepP m l (i+1)=max (deepP m l i) (deepL m x.kids+1):=by
 simp[deepP,take_snoc hx]
theorem manyP_end{m:Nat}{l:List Sel}{i:Nat}(h:l.length≤i):manyP m l i=manyL (m+1) l:=by simp[manyP,manyL,List.take_of_length_le h]
theorem deepP_end{m:Nat}{l:List Sel}{i:Nat}(h:l.length≤i):deepP m l i=deepL (m+1) l:=by simp[deepP,deepL,List.take_of_length_le h]
theorem many_sum{m:Nat}(h:∀l,manyL m l≤szL l):∀l:List Sel,l.length+(l.map fun s=>manyL m s.kids).sum≤szL l
 | []=>by simp
 | s::r=>by
  have h1:=many_sum h r
  have h2:=h s.kids
  have h3:=sz_eq s
  simp only[szL,List.length_cons,List.map_cons,List.sum_cons]
  omega
theorem manyL_le:∀(m:Nat) (l:List Sel),manyL m l≤szL l
 | 0,l=>szL_len l
 | m+1,l=>many_sum (manyL_le m) l
theorem manyP_le(m:Nat)(l:List Sel)(i:Nat):manyP m l i≤szL l:=by
 have h1:=many_sum (manyL_le m) l
 have h2:((l.take i).map fun s=>manyL m s.kids).sum+((l.drop i).map fun s=>manyL m s.kids).sum=(l.map fun s=>manyL m s.kids).sum:=by
  rw[←List.sum_append,←List.map_append,List.take_append_drop]
 unfold manyP
 omega
theorem deep_fold{m k:Nat}(h:∀l,deepL m l≤k):∀(l:List Sel) (a:Nat),a≤k+1→l.foldl (fun d s=>max d (deepL m s.kids+1)) a≤k+1
 | [],a,ha=>ha
 | s::r,a,ha=>by
  simp only[List.foldl_cons]
  exact deep_fold h r _ (by have:=h s.kids; omega)
theorem deepL_le:∀(m:Nat) (l:List Sel),deepL m l≤m+1
 | 0,l=>by simp only[deepL]; omega
 | m+1,l=>deep_fold (deepL_le m) l _ (by omega)
set_option maxHeartbeats 1000000 in
theorem size_ok:∀(m:Nat) (l:List Sel) (id:Nat),m≤1000→szL l≤1099511627776→FnOk Tryz.prog 64 [.sl (l.map eSel),.int .i64 m] [] id (.tup [.int .i64 (manyL m l),.int .i64 (deepL m l)]) []
 | 0,l,id,hm,hl=>by
  have hlen:=szL_len l
  refine fn_okc Tryz.func64 hcc64 (by decide) hcr64 (by simp[Tryz.ntmps64]) fun E hP hR hl hid=>?_
  simp only[cr64] at hR
  refine w_go 4000 ?_
  simp[cc64]
  refine w_loop (X:=Unit) (fun _=>⟨[(0,true,.sl (l.map eSel)),(1,true,.int .i64 0),(6,true,.int .i64 l.length),(7,true,.int .i64 (deepL 0 l)),(17,true,.sl (l.map eSel)),(18,true,.int .i64 l.length),(19,true,.int .i64 0)],[],0⟩) (fun _=>True) (fun _=>0) () ?_ trivial ?_
  ·have hrn:rnOk []:=by simp[deepL]
   refine Conv.sub [] hrn ?_ ?_ ?_ ?_ ?_<;>(try simp[deepL])
   all_goals omega
  ·rintro i - p hp
   refine w_go 4000 ?_
   simp
   refine goc (fun h=>?_) (fun h=>?_)
   ·have h:=of_decide_eq_true h
    obtain⟨x,hx,hd⟩:=drop_cons (l:=l) (i:=0) (by omega)
    simp[hx,eSel_eq x]
    refine⟨by omega,?_⟩
    rw[hR]; exact rt_end (by simp<;>rfl) [] trivial (end_pure (by simp; simp[manyL]) (by simp) (by simp))
   ·simp
    rw[hR]; exact rt_end (by simp<;>rfl) [] trivial (end_pure (by simp; simp[manyL]) (by simp) (by simp))
 | m+1,l,id,hm,hl=>by
  have hlen:=szL_len l
  refine fn_okc Tryz.func64 hcc64 (by decide) hcr64 (by simp[Tryz.ntmps64]) fun E hP hR hl hid=>?_
  simp only[cr64] at hR
  refine w_go 4000 ?_
  simp[cc64]
  refine w_loop (X:=Nat) (fun i=>⟨[(0,true,.sl (l.map eSel)),(1,true,.int .i64 (m+1)),(6,true,.int .i64 (manyP m l i)),(7,true,.int .i64 (deepP m l i)),(17,true,.sl (l.map eSel)),(18,true,.int .i64 l.length),(19,true,.int .i64 i)],[],0⟩) (fun i=>i≤l.length) (fun i=>l.length - i) 0 ?_ (by omega) ?_
  ·have hrn:rnOk []:=by simp[manyP_zero,deepP_zero]
   refine Conv.sub [] hrn ?_ ?_ ?_ ?_ ?_<;>(try simp[manyP_zero,deepP_zero])
   all_goals omega
  ·rintro i hi p hp
   refine w_go 4000 ?_
   simp
   refine goc (fun h=>?_) (fun h=>?_)
   ·have h:=of_decide_eq_true h
    obtain⟨x,hx,hd⟩:=drop_cons h
    have hi1:IntKind.i64.wrap ((i:Int)+1)=((i+1:Nat):Int):=wrap64 (by omega)
    have hxm:x∈l:=List.mem_of_getElem? hx
    have ih:=size_ok m x.kids
    simp[hx,eSel_eq x]
    refine⟨h,goc_false (by simp; omega) ?_⟩
    have hm1:IntKind.i64.wrap (m:Int)=(m:Int):=wrap64 (by omega)
    have hsz:=szL_kids hxm
    have hs:=manyP_succ (m:=m) hx
    have hsd:=deepP_succ (m:=m) hx
    have hs1:IntKind.i64.wrap ((manyP m l i:Int)+manyL m x.kids)=((manyP m l (i+1):Nat):Int):=by rw[hs,wrap64 (by have:=manyP_le m l (i+1); omega)]; omega
    have hs2:IntKind.i64.wrap ((deepL m x.kids:Int)+1)=((deepL m x.kids+1:Nat):Int):=wrap64 (by have:=deepL_le m x.kids; omega)
    simp[hm1]
    (refine w_call hP rfl (ih _ (by omega) (by omega)) (by simp[hs1,hs2]) (by simp[hs1,hs2]<;>rfl) ?_; refine w_go 4000 ?_; simp[hs1,hs2])
    refine hp _ (i+1) (by omega) (by omega) ?_
    have hrn:rnOk []:=by simp[hi1,hsd]
    refine Conv.sub [] hrn ?_ ?_ ?_ ?_ ?_<;>(try simp[hi1,hsd])
    all_goals trace "TAIL 1"
    all_goals trace_state
    all_goals omega
   ·have h:=of_decide_eq_false h
    simp
    rw[hR]; exact rt_end (by simp<;>rfl) [] trivial (end_pure (by simp; rw[manyP_end (by omega),deepP_end (by omega)]; exact⟨rfl,rfl⟩) (by simp) (by simp))
end Go.Am
namespace Go.Am
set_option linter.all false
open Go Go.RowKit Go.Proofs
set_option maxRecDepth 100000
set_option linter.all false
def fSel1(s:Sel)(ah:List Sel):Int :=
 if fName s.name≠0 then fName s.name else if s.alias≠[]∧fName s.alias≠0 then fName s.alias else if fArgs s.args≠0 then fArgs s.args
 else if (ah.any fun x=>called x==called s)=true then 6 else 0
mutual
def fChkK:Sel→Int
 | .mk _ _ _ k=>fChkL k []
def fChkL:List Sel→List Sel→Int
 | [],_=>0
 | s::r,ah=>if fSel1 s ah≠0 then fSel1 s ah else if fChkK s≠0 then fChkK s else fChkL r (ah++[s])
end
def fNm(s:Sel):Int:=if fName s.name≠0 then fName s.name else if s.alias≠[] then fName s.alias else 0
theorem fSel1_nm(s:Sel)(ah:List Sel):fSel1 s ah=if fNm s≠0 then fNm s else if fArgs s.args≠0 then fArgs s.args else if (ah.any fun x=>called x==called s)=true then 6 else 0:=by
 unfold fSel1 fNm
 split
 ·rfl
 ·split
  ·rename_i h; rw[if_pos h.1,if_pos h.2]
  ·rename_i h
   by_cases ha:s.alias≠[]
   ·have:fName s.alias=0:=Classical.byContradiction fun h0=>h ⟨ha,h0⟩
    rw[if_pos ha,this]; rfl
   ·rw[if_neg ha]; rfl
theorem fChkK_eq(s:Sel):fChkK s=fChkL s.kids []:=by cases s; rfl
set_option maxHeartbeats 2000000 in
theorem check_ok:∀(n:Nat) (l:List Sel) (id:Nat),szL l<n→szL l≤1099511627776→FnOk Tryz.prog 65 [.sl (l.map eSel)] [] id (.int .i64 (fChkL l [])) []
 | 0,l,id,hn,hl=>by omega
 | n+1,l,id,hn,hl=>by
  have ih:=check_ok n
  have hlen:=szL_len l
  refine fn_okc Tryz.func65 hcc65 (by decide) hcr65 (by simp[Tryz.ntmps65]) fun E hP hR hl hid=>?_
  simp only[cr65] at hR
  refine w_go 4000 ?_
  simp[cc65]
  refine w_loop (X:=Nat) (fun i=>⟨[(0,true,.sl (l.map eSel)),(6,true,.sl (l.map eSel)),(7,true,.int .i64 l.length),(8,true,.int .i64 i)],[],0⟩) (fun i=>i≤l.length∧fChkL (l.drop i) (l.take i)=fChkL l []) (fun i=>l.length - i) 0 ?_ ⟨by omega,rfl⟩ ?_
  ·have hrn:rnOk []:=by simp
   refine Conv.sub [] hrn ?_ ?_ ?_ ?_ ?_<;>(try simp)
  ·rintro i ⟨hi,hf⟩ p hp
   refine w_go 4000 ?_
   simp
   refine goc (fun h=>?_) (fun h=>?_)
   ·have h:=of_decide_eq_true h
    obtain⟨x,hx,hd⟩:=drop_cons h
    rw[hd] at hf
    simp only[fChkL] at hf
    rw[←take_snoc hx] at hf
    have hi1:IntKind.i64.wrap ((i:Int)+1)=((i+1:Nat):Int):=wrap64 (by omega)
    have hxm:x∈l:=List.mem_of_getElem? hx
    have hsz:=szL_kids hxm
    have hC:=fun j=>ContainsSel_ok (l.take i) j x
    simp only[List.map_take] at hC
    simp[hx,eSel_eq x]
    refine⟨h,?_⟩
    refine w_call hP rfl (Name_ok x.name _) (by simp) (by simp<;>rfl) ?_
    refine w_cutS (X:=Int) (fun e=>⟨[(0,true,.sl (l.map eSel)),(3,true,.int .i64 i),(4,true,.ptr E.n0 0 0),(5,true,.int .i64 e),(6,true,.sl (l.map eSel)),(7,true,.int .i64 l.length),(8,true,.int .i64 i)],[(E.n0,some ⟨[.agg [.str x.alias,.str x.name,.sl (x.args.map eAg),.sl (x.kids.map eSel)]],.agg [.str [],.str [],.nils,.nils],false,false⟩)],1⟩) (fun e=>e=fNm x) (fun q hq=>?_) (fun e he=>?_)
    ·refine w_go 4000 ?_
     simp
     refine goc (fun h1=>?_) (fun h1=>?_)<;>simp
     ·simp at h1
      (refine w_call hP rfl (Name_ok x.alias _) (by simp) (by simp<;>rfl) ?_; refine w_go 4000 ?_; simp)
      refine hq _ (fName x.alias) (by unfold fNm; rw[if_neg (by simp[h1.1]),if_pos h1.2]) ?_
      have hrn:rnOk [(E.n0,E.n0+4096)]:=by simp
      refine Conv.sub [(E.n0,E.n0+4096)] hrn ?_ ?_ ?_ ?_ ?_<;>(try simp)
     ·simp at h1
      refine hq _ (fName x.name) (by
       unfold fNm
       split
       ·rfl
       ·rename_i h0
        have h0:fName x.name=0:=by simpa using h0
        rw[if_neg (by simp[h1 h0]),h0]) ?_
      have hrn:rnOk [(E.n0,E.n0+4096)]:=by simp
      refine Conv.sub [(E.n0,E.n0+4096)] hrn ?_ ?_ ?_ ?_ ?_<;>(try simp)
    ·subst he
     rw[fSel1_nm] at hf
     refine w_go 4000 ?_
     simp
     refine goc (fun h2=>?_) (fun h2=>?_)<;>simp
     ·have h2:fNm x=0:=by simpa using h2
      rw[h2] at hf
      simp only[ne_eq,not_true_eq_false,if_false] at hf
      (refine w_call hP rfl (args_ok x.args _) (by simp) (by simp<;>rfl) ?_; refine w_go 4000 ?_; simp)
      refine⟨fun h0=>⟨h0,fun a _=>by rw[eSel_eq]; rfl,hi⟩,?_⟩
      refine w_callg hP (by simp) rfl (fun hc=>⟨hC E.n0 _ (by simp; omega),by revert hc; simp; try grind,by simp[eSel_eq x]<;>rfl⟩) ?_
      refine w_go 4000 ?_
      simp
      refine goc (fun h3=>?_) (fun h3=>?_)<;>simp
      ·simp only[Bool.and_eq_true,beq_iff_eq] at h3
       rw[h3.1] at hf
       simp only[ne_eq,not_true_eq_false,if_false] at hf
       rw[if_pos h3.2,if_pos (by decide)] at hf
       rw[hR]; exact rt_end (by simp<;>rfl) [] trivial (end_pure (by simp; exact hf) (by simp) (by simp))
      ·refine goc (fun h4=>?_) (fun h4=>?_)<;>simp
       ·have h4:fArgs x.args=0:=by simpa using h4
        rw[h4] at hf
        simp only[ne_eq,not_true_eq_false,if_false] at hf
        have h3':¬((l.take i).any fun y=>called y==called x)=true:=by
         rw[h4] at h3
         simpa using h3
        rw[if_neg h3'] at hf
        simp only[ne_eq,not_true_eq_false,if_false] at hf
        rw[fChkK_eq] at hf
        (refine w_call hP rfl (ih x.kids _ (by omega) (by omega)) (by simp) (by simp<;>rfl) ?_; refine w_go 4000 ?_; simp)
        refine goc (fun h5=>?_) (fun h5=>?_)<;>simp
        ·rw[if_pos (by simpa using h5)] at hf
         rw[hR]; exact rt_end (by simp<;>rfl) [] trivial (end_pure (by simp; exact hf) (by simp) (by simp))
        ·rw[if_neg (by simpa using h5)] at hf
         refine hp _ (i+1) ⟨h,hf⟩ (by omega) ?_
         have hrn:rnOk []:=by simp[hi1]
         refine Conv.sub [] hrn ?_ ?_ ?_ ?_ ?_<;>(try simp[hi1])
       ·have h4:fArgs x.args≠0:=by simpa using h4
        rw[if_pos h4,if_pos h4] at hf
        refine goc_true (by simpa using h4) ?_
        simp
        rw[hR]; exact rt_end (by simp<;>rfl) [] trivial (end_pure (by simp; exact hf) (by simp) (by simp))
     ·have h2:fNm x≠0:=by simpa using h2
      rw[if_pos h2,if_pos h2] at hf
      refine⟨fun h0=>(h2 h0).elim,?_⟩
      refine w_split (.bool false) (by simp) (fun hg=>by simp at hg; exact (h2 hg).elim) (fun _=>?_)
      refine w_go 4000 ?_
      simp[h2]
      refine goc_false (by simpa using h2) ?_
      simp
      refine goc_true (by simpa using h2) ?_
      simp
      rw[hR]; exact rt_end (by simp<;>rfl) [] trivial (end_pure (by simp; exact hf) (by simp) (by simp))
   ·have h:=of_decide_eq_false h
    simp
    rw[List.drop_of_length_le (by omega)] at hf
    rw[hR]; exact rt_end (by simp<;>rfl) [] trivial (end_pure (by simp; exact hf) (by simp) (by simp))
def fQuery(l:List Sel):Int:=if l=[] then 5 else if 40<manyL 5 l∨5<deepL 5 l then 2 else fChkL l []
theorem size5_ok(l:List Sel)(id:Nat)(h:szL l≤1099511627776):FnOk Tryz.prog 64 [.sl (l.map eSel),.int .i64 5] [] id (.tup [.int .i64 (manyL 5 l),.int .i64 (deepL 5 l)]) []:=size_ok 5 l id (by omega) h
theorem qCheck_ok(l:List Sel)(id:Nat)(h:szL l≤1099511627776):FnOk Tryz.prog 30 [.sl (l.map eSel)] [] id (.int .i64 (fQuery l)) []:=by
 refine fn_okc Tryz.func30 hcc30 (by decide) hcr30 (by simp[Tryz.ntmps30]) fun E hP hR hl hid=>?_
 simp only[cr30] at hR
 refine w_go 4000 ?_
 simp[cc30]
 refine goc (fun h1=>?_) (fun h1=>?_)<;>simp
 ·rw[hR]; exact rt_end (by simp<;>rfl) [] trivial (end_pure (by simp; simp at h1; unfold fQuery; rw[if_pos h1]) (by simp) (by simp))
 have h1:¬l=[]:=by simpa using h1
 (refine w_call hP rfl (size5_ok l _ h) (by simp) (by simp<;>rfl) ?_; refine w_go 4000 ?_; simp)
 refine goc (fun h2=>?_) (fun h2=>?_)<;>simp
 ·rw[hR]; exact rt_end (by simp<;>rfl) [] trivial (end_pure (by simp; simp at h2; unfold fQuery; rw[if_neg h1,if_pos (by omega)]) (by simp) (by simp))
 ·have h2:¬(40<manyL 5 l∨5<deepL 5 l):=by simp at h2; omega
  (refine w_call hP rfl (check_ok (szL l+1) l _ (by omega) h) (by simp) (by simp<;>rfl) ?_; refine w_go 4000 ?_; simp)
  rw[hR]; exact rt_end (by simp<;>rfl) [] trivial (end_pure (by simp; unfold fQuery; rw[if_neg h1,if_neg h2]) (by simp) (by simp))
end Go.Am
