/- Parts of the proof: an abstract machine for Go functions, and what functions of the program give back (Sc1, Sc2, Sc3, Sc4). No condition. -/
import Derived.Test.YtgfmjhmjnnpcgaaGreatDoorCcB
import Derived.Test.YtgfmjhmjnnpcgaaGreatDoorXF
import Derived.Test.YtgfmjhmjnnpcgaaGreatDoorXD
namespace Go.Am
set_option linter.all false
open Go Go.RowKit Go.Proofs
set_option maxRecDepth 100000
set_option linter.all false
structure Fd where
 name:List UInt8
 kind:Int
 of:List UInt8
structure Ty where
 name:List UInt8
 fields:List Fd
def findJ{α:Type}(p:α→Bool):List α→Nat→Int
 | [],_=>-1
 | x::l,i=>if p x then (i:Int) else findJ p l (i+1)
theorem findJ_any{α:Type}(p:α→Bool):∀(l:List α) (i:Nat),decide (0≤findJ p l i)=l.any p
 | [],i=>by simp[findJ]
 | x::l,i=>by
  simp only[findJ,List.any_cons]
  by_cases hx:p x=true
  ·simp[hx]
  ·simp[hx,findJ_any p l (i+1)]
end Go.Am
namespace Go.Am
set_option linter.all false
open Go Go.RowKit Go.Proofs
set_option maxRecDepth 100000
set_option linter.all false
def isLt(c:UInt8):Bool:=(decide (97≤c.toNat)&&decide (c.toNat≤122))||(decide (65≤c.toNat)&&decide (c.toNat≤90))||decide (c.toNat=95)
def isDg(c:UInt8):Bool:=decide (48≤c.toNat)&&decide (c.toNat≤57)
def anC(c:UInt8):Bool:=isLt c||isDg c
def nameOk:List UInt8→Bool
 | []=>false
 | c::r=>isLt c&&r.all anC
def fName(s:List UInt8):Int:=if 12<s.length then 2 else if nameOk s=true then 0 else 1
theorem letter_ok(c:UInt8)(id:Nat):FnOk Tryz.prog 105 [.int .u8 c.toNat] [] id (.bool (isLt c)) []:=by
 refine fn_okc Tryz.func105 hcc105 (by decide) hcr105 (by simp[Tryz.ntmps105]) fun E hP hR hl hid=>?_
 simp only[cr105] at hR
 refine w_go 4000 ?_
 simp[cc105]
 refine⟨by grind,by grind,by grind,?_⟩
 rw[hR]; exact rt_end (by simp<;>rfl) [] trivial (end_pure (by simp; unfold isLt; rw[Bool.eq_iff_iff]; simp; omega) (by simp) (by simp))
theorem digit_ok(c:UInt8)(id:Nat):FnOk Tryz.prog 107 [.int .u8 c.toNat] [] id (.bool (isDg c)) []:=by
 refine fn_okc Tryz.func107 hcc107 (by decide) hcr107 (by simp[Tryz.ntmps107]) fun E hP hR hl hid=>?_
 simp only[cr107] at hR
 refine w_go 4000 ?_
 simp[cc107]
 rw[hR]; exact rt_end (by simp<;>rfl) [] trivial (end_pure (by simp; unfold isDg; rw[Bool.eq_iff_iff]; simp; omega) (by simp) (by simp))
def okN:List UInt8→Bool→Bool
 | [],_=>true
 | c::r,fst=>(isLt c||(!fst&&isDg c))&&okN r false
theorem okN_false(l:List UInt8):okN l false=l.all anC:=by
 induction l with
 | nil=>rfl
 | cons c r ih=>simp[okN,ih,anC]
theorem okN_name(s:List UInt8)(h:s≠[]):okN s true=nameOk s:=by
 cases s with
 | nil=>exact (h rfl).elim
 | cons c r=>simp[okN,nameOk,okN_false]
theorem Name_ok(s:List UInt8)(id:Nat):FnOk Tryz.prog 78 [.str s] [] id (.int .i64 (fName s)) []:=by
 refine fn_okc Tryz.func78 hcc78 (by decide) hcr78 (by simp[Tryz.ntmps78]) fun E hP hR hl hid=>?_
 simp only[cr78] at hR
 refine w_go 4000 ?_
 simp[cc78]
 refine goc (fun h=>?_) (fun h=>?_)
 ·simp
  rw[hR]; exact rt_end (by simp<;>rfl) [] trivial (end_pure (by simp; simp at h; unfold fName; rw[if_pos (by omega)]) (by simp) (by simp))
 ·simp
  have h12:¬12<s.length:=by simp at h; omega
  refine w_loop (X:=Nat) (fun i=>⟨[(0,true,.str s),(8,true,.int .i64 s.length),(9,true,.int .i64 i)],[],0⟩) (fun i=>i≤s.length∧okN (s.drop i) (decide (i=0))=okN s true) (fun i=>s.length - i) 0 ?_ ⟨by omega,rfl⟩ ?_
  ·have hrn:rnOk []:=by simp
   refine Conv.sub [] hrn ?_ ?_ ?_ ?_ ?_<;>(try simp)
  ·rintro i ⟨hi,hf⟩ p hp
   refine w_go 4000 ?_
   simp
   refine goc (fun h=>?_) (fun h=>?_)
   ·have h:=of_decide_eq_true h
    obtain⟨x,hx,hd⟩:=drop_cons h
    rw[hd] at hf
    simp only[okN] at hf
    have hi1:IntKind.i64.wrap ((i:Int)+1)=((i+1:Nat):Int):=wrap64 (by omega)
    simp[hx]
    refine⟨h,?_⟩
    (refine w_call hP rfl (letter_ok x _) (by simp[hx]) (by simp[hx]<;>rfl) ?_; refine w_go 4000 ?_; simp[hx])
    refine⟨fun h1 h2=>⟨⟨h1,h2⟩,h⟩,?_⟩
    (refine w_callg hP (by simp[hx]) rfl (fun hc=>⟨digit_ok x _,by revert hc; simp[hx]; try grind,by simp[hx]⟩) ?_; refine w_go 4000 ?_; simp[hx])
    refine⟨by grind,?_⟩
    have hb:(isLt x||(!decide (i=0)&&isDg x))=!(!isLt x&&(((i:Int)==0)||!isDg x)):=by
     have:decide (i=0)=((i:Int)==0):=by rw[Bool.eq_iff_iff]; simp
     rw[this]; simp
    rw[hb] at hf
    refine goc (fun h1=>?_) (fun h1=>?_)
    ·simp
     rw[h1] at hf
     simp at hf
     have hne:s≠[]:=by rintro rfl; simp at h
     rw[hR]; exact rt_end (by simp<;>rfl) [] trivial (end_pure (by simp; unfold fName; rw[if_neg h12,←okN_name s hne,hf]; rfl) (by simp) (by simp))
    ·simp
     rw[h1] at hf
     simp at hf
     refine hp _ (i+1) ⟨h,by simpa using hf⟩ (by omega) ?_
     have hrn:rnOk []:=by simp[hi1]
     refine Conv.sub [] hrn ?_ ?_ ?_ ?_ ?_<;>(try simp[hi1])
   ·have h:=of_decide_eq_false h
    simp
    rw[List.drop_of_length_le (by omega)] at hf
    simp only[okN] at hf
    refine goc (fun h=>?_) (fun h=>?_)
    ·simp
     rw[hR]; exact rt_end (by simp<;>rfl) [] trivial (end_pure (by simp; simp at h; subst h; rfl) (by simp) (by simp))
    ·simp
     have hne:s≠[]:=by simpa using h
     rw[hR]; exact rt_end (by simp<;>rfl) [] trivial (end_pure (by simp; unfold fName; rw[if_neg h12,←okN_name s hne,←hf]; rfl) (by simp) (by simp))
end Go.Am
namespace Go.Am
set_option linter.all false
open Go Go.RowKit Go.Proofs
set_option maxRecDepth 100000
set_option linter.all false
def firstIx{α:Type}(f:Nat→α→Int):List α→Nat→Int
 | [],_=>0
 | x::l,i=>if f i x≠0 then f i x else firstIx f l (i+1)
end Go.Am
namespace Go.Am
set_option linter.all false
open Go Go.RowKit Go.Proofs
set_option maxRecDepth 100000
set_option linter.all false
end Go.Am
