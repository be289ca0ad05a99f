/- Parts of the proof: an abstract machine for Go functions, and what functions of the program give back (Sc1, Sc2, Sc3, Sc4). No condition. -/
import Derived.Test.YthghjjancoopoaaDoorCcB
import Derived.Test.YthghjjancoopoaaDoorXF
import Derived.Test.YthghjjancoopoaaDoorXD
namespace Go.Am
set_option linter.all false
open Go Go.RowKit Go.Proofs
set_option maxRecDepth 100000
set_option linter.all false
structure Fd where
 name:List UInt8
 kind:Int
 of:List UInt8
structure Ty where
 name:List UInt8
 fields:List Fd
def eFd(f:Fd):AV:=.agg [.str f.name,.int .i64 f.kind,.str f.of]
def eTy(t:Ty):AV:=.agg [.str t.name,.sl (t.fields.map eFd)]
end Go.Am
namespace Go.Am
set_option linter.all false
open Go Go.RowKit Go.Proofs
set_option maxRecDepth 100000
set_option linter.all false
def isLt(c:UInt8):Bool:=(decide (97≤c.toNat)&&decide (c.toNat≤122))||(decide (65≤c.toNat)&&decide (c.toNat≤90))||decide (c.toNat=95)
def isDg(c:UInt8):Bool:=decide (48≤c.toNat)&&decide (c.toNat≤57)
def anC(c:UInt8):Bool:=isLt c||isDg c
def nameOk:List UInt8→Bool
 | []=>false
 | c::r=>isLt c&&r.all anC
def fName(s:List UInt8):Int:=if 12<s.length then 2 else if nameOk s=true then 0 else 1
theorem letter_ok(c:UInt8)(id:Nat):FnOk Tryd.prog 119 [.int .u8 c.toNat] [] id (.bool (isLt c)) []:=by
 refine fn_okc Tryd.func119 hcc119 (by decide) hcr119 (by simp[Tryd.ntmps119]) fun E hP hR hl hid=>?_
 simp only[cr119] at hR
 refine w_go 4000 ?_
 simp[cc119]
 refine⟨by grind,by grind,by grind,?_⟩
 rw[hR]; exact rt_end (by simp<;>rfl) [] trivial (end_pure (by simp; unfold isLt; rw[Bool.eq_iff_iff]; simp; omega) (by simp) (by simp))
theorem digit_ok(c:UInt8)(id:Nat):FnOk Tryd.prog 120 [.int .u8 c.toNat] [] id (.bool (isDg c)) []:=by
 refine fn_okc Tryd.func120 hcc120 (by decide) hcr120 (by simp[Tryd.ntmps120]) fun E hP hR hl hid=>?_
 simp only[cr120] at hR
 refine w_go 4000 ?_
 simp[cc120]
 rw[hR]; exact rt_end (by simp<;>rfl) [] trivial (end_pure (by simp; unfold isDg; rw[Bool.eq_iff_iff]; simp; omega) (by simp) (by simp))
theorem rLetter_ok(c:UInt8)(id:Nat):FnOk Tryd.prog 73 [.int .u8 c.toNat] [] id (.bool (isLt c)) []:=by
 have hw:IntKind.i64.wrap (c.toNat:Int)=(c.toNat:Int):=wrap64 (by have:=c.toNat_lt; omega)
 refine fn_okc Tryd.func73 hcc73 (by decide) hcr73 (by simp[Tryd.ntmps73]) fun E hP hR hl hid=>?_
 simp only[cr73] at hR
 refine w_go 4000 ?_
 simp[cc73,hw]
 (refine w_call hP rfl (between_ok _ _ _ _) (by simp[hw]) (by simp[hw]<;>rfl) ?_; refine w_go 4000 ?_; simp[hw])
 (refine w_callg hP (by simp[hw]) rfl (fun hc=>⟨between_ok _ _ _ _,by revert hc; simp[hw]; try grind,by simp[hw]⟩) ?_; refine w_go 4000 ?_; simp[hw])
 refine⟨by grind,by grind,?_⟩
 rw[hR]; exact rt_end (by simp<;>rfl) [] trivial (end_pure (by simp; unfold isLt; rw[Bool.eq_iff_iff]; simp; omega) (by simp) (by simp))
theorem rDigit_ok(c:UInt8)(id:Nat):FnOk Tryd.prog 43 [.int .u8 c.toNat] [] id (.bool (isDg c)) []:=by
 have hw:IntKind.i64.wrap (c.toNat:Int)=(c.toNat:Int):=wrap64 (by have:=c.toNat_lt; omega)
 refine fn_okc Tryd.func43 hcc43 (by decide) hcr43 (by simp[Tryd.ntmps43]) fun E hP hR hl hid=>?_
 simp only[cr43] at hR
 refine w_go 4000 ?_
 simp[cc43,hw]
 (refine w_call hP rfl (between_ok _ _ _ _) (by simp[hw]) (by simp[hw]<;>rfl) ?_; refine w_go 4000 ?_; simp[hw])
 rw[hR]; exact rt_end (by simp<;>rfl) [] trivial (end_pure (by simp; unfold isDg; rw[Bool.eq_iff_iff]; simp; omega) (by simp) (by simp))
def okN:List UInt8→Bool→Bool
 | [],_=>true
 | c::r,fst=>(isLt c||(!fst&&isDg c))&&okN r false
theorem okN_false(l:List UInt8):okN l false=l.all anC:=by
 induction l with
 | nil=>rfl
 | cons c r ih=>simp[okN,ih,anC]
theorem okN_name(s:List UInt8)(h:s≠[]):okN s true=nameOk s:=by
 cases s with
 | nil=>exact (h rfl).elim
 | cons c r=>simp[okN,nameOk,okN_false]
theorem Name_ok(s:List UInt8)(id:Nat):FnOk Tryd.prog 98 [.str s] [] id (.int .i64 (fName s)) []:=by
 refine fn_okc Tryd.func98 hcc98 (by decide) hcr98 (by simp[Tryd.ntmps98]) fun E hP hR hl hid=>?_
 simp only[cr98] at hR
 refine w_go 4000 ?_
 simp[cc98]
 refine goc (fun h=>?_) (fun h=>?_)
 ·simp
  rw[hR]; exact rt_end (by simp<;>rfl) [] trivial (end_pure (by simp; simp at h; unfold fName; rw[if_pos (by omega)]) (by simp) (by simp))
 ·simp
  have h12:¬12<s.length:=by simp at h; omega
  refine w_loop (X:=Nat) (fun i=>⟨[(0,true,.str s),(8,true,.int .i64 s.length),(9,true,.int .i64 i)],[],0⟩) (fun i=>i≤s.length∧okN (s.drop i) (decide (i=0))=okN s true) (fun i=>s.length - i) 0 ?_ ⟨by omega,rfl⟩ ?_
  ·have hrn:rnOk []:=by simp
   refine Conv.sub [] hrn ?_ ?_ ?_ ?_ ?_<;>(try simp)
  ·rintro i ⟨hi,hf⟩ p hp
   refine w_go 4000 ?_
   simp
   refine goc (fun h=>?_) (fun h=>?_)
   ·have h:=of_decide_eq_true h
    obtain⟨x,hx,hd⟩:=drop_cons h
    rw[hd] at hf
    simp only[okN] at hf
    have hi1:IntKind.i64.wrap ((i:Int)+1)=((i+1:Nat):Int):=wrap64 (by omega)
    simp[hx]
    refine⟨h,?_⟩
    (refine w_call hP rfl (letter_ok x _) (by simp[hx]) (by simp[hx]<;>rfl) ?_; refine w_go 4000 ?_; simp[hx])
    refine⟨fun h1 h2=>⟨⟨h1,h2⟩,h⟩,?_⟩
    (refine w_callg hP (by simp[hx]) rfl (fun hc=>⟨digit_ok x _,by revert hc; simp[hx]; try grind,by simp[hx]⟩) ?_; refine w_go 4000 ?_; simp[hx])
    refine⟨by grind,?_⟩
    have hb:(isLt x||(!decide (i=0)&&isDg x))=!(!isLt x&&(((i:Int)==0)||!isDg x)):=by
     have:decide (i=0)=((i:Int)==0):=by rw[Bool.eq_iff_iff]; simp
     rw[this]; simp
    rw[hb] at hf
    refine goc (fun h1=>?_) (fun h1=>?_)
    ·simp
     rw[h1] at hf
     simp at hf
     have hne:s≠[]:=by rintro rfl; simp at h
     rw[hR]; exact rt_end (by simp<;>rfl) [] trivial (end_pure (by simp; unfold fName; rw[if_neg h12,←okN_name s hne,hf]; rfl) (by simp) (by simp))
    ·simp
     rw[h1] at hf
     simp at hf
     refine hp _ (i+1) ⟨h,by simpa using hf⟩ (by omega) ?_
     have hrn:rnOk []:=by simp[hi1]
     refine Conv.sub [] hrn ?_ ?_ ?_ ?_ ?_<;>(try simp[hi1])
   ·have h:=of_decide_eq_false h
    simp
    rw[List.drop_of_length_le (by omega)] at hf
    simp only[okN] at hf
    refine goc (fun h=>?_) (fun h=>?_)
    ·simp
     rw[hR]; exact rt_end (by simp<;>rfl) [] trivial (end_pure (by simp; simp at h; subst h; rfl) (by simp) (by simp))
    ·simp
     have hne:s≠[]:=by simpa using h
     rw[hR]; exact rt_end (by simp<;>rfl) [] trivial (end_pure (by simp; unfold fName; rw[if_neg h12,←okN_name s hne,←hf]; rfl) (by simp) (by simp))
def okP(c:UInt8)(r:List UInt8)(i:Nat):Bool:=isLt c&&((c::r).take i).all anC
theorem okP_zero(c:UInt8)(r:List UInt8):okP c r 0=isLt c:=by simp[okP]
theorem okP_succ{c:UInt8}{r:List UInt8}{i:Nat}{x:UInt8}(hx:(c::r)[i]?=some x):okP c r (i+1)=(okP c r i&&(isLt x||isDg x)):=by
 have ht:(c::r).take (i+1)=(c::r).take i++[x]:=by rw[List.take_succ,hx]; rfl
 simp only[okP,ht,List.all_append,List.all_cons,List.all_nil,Bool.and_true,Bool.and_assoc,anC]
theorem okP_end{c:UInt8}{r:List UInt8}{i:Nat}(h:(c::r).length≤i):okP c r i=nameOk (c::r):=by
 unfold okP nameOk
 rw[List.take_of_length_le h,List.all_cons]
 cases hc:isLt c<;>simp[anC,hc]
theorem CheckName_ok(s:List UInt8)(id:Nat):FnOk Tryd.prog 40 [.str s] [] id (.int .i64 (fName s)) []:=by
 by_cases h12:12<s.length
 ·refine fn_okc Tryd.func40 hcc40 (by decide) hcr40 (by simp[Tryd.ntmps40]) fun E hP hR hl hid=>?_
  simp only[cr40] at hR
  refine w_go 4000 ?_
  simp[cc40]
  refine goc_true (by simp; omega) ?_
  simp
  rw[hR]; exact rt_end (by simp<;>rfl) [] trivial (end_pure (by simp; unfold fName; rw[if_pos h12]) (by simp) (by simp))
 cases s with
 | nil =>
  refine fn_okc Tryd.func40 hcc40 (by decide) hcr40 (by simp[Tryd.ntmps40]) fun E hP hR hl hid=>?_
  simp only[cr40] at hR
  refine w_go 4000 ?_
  simp[cc40]
  refine w_split (.bool false) (by simp) (fun hg=>by simp at hg) (fun _=>?_)
  refine w_go 4000 ?_
  simp
  refine w_loop (X:=Nat) (fun i=>⟨[(0,true,.str []),(3,true,.bool false),(4,true,.int .i64 0)],[],0⟩) (fun i=>i=0) (fun i=>i) 0 ?_ rfl ?_
  ·have hrn:rnOk []:=by simp
   refine Conv.sub [] hrn ?_ ?_ ?_ ?_ ?_<;>(try simp)
  ·rintro i rfl p hp
   refine w_go 4000 ?_
   simp
   rw[hR]; exact rt_end (by simp<;>rfl) [] trivial (end_pure (by simp; rfl) (by simp) (by simp))
 | cons c r =>
  refine fn_okc Tryd.func40 hcc40 (by decide) hcr40 (by simp[Tryd.ntmps40]) fun E hP hR hl hid=>?_
  simp only[cr40] at hR
  refine w_go 4000 ?_
  simp[cc40]
  refine goc_false (by simp at h12 ⊢; omega) ?_
  simp
  (refine w_callg hP (by simp) rfl (fun hc=>⟨rLetter_ok c _,by revert hc; simp; try grind,by simp⟩) ?_; refine w_go 4000 ?_; simp)
  refine w_loop (X:=Nat) (fun i=>⟨[(0,true,.str (c::r)),(3,true,.bool (okP c r i)),(4,true,.int .i64 i)],[],0⟩) (fun i=>i≤(c::r).length) (fun i=>(c::r).length - i) 0 ?_ (by simp) ?_
  ·have hrn:rnOk []:=by simp[okP_zero]
   refine Conv.sub [] hrn ?_ ?_ ?_ ?_ ?_<;>(try simp[okP_zero])
  ·rintro i hi p hp
   refine w_go 4000 ?_
   simp
   refine goc (fun h=>?_) (fun h=>?_)
   ·have h:=of_decide_eq_true h
    obtain⟨x,hx,hd⟩:=drop_cons (l:=c::r) (i:=i) (by simp; omega)
    have ht:=okP_succ hx
    have hi1:IntKind.i64.wrap ((i:Int)+1)=((i+1:Nat):Int):=wrap64 (by simp at h12; omega)
    simp[hx]
    refine⟨fun hh=>⟨hh,by omega⟩,?_⟩
    (refine w_callg hP (by simp[hx]) rfl (fun hc=>⟨rLetter_ok x _,by revert hc; simp[hx]; try grind,by simp[hx]⟩) ?_; refine w_go 4000 ?_; simp[hx])
    refine⟨fun h1 h2=>⟨⟨h1,h2⟩,by omega⟩,?_⟩
    (refine w_callg hP (by simp[hx]) rfl (fun hc=>⟨rDigit_ok x _,by revert hc; simp[hx]; try grind,by simp[hx]⟩) ?_; refine w_go 4000 ?_; simp[hx])
    refine⟨by grind,hp _ (i+1) (by simp; omega) (by simp; omega) ?_⟩
    have hrn:rnOk []:=by simp[hi1,ht]
    refine Conv.sub [] hrn ?_ ?_ ?_ ?_ ?_<;>(try simp[hi1,ht])
   ·have h:=of_decide_eq_false h
    simp
    have hn:=okP_end (c:=c) (r:=r) (i:=i) (by simp; omega)
    refine goc (fun h1=>?_) (fun h1=>?_)
    ·simp
     rw[hR]; exact rt_end (by simp<;>rfl) [] trivial (end_pure (by simp; unfold fName; rw[if_neg h12,←hn]; simp at h1; rw[h1]; rfl) (by simp) (by simp))
    ·simp
     rw[hR]; exact rt_end (by simp<;>rfl) [] trivial (end_pure (by simp; unfold fName; rw[if_neg h12,←hn]; simp at h1; rw[h1]; rfl) (by simp) (by simp))
end Go.Am
namespace Go.Am
set_option linter.all false
open Go Go.RowKit Go.Proofs
set_option maxRecDepth 100000
set_option linter.all false
def tId:List UInt8:=[105,100]
def firstIx{α:Type}(f:Nat→α→Int):List α→Nat→Int
 | [],_=>0
 | x::l,i=>if f i x≠0 then f i x else firstIx f l (i+1)
end Go.Am
namespace Go.Am
set_option linter.all false
open Go Go.RowKit Go.Proofs
set_option maxRecDepth 100000
set_option linter.all false
end Go.Am
