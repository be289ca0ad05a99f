/- Parts of the proof: an abstract machine for Go functions, and what functions of the program give back (Sc1, Sc2, Sc3, Sc4). No condition. -/
import Derived.Test.YtgfmjhmjnnpcgaaGreatDoorCcB
import Derived.Test.YtgfmjhmjnnpcgaaGreatDoorXF
import Derived.Test.YtgfmjhmjnnpcgaaGreatDoorXD
namespace Go.Am
set_option linter.all false
open Go Go.RowKit Go.Proofs
set_option maxRecDepth 100000
set_option linter.all false
structure Fd where
 name:List UInt8
 kind:Int
 of:List UInt8
structure Ty where
 name:List UInt8
 fields:List Fd
def eFd(f:Fd):AV:=.agg [.str f.name,.int .i64 f.kind,.str f.of]
def eTy(t:Ty):AV:=.agg [.str t.name,.sl (t.fields.map eFd)]
theorem pure_eFd(f:Fd):(eFd f).pureB=true:=rfl
@[simp] theorem pure_fds (l:List Fd):pureL (l.map eFd)=true:=pureL_map pure_eFd l
@[simp] theorem names_fds (S:Nat→Prop) (l:List Fd):namesL S (l.map eFd):=namesL_pure _ (pure_fds l)
theorem pure_eTy(t:Ty):(eTy t).pureB=true:=by simp[eTy]
@[simp] theorem pure_tys (l:List Ty):pureL (l.map eTy)=true:=pureL_map pure_eTy l
@[simp] theorem names_tys (S:Nat→Prop) (l:List Ty):namesL S (l.map eTy):=namesL_pure _ (pure_tys l)
@[simp] theorem ren_tys (R:Rn) (S:Nat→Prop) (l:List Ty):RenL R S (l.map eTy) (l.map eTy):=renL_pure rfl (pure_tys l)
def findJ{α:Type}(p:α→Bool):List α→Nat→Int
 | [],_=>-1
 | x::l,i=>if p x then (i:Int) else findJ p l (i+1)
theorem findJ_any{α:Type}(p:α→Bool):∀(l:List α) (i:Nat),decide (0≤findJ p l i)=l.any p
 | [],i=>by simp[findJ]
 | x::l,i=>by
  simp only[findJ,List.any_cons]
  by_cases hx:p x=true
  ·simp[hx]
  ·simp[hx,findJ_any p l (i+1)]
theorem FieldOf1_ok(f:Fd)(j:Nat)(name:List UInt8)(id:Nat):FnOk Tryz.prog 139 [eFd f,.ptr j 0 0] [(j,⟨[.str name],.str name,false,false⟩)] id (.bool (f.name==name)) []:=by
 unfold eFd
 refine fn_okc Tryz.func139 hcc139 (by decide) hcr139 (by simp[Tryz.ntmps139]) fun E hP hR hl hid=>?_
 simp only[cr139] at hR
 refine w_go 4000 ?_
 simp[cc139]
 have hj:=hl (j,_) (List.mem_cons_self ..)
 simp only at hj
 have j1:=lf hj
 simp[j1]
 have hrn:rnOk []:=by simp[j1,findJ,idO hid]
 rw[hR]
 refine rt_end (by simp<;>rfl) [] hrn ⟨?_,?_,?_,?_,?_,?_⟩<;>(try simp[j1,findJ,idO hid])
theorem Find1_ok(t:Ty)(j:Nat)(name:List UInt8)(id:Nat):FnOk Tryz.prog 119 [eTy t,.ptr j 0 0] [(j,⟨[.str name],.str name,false,false⟩)] id (.bool (t.name==name)) []:=by
 unfold eTy
 refine fn_okc Tryz.func119 hcc119 (by decide) hcr119 (by simp[Tryz.ntmps119]) fun E hP hR hl hid=>?_
 simp only[cr119] at hR
 refine w_go 4000 ?_
 simp[cc119]
 have hj:=hl (j,_) (List.mem_cons_self ..)
 simp only at hj
 have j1:=lf hj
 simp[j1]
 have hrn:rnOk []:=by simp[j1,findJ,idO hid]
 rw[hR]
 refine rt_end (by simp<;>rfl) [] hrn ⟨?_,?_,?_,?_,?_,?_⟩<;>(try simp[j1,findJ,idO hid])
theorem IndexFd_ok(l:List Fd)(j:Nat)(name:List UInt8)(id:Nat)(hl8:l.length<9223372036854775807):FnOk Tryz.prog 138 [.sl (l.map eFd),.fn 139 [.ptr j 0 0]] [(j,⟨[.str name],.str name,false,false⟩)] id (.int .i64 (findJ (fun x=>x.name==name) l 0)) []:=by
 refine fn_okc Tryz.func138 hcc138 (by decide) hcr138 (by simp[Tryz.ntmps138]) fun E hP hR hl hid=>?_
 simp only[cr138] at hR
 refine w_go 4000 ?_
 simp[cc138]
 have hj:=hl (j,_) (List.mem_cons_self ..)
 simp only at hj
 have j1:=lf hj
 refine w_loop (X:=Nat) (fun i=>⟨[(0,true,.sl (l.map eFd)),(1,true,.fn 139 [.ptr j 0 0]),(7,true,.int .i64 l.length),(8,true,.int .i64 i)],[(j,some (⟨[.str name],.str name,false,false⟩))],0⟩) (fun i=>i≤l.length∧findJ (fun x=>x.name==name) (l.drop i) i=findJ (fun x=>x.name==name) l 0) (fun i=>l.length - i) 0 ?_ ⟨by omega,rfl⟩ ?_
 ·have hrn:rnOk []:=by simp[j1]
  refine Conv.sub [] hrn ?_ ?_ ?_ ?_ ?_<;>(try simp[j1])
 ·rintro i ⟨hi,hf⟩ p hp
  refine w_go 4000 ?_
  simp
  refine goc (fun h=>?_) (fun h=>?_)
  ·have h:=of_decide_eq_true h
   obtain⟨x,hx,hd⟩:=drop_cons h
   have hcl:=FieldOf1_ok x j name
   simp only[eFd] at hcl
   rw[hd] at hf
   simp only[findJ] at hf
   have hi1:IntKind.i64.wrap ((i:Int)+1)=((i+1:Nat):Int):=wrap64 (by omega)
   simp[hx,eFd]
   refine⟨h,?_⟩
   refine w_callv hP rfl rfl (hcl _) (by simp) (by simp[j1]<;>rfl) ?_
   refine w_go 4000 ?_
   simp[j1]
   refine goc (fun h1=>?_) (fun h1=>?_)
   ·simp[j1]
    rw[if_pos h1] at hf
    rw[←hf] at hR
    have hrn:rnOk []:=by simp[j1,findJ,idO hid]
    rw[hR]
    refine rt_end (by simp<;>rfl) [] hrn ⟨?_,?_,?_,?_,?_,?_⟩<;>(try simp[j1,findJ,idO hid])
   ·simp[j1]
    rw[if_neg (by simpa using h1)] at hf
    refine hp _ (i+1) ⟨h,hf⟩ (by omega) ?_
    have hrn:rnOk []:=by simp[hi1,j1]
    refine Conv.sub [] hrn ?_ ?_ ?_ ?_ ?_<;>(try simp[hi1,j1])
  ·have h:=of_decide_eq_false h
   simp
   rw[List.drop_of_length_le (by omega)] at hf
   rw[←hf] at hR
   have hrn:rnOk []:=by simp[j1,findJ,idO hid]
   rw[hR]
   refine rt_end (by simp<;>rfl) [] hrn ⟨?_,?_,?_,?_,?_,?_⟩<;>(try simp[j1,findJ,idO hid])
theorem IndexTy_ok(l:List Ty)(j:Nat)(name:List UInt8)(id:Nat)(hl8:l.length<9223372036854775807):FnOk Tryz.prog 118 [.sl (l.map eTy),.fn 119 [.ptr j 0 0]] [(j,⟨[.str name],.str name,false,false⟩)] id (.int .i64 (findJ (fun x=>x.name==name) l 0)) []:=by
 refine fn_okc Tryz.func118 hcc118 (by decide) hcr118 (by simp[Tryz.ntmps118]) fun E hP hR hl hid=>?_
 simp only[cr118] at hR
 refine w_go 4000 ?_
 simp[cc118]
 have hj:=hl (j,_) (List.mem_cons_self ..)
 simp only at hj
 have j1:=lf hj
 refine w_loop (X:=Nat) (fun i=>⟨[(0,true,.sl (l.map eTy)),(1,true,.fn 119 [.ptr j 0 0]),(7,true,.int .i64 l.length),(8,true,.int .i64 i)],[(j,some (⟨[.str name],.str name,false,false⟩))],0⟩) (fun i=>i≤l.length∧findJ (fun x=>x.name==name) (l.drop i) i=findJ (fun x=>x.name==name) l 0) (fun i=>l.length - i) 0 ?_ ⟨by omega,rfl⟩ ?_
 ·have hrn:rnOk []:=by simp[j1]
  refine Conv.sub [] hrn ?_ ?_ ?_ ?_ ?_<;>(try simp[j1])
 ·rintro i ⟨hi,hf⟩ p hp
  refine w_go 4000 ?_
  simp
  refine goc (fun h=>?_) (fun h=>?_)
  ·have h:=of_decide_eq_true h
   obtain⟨x,hx,hd⟩:=drop_cons h
   have hcl:=Find1_ok x j name
   simp only[eTy] at hcl
   rw[hd] at hf
   simp only[findJ] at hf
   have hi1:IntKind.i64.wrap ((i:Int)+1)=((i+1:Nat):Int):=wrap64 (by omega)
   simp[hx,eTy]
   refine⟨h,?_⟩
   refine w_callv hP rfl rfl (hcl _) (by simp) (by simp[j1]<;>rfl) ?_
   refine w_go 4000 ?_
   simp[j1]
   refine goc (fun h1=>?_) (fun h1=>?_)
   ·simp[j1]
    rw[if_pos h1] at hf
    rw[←hf] at hR
    have hrn:rnOk []:=by simp[j1,findJ,idO hid]
    rw[hR]
    refine rt_end (by simp<;>rfl) [] hrn ⟨?_,?_,?_,?_,?_,?_⟩<;>(try simp[j1,findJ,idO hid])
   ·simp[j1]
    rw[if_neg (by simpa using h1)] at hf
    refine hp _ (i+1) ⟨h,hf⟩ (by omega) ?_
    have hrn:rnOk []:=by simp[hi1,j1]
    refine Conv.sub [] hrn ?_ ?_ ?_ ?_ ?_<;>(try simp[hi1,j1])
  ·have h:=of_decide_eq_false h
   simp
   rw[List.drop_of_length_le (by omega)] at hf
   rw[←hf] at hR
   have hrn:rnOk []:=by simp[j1,findJ,idO hid]
   rw[hR]
   refine rt_end (by simp<;>rfl) [] hrn ⟨?_,?_,?_,?_,?_,?_⟩<;>(try simp[j1,findJ,idO hid])
theorem FieldOf_ok(l:List Fd)(n name:List UInt8)(id:Nat)(hl8:l.length<9223372036854775807):FnOk Tryz.prog 120 [.agg [.str n,.sl (l.map eFd)],.str name] [] id (.int .i64 (findJ (fun x=>x.name==name) l 0)) []:=by
 refine fn_okc Tryz.func120 hcc120 (by decide) hcr120 (by simp[Tryz.ntmps120]) fun E hP hR hl hid=>?_
 simp only[cr120] at hR
 refine w_go 4000 ?_
 simp[cc120]
 (refine w_call hP rfl (IndexFd_ok l (E.n0+1024) name _ hl8) (by simp) (by simp<;>rfl) ?_; refine w_go 4000 ?_; simp)
 rw[hR]; exact rt_end (by simp<;>rfl) [] trivial (end_pure (by simp) (by simp) (by simp))
theorem Find_ok(l:List Ty)(name:List UInt8)(id:Nat)(hl8:l.length<9223372036854775807):FnOk Tryz.prog 81 [.sl (l.map eTy),.str name] [] id (.int .i64 (findJ (fun x=>x.name==name) l 0)) []:=by
 refine fn_okc Tryz.func81 hcc81 (by decide) hcr81 (by simp[Tryz.ntmps81]) fun E hP hR hl hid=>?_
 simp only[cr81] at hR
 refine w_go 4000 ?_
 simp[cc81]
 (refine w_call hP rfl (IndexTy_ok l E.n0 name _ hl8) (by simp) (by simp<;>rfl) ?_; refine w_go 4000 ?_; simp)
 rw[hR]; exact rt_end (by simp<;>rfl) [] trivial (end_pure (by simp) (by simp) (by simp))
end Go.Am
namespace Go.Am
set_option linter.all false
open Go Go.RowKit Go.Proofs
set_option maxRecDepth 100000
set_option linter.all false
def isLt(c:UInt8):Bool:=(decide (97≤c.toNat)&&decide (c.toNat≤122))||(decide (65≤c.toNat)&&decide (c.toNat≤90))||decide (c.toNat=95)
def isDg(c:UInt8):Bool:=decide (48≤c.toNat)&&decide (c.toNat≤57)
def anC(c:UInt8):Bool:=isLt c||isDg c
def nameOk:List UInt8→Bool
 | []=>false
 | c::r=>isLt c&&r.all anC
def fName(s:List UInt8):Int:=if 12<s.length then 2 else if nameOk s=true then 0 else 1
theorem letter_ok(c:UInt8)(id:Nat):FnOk Tryz.prog 105 [.int .u8 c.toNat] [] id (.bool (isLt c)) []:=by
 refine fn_okc Tryz.func105 hcc105 (by decide) hcr105 (by simp[Tryz.ntmps105]) fun E hP hR hl hid=>?_
 simp only[cr105] at hR
 refine w_go 4000 ?_
 simp[cc105]
 refine⟨by grind,by grind,by grind,?_⟩
 rw[hR]; exact rt_end (by simp<;>rfl) [] trivial (end_pure (by simp; unfold isLt; rw[Bool.eq_iff_iff]; simp; omega) (by simp) (by simp))
theorem digit_ok(c:UInt8)(id:Nat):FnOk Tryz.prog 107 [.int .u8 c.toNat] [] id (.bool (isDg c)) []:=by
 refine fn_okc Tryz.func107 hcc107 (by decide) hcr107 (by simp[Tryz.ntmps107]) fun E hP hR hl hid=>?_
 simp only[cr107] at hR
 refine w_go 4000 ?_
 simp[cc107]
 rw[hR]; exact rt_end (by simp<;>rfl) [] trivial (end_pure (by simp; unfold isDg; rw[Bool.eq_iff_iff]; simp; omega) (by simp) (by simp))
theorem rLetter_ok(c:UInt8)(id:Nat):FnOk Tryz.prog 40 [.int .u8 c.toNat] [] id (.bool (isLt c)) []:=by
 have hw:IntKind.i64.wrap (c.toNat:Int)=(c.toNat:Int):=wrap64 (by have:=c.toNat_lt; omega)
 refine fn_okc Tryz.func40 hcc40 (by decide) hcr40 (by simp[Tryz.ntmps40]) fun E hP hR hl hid=>?_
 simp only[cr40] at hR
 refine w_go 4000 ?_
 simp[cc40,hw]
 (refine w_call hP rfl (between_ok _ _ _ _) (by simp[hw]) (by simp[hw]<;>rfl) ?_; refine w_go 4000 ?_; simp[hw])
 (refine w_callg hP (by simp[hw]) rfl (fun hc=>⟨between_ok _ _ _ _,by revert hc; simp[hw]; try grind,by simp[hw]⟩) ?_; refine w_go 4000 ?_; simp[hw])
 refine⟨by grind,by grind,?_⟩
 rw[hR]; exact rt_end (by simp<;>rfl) [] trivial (end_pure (by simp; unfold isLt; rw[Bool.eq_iff_iff]; simp; omega) (by simp) (by simp))
theorem rDigit_ok(c:UInt8)(id:Nat):FnOk Tryz.prog 41 [.int .u8 c.toNat] [] id (.bool (isDg c)) []:=by
 have hw:IntKind.i64.wrap (c.toNat:Int)=(c.toNat:Int):=wrap64 (by have:=c.toNat_lt; omega)
 refine fn_okc Tryz.func41 hcc41 (by decide) hcr41 (by simp[Tryz.ntmps41]) fun E hP hR hl hid=>?_
 simp only[cr41] at hR
 refine w_go 4000 ?_
 simp[cc41,hw]
 (refine w_call hP rfl (between_ok _ _ _ _) (by simp[hw]) (by simp[hw]<;>rfl) ?_; refine w_go 4000 ?_; simp[hw])
 rw[hR]; exact rt_end (by simp<;>rfl) [] trivial (end_pure (by simp; unfold isDg; rw[Bool.eq_iff_iff]; simp; omega) (by simp) (by simp))
def okN:List UInt8→Bool→Bool
 | [],_=>true
 | c::r,fst=>(isLt c||(!fst&&isDg c))&&okN r false
theorem okN_false(l:List UInt8):okN l false=l.all anC:=by
 induction l with
 | nil=>rfl
 | cons c r ih=>simp[okN,ih,anC]
theorem okN_name(s:List UInt8)(h:s≠[]):okN s true=nameOk s:=by
 cases s with
 | nil=>exact (h rfl).elim
 | cons c r=>simp[okN,nameOk,okN_false]
theorem Name_ok(s:List UInt8)(id:Nat):FnOk Tryz.prog 78 [.str s] [] id (.int .i64 (fName s)) []:=by
 refine fn_okc Tryz.func78 hcc78 (by decide) hcr78 (by simp[Tryz.ntmps78]) fun E hP hR hl hid=>?_
 simp only[cr78] at hR
 refine w_go 4000 ?_
 simp[cc78]
 refine goc (fun h=>?_) (fun h=>?_)
 ·simp
  rw[hR]; exact rt_end (by simp<;>rfl) [] trivial (end_pure (by simp; simp at h; unfold fName; rw[if_pos (by omega)]) (by simp) (by simp))
 ·simp
  have h12:¬12<s.length:=by simp at h; omega
  refine w_loop (X:=Nat) (fun i=>⟨[(0,true,.str s),(8,true,.int .i64 s.length),(9,true,.int .i64 i)],[],0⟩) (fun i=>i≤s.length∧okN (s.drop i) (decide (i=0))=okN s true) (fun i=>s.length - i) 0 ?_ ⟨by omega,rfl⟩ ?_
  ·have hrn:rnOk []:=by simp
   refine Conv.sub [] hrn ?_ ?_ ?_ ?_ ?_<;>(try simp)
  ·rintro i ⟨hi,hf⟩ p hp
   refine w_go 4000 ?_
   simp
   refine goc (fun h=>?_) (fun h=>?_)
   ·have h:=of_decide_eq_true h
    obtain⟨x,hx,hd⟩:=drop_cons h
    rw[hd] at hf
    simp only[okN] at hf
    have hi1:IntKind.i64.wrap ((i:Int)+1)=((i+1:Nat):Int):=wrap64 (by omega)
    simp[hx]
    refine⟨h,?_⟩
    (refine w_call hP rfl (letter_ok x _) (by simp[hx]) (by simp[hx]<;>rfl) ?_; refine w_go 4000 ?_; simp[hx])
    refine⟨fun h1 h2=>⟨⟨h1,h2⟩,h⟩,?_⟩
    (refine w_callg hP (by simp[hx]) rfl (fun hc=>⟨digit_ok x _,by revert hc; simp[hx]; try grind,by simp[hx]⟩) ?_; refine w_go 4000 ?_; simp[hx])
    refine⟨by grind,?_⟩
    have hb:(isLt x||(!decide (i=0)&&isDg x))=!(!isLt x&&(((i:Int)==0)||!isDg x)):=by
     have:decide (i=0)=((i:Int)==0):=by rw[Bool.eq_iff_iff]; simp
     rw[this]; simp
    rw[hb] at hf
    refine goc (fun h1=>?_) (fun h1=>?_)
    ·simp
     rw[h1] at hf
     simp at hf
     have hne:s≠[]:=by rintro rfl; simp at h
     rw[hR]; exact rt_end (by simp<;>rfl) [] trivial (end_pure (by simp; unfold fName; rw[if_neg h12,←okN_name s hne,hf]; rfl) (by simp) (by simp))
    ·simp
     rw[h1] at hf
     simp at hf
     refine hp _ (i+1) ⟨h,by simpa using hf⟩ (by omega) ?_
     have hrn:rnOk []:=by simp[hi1]
     refine Conv.sub [] hrn ?_ ?_ ?_ ?_ ?_<;>(try simp[hi1])
   ·have h:=of_decide_eq_false h
    simp
    rw[List.drop_of_length_le (by omega)] at hf
    simp only[okN] at hf
    refine goc (fun h=>?_) (fun h=>?_)
    ·simp
     rw[hR]; exact rt_end (by simp<;>rfl) [] trivial (end_pure (by simp; simp at h; subst h; rfl) (by simp) (by simp))
    ·simp
     have hne:s≠[]:=by simpa using h
     rw[hR]; exact rt_end (by simp<;>rfl) [] trivial (end_pure (by simp; unfold fName; rw[if_neg h12,←okN_name s hne,←hf]; rfl) (by simp) (by simp))
def okP(c:UInt8)(r:List UInt8)(i:Nat):Bool:=isLt c&&((c::r).take i).all anC
theorem okP_zero(c:UInt8)(r:List UInt8):okP c r 0=isLt c:=by simp[okP]
theorem okP_succ{c:UInt8}{r:List UInt8}{i:Nat}{x:UInt8}(hx:(c::r)[i]?=some x):okP c r (i+1)=(okP c r i&&(isLt x||isDg x)):=by
 have ht:(c::r).take (i+1)=(c::r).take i++[x]:=by rw[List.take_succ,hx]; rfl
 simp only[okP,ht,List.all_append,List.all_cons,List.all_nil,Bool.and_true,Bool.and_assoc,anC]
theorem okP_end{c:UInt8}{r:List UInt8}{i:Nat}(h:(c::r).length≤i):okP c r i=nameOk (c::r):=by
 unfold okP nameOk
 rw[List.take_of_length_le h,List.all_cons]
 cases hc:isLt c<;>simp[anC,hc]
theorem CheckName_ok(s:List UInt8)(id:Nat):FnOk Tryz.prog 45 [.str s] [] id (.int .i64 (fName s)) []:=by
 by_cases h12:12<s.length
 ·refine fn_okc Tryz.func45 hcc45 (by decide) hcr45 (by simp[Tryz.ntmps45]) fun E hP hR hl hid=>?_
  simp only[cr45] at hR
  refine w_go 4000 ?_
  simp[cc45]
  refine goc_true (by simp; omega) ?_
  simp
  rw[hR]; exact rt_end (by simp<;>rfl) [] trivial (end_pure (by simp; unfold fName; rw[if_pos h12]) (by simp) (by simp))
 cases s with
 | nil =>
  refine fn_okc Tryz.func45 hcc45 (by decide) hcr45 (by simp[Tryz.ntmps45]) fun E hP hR hl hid=>?_
  simp only[cr45] at hR
  refine w_go 4000 ?_
  simp[cc45]
  refine w_split (.bool false) (by simp) (fun hg=>by simp at hg) (fun _=>?_)
  refine w_go 4000 ?_
  simp
  refine w_loop (X:=Nat) (fun i=>⟨[(0,true,.str []),(3,true,.bool false),(4,true,.int .i64 0)],[],0⟩) (fun i=>i=0) (fun i=>i) 0 ?_ rfl ?_
  ·have hrn:rnOk []:=by simp
   refine Conv.sub [] hrn ?_ ?_ ?_ ?_ ?_<;>(try simp)
  ·rintro i rfl p hp
   refine w_go 4000 ?_
   simp
   rw[hR]; exact rt_end (by simp<;>rfl) [] trivial (end_pure (by simp; rfl) (by simp) (by simp))
 | cons c r =>
  refine fn_okc Tryz.func45 hcc45 (by decide) hcr45 (by simp[Tryz.ntmps45]) fun E hP hR hl hid=>?_
  simp only[cr45] at hR
  refine w_go 4000 ?_
  simp[cc45]
  refine goc_false (by simp at h12 ⊢; omega) ?_
  simp
  (refine w_callg hP (by simp) rfl (fun hc=>⟨rLetter_ok c _,by revert hc; simp; try grind,by simp⟩) ?_; refine w_go 4000 ?_; simp)
  refine w_loop (X:=Nat) (fun i=>⟨[(0,true,.str (c::r)),(3,true,.bool (okP c r i)),(4,true,.int .i64 i)],[],0⟩) (fun i=>i≤(c::r).length) (fun i=>(c::r).length - i) 0 ?_ (by simp) ?_
  ·have hrn:rnOk []:=by simp[okP_zero]
   refine Conv.sub [] hrn ?_ ?_ ?_ ?_ ?_<;>(try simp[okP_zero])
  ·rintro i hi p hp
   refine w_go 4000 ?_
   simp
   refine goc (fun h=>?_) (fun h=>?_)
   ·have h:=of_decide_eq_true h
    obtain⟨x,hx,hd⟩:=drop_cons (l:=c::r) (i:=i) (by simp; omega)
    have ht:=okP_succ hx
    have hi1:IntKind.i64.wrap ((i:Int)+1)=((i+1:Nat):Int):=wrap64 (by simp at h12; omega)
    simp[hx]
    refine⟨fun hh=>⟨hh,by omega⟩,?_⟩
    (refine w_callg hP (by simp[hx]) rfl (fun hc=>⟨rLetter_ok x _,by revert hc; simp[hx]; try grind,by simp[hx]⟩) ?_; refine w_go 4000 ?_; simp[hx])
    refine⟨fun h1 h2=>⟨⟨h1,h2⟩,by omega⟩,?_⟩
    (refine w_callg hP (by simp[hx]) rfl (fun hc=>⟨rDigit_ok x _,by revert hc; simp[hx]; try grind,by simp[hx]⟩) ?_; refine w_go 4000 ?_; simp[hx])
    refine⟨by grind,hp _ (i+1) (by simp; omega) (by simp; omega) ?_⟩
    have hrn:rnOk []:=by simp[hi1,ht]
    refine Conv.sub [] hrn ?_ ?_ ?_ ?_ ?_<;>(try simp[hi1,ht])
   ·have h:=of_decide_eq_false h
    simp
    have hn:=okP_end (c:=c) (r:=r) (i:=i) (by simp; omega)
    refine goc (fun h1=>?_) (fun h1=>?_)
    ·simp
     rw[hR]; exact rt_end (by simp<;>rfl) [] trivial (end_pure (by simp; unfold fName; rw[if_neg h12,←hn]; simp at h1; rw[h1]; rfl) (by simp) (by simp))
    ·simp
     rw[hR]; exact rt_end (by simp<;>rfl) [] trivial (end_pure (by simp; unfold fName; rw[if_neg h12,←hn]; simp at h1; rw[h1]; rfl) (by simp) (by simp))
end Go.Am
namespace Go.Am
set_option linter.all false
open Go Go.RowKit Go.Proofs
set_option maxRecDepth 100000
set_option linter.all false
def tId:List UInt8:=[105,100]
def tNumber:List UInt8:=[78,117,109,98,101,114]
def tText:List UInt8:=[84,101,120,116]
def hasF(l:List Fd)(n:List UInt8):Bool:=l.any fun x=>x.name==n
def hasT(l:List Ty)(n:List UInt8):Bool:=l.any fun x=>x.name==n
def fField(l:List Ty)(f:Fd)(ahead:List Fd):Int :=
 if fName f.name≠0 then fName f.name else if f.name=tId then 4 else if hasF ahead f.name=true then 6
 else if ¬(1≤f.kind∧f.kind≤4) then 7 else if (f.kind=1∨f.kind=2)∧f.of≠[] then 1
 else if ¬(f.kind=1∨f.kind=2)∧¬hasT l f.of=true then 5 else 0
def firstIx{α:Type}(f:Nat→α→Int):List α→Nat→Int
 | [],_=>0
 | x::l,i=>if f i x≠0 then f i x else firstIx f l (i+1)
def fType(l:List Ty)(i:Nat)(t:Ty):Int :=
 if fName t.name≠0 then fName t.name else if t.name=tNumber∨t.name=tText then 4 else if hasT (l.take i) t.name=true then 6
 else if t.fields=[] then 5 else if 6<t.fields.length then 2 else firstIx (fun k f=>fField l f (t.fields.take k)) t.fields 0
def fCheckT(l:List Ty):Int :=
 if l=[] then 5 else if 5<l.length then 2 else firstIx (fun i t=>fType l i t) l 0
theorem findF_lt(l:List Fd)(n:List UInt8):decide (0≤findJ (fun x=>x.name==n) l 0)=hasF l n:=findJ_any _ l 0
theorem findT_lt(l:List Ty)(n:List UInt8):decide (0≤findJ (fun x=>x.name==n) l 0)=hasT l n:=findJ_any _ l 0
theorem findT_neg(l:List Ty)(n:List UInt8):decide (findJ (fun x=>x.name==n) l 0<0)=!hasT l n:=by
 rw[←findT_lt,Bool.eq_iff_iff]; simp
set_option maxHeartbeats 1000000 in
theorem checkField_ok(l:List Ty)(f:Fd)(ahead:List Fd)(id:Nat)(hl:l.length≤1000000)(ha:ahead.length≤1000000):FnOk Tryz.prog 82 [.sl (l.map eTy),eFd f,.sl (ahead.map eFd)] [] id (.int .i64 (fField l f ahead)) []:=by
 have hF:=fun n=>FieldOf_ok ahead [] n
 simp only[eFd]
 refine fn_okc Tryz.func82 hcc82 (by decide) hcr82 (by simp[Tryz.ntmps82]) fun E hP hR hl hid=>?_
 simp only[cr82] at hR
 refine w_go 4000 ?_
 simp[cc82]
 (refine w_call hP rfl (Name_ok _ _) (by simp) (by simp<;>rfl) ?_; refine w_go 4000 ?_; simp)
 refine goc (fun h=>?_) (fun h=>?_)<;>simp
 ·rw[hR]; exact rt_end (by simp<;>rfl) [] trivial (end_pure (by simp; simp at h; unfold fField; rw[if_pos h]) (by simp) (by simp))
 have h1:¬fName f.name≠0:=by simpa using h
 refine goc (fun h=>?_) (fun h=>?_)<;>simp
 ·rw[hR]; exact rt_end (by simp<;>rfl) [] trivial (end_pure (by simp; simp at h; unfold fField; rw[if_neg h1,if_pos (show f.name=tId from h)]) (by simp) (by simp))
 have h2:¬f.name=tId:=by simpa [tId] using h
 (refine w_call hP rfl (hF _ _ (by omega)) (by simp[findF_lt]) (by simp[findF_lt]<;>rfl) ?_; refine w_go 4000 ?_; simp[findF_lt])
 refine goc (fun h=>?_) (fun h=>?_)<;>simp
 ·rw[hR]; exact rt_end (by simp<;>rfl) [] trivial (end_pure (by simp; unfold fField; rw[if_neg h1,if_neg h2,if_pos h]) (by simp) (by simp))
 have h3:¬hasF ahead f.name=true:=by simpa using h
 refine goc (fun h=>?_) (fun h=>?_)<;>simp
 ·rw[hR]; exact rt_end (by simp<;>rfl) [] trivial (end_pure (by simp; simp at h; unfold fField; rw[if_neg h1,if_neg h2,if_neg h3,if_pos (by omega)]) (by simp) (by simp))
 have h4:¬¬(1≤f.kind∧f.kind≤4):=by simp at h; omega
 refine goc (fun h=>?_) (fun h=>?_)<;>simp
 ·rw[hR]; exact rt_end (by simp<;>rfl) [] trivial (end_pure (by simp; simp at h; unfold fField; rw[if_neg h1,if_neg h2,if_neg h3,if_neg h4,if_pos h]) (by simp) (by simp))
 have h5:¬((f.kind=1∨f.kind=2)∧f.of≠[]):=by simpa using h
 (repeat (refine And.intro (by first|assumption|omega|(simp; omega)|(simp_all; done)) ?_))
 (refine w_callg hP (by simp[findT_neg]) rfl (fun hc=>⟨Find_ok l f.of _ (by omega),by revert hc; simp[findT_neg]; try grind,by simp[findT_neg]⟩) ?_; refine w_go 4000 ?_; simp[findT_neg])
 refine goc (fun h=>?_) (fun h=>?_)<;>simp
 ·rw[hR]; exact rt_end (by simp<;>rfl) [] trivial (end_pure (by simp; simp at h; unfold fField; rw[if_neg h1,if_neg h2,if_neg h3,if_neg h4,if_neg h5,if_pos (by simpa using h)]) (by simp) (by simp))
 have h6:¬(¬(f.kind=1∨f.kind=2)∧¬hasT l f.of=true):=by simpa using h
 rw[hR]; exact rt_end (by simp<;>rfl) [] trivial (end_pure (by simp; unfold fField; rw[if_neg h1,if_neg h2,if_neg h3,if_neg h4,if_neg h5,if_neg h6]) (by simp) (by simp))
set_option maxHeartbeats 1000000 in
theorem checkType_ok(l:List Ty)(i:Nat)(t:Ty)(id:Nat)(hl5:l.length≤5)(hi:l[i]?=some t):FnOk Tryz.prog 51 [.sl (l.map eTy),.int .i64 i] [] id (.int .i64 (fType l i t)) []:=by
 have hin:i<l.length:=(List.getElem?_eq_some_iff.1 hi).1
 have hF:=Find_ok (l.take i) t.name
 rw[List.map_take] at hF
 have hFd:=fun f k id h=>checkField_ok l f (t.fields.take k) id (by omega) h
 simp only[eFd,List.map_take] at hFd
 refine fn_okc Tryz.func51 hcc51 (by decide) hcr51 (by simp[Tryz.ntmps51]) fun E hP hR hl hid=>?_
 simp only[cr51] at hR
 refine w_go 4000 ?_
 simp[cc51,hi,eTy]
 refine⟨hin,?_⟩
 (refine w_call hP rfl (Name_ok _ _) (by simp) (by simp<;>rfl) ?_; refine w_go 4000 ?_; simp)
 refine goc (fun h=>?_) (fun h=>?_)<;>simp
 ·rw[hR]; exact rt_end (by simp<;>rfl) [] trivial (end_pure (by simp; simp at h; unfold fType; rw[if_pos h]) (by simp) (by simp))
 have h1:¬fName t.name≠0:=by simpa using h
 refine goc (fun h=>?_) (fun h=>?_)<;>simp
 ·rw[hR]; exact rt_end (by simp<;>rfl) [] trivial (end_pure (by simp; simp at h; unfold fType; rw[if_neg h1,if_pos (show t.name=tNumber∨t.name=tText from h)]) (by simp) (by simp))
 have h2:¬(t.name=tNumber∨t.name=tText):=by simpa [tNumber,tText] using h
 refine⟨⟨fun a _=>rfl,by omega⟩,?_⟩
 (refine w_call hP rfl (hF _ (by simp; omega)) (by simp[findT_lt]) (by simp[findT_lt]<;>rfl) ?_; refine w_go 4000 ?_; simp[findT_lt])
 refine goc (fun h=>?_) (fun h=>?_)<;>simp
 ·rw[hR]; exact rt_end (by simp<;>rfl) [] trivial (end_pure (by simp; unfold fType; rw[if_neg h1,if_neg h2,if_pos h]) (by simp) (by simp))
 have h3:¬hasT (l.take i) t.name=true:=by simpa using h
 refine goc (fun h=>?_) (fun h=>?_)<;>simp
 ·rw[hR]; exact rt_end (by simp<;>rfl) [] trivial (end_pure (by simp; simp at h; unfold fType; rw[if_neg h1,if_neg h2,if_neg h3,if_pos h]) (by simp) (by simp))
 have h4:¬t.fields=[]:=by simpa using h
 refine goc (fun h=>?_) (fun h=>?_)<;>simp
 ·rw[hR]; exact rt_end (by simp<;>rfl) [] trivial (end_pure (by simp; simp at h; unfold fType; rw[if_neg h1,if_neg h2,if_neg h3,if_neg h4,if_pos (by omega)]) (by simp) (by simp))
 have h5:¬6<t.fields.length:=by simp at h; omega
 have hft:fType l i t=firstIx (fun k f=>fField l f (t.fields.take k)) t.fields 0:=by unfold fType; rw[if_neg h1,if_neg h2,if_neg h3,if_neg h4,if_neg h5]
 rw[hft] at hR
 refine w_loop (X:=Nat) (fun k=>⟨[(0,true,.sl (l.map eTy)),(5,true,.ptr E.n0 0 0),(48,true,.sl (t.fields.map eFd)),(49,true,.int .i64 t.fields.length),(50,true,.int .i64 k)],[(E.n0,some ⟨[.agg [.str t.name,.sl (t.fields.map eFd)]],.agg [.str [],.nils],false,false⟩)],1⟩) (fun k=>k≤t.fields.length∧firstIx (fun k f=>fField l f (t.fields.take k)) (t.fields.drop k) k=firstIx (fun k f=>fField l f (t.fields.take k)) t.fields 0) (fun k=>t.fields.length - k) 0 ?_ ⟨by omega,rfl⟩ ?_
 ·have hrn:rnOk [(E.n0,E.n0+5120)]:=by simp
  refine Conv.sub [(E.n0,E.n0+5120)] hrn ?_ ?_ ?_ ?_ ?_<;>(try simp)
 ·rintro k ⟨hk,hf⟩ p hp
  refine w_go 4000 ?_
  simp
  refine goc (fun h=>?_) (fun h=>?_)
  ·have h:=of_decide_eq_true h
   obtain⟨x,hx,hd⟩:=drop_cons h
   rw[hd] at hf
   simp only[firstIx] at hf
   have hi1:IntKind.i64.wrap ((k:Int)+1)=((k+1:Nat):Int):=wrap64 (by omega)
   simp[hx,eFd]
   refine⟨h,hk,?_⟩
   (refine w_call hP rfl (hFd x k _ (by simp; omega)) (by simp) (by simp<;>rfl) ?_; refine w_go 4000 ?_; simp)
   refine goc (fun h1=>?_) (fun h1=>?_)
   ·simp
    rw[if_pos (by simpa using h1)] at hf
    rw[hR]; exact rt_end (by simp<;>rfl) [] trivial (end_pure (by simp; exact hf) (by simp) (by simp))
   ·simp
    rw[if_neg (by simpa using h1)] at hf
    refine hp _ (k+1) ⟨h,hf⟩ (by omega) ?_
    have hrn:rnOk [(E.n0,E.n0)]:=by simp[hi1]
    refine Conv.sub [(E.n0,E.n0)] hrn ?_ ?_ ?_ ?_ ?_<;>(try simp[hi1])
  ·have h:=of_decide_eq_false h
   simp
   rw[List.drop_of_length_le (by omega)] at hf
   rw[hR]; exact rt_end (by simp<;>rfl) [] trivial (end_pure (by simp; exact hf) (by simp) (by simp))
theorem sCheck_ok(l:List Ty)(id:Nat):FnOk Tryz.prog 22 [.sl (l.map eTy)] [] id (.int .i64 (fCheckT l)) []:=by
 refine fn_okc Tryz.func22 hcc22 (by decide) hcr22 (by simp[Tryz.ntmps22]) fun E hP hR hl hid=>?_
 simp only[cr22] at hR
 refine w_go 4000 ?_
 simp[cc22]
 refine goc (fun h=>?_) (fun h=>?_)<;>simp
 ·rw[hR]; exact rt_end (by simp<;>rfl) [] trivial (end_pure (by simp; simp at h; unfold fCheckT; rw[if_pos h]) (by simp) (by simp))
 have h1:¬l=[]:=by simpa using h
 refine goc (fun h=>?_) (fun h=>?_)<;>simp
 ·rw[hR]; exact rt_end (by simp<;>rfl) [] trivial (end_pure (by simp; simp at h; unfold fCheckT; rw[if_neg h1,if_pos (by omega)]) (by simp) (by simp))
 have h2:¬5<l.length:=by simp at h; omega
 have hft:fCheckT l=firstIx (fun i t=>fType l i t) l 0:=by unfold fCheckT; rw[if_neg h1,if_neg h2]
 rw[hft] at hR
 refine w_loop (X:=Nat) (fun i=>⟨[(0,true,.sl (l.map eTy)),(14,true,.int .i64 l.length),(15,true,.int .i64 i)],[],0⟩) (fun i=>i≤l.length∧firstIx (fun i t=>fType l i t) (l.drop i) i=firstIx (fun i t=>fType l i t) l 0) (fun i=>l.length - i) 0 ?_ ⟨by omega,rfl⟩ ?_
 ·have hrn:rnOk []:=by simp
  refine Conv.sub [] hrn ?_ ?_ ?_ ?_ ?_<;>(try simp)
 ·rintro i ⟨hi,hf⟩ p hp
  refine w_go 4000 ?_
  simp
  refine goc (fun h=>?_) (fun h=>?_)
  ·have h:=of_decide_eq_true h
   obtain⟨x,hx,hd⟩:=drop_cons h
   rw[hd] at hf
   simp only[firstIx] at hf
   have hi1:IntKind.i64.wrap ((i:Int)+1)=((i+1:Nat):Int):=wrap64 (by omega)
   simp
   (refine w_call hP rfl (checkType_ok l i x _ (by omega) hx) (by simp) (by simp<;>rfl) ?_; refine w_go 4000 ?_; simp)
   refine goc (fun h1=>?_) (fun h1=>?_)
   ·simp
    rw[if_pos (by simpa using h1)] at hf
    rw[hR]; exact rt_end (by simp<;>rfl) [] trivial (end_pure (by simp; exact hf) (by simp) (by simp))
   ·simp
    rw[if_neg (by simpa using h1)] at hf
    refine hp _ (i+1) ⟨h,hf⟩ (by omega) ?_
    have hrn:rnOk []:=by simp[hi1]
    refine Conv.sub [] hrn ?_ ?_ ?_ ?_ ?_<;>(try simp[hi1])
  ·have h:=of_decide_eq_false h
   simp
   rw[List.drop_of_length_le (by omega)] at hf
   rw[hR]; exact rt_end (by simp<;>rfl) [] trivial (end_pure (by simp; exact hf) (by simp) (by simp))
end Go.Am
namespace Go.Am
set_option linter.all false
open Go Go.RowKit Go.Proofs
set_option maxRecDepth 100000
set_option linter.all false
theorem TypeAt_ok(l:List Ty)(n:List UInt8)(id:Nat)(hl8:l.length<9223372036854775807):FnOk Tryz.prog 59 [.sl (l.map eTy),.str n] [] id (.int .i64 (findJ (fun x=>x.name==n) l 0)) []:=by
 refine fn_okc Tryz.func59 hcc59 (by decide) hcr59 (by simp[Tryz.ntmps59]) fun E hP hR hl hid=>?_
 simp only[cr59] at hR
 refine w_go 4000 ?_
 simp[cc59]
 refine w_loop (X:=Nat) (fun i=>⟨[(0,true,.sl (l.map eTy)),(1,true,.str n),(5,true,.int .i64 i)],[],0⟩) (fun i=>i≤l.length∧findJ (fun x=>x.name==n) (l.drop i) i=findJ (fun x=>x.name==n) l 0) (fun i=>l.length - i) 0 ?_ ⟨by omega,rfl⟩ ?_
 ·have hrn:rnOk []:=by simp
  refine Conv.sub [] hrn ?_ ?_ ?_ ?_ ?_<;>(try simp)
 ·rintro i ⟨hi,hf⟩ p hp
  refine w_go 4000 ?_
  simp
  refine goc (fun h=>?_) (fun h=>?_)
  ·have h:=of_decide_eq_true h
   obtain⟨x,hx,hd⟩:=drop_cons h
   rw[hd] at hf
   simp only[findJ] at hf
   have hi1:IntKind.i64.wrap ((i:Int)+1)=((i+1:Nat):Int):=wrap64 (by omega)
   simp[hx,eTy]
   refine⟨h,?_⟩
   refine goc (fun h1=>?_) (fun h1=>?_)
   ·simp
    rw[if_pos h1] at hf
    rw[hR]; exact rt_end (by simp<;>rfl) [] trivial (end_pure (by simp; exact hf) (by simp) (by simp))
   ·simp
    rw[if_neg (by simpa using h1)] at hf
    refine hp _ (i+1) ⟨h,hf⟩ (by omega) ?_
    have hrn:rnOk []:=by simp[hi1]
    refine Conv.sub [] hrn ?_ ?_ ?_ ?_ ?_<;>(try simp[hi1])
  ·have h:=of_decide_eq_false h
   simp
   rw[List.drop_of_length_le (by omega)] at hf
   rw[hR]; exact rt_end (by simp<;>rfl) [] trivial (end_pure (by simp; exact hf) (by simp) (by simp))
theorem FieldAt_ok(l:List Fd)(n:List UInt8)(id:Nat)(hl8:l.length<9223372036854775807):FnOk Tryz.prog 60 [.sl (l.map eFd),.str n] [] id (.int .i64 (findJ (fun x=>x.name==n) l 0)) []:=by
 refine fn_okc Tryz.func60 hcc60 (by decide) hcr60 (by simp[Tryz.ntmps60]) fun E hP hR hl hid=>?_
 simp only[cr60] at hR
 refine w_go 4000 ?_
 simp[cc60]
 refine w_loop (X:=Nat) (fun i=>⟨[(0,true,.sl (l.map eFd)),(1,true,.str n),(5,true,.int .i64 i)],[],0⟩) (fun i=>i≤l.length∧findJ (fun x=>x.name==n) (l.drop i) i=findJ (fun x=>x.name==n) l 0) (fun i=>l.length - i) 0 ?_ ⟨by omega,rfl⟩ ?_
 ·have hrn:rnOk []:=by simp
  refine Conv.sub [] hrn ?_ ?_ ?_ ?_ ?_<;>(try simp)
 ·rintro i ⟨hi,hf⟩ p hp
  refine w_go 4000 ?_
  simp
  refine goc (fun h=>?_) (fun h=>?_)
  ·have h:=of_decide_eq_true h
   obtain⟨x,hx,hd⟩:=drop_cons h
   rw[hd] at hf
   simp only[findJ] at hf
   have hi1:IntKind.i64.wrap ((i:Int)+1)=((i+1:Nat):Int):=wrap64 (by omega)
   simp[hx,eFd]
   refine⟨h,?_⟩
   refine goc (fun h1=>?_) (fun h1=>?_)
   ·simp
    rw[if_pos h1] at hf
    rw[hR]; exact rt_end (by simp<;>rfl) [] trivial (end_pure (by simp; exact hf) (by simp) (by simp))
   ·simp
    rw[if_neg (by simpa using h1)] at hf
    refine hp _ (i+1) ⟨h,hf⟩ (by omega) ?_
    have hrn:rnOk []:=by simp[hi1]
    refine Conv.sub [] hrn ?_ ?_ ?_ ?_ ?_<;>(try simp[hi1])
  ·have h:=of_decide_eq_false h
   simp
   rw[List.drop_of_length_le (by omega)] at hf
   rw[hR]; exact rt_end (by simp<;>rfl) [] trivial (end_pure (by simp; exact hf) (by simp) (by simp))
def fHead(l:List Ty)(i:Nat)(t:Ty):Int :=
 if fName t.name≠0 then fName t.name else if t.name=tNumber∨t.name=tText then 4 else if hasT (l.take i) t.name=true then 6
 else if t.fields=[] then 5 else if 6<t.fields.length then 2 else 0
theorem fType_head(l:List Ty)(i:Nat)(t:Ty):fType l i t=if fHead l i t≠0 then fHead l i t else firstIx (fun k f=>fField l f (t.fields.take k)) t.fields 0:=by
 unfold fType fHead
 repeat' split
 all_goals simp_all
theorem fHead_len{l:List Ty}{i:Nat}{t:Ty}(h:fHead l i t=0):t.fields.length≤6:=by
 unfold fHead at h
 repeat' split at h
 all_goals simp_all
theorem between_k(n:Int)(id:Nat):FnOk Tryz.prog 44 [.int .i64 n,.int .i64 1,.int .i64 4] [] id (.bool (decide (1≤n)&&decide (n≤4))) []:=between_ok n 1 4 id
set_option maxHeartbeats 2000000 in
theorem CheckSchema_ok(l:List Ty)(id:Nat):FnOk Tryz.prog 26 [.sl (l.map eTy)] [] id (.int .i64 (fCheckT l)) []:=by
 refine fn_okc Tryz.func26 hcc26 (by decide) hcr26 (by simp[Tryz.ntmps26]) fun E hP hR hl hid=>?_
 simp only[cr26] at hR
 refine w_go 4000 ?_
 simp[cc26]
 refine goc (fun h=>?_) (fun h=>?_)<;>simp
 ·rw[hR]; exact rt_end (by simp<;>rfl) [] trivial (end_pure (by simp; simp at h; unfold fCheckT; rw[if_pos h]) (by simp) (by simp))
 have h1:¬l=[]:=by simpa using h
 refine goc (fun h=>?_) (fun h=>?_)<;>simp
 ·rw[hR]; exact rt_end (by simp<;>rfl) [] trivial (end_pure (by simp; simp at h; unfold fCheckT; rw[if_neg h1,if_pos (by omega)]) (by simp) (by simp))
 have h2:¬5<l.length:=by simp at h; omega
 have hft:fCheckT l=firstIx (fun i t=>fType l i t) l 0:=by unfold fCheckT; rw[if_neg h1,if_neg h2]
 rw[hft] at hR
 refine w_loop (X:=Nat) (fun i=>⟨[(0,true,.sl (l.map eTy)),(3,true,.int .i64 i)],[],0⟩) (fun i=>i≤l.length∧firstIx (fun i t=>fType l i t) (l.drop i) i=firstIx (fun i t=>fType l i t) l 0) (fun i=>l.length - i) 0 ?_ ⟨by omega,rfl⟩ ?_
 ·have hrn:rnOk []:=by simp
  refine Conv.sub [] hrn ?_ ?_ ?_ ?_ ?_<;>(try simp)
 ·rintro i ⟨hi,hf⟩ p hp
  refine w_go 4000 ?_
  simp
  refine goc (fun h=>?_) (fun h=>?_)
  ·have h:=of_decide_eq_true h
   obtain⟨t,hx,hd⟩:=drop_cons h
   rw[hd] at hf
   simp only[firstIx] at hf
   have hi1:IntKind.i64.wrap ((i:Int)+1)=((i+1:Nat):Int):=wrap64 (by omega)
   have hF:=TypeAt_ok (l.take i) t.name
   have hG:=fun k n=>FieldAt_ok (t.fields.take k) n
   rw[List.map_take] at hF
   simp only[List.map_take] at hG
   simp[hx,eTy]
   refine⟨h,?_⟩
   refine w_call hP rfl (CheckName_ok t.name _) (by simp) (by simp<;>rfl) ?_
   refine w_cutS (X:=Int) (fun e=>⟨[(0,true,.sl (l.map eTy)),(3,true,.int .i64 i),(4,true,.ptr E.n0 0 0),(5,true,.int .i64 e)],[(E.n0,some ⟨[.agg [.str t.name,.sl (t.fields.map eFd)]],.agg [.str [],.nils],false,false⟩)],1⟩) (fun e=>e=fHead l i t) (fun q hq=>?_) (fun e he=>?_)
   ·refine w_go 4000 ?_
    simp
    refine goc (fun h=>?_) (fun h=>?_)<;>simp
    ·refine hq _ (fName t.name) (by unfold fHead; rw[if_pos (by simpa using h)]) ?_
     have hrn:rnOk [(E.n0,E.n0+8192)]:=by simp
     refine Conv.sub [(E.n0,E.n0+8192)] hrn ?_ ?_ ?_ ?_ ?_<;>(try simp)
    have h1:¬fName t.name≠0:=by simpa using h
    refine goc (fun h=>?_) (fun h=>?_)<;>simp
    ·refine hq _ 4 (by simp at h; unfold fHead; rw[if_neg h1,if_pos (show t.name=tNumber∨t.name=tText from h)]) ?_
     have hrn:rnOk [(E.n0,E.n0+8192)]:=by simp
     refine Conv.sub [(E.n0,E.n0+8192)] hrn ?_ ?_ ?_ ?_ ?_<;>(try simp)
    have h2:¬(t.name=tNumber∨t.name=tText):=by simpa [tNumber,tText] using h
    refine⟨⟨fun a _=>rfl,by omega⟩,?_⟩
    (refine w_call hP rfl (hF _ (by simp; omega)) (by simp[findT_lt]) (by simp[findT_lt]<;>rfl) ?_; refine w_go 4000 ?_; simp[findT_lt])
    refine goc (fun h=>?_) (fun h=>?_)<;>simp
    ·refine hq _ 6 (by unfold fHead; rw[if_neg h1,if_neg h2,if_pos h]) ?_
     have hrn:rnOk [(E.n0,E.n0+8192)]:=by simp
     refine Conv.sub [(E.n0,E.n0+8192)] hrn ?_ ?_ ?_ ?_ ?_<;>(try simp)
    have h3:¬hasT (l.take i) t.name=true:=by simpa using h
    refine goc (fun h=>?_) (fun h=>?_)<;>simp
    ·refine hq _ 5 (by simp at h; unfold fHead; rw[if_neg h1,if_neg h2,if_neg h3,if_pos h]) ?_
     have hrn:rnOk [(E.n0,E.n0+8192)]:=by simp
     refine Conv.sub [(E.n0,E.n0+8192)] hrn ?_ ?_ ?_ ?_ ?_<;>(try simp)
    have h4:¬t.fields=[]:=by simpa using h
    refine goc (fun h=>?_) (fun h=>?_)<;>simp
    ·refine hq _ 2 (by simp at h; unfold fHead; rw[if_neg h1,if_neg h2,if_neg h3,if_neg h4,if_pos (by omega)]) ?_
     have hrn:rnOk [(E.n0,E.n0+8192)]:=by simp
     refine Conv.sub [(E.n0,E.n0+8192)] hrn ?_ ?_ ?_ ?_ ?_<;>(try simp)
    have h5:¬6<t.fields.length:=by simp at h; omega
    ·refine hq _ 0 (by unfold fHead; rw[if_neg h1,if_neg h2,if_neg h3,if_neg h4,if_neg h5]) ?_
     have h1z:fName t.name=0:=by simpa using h1
     have hrn:rnOk [(E.n0,E.n0+8192)]:=by simp[h1z]
     refine Conv.sub [(E.n0,E.n0+8192)] hrn ?_ ?_ ?_ ?_ ?_<;>(try simp[h1z])
   ·have h6:e=0→t.fields.length≤6:=fun h0=>fHead_len (by rw[←he,h0])
    have hty:fType l i t=if e≠0 then e else firstIx (fun k f=>fField l f (t.fields.take k)) t.fields 0:=by rw[he]; exact fType_head l i t
    refine w_go 4000 ?_
    simp
    refine w_loop (X:=Nat×Int) (fun x=>⟨[(0,true,.sl (l.map eTy)),(3,true,.int .i64 i),(4,true,.ptr E.n0 0 0),(5,true,.int .i64 x.2),(6,true,.int .i64 x.1)],[(E.n0,some ⟨[.agg [.str t.name,.sl (t.fields.map eFd)]],.agg [.str [],.nils],false,false⟩)],1⟩)
     (fun x=>x.1≤t.fields.length∧(x.2=0→t.fields.length≤6)∧(if x.2≠0 then x.2 else firstIx (fun k f=>fField l f (t.fields.take k)) (t.fields.drop x.1) x.1)=fType l i t) (fun x=>t.fields.length - x.1) (0,e) ?_ ⟨by simp,h6,by rw[hty]; rfl⟩ ?_
    ·have hrn:rnOk [(E.n0,E.n0)]:=by simp
     refine Conv.sub [(E.n0,E.n0)] hrn ?_ ?_ ?_ ?_ ?_<;>(try simp)
    ·rintro⟨k,e⟩ ⟨hk,h6,he⟩ q hq
     simp only at hk h6 he hq
     refine w_go 4000 ?_
     simp
     refine goc (fun h=>?_) (fun h=>?_)
     ·simp at h
      obtain⟨h7,h8⟩:=h
      subst h8
      obtain⟨f,hy,hd2⟩:=drop_cons h7
      rw[if_neg (by simp),hd2] at he
      simp only[firstIx] at he
      have hk1:IntKind.i64.wrap ((k:Int)+1)=((k+1:Nat):Int):=wrap64 (by have:=h6 rfl; omega)
      simp[hy,eFd]
      refine⟨h7,?_⟩
      (refine w_call hP rfl (CheckName_ok f.name _) (by simp) (by simp<;>rfl) ?_; refine w_go 4000 ?_; simp)
      have hv:∀v,fField l f (t.fields.take k)=v→k+1≤t.fields.length∧(v=0→t.fields.length≤6)∧(if v≠0 then v else firstIx (fun k f=>fField l f (t.fields.take k)) (t.fields.drop (k+1)) (k+1))=fType l i t:=fun v hv=>⟨h7,fun _=>h6 rfl,by rw[←hv]; exact he⟩
      refine goc (fun h=>?_) (fun h=>?_)<;>simp
      ·refine hq _ (k+1,fName f.name) (hv _ (by simp at h; unfold fField; rw[if_pos h])) (by simp only; omega) ?_
       have hrn:rnOk [(E.n0,E.n0)]:=by simp[hk1]
       refine Conv.sub [(E.n0,E.n0)] hrn ?_ ?_ ?_ ?_ ?_<;>(try simp[hk1])
      have h1:¬fName f.name≠0:=by simpa using h
      refine goc (fun h=>?_) (fun h=>?_)<;>simp
      ·refine hq _ (k+1,4) (hv _ (by simp at h; unfold fField; rw[if_neg h1,if_pos (show f.name=tId from h)])) (by simp only; omega) ?_
       have hrn:rnOk [(E.n0,E.n0)]:=by simp[hk1]
       refine Conv.sub [(E.n0,E.n0)] hrn ?_ ?_ ?_ ?_ ?_<;>(try simp[hk1])
      have h2:¬f.name=tId:=by simpa [tId] using h
      refine⟨⟨fun a _=>rfl,hk⟩,?_⟩
      (refine w_call hP rfl (hG k f.name _ (by simp; omega)) (by simp[findF_lt]) (by simp[findF_lt]<;>rfl) ?_; refine w_go 4000 ?_; simp[findF_lt])
      refine goc (fun h=>?_) (fun h=>?_)<;>simp
      ·refine hq _ (k+1,6) (hv _ (by unfold fField; rw[if_neg h1,if_neg h2,if_pos h])) (by simp only; omega) ?_
       have hrn:rnOk [(E.n0,E.n0)]:=by simp[hk1]
       refine Conv.sub [(E.n0,E.n0)] hrn ?_ ?_ ?_ ?_ ?_<;>(try simp[hk1])
      have h3:¬hasF (t.fields.take k) f.name=true:=by simpa using h
      (refine w_call hP rfl (between_k f.kind _) (by simp) (by simp<;>rfl) ?_; refine w_go 4000 ?_; simp)
      refine goc (fun h=>?_) (fun h=>?_)<;>simp
      ·refine hq _ (k+1,7) (hv _ (by simp at h; unfold fField; rw[if_neg h1,if_neg h2,if_neg h3,if_pos (by omega)])) (by simp only; omega) ?_
       have hrn:rnOk [(E.n0,E.n0)]:=by simp[hk1]
       refine Conv.sub [(E.n0,E.n0)] hrn ?_ ?_ ?_ ?_ ?_<;>(try simp[hk1])
      have h4:¬¬(1≤f.kind∧f.kind≤4):=by simp at h; omega
      refine goc (fun h=>?_) (fun h=>?_)<;>simp
      ·refine hq _ (k+1,1) (hv _ (by simp at h; unfold fField; rw[if_neg h1,if_neg h2,if_neg h3,if_neg h4,if_pos ⟨by omega,h.2⟩])) (by simp only; omega) ?_
       have hrn:rnOk [(E.n0,E.n0)]:=by simp[hk1]
       refine Conv.sub [(E.n0,E.n0)] hrn ?_ ?_ ?_ ?_ ?_<;>(try simp[hk1])
      have h5:¬((f.kind=1∨f.kind=2)∧f.of≠[]):=fun hh=>by simp at h; exact hh.2 (h (by omega))
      (repeat (refine And.intro (by first|assumption|omega|(simp; omega)|(simp_all; done)) ?_))
      (refine w_callg hP (by simp[findT_neg]) rfl (fun hc=>⟨TypeAt_ok l f.of _ (by omega),by revert hc; simp[findT_neg]; try grind,by simp[findT_neg]⟩) ?_; refine w_go 4000 ?_; simp[findT_neg])
      refine goc (fun h=>?_) (fun h=>?_)<;>simp
      ·refine hq _ (k+1,5) (hv _ (by simp at h; unfold fField; rw[if_neg h1,if_neg h2,if_neg h3,if_neg h4,if_neg h5,if_pos ⟨by omega,by simp[h.2]⟩])) (by simp only; omega) ?_
       have hrn:rnOk [(E.n0,E.n0)]:=by simp[hk1]
       refine Conv.sub [(E.n0,E.n0)] hrn ?_ ?_ ?_ ?_ ?_<;>(try simp[hk1])
      have h6:¬(¬(f.kind=1∨f.kind=2)∧¬hasT l f.of=true):=fun hh=>by simp at h; exact hh.2 (h (by omega))
      have h1z:fName f.name=0:=by simpa using h1
      ·refine hq _ (k+1,0) (hv _ (by unfold fField; rw[if_neg h1,if_neg h2,if_neg h3,if_neg h4,if_neg h5,if_neg h6])) (by simp only; omega) ?_
       have hrn:rnOk [(E.n0,E.n0)]:=by simp[hk1,h1z]
       refine Conv.sub [(E.n0,E.n0)] hrn ?_ ?_ ?_ ?_ ?_<;>(try simp[hk1,h1z])
     ·simp
      refine goc (fun h1=>?_) (fun h1=>?_)<;>simp
      ·have h1:e≠0:=by simpa using h1
       rw[if_pos h1] at he
       rw[←he,if_pos h1] at hf
       rw[←hf] at hR
       rw[hR]; exact rt_end (by simp<;>rfl) [] trivial (end_pure (by simp) (by simp) (by simp))
      ·have h1:e=0:=by simpa using h1
       subst h1
       simp at h
       rw[if_neg (by simp),List.drop_of_length_le (by omega)] at he
       simp only[firstIx] at he
       rw[←he,if_neg (by simp)] at hf
       refine hp _ (i+1) ⟨by omega,hf⟩ (by omega) ?_
       have hrn:rnOk []:=by simp[hi1]
       refine Conv.sub [] hrn ?_ ?_ ?_ ?_ ?_<;>(try simp[hi1])
  ·have h:=of_decide_eq_false h
   simp
   rw[List.drop_of_length_le (by omega)] at hf
   rw[hR]; exact rt_end (by simp<;>rfl) [] trivial (end_pure (by simp; exact hf) (by simp) (by simp))
end Go.Am
