/- Parts of the proof: an abstract machine for Go functions, and what functions of the program give back (Rf1, Rf2). No condition. -/
import Derived.Test.YtblnaikecokobaaGreatXT
namespace Go.Am
set_option linter.all false
set_option linter.all false
open Go Go.RowKit Go.Proofs
set_option maxRecDepth 100000
@[simp] theorem toU8_byte (b:UInt8):toU8 (.int .u8 b.toNat)=b:=by simp[toU8]
end Go.Am
namespace Go.Am
set_option linter.all false
set_option linter.all false
open Go Go.RowKit Go.Proofs
set_option maxRecDepth 100000
def sameEv(a b:Ev):Bool:=a.kind==b.kind&&(a.type==b.type&&(a.id==b.id&&(a.field==b.field&&(a.n==b.n&&a.text==b.text))))
theorem sameEv_iff(a b:Ev):sameEv a b=true↔a=b:=by
 obtain⟨k,t,i,f,n,x⟩:=a
 obtain⟨k',t',i',f',n',x'⟩:=b
 simp[sameEv]
def sameL{α:Type}(f:α→α→Bool):List α→List α→Bool
 | [],[]=>true
 | x::a,y::b=>f x y&&sameL f a b
 | _,_=>false
theorem sameL_ne{α:Type}{f:α→α→Bool}:∀{a b:List α},a.length≠b.length→sameL f a b=false
 | [],[],h=>(h rfl).elim
 | [],_::_,_=>rfl
 | _::_,[],_=>rfl
 | x::a,y::b,h=>by simp only[sameL]; rw[sameL_ne (a:=a) (b:=b) (by simpa using h)]; simp
theorem SameEvents_ok(a b:List Ev)(id:Nat)(hl:a.length<9223372036854775807):FnOk Tryz.prog 13 [.sl (a.map eEv),.sl (b.map eEv)] [] id (.bool (sameL sameEv a b)) []:=by
 refine fn_okc Tryz.func13 hcc13 (by decide) hcr13 (by simp[Tryz.ntmps13]) fun E hP hR hl hid=>?_
 simp only[cr13] at hR
 refine w_go 4000 ?_
 simp[cc13]
 refine goc (fun h=>?_) (fun h=>?_)
 ·simp
  have h':a.length≠b.length:=by simp at h; omega
  rw[sameL_ne h'] at hR
  rw[hR]; exact rt_end (by simp<;>rfl) [] trivial (end_pure (by simp) (by simp) (by simp))
 ·simp
  have h':a.length=b.length:=by simp at h; omega
  refine w_loop (X:=Nat) (fun i=>⟨[(0,true,.sl (a.map eEv)),(1,true,.sl (b.map eEv)),(5,true,.int .i64 i)],[],0⟩) (fun i=>i≤a.length∧sameL sameEv (a.drop i) (b.drop i)=sameL sameEv a b) (fun i=>a.length - i) 0 ?_ ⟨by omega,rfl⟩ ?_
  ·have hrn:rnOk []:=by simp
   refine Conv.sub [] hrn ?_ ?_ ?_ ?_ ?_<;>(try simp)
  ·rintro i ⟨hi,hf⟩ p hp
   refine w_go 4000 ?_
   simp
   refine goc (fun h=>?_) (fun h=>?_)
   ·have h:=of_decide_eq_true h
    obtain⟨x,hx,hd⟩:=drop_cons h
    obtain⟨y,hy,hd'⟩:=drop_cons (l:=b) (i:=i) (by omega)
    rw[hd,hd'] at hf
    simp only[sameL] at hf
    have hi1:IntKind.i64.wrap ((i:Int)+1)=((i+1:Nat):Int):=wrap64 (by omega)
    simp[hx,hy,eEv]
    (repeat (refine And.intro (by first|assumption|omega|(simp; omega)|(simp_all; done)) ?_))
    simp[eqAll,eqOne]
    refine goc (fun h2=>?_) (fun h2=>?_)
    ·simp
     have h2':sameEv x y=false:=by
      cases hs:sameEv x y with
      | false=>rfl
      | true=>rw[(sameEv_iff x y).1 hs] at h2; simp at h2
     rw[h2',Bool.false_and] at hf
     rw[hR]; exact rt_end (by simp<;>rfl) [] trivial (end_pure (by simp; exact hf.symm) (by simp) (by simp))
    ·simp
     have h2':sameEv x y=true:=by rw[sameEv]; simpa using h2
     rw[h2',Bool.true_and] at hf
     refine hp _ (i+1) ⟨h,hf⟩ (by omega) ?_
     have hrn:rnOk []:=by simp[hi1]
     refine Conv.sub [] hrn ?_ ?_ ?_ ?_ ?_<;>(try simp[hi1])
   ·have h:=of_decide_eq_false h
    simp
    rw[List.drop_of_length_le (by omega),List.drop_of_length_le (by omega)] at hf
    rw[hR]; exact rt_end (by simp<;>rfl) [] trivial (end_pure (by simp; exact hf.symm) (by simp) (by simp))
end Go.Am
