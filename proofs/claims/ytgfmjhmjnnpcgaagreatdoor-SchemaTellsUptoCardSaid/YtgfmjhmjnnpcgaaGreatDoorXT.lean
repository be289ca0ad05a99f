/- Parts of the proof: an abstract machine for Go functions, and what functions of the program give back (Bt1, Bt2, Bt3, Bt4, Bt5, Bt6, Bt7). No condition. -/
import Derived.Test.YtgfmjhmjnnpcgaaGreatDoorCcB
namespace Go.Am
set_option linter.all false
set_option linter.all false
open Go Go.RowKit Go.Proofs
set_option maxRecDepth 100000
theorem lexInt_ok(n:Int)(id:Nat):FnOk Tryz.prog 79 [.int .i64 n] [] id (.bool (decide (-999999999≤n)&&decide (n≤999999999))) []:=by
 refine fn_okc Tryz.func79 hcc79 (by decide) hcr79 (by simp[Tryz.ntmps79]) fun E hP hR hl hid=>?_
 simp only[cr79] at hR
 refine w_go 4000 ?_
 simp[cc79]
 rw[hR]; exact rt_end (by simp<;>rfl) [] trivial (end_pure (by simp) (by simp) (by simp))
structure Ev where
 kind:Int
 type:Int
 id:Int
 field:Int
 n:Int
 text:List UInt8
def eEv(e:Ev):AV:=.agg [.int .i64 e.kind,.int .i64 e.type,.int .i64 e.id,.int .i64 e.field,.int .i64 e.n,.str e.text]
theorem drop_cons{α:Type}{l:List α}{i:Nat}(h:i<l.length):∃x,l[i]?=some x∧l.drop i=x::l.drop (i+1) :=
 ⟨l[i],List.getElem?_eq_getElem h,List.drop_eq_getElem_cons h⟩
end Go.Am
namespace Go.Am
set_option linter.all false
set_option linter.all false
open Go Go.RowKit Go.Proofs
set_option maxRecDepth 100000
def eB(l:List UInt8):List AV:=l.map fun b=>.int .u8 b.toNat
@[simp] theorem pure_eB (l:List UInt8):pureL (eB l)=true:=pureL_map (fun _=>rfl) l
@[simp] theorem len_eB (l:List UInt8):(eB l).length=l.length:=by simp[eB]
@[simp] theorem take_eB (l:List UInt8):(eB l).take l.length=eB l:=List.take_of_length_le (by simp)
theorem eB_append(a b:List UInt8):eB (a++b)=eB a++eB b:=by simp[eB]
theorem mem_eB{l:List UInt8}{x:AV}(h:x∈eB l):∃b,x = .int .u8 (UInt8.toNat b):=by
 simp only[eB,List.mem_map] at h
 obtain⟨b,_,rfl⟩:=h
 exact⟨b,rfl⟩
theorem eB_toU8(l:List UInt8):(eB l).map toU8=l:=by
 simp only[eB,List.map_map]
 conv=>rhs; rw[←List.map_id l]
 refine List.map_congr_left fun b _=>?_
 simp[toU8]
@[simp] def bxB (l:List UInt8):Bx:=⟨eB l,.int .u8 0,false,false⟩
@[simp] def bxW (c:AV) (d:AV):Bx:=⟨[.agg [c]],d,false,false⟩
end Go.Am
namespace Go.Am
set_option linter.all false
set_option linter.all false
open Go Go.RowKit Go.Proofs
set_option maxRecDepth 100000
def wr3(i j id:Nat)(d:AV)(l:List UInt8):List (Nat×Option Bx):=[(i,some (bxW (.bsl id 0 l.length) d)),(j,none),(id,some (bxB l))]
attribute [simp] wr3
end Go.Am
namespace Go.Am
set_option linter.all false
set_option linter.all false
open Go Go.RowKit Go.Proofs
set_option maxRecDepth 100000
end Go.Am
namespace Go.Am
set_option linter.all false
set_option linter.all false
open Go Go.RowKit Go.Proofs
set_option maxRecDepth 100000
end Go.Am
namespace Go.Am
set_option linter.all false
set_option linter.all false
open Go Go.RowKit Go.Proofs
set_option maxRecDepth 100000
end Go.Am
namespace Go.Am
set_option linter.all false
set_option linter.all false
open Go Go.RowKit Go.Proofs
set_option maxRecDepth 100000
def bxE(l:List Ev)(f:Bool):Bx:=⟨l.map eEv,.agg [.int .i64 0,.int .i64 0,.int .i64 0,.int .i64 0,.int .i64 0,.str []],false,f⟩
attribute [simp] bxE
end Go.Am
