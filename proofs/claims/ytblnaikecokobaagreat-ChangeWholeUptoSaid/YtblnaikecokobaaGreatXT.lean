/- Parts of the proof: an abstract machine for Go functions, and what functions of the program give back (Bt1, Bt2, Bt3, Bt4, Bt5, Bt6, Bt7). No condition. -/
import Derived.Test.YtblnaikecokobaaGreatCcB
namespace Go.Am
set_option linter.all false
set_option linter.all false
open Go Go.RowKit Go.Proofs
set_option maxRecDepth 100000
theorem swithin_ok(n a b:Int)(id:Nat):FnOk Tryz.prog 75 [.int .i64 n,.int .i64 a,.int .i64 b] [] id (.bool (decide (a≤n)&&decide (n≤b))) []:=by
 refine fn_okc Tryz.func75 hcc75 (by decide) hcr75 (by simp[Tryz.ntmps75]) fun E hP hR hl hid=>?_
 simp only[cr75] at hR
 refine w_go 4000 ?_
 simp[cc75]
 rw[hR]; exact rt_end (by simp<;>rfl) [] trivial (end_pure (by simp) (by simp) (by simp))
theorem lexInt_ok(n:Int)(id:Nat):FnOk Tryz.prog 99 [.int .i64 n] [] id (.bool (decide (-999999999≤n)&&decide (n≤999999999))) []:=by
 refine fn_okc Tryz.func99 hcc99 (by decide) hcr99 (by simp[Tryz.ntmps99]) fun E hP hR hl hid=>?_
 simp only[cr99] at hR
 refine w_go 4000 ?_
 simp[cc99]
 rw[hR]; exact rt_end (by simp<;>rfl) [] trivial (end_pure (by simp) (by simp) (by simp))
structure Ev where
 kind:Int
 type:Int
 id:Int
 field:Int
 n:Int
 text:List UInt8
def eEv(e:Ev):AV:=.agg [.int .i64 e.kind,.int .i64 e.type,.int .i64 e.id,.int .i64 e.field,.int .i64 e.n,.str e.text]
def fForm(e:Ev):Int:=if ¬(1≤e.kind∧e.kind≤6) then 7 else if (e.kind=1∨e.kind=2)∧(e.field≠0∨e.n≠0)∨e.kind=4∧e.n≠0∨e.kind≠4∧e.text≠[] then 1 else 0
theorem sForm_ok(e:Ev)(id:Nat):FnOk Tryz.prog 94 [eEv e] [] id (.int .i64 (fForm e)) []:=by
 unfold eEv
 refine fn_okc Tryz.func94 hcc94 (by decide) hcr94 (by simp[Tryz.ntmps94]) fun E hP hR hl hid=>?_
 simp only[cr94] at hR
 refine w_go 4000 ?_
 simp[cc94]
 repeat' first
  | (refine And.intro ?_ ?_)
  | (refine goc (fun h=>?_) (fun h=>?_)<;>simp)
  | (refine w_call hP rfl (swithin_ok _ _ _ _) (by simp) (by simp<;>rfl) ?_; refine w_go 4000 ?_; simp)
 all_goals first
  | (rw[hR]; refine rt_end (by simp<;>rfl) [] trivial (end_pure ?_ (by simp) (by simp)); simp; done)
  | (rw[hR]; refine rt_end (by simp<;>rfl) [] trivial (end_pure ?_ (by simp) (by simp)); (try simp); simp[fForm] at *; grind; done)
  | omega
  | (simp_all; done)
  | grind
def firstE{α:Type}(f:α→Int):List α→Int
 | []=>0
 | x::l=>if f x≠0 then f x else firstE f l
theorem drop_cons{α:Type}{l:List α}{i:Nat}(h:i<l.length):∃x,l[i]?=some x∧l.drop i=x::l.drop (i+1) :=
 ⟨l[i],List.getElem?_eq_getElem h,List.drop_eq_getElem_cons h⟩
theorem pure_eEv(e:Ev):(eEv e).pureB=true:=rfl
@[simp] theorem pure_evs (l:List Ev):pureL (l.map eEv)=true:=pureL_map pure_eEv l
@[simp] theorem names_evs (S:Nat→Prop) (l:List Ev):namesL S (l.map eEv):=namesL_pure _ (pure_evs l)
end Go.Am
namespace Go.Am
set_option linter.all false
set_option linter.all false
open Go Go.RowKit Go.Proofs
set_option maxRecDepth 100000
def lowByte(m:Int):UInt8:=UInt8.ofNat (m % 256).toNat
def eB(l:List UInt8):List AV:=l.map fun b=>.int .u8 b.toNat
theorem u8_wrap(x:Int):IntKind.u8.wrap x=((lowByte x).toNat:Int):=by
 rw[IntKind.wrap_u8]; unfold lowByte
 simp[UInt8.toNat_ofNat']; omega
@[simp] def bxB (l:List UInt8):Bx:=⟨eB l,.int .u8 0,false,false⟩
@[simp] def bxW (c:AV) (d:AV):Bx:=⟨[.agg [c]],d,false,false⟩
end Go.Am
namespace Go.Am
set_option linter.all false
set_option linter.all false
open Go Go.RowKit Go.Proofs
set_option maxRecDepth 100000
def wr3(i j id:Nat)(d:AV)(l:List UInt8):List (Nat×Option Bx):=[(i,some (bxW (.bsl id 0 l.length) d)),(j,none),(id,some (bxB l))]
attribute [simp] wr3
end Go.Am
namespace Go.Am
set_option linter.all false
set_option linter.all false
open Go Go.RowKit Go.Proofs
set_option maxRecDepth 100000
theorem firstE_zero{α:Type}{f:α→Int}:∀{l:List α},firstE f l=0↔∀x∈l,f x=0
 | []=>by simp[firstE]
 | x::l=>by
  simp only[firstE]
  split
  ·rename_i h; constructor
   ·intro h'; exact (h h').elim
   ·intro h'; exact (h (h' x (by simp))).elim
  ·rename_i h
   rw[firstE_zero (l:=l)]
   simp at h
   simp[h]
end Go.Am
namespace Go.Am
set_option linter.all false
set_option linter.all false
open Go Go.RowKit Go.Proofs
set_option maxRecDepth 100000
end Go.Am
namespace Go.Am
set_option linter.all false
set_option linter.all false
open Go Go.RowKit Go.Proofs
set_option maxRecDepth 100000
end Go.Am
namespace Go.Am
set_option linter.all false
set_option linter.all false
open Go Go.RowKit Go.Proofs
set_option maxRecDepth 100000
def bxE(l:List Ev)(f:Bool):Bx:=⟨l.map eEv,.agg [.int .i64 0,.int .i64 0,.int .i64 0,.int .i64 0,.int .i64 0,.str []],false,f⟩
attribute [simp] bxE
end Go.Am
