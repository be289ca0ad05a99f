/- Parts of the proof: an abstract machine for Go functions, and what functions of the program give back (Vl1, Vl2, Vl3, Vl4). No condition. -/
import Derived.Test.YtgfmjhmjnnpcgaaGreatDoorCcB
import Derived.Test.YtgfmjhmjnnpcgaaGreatDoorXH
import Derived.Test.YtgfmjhmjnnpcgaaGreatDoorXF
namespace Go.Am
set_option linter.all false
open Go Go.RowKit Go.Proofs
set_option maxRecDepth 100000
set_option linter.all false
structure Ag where
 name:List UInt8
 isText:Bool
 text:List UInt8
 n:Int
def eAg(a:Ag):AV:=.agg [.str a.name,.bool a.isText,.str a.text,.int .i64 a.n]
theorem pure_eAg(f:Ag):(eAg f).pureB=true:=rfl
@[simp] theorem pure_ags (l:List Ag):pureL (l.map eAg)=true:=pureL_map pure_eAg l
inductive Sel where
 | mk (alias name:List UInt8) (args:List Ag) (kids:List Sel)
def Sel.alias:Sel→List UInt8 | .mk a _ _ _=>a
def Sel.name:Sel→List UInt8 | .mk _ n _ _=>n
def Sel.args:Sel→List Ag | .mk _ _ x _=>x
def Sel.kids:Sel→List Sel | .mk _ _ _ k=>k
mutual
def Sel.sz:Sel→Nat
 | .mk _ _ x k=>1+x.length+szL k
def szL:List Sel→Nat
 | []=>0
 | s::r=>s.sz+szL r
end
def called(s:Sel):List UInt8:=if s.alias≠[] then s.alias else s.name
end Go.Am
namespace Go.Am
set_option linter.all false
open Go Go.RowKit Go.Proofs
set_option maxRecDepth 100000
set_option linter.all false
end Go.Am
namespace Go.Am
set_option linter.all false
open Go Go.RowKit Go.Proofs
set_option maxRecDepth 100000
set_option linter.all false
theorem take_snoc{α:Type}{l:List α}{i:Nat}{x:α}(hx:l[i]?=some x):l.take (i+1)=l.take i++[x]:=by rw[List.take_succ,hx]; rfl
end Go.Am
namespace Go.Am
set_option linter.all false
open Go Go.RowKit Go.Proofs
set_option maxRecDepth 100000
set_option linter.all false
end Go.Am
