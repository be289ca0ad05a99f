/- Parts of the proof: an abstract machine for Go functions, and what functions of the program give back (Vl7, Vl8, Vl9). No condition. -/
import Derived.Test.YthghjjancoopoaaDoorXI
import Derived.Test.YthghjjancoopoaaDoorXD
namespace Go.Am
set_option linter.all false
open Go Go.RowKit Go.Proofs
set_option maxRecDepth 100000
set_option linter.all false
end Go.Am
namespace Go.Am
set_option linter.all false
open Go Go.RowKit Go.Proofs
set_option maxRecDepth 100000
set_option linter.all false
def fDup(e:Int)(b:Bool):Int:=if e≠0 then e else if b=true then 6 else 0
theorem any_take_succ{α:Type}{p:α→Bool}{l:List α}{h:Nat}{x:α}(hx:l[h]?=some x):(l.take (h+1)).any p=((l.take h).any p||p x):=by rw[take_snoc hx]; simp
end Go.Am
namespace Go.Am
set_option linter.all false
open Go Go.RowKit Go.Proofs
set_option maxRecDepth 100000
set_option linter.all false
end Go.Am
