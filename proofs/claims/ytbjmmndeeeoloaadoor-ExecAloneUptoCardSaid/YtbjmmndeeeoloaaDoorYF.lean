/- Queries answered: the document's map of a thing. No condition. -/
import Derived.Test.YtbjmmndeeeoloaaDoorYD
import Derived.Test.YtbjmmndeeeoloaaDoorYE
import Derived.Test.YtbjmmndeeeoloaaDoorXL
namespace Go.Am
set_option linter.all false
open Go Go.RowKit Go.Proofs
set_option maxRecDepth 100000
set_option linter.all false
def rw0(k n:Int)(tx:List UInt8):AV:=.agg [.int .i64 k,.int .i64 n,.str tx,.nils,.nils]
def oRw(s:Sta)(x:Sel)(t:Tg):AV:=if x.name=tId then rw0 2 t.id [] else match fcOf s t x.name with
 | none=>rw0 1 0 []
 | some (f,c)=>if f.kind=1 then rw0 2 c.n [] else if f.kind=2 then rw0 3 0 c.text
  else if f.kind=4 then .agg [.int .i64 4,.int .i64 0,.str [],.nils,.sl (((takeA x.args c.ids).map (thO s (x.kids.map called) (oL s x.kids) (kindOf s.types f.of))).map eO)]
  else match c.ids with
   | []=>rw0 1 0 []
   | y::_=>eO (thO s (x.kids.map called) (oL s x.kids) (kindOf s.types f.of) y)
theorem oS_eq'(s:Sta)(x:Sel)(t:Tg):oS s x t=if x.name=tId then oNum t.id else match fcOf s t x.name with
  | none=>oNone
  | some (f,c)=>if f.kind=1 then oNum c.n else if f.kind=2 then oText c.text
   else if f.kind=4 then oList ((takeA x.args c.ids).map (thO s (x.kids.map called) (oL s x.kids) (kindOf s.types f.of)))
   else match c.ids with
    | []=>oNone
    | y::_=>thO s (x.kids.map called) (oL s x.kids) (kindOf s.types f.of) y:=by cases x; rfl
end Go.Am
