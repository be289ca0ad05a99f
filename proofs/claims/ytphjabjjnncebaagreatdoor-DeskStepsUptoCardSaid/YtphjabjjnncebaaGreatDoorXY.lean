/- A program none of whose functions starts a goroutine starts none. No condition. -/
import Derived.Test.YtphjabjjnncebaaGreatDoorXW
import Derived.KernelRfl
set_option maxRecDepth 100000
set_option linter.all false
namespace Go.Proofs.YtphjabjjnncebaaGreatDoor
open Go Go.RowKit
theorem B9m{P:Program}(h:P.funcs.any Func.goes=false)(f:FuncId):P.goes f=false:=by
 unfold Program.goes;rw[h,Bool.and_false,Go.Am.ur,Go.Am.uv];intro g _;cases hg:P.funcs[g]? with
 | none=>simp
 | some fn =>
  obtain⟨hl,rfl⟩:=Go.Am.xj.1 hg;have:=Array.any_eq_false.1 h g hl;simpa using this
theorem C5V:Tryz.pinned.checked.prog.funcs.any Func.goes=false:=by kernel_rfl
theorem B4u{c:OpenClaim}(h:c.start = .entering):false=c.goesBy Tryz.pinned.checked.prog:=by
 unfold OpenClaim.goesBy Program.goesAt Program.goesFrom;rw[h];cases Tryz.pinned.checked.prog.funcNamed c.func with
 | none=>rfl
 | some f=>simp[B9m C5V f]
end Go.Proofs.YtphjabjjnncebaaGreatDoor
