/- Parts of the proof: an abstract machine for Go functions, and what functions of the program give back (Ex11, Ex12, Ex13, Ex14). No condition. -/
import Derived.Test.YthghjjancoopoaaDoorCcB
import Derived.Test.YthghjjancoopoaaDoorYB
import Derived.Test.YthghjjancoopoaaDoorXD
import Derived.Recover
namespace Go.Am
set_option linter.all false
open Go Go.RowKit Go.Proofs
set_option maxRecDepth 100000
set_option linter.all false
def zOut:AV:=.agg [.int .i64 0,.int .i64 0,.str [],.nils,.nils]
def bO(v:AV):Bx:=⟨[v],zOut,false,false⟩
def bB(b:Bool):Bx:=⟨[.bool b],.bool false,false,false⟩
end Go.Am
namespace Go.Am
set_option linter.all false
open Go Go.RowKit Go.Proofs
set_option maxRecDepth 100000
set_option linter.all false
theorem DropOk.of{n0:Nat}{bx':List (Nat×Option Bx)}:∀{l:List (Nat×Option Bx)},(∀q∈l,n0≤q.1)→DropOk n0 bx' l
 | [],_=>trivial
 | (i,b)::l,h=>⟨.inl (h (i,b) (List.mem_cons_self ..)),DropOk.of fun q hq=>h q (List.mem_cons_of_mem _ hq)⟩
theorem upd_same{f:Nat→Option Bx}{i:Nat}{b:Option Bx}(h:f i=b):upd f i b=f:=by
 funext x
 unfold upd
 split
 ·rename_i hx; subst hx; exact h.symm
 ·rfl
end Go.Am
namespace Go.Am
set_option linter.all false
open Go Go.RowKit Go.Proofs
set_option maxRecDepth 100000
set_option linter.all false
theorem bk_app{n:Nat}{b:Bx}{r:List (Nat×Option Bx)}:∀{l:List (Nat×Option Bx)},bk l n=some b→bk (l++r) n=some b
 | [],h=>by cases h
 | (m,c)::l,h=>by
  simp only[bk,List.cons_append] at h ⊢
  split
  ·rename_i hm; rw[if_pos hm] at h; exact h
  ·rename_i hm; rw[if_neg hm] at h; exact bk_app h
def crsOf:CC→List CR
 | .reg _ l _=>l
 | _=>[]
end Go.Am
namespace Go.Am
set_option linter.all false
open Go Go.RowKit Go.Proofs
set_option maxRecDepth 100000
set_option linter.all false
end Go.Am
