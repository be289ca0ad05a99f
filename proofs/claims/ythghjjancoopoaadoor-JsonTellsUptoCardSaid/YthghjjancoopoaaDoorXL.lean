/- Parts of the proof: an abstract machine for Go functions, and what functions of the program give back (Vl7, Vl8, Vl9). No condition. -/
import Derived.Test.YthghjjancoopoaaDoorXI
import Derived.Test.YthghjjancoopoaaDoorXD
namespace Go.Am
set_option linter.all false
open Go Go.RowKit Go.Proofs
set_option maxRecDepth 100000
set_option linter.all false
end Go.Am
namespace Go.Am
set_option linter.all false
open Go Go.RowKit Go.Proofs
set_option maxRecDepth 100000
set_option linter.all false
def fDup(e:Int)(b:Bool):Int:=if e≠0 then e else if b=true then 6 else 0
theorem any_take_succ{α:Type}{p:α→Bool}{l:List α}{h:Nat}{x:α}(hx:l[h]?=some x):(l.take (h+1)).any p=((l.take h).any p||p x):=by rw[take_snoc hx]; simp
theorem any_take_mono{α:Type}{p:α→Bool}{l:List α}{h k:Nat}(hk:h≤k)(ht:(l.take h).any p=true):(l.take k).any p=true:=by
 obtain⟨y,hy,hp⟩:=List.any_eq_true.1 ht
 exact List.any_eq_true.2 ⟨y,(List.take_prefix_take_left hk).subset hy,hp⟩
theorem fDup_end{α:Type}{p:α→Bool}{l:List α}{e:Int}{h k:Nat}(hk:h≤k)(hx:¬(h<k∧fDup e ((l.take h).any p)=0)):fDup e ((l.take h).any p)=fDup e ((l.take k).any p):=by
 by_cases hh:h=k
 ·rw[hh]
 have hne:fDup e ((l.take h).any p)≠0:=fun h0=>hx ⟨by omega,h0⟩
 unfold fDup at hne ⊢
 by_cases he:e≠0
 ·rw[if_pos he,if_pos he]
 ·rw[if_neg he] at hne ⊢
  rw[if_neg he]
  split at hne
  ·rename_i h1; rw[if_pos h1,if_pos (any_take_mono hk h1)]
  ·exact (hne rfl).elim
theorem fDup_zero{e:Int}{b:Bool}(h:fDup e b=0):e=0∧b=false:=by
 unfold fDup at h
 split at h
 ·rename_i h1; exact (h1 h).elim
 ·split at h
  ·simp at h
  ·rename_i h1 h2; exact⟨Classical.byContradiction h1,by simpa using h2⟩
end Go.Am
namespace Go.Am
set_option linter.all false
open Go Go.RowKit Go.Proofs
set_option maxRecDepth 100000
set_option linter.all false
end Go.Am
