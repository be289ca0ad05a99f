/- Parts of the proof: an abstract machine for Go functions, and what functions of the program give back (Vl7, Vl8, Vl9). No condition. -/
import Derived.Test.YtbjmmndeeeoloaaGreatDoorXI
import Derived.Test.YtbjmmndeeeoloaaGreatDoorXD
namespace Go.Am
set_option linter.all false
open Go Go.RowKit Go.Proofs
set_option maxRecDepth 100000
set_option linter.all false
end Go.Am
namespace Go.Am
set_option linter.all false
open Go Go.RowKit Go.Proofs
set_option maxRecDepth 100000
set_option linter.all false
def fDup(e:Int)(b:Bool):Int:=if e≠0 then e else if b=true then 6 else 0
theorem any_take_succ{α:Type}{p:α→Bool}{l:List α}{h:Nat}{x:α}(hx:l[h]?=some x):(l.take (h+1)).any p=((l.take h).any p||p x):=by rw[take_snoc hx]; simp
end Go.Am
namespace Go.Am
set_option linter.all false
open Go Go.RowKit Go.Proofs
set_option maxRecDepth 100000
set_option linter.all false
theorem chk_mem:∀{q ah:List Sel},fChkL q ah=0→∀x∈q,fArgs x.args=0∧fNm x=0∧fChkL x.kids []=0
 | [],ah,h,x,hx=>by cases hx
 | s::r,ah,h,x,hx=>by
  simp only[fChkL] at h
  have h1:fSel1 s ah=0:=Classical.byContradiction fun h0=>by rw[if_pos h0] at h; exact h0 h
  rw[if_neg (by simp[h1])] at h
  have h2:fChkK s=0:=Classical.byContradiction fun h0=>by rw[if_pos h0] at h; exact h0 h
  rw[if_neg (by simp[h2])] at h
  rcases List.mem_cons.1 hx with rfl|hx
  ·rw[fSel1_nm] at h1
   refine⟨?_,?_,by rw[←fChkK_eq]; exact h2⟩
   ·split at h1
    ·rename_i h0; exact (h0 h1).elim
    ·split at h1
     ·rename_i h0; exact (h0 h1).elim
     ·rename_i h0; exact Classical.byContradiction h0
   ·split at h1
    ·rename_i h0; exact (h0 h1).elim
    ·rename_i h0; exact Classical.byContradiction h0
  ·exact chk_mem h x hx
end Go.Am
