/- Parts of the proof: an abstract machine for Go functions, and what functions of the program give back (Rf1). No condition. -/
import Derived.Test.YtgfmjhmjnnpcgaaGreatDoorXT
namespace Go.Am
set_option linter.all false
set_option linter.all false
open Go Go.RowKit Go.Proofs
set_option maxRecDepth 100000
theorem between_ok(n a b:Int)(id:Nat):FnOk Tryz.prog 44 [.int .i64 n,.int .i64 a,.int .i64 b] [] id (.bool (decide (a≤n)&&decide (n≤b))) []:=by
 refine fn_okc Tryz.func44 hcc44 (by decide) hcr44 (by simp[Tryz.ntmps44]) fun E hP hR hl hid=>?_
 simp only[cr44] at hR
 refine w_go 4000 ?_
 simp[cc44]
 rw[hR]; exact rt_end (by simp<;>rfl) [] trivial (end_pure (by simp) (by simp) (by simp))
@[simp] theorem toU8_byte (b:UInt8):toU8 (.int .u8 b.toNat)=b:=by simp[toU8]
end Go.Am
