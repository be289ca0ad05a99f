/- Parts of the proof: an abstract machine for Go functions, and what functions of the program give back (Rf1). No condition. -/
import Derived.Test.YthghjjancoopoaaDoorXT
namespace Go.Am
set_option linter.all false
set_option linter.all false
open Go Go.RowKit Go.Proofs
set_option maxRecDepth 100000
theorem between_ok(n a b:Int)(id:Nat):FnOk Tryd.prog 38 [.int .i64 n,.int .i64 a,.int .i64 b] [] id (.bool (decide (a≤n)&&decide (n≤b))) []:=by
 refine fn_okc Tryd.func38 hcc38 (by decide) hcr38 (by simp[Tryd.ntmps38]) fun E hP hR hl hid=>?_
 simp only[cr38] at hR
 refine w_go 4000 ?_
 simp[cc38]
 rw[hR]; exact rt_end (by simp<;>rfl) [] trivial (end_pure (by simp) (by simp) (by simp))
theorem rIsInt_ok(n:Int)(id:Nat):FnOk Tryd.prog 39 [.int .i64 n] [] id (.bool (decide (-999999999≤n)&&decide (n≤999999999))) []:=by
 refine fn_okc Tryd.func39 hcc39 (by decide) hcr39 (by simp[Tryd.ntmps39]) fun E hP hR hl hid=>?_
 simp only[cr39] at hR
 refine w_go 4000 ?_
 simp[cc39]
 (refine w_call hP rfl (between_ok _ _ _ _) (by simp) (by simp<;>rfl) ?_; refine w_go 4000 ?_; simp)
 rw[hR]; exact rt_end (by simp<;>rfl) [] trivial (end_pure (by simp) (by simp) (by simp))
@[simp] theorem toU8_byte (b:UInt8):toU8 (.int .u8 b.toNat)=b:=by simp[toU8]
end Go.Am
