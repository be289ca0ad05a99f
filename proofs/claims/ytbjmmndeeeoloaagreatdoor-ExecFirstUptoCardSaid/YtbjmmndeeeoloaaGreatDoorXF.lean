/- Parts of the proof: an abstract machine for Go functions, and what functions of the program give back (Rf1). No condition. -/
import Derived.Test.YtbjmmndeeeoloaaGreatDoorXT
namespace Go.Am
set_option linter.all false
set_option linter.all false
open Go Go.RowKit Go.Proofs
set_option maxRecDepth 100000
theorem between_ok(n a b:Int)(id:Nat):FnOk Tryz.prog 24 [.int .i64 n,.int .i64 a,.int .i64 b] [] id (.bool (decide (a≤n)&&decide (n≤b))) []:=by
 refine fn_okc Tryz.func24 hcc24 (by decide) hcr24 (by simp[Tryz.ntmps24]) fun E hP hR hl hid=>?_
 simp only[cr24] at hR
 refine w_go 4000 ?_
 simp[cc24]
 rw[hR]; exact rt_end (by simp<;>rfl) [] trivial (end_pure (by simp) (by simp) (by simp))
theorem rIsInt_ok(n:Int)(id:Nat):FnOk Tryz.prog 25 [.int .i64 n] [] id (.bool (decide (-999999999≤n)&&decide (n≤999999999))) []:=by
 refine fn_okc Tryz.func25 hcc25 (by decide) hcr25 (by simp[Tryz.ntmps25]) fun E hP hR hl hid=>?_
 simp only[cr25] at hR
 refine w_go 4000 ?_
 simp[cc25]
 (refine w_call hP rfl (between_ok _ _ _ _) (by simp) (by simp<;>rfl) ?_; refine w_go 4000 ?_; simp)
 rw[hR]; exact rt_end (by simp<;>rfl) [] trivial (end_pure (by simp) (by simp) (by simp))
end Go.Am
