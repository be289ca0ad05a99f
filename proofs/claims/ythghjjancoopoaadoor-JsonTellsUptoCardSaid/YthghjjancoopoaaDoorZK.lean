/- The law JsonTells, the walk. No condition. -/
import Derived.Test.YthghjjancoopoaaDoorZJ
namespace Go.Am
set_option linter.all false
open Go Go.RowKit Go.Proofs
set_option maxRecDepth 100000
set_option linter.all false
theorem tooLong_ok(s:List UInt8)(k:Int)(id:Nat):FnOk Tryd.prog 13 [.str s,.int .i64 k] [] id (.int .i64 (if k<(s.length:Int) then 2 else 0)) []:=by
 by_cases h:k<(s.length:Int)
 ·rw[if_pos h]
  refine fn_okc Tryd.func13 hcc13 (by decide) hcr13 (by simp[Tryd.ntmps13]) fun E hP hR hl hid=>?_
  simp only[cr13] at hR
  refine w_go 4000 ?_
  simp[cc13]
  refine goc_true (by simp; omega) ?_
  simp
  rw[hR]; exact rt_end (by simp<;>rfl) [] trivial (end_pure (by simp) (by simp) (by simp))
 ·rw[if_neg h]
  refine fn_okc Tryd.func13 hcc13 (by decide) hcr13 (by simp[Tryd.ntmps13]) fun E hP hR hl hid=>?_
  simp only[cr13] at hR
  refine w_go 4000 ?_
  simp[cc13]
  refine goc_false (by simp; omega) ?_
  simp
  rw[hR]; exact rt_end (by simp<;>rfl) [] trivial (end_pure (by simp) (by simp) (by simp))
theorem fRead_sz(s:List UInt8):(fRead s).1.sz≤20001:=by
 rcases fRead_cases s with e|e|⟨o,_,_,e⟩|⟨o,h1,h2,h3,e⟩<;>rw[e]
 ·decide
 ·decide
 ·show oZ.sz≤_
  decide
 ·have:=(pAll_sz (by omega) h2).1
  show o.sz≤_
  omega
set_option maxHeartbeats 8000000 in
theorem JsonTells_ok(o:Out)(s:List UInt8)(id:Nat)(ho:o.sz≤1048577)(hko:okO o):FnOk Tryd.prog 4 [eO o,.str s] [] id (.bool true) []:=by
 have hA:=fun id=>jPrint_ok o id (by omega) hko
 have hRd:=fun id=>read_ok s id
 have hC:=fun id=>rCheckOut_ok o id (by omega)
 have hJ:=fun (h:fChkO o=0) id=>jsonOf_ok (o.sz+1) o id (Nat.lt_succ_self _) (by omega) h
 have hL:=fun id=>tooLong_ok s 20000 id
 have hxz:=fRead_sz s
 have hS:=fun id=>Same_ok ((fRead s).1.sz+1) (fRead s).1 (fRead s).1 id (Nat.lt_succ_self _) (by omega)
 rw[decide_eq_true rfl] at hS
 obtain⟨ok,on,ot,oks,ols,hoe⟩:=eO_agg o
 rw[hoe] at hA hC hJ ⊢
 by_cases hl:s.length≤20000
 ·rw[if_neg (by omega)] at hL
  have hO:=fun id=>outOf_ok s id (by omega)
  rw[←fOutOf_eq hl] at hO
  obtain⟨xk,xn,xt,xks,xls,hxe⟩:=eO_agg (fRead s).1
  rw[hxe] at hRd hO hS
  generalize (fRead s).2=f at *
  by_cases h0:fOut o=0
  ·have hJ:=hJ (chk_of h0)
   rw[fPrint_of h0] at hA
   rw[h0] at hA hC
   generalize jS o=t at *
   refine fn_okc Tryd.func4 hcc4 (by decide) hcr4 (by simp[Tryd.ntmps4]) fun E hP hR hl hid=>?_
   simp only[cr4] at hR
   refine w_go 4000 ?_
   simp[cc4]
   (refine w_call hP rfl (hA _) (by simp) (by simp<;>rfl) ?_; refine w_go 4000 ?_; simp)
   (refine w_call hP rfl (hRd _) (by simp) (by simp<;>rfl) ?_; refine w_go 4000 ?_; simp)
   (refine w_call hP rfl (hC _) (by simp) (by simp<;>rfl) ?_; refine w_go 4000 ?_; simp)
   (refine w_call hP rfl (hJ _) (by simp) (by simp<;>rfl) ?_; refine w_go 4000 ?_; simp)
   (refine w_call hP rfl (hL _) (by simp) (by simp<;>rfl) ?_; refine w_go 4000 ?_; simp)
   (refine w_call hP rfl (hO _) (by simp) (by simp<;>rfl) ?_; refine w_go 4000 ?_; simp)
   (refine w_call hP rfl (jsonBegun_ok _) (by simp) (by simp<;>rfl) ?_; refine w_go 4000 ?_; simp)
   (refine w_callg hP (by simp) rfl (fun hc=>⟨hS _,by revert hc; simp; try grind,by simp⟩) ?_; refine w_go 4000 ?_; simp)
   rw[hR]; exact rt_end (by simp<;>rfl) [] trivial (end_pure (by simp) (by simp) (by simp))
  ·rw[fPrint_no h0] at hA
   generalize fOut o=e at *
   refine fn_okc Tryd.func4 hcc4 (by decide) hcr4 (by simp[Tryd.ntmps4]) fun E hP hR hl hid=>?_
   simp only[cr4] at hR
   refine w_go 4000 ?_
   simp[cc4]
   (refine w_call hP rfl (hA _) (by simp) (by simp<;>rfl) ?_; refine w_go 4000 ?_; simp)
   (refine w_call hP rfl (hRd _) (by simp) (by simp<;>rfl) ?_; refine w_go 4000 ?_; simp)
   (refine w_call hP rfl (hC _) (by simp) (by simp<;>rfl) ?_; refine w_go 4000 ?_; simp)
   refine goc_false (by simpa using h0) ?_
   simp
   (refine w_call hP rfl (hL _) (by simp) (by simp<;>rfl) ?_; refine w_go 4000 ?_; simp)
   (refine w_call hP rfl (hO _) (by simp) (by simp<;>rfl) ?_; refine w_go 4000 ?_; simp)
   (refine w_call hP rfl (jsonBegun_ok _) (by simp) (by simp<;>rfl) ?_; refine w_go 4000 ?_; simp)
   (refine w_callg hP (by simp) rfl (fun hc=>⟨hS _,by revert hc; simp; try grind,by simp⟩) ?_; refine w_go 4000 ?_; simp)
   rw[hR]; exact rt_end (by simp<;>rfl) [] trivial (end_pure (by simp) (by simp) (by simp))
 ·rw[if_pos (by omega)] at hL
  have hf:fRead s=(oZ,2):=by unfold fRead; rw[if_pos (by omega)]
  rw[hf] at hRd hS
  have hS:∀id,FnOk Tryd.prog 9 [.agg [.int .i64 0,.int .i64 0,.str [],.sl [],.sl []],.agg [.int .i64 0,.int .i64 0,.str [],.nils,.nils]] [] id (.bool true) []:=fun id=>FnOk.nrmA (hS id)
  simp only[eO_oZ] at hRd
  by_cases h0:fOut o=0
  ·have hJ:=hJ (chk_of h0)
   rw[fPrint_of h0] at hA
   rw[h0] at hA hC
   generalize jS o=t at *
   refine fn_okc Tryd.func4 hcc4 (by decide) hcr4 (by simp[Tryd.ntmps4]) fun E hP hR hl hid=>?_
   simp only[cr4] at hR
   refine w_go 4000 ?_
   simp[cc4]
   (refine w_call hP rfl (hA _) (by simp) (by simp<;>rfl) ?_; refine w_go 4000 ?_; simp)
   (refine w_call hP rfl (hRd _) (by simp) (by simp<;>rfl) ?_; refine w_go 4000 ?_; simp)
   (refine w_call hP rfl (hC _) (by simp) (by simp<;>rfl) ?_; refine w_go 4000 ?_; simp)
   (refine w_call hP rfl (hJ _) (by simp) (by simp<;>rfl) ?_; refine w_go 4000 ?_; simp)
   (refine w_call hP rfl (hL _) (by simp) (by simp<;>rfl) ?_; refine w_go 4000 ?_; simp)
   (refine w_call hP rfl (jsonBegun_ok _) (by simp) (by simp<;>rfl) ?_; refine w_go 4000 ?_; simp)
   (refine w_callg hP (by simp) rfl (fun hc=>⟨hS _,by revert hc; simp; try grind,by simp⟩) ?_; refine w_go 4000 ?_; simp)
   rw[hR]; exact rt_end (by simp<;>rfl) [] trivial (end_pure (by simp) (by simp) (by simp))
  ·rw[fPrint_no h0] at hA
   generalize fOut o=e at *
   refine fn_okc Tryd.func4 hcc4 (by decide) hcr4 (by simp[Tryd.ntmps4]) fun E hP hR hl hid=>?_
   simp only[cr4] at hR
   refine w_go 4000 ?_
   simp[cc4]
   (refine w_call hP rfl (hA _) (by simp) (by simp<;>rfl) ?_; refine w_go 4000 ?_; simp)
   (refine w_call hP rfl (hRd _) (by simp) (by simp<;>rfl) ?_; refine w_go 4000 ?_; simp)
   (refine w_call hP rfl (hC _) (by simp) (by simp<;>rfl) ?_; refine w_go 4000 ?_; simp)
   refine goc_false (by simpa using h0) ?_
   simp
   (refine w_call hP rfl (hL _) (by simp) (by simp<;>rfl) ?_; refine w_go 4000 ?_; simp)
   (refine w_call hP rfl (jsonBegun_ok _) (by simp) (by simp<;>rfl) ?_; refine w_go 4000 ?_; simp)
   (refine w_callg hP (by simp) rfl (fun hc=>⟨hS _,by revert hc; simp; try grind,by simp⟩) ?_; refine w_go 4000 ?_; simp)
   rw[hR]; exact rt_end (by simp<;>rfl) [] trivial (end_pure (by simp) (by simp) (by simp))
end Go.Am
