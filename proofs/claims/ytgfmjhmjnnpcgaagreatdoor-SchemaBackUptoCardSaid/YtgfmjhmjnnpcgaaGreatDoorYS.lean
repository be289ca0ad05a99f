/- The law SchemaBack. No condition. -/
import Derived.Test.YtgfmjhmjnnpcgaaGreatDoorYQ
namespace Go.Am
set_option linter.all false
open Go Go.RowKit Go.Proofs
set_option maxRecDepth 100000
set_option linter.all false
theorem same_self(m:List Ty)(h:fCheckT m=0)(id:Nat):FnOk Tryz.prog 28 [.sl (m.map eTy),.sl (m.map eTy)] [] id (.bool true) []:=by
 obtain⟨h1,h2,h3⟩:=fCheckT_zero.1 h
 have:=SameTypes_ok m m id (by omega) (fun t ht=>by have:=(tyP_of h t ht).le; omega)
 rwa [decide_eq_true rfl] at this
theorem sPr_ok{l:List Ty}(h:fCheckT l=0):sPr l=(tkB (tkSch l),0):=by unfold sPr; rw[if_pos h]
theorem fSchema_ne{s:List UInt8}{e:Int}(hs:fSchema s = .error e):e≠0:=by
  intro h0
  unfold fSchema at hs
  split at hs
  ·rename_i hl
   injection hs with hs
   exact fLex_ne hl (by omega)
  ·unfold fSchT at hs
   split at hs
   ·injection hs with hs; omega
   ·split at hs
    ·cases hs
    ·rename_i hn
     injection hs with hs; omega
set_option maxHeartbeats 8000000 in
theorem SchemaBack_ok(s:List UInt8)(l:List Ty)(id:Nat):FnOk Tryz.prog 9 [.str s,.sl (l.map eTy)] [] id (.bool true) []:=by
 have hB:=fun id=>schemaBegun_ok id
 have hP1:=fun id=>sPrint_ok l id
 have hR2:=fun id=>sRead_ok s id
 have tail:∀(m:List Ty),fSchema s = .ok m→(∀id,FnOk Tryz.prog 23 [.str s] [] id (.tup [.sl (m.map eTy),.int .i64 0]) [])∧(∀id,FnOk Tryz.prog 24 [.sl (m.map eTy)] [] id (.tup [.str (tkB (tkSch m)),.int .i64 0]) [])∧(∀id,FnOk Tryz.prog 23 [.str (tkB (tkSch m))] [] id (.tup [.sl (m.map eTy),.int .i64 0]) [])∧(∀id,FnOk Tryz.prog 28 [.sl (m.map eTy),.sl (m.map eTy)] [] id (.bool true) [])∧∀id,FnOk Tryz.prog 22 [.sl (m.map eTy)] [] id (.int .i64 0) []:=fun m hm=>by
  have hc:=sch_ok hm
  rw[hm] at hR2
  refine⟨hR2,fun id=>?_,fun id=>?_,fun id=>same_self m hc id,fun id=>?_⟩
  ·have:=sPrint_ok m id
   rwa [sPr_ok hc] at this
  ·have:=sRead_ok (tkB (tkSch m)) id
   rwa [sch_back hc] at this
  ·have:=sCheck_ok m id
   rwa [hc] at this
 by_cases hc:fCheckT l=0
 ·have hRl:=fun id=>sRead_ok (tkB (tkSch l)) id
  have hS:=fun id=>same_self l hc id
  rw[sPr_ok hc] at hP1
  rw[sch_back hc] at hRl
  have hRl:∀id,FnOk Tryz.prog 23 [.str (tkB (tkSch l))] [] id (.tup [.sl (l.map eTy),.int .i64 0]) []:=hRl
  cases hs:fSchema s with
  | error e =>
   rw[hs] at hR2
   have hR2:∀id,FnOk Tryz.prog 23 [.str s] [] id (.tup [.nils,.int .i64 e]) []:=hR2
   have hne:=fSchema_ne hs
   refine fn_okc Tryz.func9 hcc9 (by decide) hcr9 (by simp[Tryz.ntmps9]) fun E hP hR hl hid=>?_
   simp only[cr9] at hR
   refine w_go 4000 ?_
   simp[cc9]
   (refine w_call hP rfl (hB _) (by simp) (by simp<;>rfl) ?_; refine w_go 4000 ?_; simp)
   (refine w_call hP rfl (hP1 _) (by simp) (by simp<;>rfl) ?_; refine w_go 4000 ?_; simp)
   (refine w_call hP rfl (hRl _) (by simp) (by simp<;>rfl) ?_; refine w_go 4000 ?_; simp)
   (refine w_callg hP (by simp) rfl (fun hc=>⟨hS _,by revert hc; simp; try grind,by simp⟩) ?_; refine w_go 4000 ?_; simp)
   (refine w_call hP rfl (hR2 _) (by simp) (by simp<;>rfl) ?_; refine w_go 4000 ?_; simp)
   refine goc_true (by simpa using hne) ?_
   simp
   rw[hR]; exact rt_end (by simp<;>rfl) [] trivial (end_pure (by simp) (by simp) (by simp))
  | ok m =>
   obtain⟨t1,t2,t3,t4,t5⟩:=tail m hs
   clear tail
   refine fn_okc Tryz.func9 hcc9 (by decide) hcr9 (by simp[Tryz.ntmps9]) fun E hP hR hl hid=>?_
   simp only[cr9] at hR
   refine w_go 4000 ?_
   simp[cc9]
   (refine w_call hP rfl (hB _) (by simp) (by simp<;>rfl) ?_; refine w_go 4000 ?_; simp)
   (refine w_call hP rfl (hP1 _) (by simp) (by simp<;>rfl) ?_; refine w_go 4000 ?_; simp)
   (refine w_call hP rfl (hRl _) (by simp) (by simp<;>rfl) ?_; refine w_go 4000 ?_; simp)
   (refine w_callg hP (by simp) rfl (fun hc=>⟨hS _,by revert hc; simp; try grind,by simp⟩) ?_; refine w_go 4000 ?_; simp)
   (refine w_call hP rfl (t1 _) (by simp) (by simp<;>rfl) ?_; refine w_go 4000 ?_; simp)
   (refine w_call hP rfl (t2 _) (by simp) (by simp<;>rfl) ?_; refine w_go 4000 ?_; simp)
   (refine w_call hP rfl (t3 _) (by simp) (by simp<;>rfl) ?_; refine w_go 4000 ?_; simp)
   (refine w_callg hP (by simp) rfl (fun hc=>⟨t4 _,by revert hc; simp; try grind,by simp⟩) ?_; refine w_go 4000 ?_; simp)
   (refine w_callg hP (by simp) rfl (fun hc=>⟨t5 _,by revert hc; simp; try grind,by simp⟩) ?_; refine w_go 4000 ?_; simp)
   rw[hR]; exact rt_end (by simp<;>rfl) [] trivial (end_pure (by simp) (by simp) (by simp))
 ·have e1:sPr l=([],fCheckT l):=by unfold sPr; rw[if_neg hc]
  rw[e1] at hP1
  cases hs:fSchema s with
  | error e =>
   rw[hs] at hR2
   have hR2:∀id,FnOk Tryz.prog 23 [.str s] [] id (.tup [.nils,.int .i64 e]) []:=hR2
   refine fn_okc Tryz.func9 hcc9 (by decide) hcr9 (by simp[Tryz.ntmps9]) fun E hP hR hl hid=>?_
   simp only[cr9] at hR
   refine w_go 4000 ?_
   simp[cc9]
   (refine w_call hP rfl (hB _) (by simp) (by simp<;>rfl) ?_; refine w_go 4000 ?_; simp)
   (refine w_call hP rfl (hP1 _) (by simp) (by simp<;>rfl) ?_; refine w_go 4000 ?_; simp)
   refine goc_false (by simpa using hc) ?_
   simp
   (refine w_call hP rfl (hR2 _) (by simp) (by simp<;>rfl) ?_; refine w_go 4000 ?_; simp)
   refine goc_true (by simpa using fSchema_ne hs) ?_
   simp
   rw[hR]; exact rt_end (by simp<;>rfl) [] trivial (end_pure (by simp) (by simp) (by simp))
  | ok m =>
   obtain⟨t1,t2,t3,t4,t5⟩:=tail m hs
   clear tail
   refine fn_okc Tryz.func9 hcc9 (by decide) hcr9 (by simp[Tryz.ntmps9]) fun E hP hR hl hid=>?_
   simp only[cr9] at hR
   refine w_go 4000 ?_
   simp[cc9]
   (refine w_call hP rfl (hB _) (by simp) (by simp<;>rfl) ?_; refine w_go 4000 ?_; simp)
   (refine w_call hP rfl (hP1 _) (by simp) (by simp<;>rfl) ?_; refine w_go 4000 ?_; simp)
   refine goc_false (by simpa using hc) ?_
   simp
   (refine w_call hP rfl (t1 _) (by simp) (by simp<;>rfl) ?_; refine w_go 4000 ?_; simp)
   (refine w_call hP rfl (t2 _) (by simp) (by simp<;>rfl) ?_; refine w_go 4000 ?_; simp)
   (refine w_call hP rfl (t3 _) (by simp) (by simp<;>rfl) ?_; refine w_go 4000 ?_; simp)
   (refine w_callg hP (by simp) rfl (fun hc=>⟨t4 _,by revert hc; simp; try grind,by simp⟩) ?_; refine w_go 4000 ?_; simp)
   (refine w_callg hP (by simp) rfl (fun hc=>⟨t5 _,by revert hc; simp; try grind,by simp⟩) ?_; refine w_go 4000 ?_; simp)
   rw[hR]; exact rt_end (by simp<;>rfl) [] trivial (end_pure (by simp) (by simp) (by simp))
end Go.Am
