/- The law JsonBack, the walk. No condition. -/
import Derived.Test.YthghjjancoopoaaDoorYU
import Derived.Test.YthghjjancoopoaaDoorZC
namespace Go.Am
set_option linter.all false
open Go Go.RowKit Go.Proofs
set_option maxRecDepth 100000
set_option linter.all false
theorem fRead_of{o:Out}(h:fOut o=0)(hl:(jS o).length≤20000):fRead (jS o)=(o,0):=by
 unfold fRead
 rw[if_neg (by omega),pAll_of (chk_of h)]
 simp only
 rw[if_pos h]
theorem fRead_cases(s:List UInt8):(fRead s=(oZ,2))∨(fRead s=(oZ,1))∨(∃o,pAll s=some o∧fOut o≠0∧fRead s=(oZ,fOut o))∨∃o,s.length≤20000∧pAll s=some o∧fOut o=0∧fRead s=(o,0):=by
 by_cases h1:20000<s.length
 ·exact .inl (by unfold fRead; rw[if_pos h1])
 cases hp:pAll s with
 | none=>exact .inr (.inl (by unfold fRead; rw[if_neg h1,hp]))
 | some o =>
  by_cases h2:fOut o=0
  ·exact .inr (.inr (.inr ⟨o,by omega,rfl,h2,by unfold fRead; rw[if_neg h1,hp]; simp only; rw[if_pos h2]⟩))
  ·exact .inr (.inr (.inl ⟨o,rfl,h2,by unfold fRead; rw[if_neg h1,hp]; simp only; rw[if_neg h2]⟩))
theorem fRead_no{s:List UInt8}(h:(fRead s).2≠0):(fRead s).1=oZ:=by
 rcases fRead_cases s with e|e|⟨o,_,_,e⟩|⟨o,_,_,_,e⟩<;>rw[e] at h ⊢
 exact (h rfl).elim
theorem fRead_yes{s:List UInt8}(h:(fRead s).2=0):s.length≤20000∧pAll s=some (fRead s).1∧fOut (fRead s).1=0:=by
 rcases fRead_cases s with e|e|⟨o,_,h2,e⟩|⟨o,h1,h2,h3,e⟩<;>rw[e] at h ⊢
 ·cases h
 ·cases h
 ·exact (h2 h).elim
 ·exact⟨h1,h2,h3⟩
theorem low_of{e:Int}{t:List UInt8}(h:¬(e=0∧t.length≤20000)):(e==0&&decide ((t.length:Int)≤20000))=false:=by
 by_cases he:e=0
 ·have:¬t.length≤20000:=fun q=>h ⟨he,q⟩
  simp; omega
 ·simp[he]
theorem eO_oZ:eO oZ = .agg [.int .i64 0,.int .i64 0,.str [],.sl [],.sl []]:=rfl
set_option maxHeartbeats 8000000 in
theorem JsonBack_ok(o:Out)(s:List UInt8)(id:Nat)(ho:o.sz≤1048577)(hko:okO o):FnOk Tryd.prog 5 [eO o,.str s] [] id (.bool true) []:=by
 have hA:=fun id=>jPrint_ok o id (by omega) hko
 have hS:=fun id=>Same_ok (o.sz+1) o o id (Nat.lt_succ_self _) (by omega)
 rw[decide_eq_true rfl] at hS
 have hR2:=fun id=>read_ok s id
 have lo:=fPrint_len o
 obtain⟨ok,on,ot,oks,ols,hoe⟩:=eO_agg o
 rw[hoe] at hA hS ⊢
 by_cases h2:(fRead s).2=0
 ·obtain⟨hs8,hp,hx0⟩:=fRead_yes h2
  obtain⟨hxz,hxk⟩:=pAll_sz (by omega) hp
  have hB:=fun id=>jPrint_ok (fRead s).1 id (by omega) hxk
  rw[fPrint_of hx0,hx0,pAll_eq hp] at hB
  rw[h2] at hR2
  obtain⟨xk,xn,xt,xks,xls,hxe⟩:=eO_agg (fRead s).1
  rw[hxe] at hR2 hB
  by_cases h1:fOut o=0∧(fPrint o).length≤20000
  ·have hR1:=fun id=>read_ok (fPrint o) id
   rw[fPrint_of h1.1] at h1 hR1 hA
   rw[fRead_of h1.1 h1.2] at hR1
   rw[h1.1] at hA
   simp only[hoe] at hR1
   generalize jS o=t at *
   refine fn_okc Tryd.func5 hcc5 (by decide) hcr5 (by simp[Tryd.ntmps5]) fun E hP hR hl hid=>?_
   simp only[cr5] at hR
   refine w_go 4000 ?_
   simp[cc5]
   (refine w_call hP rfl (jsonBegun_ok _) (by simp) (by simp<;>rfl) ?_; refine w_go 4000 ?_; simp)
   (refine w_call hP rfl (hA _) (by simp) (by simp<;>rfl) ?_; refine w_go 4000 ?_; simp)
   refine goc_true (by simp; omega) ?_
   simp
   (refine w_call hP rfl (hR1 _) (by simp) (by simp<;>rfl) ?_; refine w_go 4000 ?_; simp)
   (refine w_callg hP (by simp) rfl (fun hc=>⟨hS _,by revert hc; simp; try grind,by simp⟩) ?_; refine w_go 4000 ?_; simp)
   (refine w_call hP rfl (hR2 _) (by simp) (by simp<;>rfl) ?_; refine w_go 4000 ?_; simp)
   (refine w_call hP rfl (hB _) (by simp) (by simp<;>rfl) ?_; refine w_go 4000 ?_; simp)
   rw[hR]; exact rt_end (by simp<;>rfl) [] trivial (end_pure (by simp) (by simp) (by simp))
  ·generalize fPrint o=t at *
   generalize fOut o=e at *
   refine fn_okc Tryd.func5 hcc5 (by decide) hcr5 (by simp[Tryd.ntmps5]) fun E hP hR hl hid=>?_
   simp only[cr5] at hR
   refine w_go 4000 ?_
   simp[cc5]
   (refine w_call hP rfl (jsonBegun_ok _) (by simp) (by simp<;>rfl) ?_; refine w_go 4000 ?_; simp)
   (refine w_call hP rfl (hA _) (by simp) (by simp<;>rfl) ?_; refine w_go 4000 ?_; simp)
   refine goc_false (low_of h1) ?_
   simp
   (refine w_call hP rfl (hR2 _) (by simp) (by simp<;>rfl) ?_; refine w_go 4000 ?_; simp)
   (refine w_call hP rfl (hB _) (by simp) (by simp<;>rfl) ?_; refine w_go 4000 ?_; simp)
   rw[hR]; exact rt_end (by simp<;>rfl) [] trivial (end_pure (by simp) (by simp) (by simp))
 ·have hz:=fRead_no h2
  rw[hz,eO_oZ] at hR2
  generalize (fRead s).2=e2 at *
  by_cases h1:fOut o=0∧(fPrint o).length≤20000
  ·have hR1:=fun id=>read_ok (fPrint o) id
   rw[fPrint_of h1.1] at h1 hR1 hA
   rw[fRead_of h1.1 h1.2] at hR1
   rw[h1.1] at hA
   simp only[hoe] at hR1
   generalize jS o=t at *
   refine fn_okc Tryd.func5 hcc5 (by decide) hcr5 (by simp[Tryd.ntmps5]) fun E hP hR hl hid=>?_
   simp only[cr5] at hR
   refine w_go 4000 ?_
   simp[cc5]
   (refine w_call hP rfl (jsonBegun_ok _) (by simp) (by simp<;>rfl) ?_; refine w_go 4000 ?_; simp)
   (refine w_call hP rfl (hA _) (by simp) (by simp<;>rfl) ?_; refine w_go 4000 ?_; simp)
   refine goc_true (by simp; omega) ?_
   simp
   (refine w_call hP rfl (hR1 _) (by simp) (by simp<;>rfl) ?_; refine w_go 4000 ?_; simp)
   (refine w_callg hP (by simp) rfl (fun hc=>⟨hS _,by revert hc; simp; try grind,by simp⟩) ?_; refine w_go 4000 ?_; simp)
   (refine w_call hP rfl (hR2 _) (by simp) (by simp<;>rfl) ?_; refine w_go 4000 ?_; simp)
   refine goc_true (by simpa using h2) ?_
   simp
   rw[hR]; exact rt_end (by simp<;>rfl) [] trivial (end_pure (by simp) (by simp) (by simp))
  ·generalize fPrint o=t at *
   generalize fOut o=e at *
   refine fn_okc Tryd.func5 hcc5 (by decide) hcr5 (by simp[Tryd.ntmps5]) fun E hP hR hl hid=>?_
   simp only[cr5] at hR
   refine w_go 4000 ?_
   simp[cc5]
   (refine w_call hP rfl (jsonBegun_ok _) (by simp) (by simp<;>rfl) ?_; refine w_go 4000 ?_; simp)
   (refine w_call hP rfl (hA _) (by simp) (by simp<;>rfl) ?_; refine w_go 4000 ?_; simp)
   refine goc_false (low_of h1) ?_
   simp
   (refine w_call hP rfl (hR2 _) (by simp) (by simp<;>rfl) ?_; refine w_go 4000 ?_; simp)
   refine goc_true (by simpa using h2) ?_
   simp
   rw[hR]; exact rt_end (by simp<;>rfl) [] trivial (end_pure (by simp) (by simp) (by simp))
end Go.Am
