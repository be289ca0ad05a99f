/- Parts of the proof: an abstract machine for Go functions, and what functions of the program give back (Dk16, Dk17). No condition. -/
import Derived.Test.YtgdanfbkhaoieaaXP
namespace Go.Am
set_option linter.all false
open Go Go.RowKit Go.Proofs
set_option maxRecDepth 100000
set_option linter.all false

theorem setL_drop {l : List (List UInt8)} (h : l ≠ []) (s : List UInt8) : (setL l s).dropLast = l.dropLast := by
  rw [setL_eq h]; simp
theorem setL_ne {l : List (List UInt8)} (h : l ≠ []) (s : List UInt8) : setL l s ≠ [] := by
  rw [setL_eq h]; simp
theorem crash_app {l : List (List UInt8)} {b : Bt} (g : Good l) (hc : fCheckD ⟨l, (lastS l).length⟩ = 0) (he : (fAppend ⟨l, (lastS l).length⟩ b).e = 0) (keep : Int) (hk : 0 ≤ keep) :
    allB (rCrash (fAppend ⟨l, (lastS l).length⟩ b).d keep).seg = allB l ∨ allB (rCrash (fAppend ⟨l, (lastS l).length⟩ b).d keep).seg = allB l ++ [b] := by
  obtain ⟨p1, p2, p3, p4, p5, p6, p7⟩ := append_good g hc he
  rcases p7 with ⟨p7, hne⟩ | p7
  · rw [p7] at p3 ⊢
    unfold rCrash
    split
    · rename_i hx
      left
      have h2 := hx.2
      simp only [lastS_setL hne] at h2 ⊢
      rw [allB_set (setL_ne hne _), setL_drop hne, allB_ends hne]
      have e : List.take ((lastS l).length + keep).toNat (lastS l ++ fBytes b) = lastS l ++ (fBytes b).take keep.toNat := by
        rw [show ((lastS l).length + keep).toNat = (lastS l).length + keep.toNat by omega, List.take_length_add_append]
      rw [e, (cut_part (lastS l) b p5 p6 keep.toNat (by simp at h2; omega)).1]
    · exact .inr p3
  · rw [p7] at p3 ⊢
    unfold rCrash
    split
    · rename_i hx
      left
      have h2 := hx.2
      simp only [lastS_snoc] at h2 ⊢
      rw [allB_set (by simp), List.dropLast_concat]
      have h0 := cut_part [] b p5 (by rw [cut_nil]; rfl) keep.toNat (by simp at h2; omega)
      rw [List.nil_append] at h0
      rw [show (0 + keep).toNat = keep.toNat by omega, h0.1, cut_nil]
      simp
    · exact .inr p3
theorem crash_whole (l : List (List UInt8)) (n k : Int) (hk : 0 ≤ k) (hn : n = (lastS l).length) : rCrash ⟨l, n⟩ k = ⟨l, n⟩ := by
  unfold rCrash
  rw [if_neg (by rintro ⟨_, h⟩; simp only at h; omega)]
theorem crash_seg8 (d : Dk) (k : Int) (h : d.seg.length ≤ 8) : (rCrash d k).seg.length ≤ 8 := by
  unfold rCrash
  split
  · simp [setL]; omega
  · exact h
theorem append_ne (l : List Bt) (b : Bt) : ¬ (l ++ [b] = l) := fun h => by
  have := congrArg List.length h; simp at this
end Go.Am

namespace Go.Am
set_option linter.all false
open Go Go.RowKit Go.Proofs
set_option maxRecDepth 100000
set_option linter.all false

theorem append_bad {d : Dk} {b : Bt} (h : (fAppend d b).e ≠ 0) : (fAppend d b).d.seg = [] := by
  unfold fAppend at h ⊢
  repeat' split
  all_goals first | rfl | (simp_all)
set_option maxHeartbeats 8000000 in
theorem DiskCrash_ok (d : Dk) (b : Bt) (keep more : Int) (id : Nat) : FnOk Try.prog 8 [eDk d, eBt b, .int .i64 keep, .int .i64 more] [] id (.bool true) [] := by
  have hO := Open_ok d
  by_cases hB : fCheckD d = 0
  · by_cases hk : 0 ≤ keep ∧ 0 ≤ more
    · obtain ⟨hk0, hkm⟩ := hk
      have g := good_of hB
      obtain ⟨hab1, hab2⟩ := allB_len hB
      obtain ⟨w1, w2, w3, w4, w5, w6⟩ := whole_good g
      have hA := Append_ok (oDk d.seg) b
      have hw8 := w1.h8
      rw [hB, if_pos rfl, if_pos rfl, show (⟨(whole d.seg).seg, (whole d.seg).syn⟩ : Dk) = oDk d.seg from rfl] at hO
      have hod : oDk d.seg = ⟨(whole d.seg).seg, (lastS (whole d.seg).seg).length⟩ := by unfold oDk; rw [w6]
      by_cases he : (fAppend (oDk d.seg) b).e = 0
      · obtain ⟨p1, p2, p3, p4, p5, p6, p7⟩ := append_good (syn := (oDk d.seg).syn) w1 w2 he
        have p2' : fCheckD (fAppend (oDk d.seg) b).d = 0 := p2
        have p3' : allB (fAppend (oDk d.seg) b).d.seg = allB d.seg ++ [b] := by rw [← w3]; exact p3
        have hca : allB (rCrash (fAppend (oDk d.seg) b).d keep).seg = allB d.seg ∨ allB (rCrash (fAppend (oDk d.seg) b).d keep).seg = allB d.seg ++ [b] := by
          rw [← w3, hod]
          rw [hod] at he
          exact crash_app w1 (by rw [w6] at w2; exact w2) he keep hk0
        rw [he] at hA
        have p1' : Good (fAppend (oDk d.seg) b).d.seg := p1
        have p4' : (cutA (lastS (fAppend (oDk d.seg) b).d.seg) 0).last = (lastS (fAppend (oDk d.seg) b).d.seg).length := p4
        generalize (fAppend (oDk d.seg) b).d = x at *
        obtain ⟨c1, c2, -⟩ := crash_good p2' keep hk0
        have hCx := Crash_okk x keep
        rw [crash_eq p2' hk0] at hCx
        have hOc := Open_ok (rCrash x keep)
        have hck := dCheck_ok (rCrash x keep)
        obtain ⟨v1, v2, v3, v4, v5, v6⟩ := whole_good c1
        rw [c2, if_pos rfl, if_pos rfl, show (⟨(whole (rCrash x keep).seg).seg, (whole (rCrash x keep).seg).syn⟩ : Dk) = oDk (rCrash x keep).seg from rfl] at hOc
        rw [c2] at hck
        have v2' : fCheckD (oDk (rCrash x keep).seg) = 0 := v2
        have hCy := Crash_okk (oDk (rCrash x keep).seg) more
        rw [crash_eq v2' hkm, show rCrash (oDk (rCrash x keep).seg) more = oDk (rCrash x keep).seg from crash_whole _ _ _ hkm (by rw [v6])] at hCy
        have hsd := SameDisk_ok (oDk (rCrash x keep).seg) (oDk (rCrash x keep).seg)
        rw [(sameDk_iff _ _).2 rfl] at hsd
        have v8 : (oDk (rCrash x keep).seg).seg.length ≤ 8 := v1.h8
        have hS := Sync_ok x
        have hsy : fSync x = ⟨⟨x.seg, (lastS x.seg).length⟩, 0⟩ := by
          unfold fSync
          rw [if_neg (by rw [p2']; decide), if_neg (by rw [p4']; omega)]
        rw [hsy] at hS
        have hs0 : fCheckD ⟨x.seg, (lastS x.seg).length⟩ = 0 := p1'.check _ (by rw [← p4']; exact last_mem _)
        have hCs := Crash_okk ⟨x.seg, (lastS x.seg).length⟩ keep
        rw [crash_eq hs0 hk0, crash_whole _ _ _ hk0 rfl] at hCs
        have hOz := Open_ok ⟨x.seg, (lastS x.seg).length⟩
        rw [hs0, if_pos rfl, if_pos rfl, p3'] at hOz
        have hsb2 := SameBatches_ok (allB d.seg ++ [b]) (allB d.seg ++ [b])
        rw [(sameL_iff sameBt_iff).2 rfl] at hsb2
        have hb8 := (fCheckB_zero p5).2.2.1
        have hev2 : ∀ x ∈ allB d.seg ++ [b], x.events.length < 9223372036854775807 := fun x hx => by
          rcases List.mem_append.1 hx with hx | hx
          · have := hab2 x hx; omega
          · simp at hx; subst hx; omega
        have hev1 : ∀ x ∈ allB d.seg, x.events.length < 9223372036854775807 := fun x hx => by
          have := hab2 x hx; omega
        generalize oDk (rCrash x keep).seg = y at *
        have hx8 : x.seg.length ≤ 8 := p1'.h8
        have hc8 : (rCrash x keep).seg.length ≤ 8 := c1.h8
        generalize rCrash x keep = c at *
        rcases hca with hca | hca
        · rw [hca] at hOc
          have hsl := SameBatches_ok (allB d.seg) (allB d.seg)
          rw [(sameL_iff sameBt_iff).2 rfl] at hsl
          simp only [eDk, eBt, List.map_nil, List.map_append, List.map_cons] at *
          refine fn_okc Try.func8 hcc8 (by decide) hcr8 (by simp [Try.ntmps8]) fun E hP hR hl hid => ?_
          simp only [cr8] at hR
          refine w_go 4000 ?_
          simp [cc8]
          (refine w_call hP rfl (diskBegun_ok _) (by simp) (by simp <;> rfl) ?_; refine w_go 4000 ?_; simp)
          (refine w_call hP rfl (hO _) (by simp) (by simp <;> rfl) ?_; refine w_go 4000 ?_; simp)
          refine goc_false (by simp; omega) ?_
          simp
          (refine w_call hP rfl (hA _) (by simp) (by simp <;> rfl) ?_; refine w_go 4000 ?_; simp)
          (refine w_call hP rfl (hCx _) (by simp) (by simp <;> rfl) ?_; refine w_go 4000 ?_; simp)
          (refine w_call hP rfl (hOc _) (by simp) (by simp <;> rfl) ?_; refine w_go 4000 ?_; simp)
          (refine w_call hP rfl (hCy _) (by simp) (by simp <;> rfl) ?_; refine w_go 4000 ?_; simp)
          (refine w_callg hP (by simp) rfl (fun hc => ⟨hsd _ (by omega), by revert hc; simp; try grind, by simp⟩) ?_; refine w_go 4000 ?_; simp)
          (refine w_callg hP (by simp) rfl (fun hc => ⟨hck _, by revert hc; simp; try grind, by simp⟩) ?_; refine w_go 4000 ?_; simp)
          refine ⟨⟨fun a _ => cells_bt a, by omega, by omega⟩, ⟨by omega, by omega⟩, ?_⟩
          (refine w_call hP rfl (hS _) (by simp) (by simp <;> rfl) ?_; refine w_go 4000 ?_; simp)
          (refine w_call hP rfl (hCs _) (by simp) (by simp <;> rfl) ?_; refine w_go 4000 ?_; simp)
          (refine w_call hP rfl (hOz _) (by simp) (by simp <;> rfl) ?_; refine w_go 4000 ?_; simp)
          refine w_split (.bool true) (by simp) (fun _ => ?_) (fun hg => by simp at hg)
          (refine w_callR hP rfl (hsb2 _ (by simp; omega) hev2) (by simp [take_snoc1] <;> rfl) (by simp [take_snoc1]) (by simp [take_snoc1] <;> rfl) (by simp [take_snoc1]) ?_; refine w_go 4000 ?_; simp [take_snoc1])
          refine w_split (.bool true) (by simp) (fun _ => ?_) (fun hg => by simp at hg)
          (refine w_call hP rfl (hsl _ (by omega) hev1) (by simp) (by simp <;> rfl) ?_; refine w_go 4000 ?_; simp)
          refine w_split (.bool true) (by simp) (fun hg => by simp at hg) (fun _ => ?_)
          refine w_go 4000 ?_
          simp
          rw [hR]; exact rt_end (by simp <;> rfl) [] trivial (end_pure (by simp) (by simp) (by simp))
        · rw [hca] at hOc
          have hsl := SameBatches_ok (allB d.seg ++ [b]) (allB d.seg)
          rw [Bool.eq_false_iff.2 (fun h => append_ne _ _ ((sameL_iff sameBt_iff).1 h))] at hsl
          simp only [eDk, eBt, List.map_nil, List.map_append, List.map_cons] at *
          refine fn_okc Try.func8 hcc8 (by decide) hcr8 (by simp [Try.ntmps8]) fun E hP hR hl hid => ?_
          simp only [cr8] at hR
          refine w_go 4000 ?_
          simp [cc8]
          (refine w_call hP rfl (diskBegun_ok _) (by simp) (by simp <;> rfl) ?_; refine w_go 4000 ?_; simp)
          (refine w_call hP rfl (hO _) (by simp) (by simp <;> rfl) ?_; refine w_go 4000 ?_; simp)
          refine goc_false (by simp; omega) ?_
          simp
          (refine w_call hP rfl (hA _) (by simp) (by simp <;> rfl) ?_; refine w_go 4000 ?_; simp)
          (refine w_call hP rfl (hCx _) (by simp) (by simp <;> rfl) ?_; refine w_go 4000 ?_; simp)
          (refine w_call hP rfl (hOc _) (by simp) (by simp <;> rfl) ?_; refine w_go 4000 ?_; simp)
          (refine w_call hP rfl (hCy _) (by simp) (by simp <;> rfl) ?_; refine w_go 4000 ?_; simp)
          (refine w_callg hP (by simp) rfl (fun hc => ⟨hsd _ (by omega), by revert hc; simp; try grind, by simp⟩) ?_; refine w_go 4000 ?_; simp)
          (refine w_callg hP (by simp) rfl (fun hc => ⟨hck _, by revert hc; simp; try grind, by simp⟩) ?_; refine w_go 4000 ?_; simp)
          refine ⟨⟨fun a _ => cells_bt a, by omega, by omega⟩, ⟨by omega, by omega⟩, ?_⟩
          (refine w_call hP rfl (hS _) (by simp) (by simp <;> rfl) ?_; refine w_go 4000 ?_; simp)
          (refine w_call hP rfl (hCs _) (by simp) (by simp <;> rfl) ?_; refine w_go 4000 ?_; simp)
          (refine w_call hP rfl (hOz _) (by simp) (by simp <;> rfl) ?_; refine w_go 4000 ?_; simp)
          refine w_split (.bool true) (by simp) (fun _ => ?_) (fun hg => by simp at hg)
          (refine w_callR hP rfl (hsb2 _ (by simp; omega) hev2) (by simp [take_snoc1] <;> rfl) (by simp [take_snoc1]) (by simp [take_snoc1] <;> rfl) (by simp [take_snoc1]) ?_; refine w_go 4000 ?_; simp [take_snoc1])
          refine w_split (.bool true) (by simp) (fun _ => ?_) (fun hg => by simp at hg)
          (refine w_call hP rfl (hsl _ (by simp; omega) hev2) (by simp) (by simp <;> rfl) ?_; refine w_go 4000 ?_; simp)
          refine w_split (.bool true) (by simp) (fun _ => ?_) (fun hg => by simp at hg)
          (refine w_callR hP rfl (hsb2 _ (by simp; omega) hev2) (by simp [take_snoc1] <;> rfl) (by simp [take_snoc1]) (by simp [take_snoc1] <;> rfl) (by simp [take_snoc1]) ?_; refine w_go 4000 ?_; simp [take_snoc1])
          rw [hR]; exact rt_end (by simp <;> rfl) [] trivial (end_pure (by simp) (by simp) (by simp))
      · have hse : (fAppend (oDk d.seg) b).d.seg = [] := append_bad he
        simp only [eDk, eBt, List.map_nil] at *
        refine fn_okc Try.func8 hcc8 (by decide) hcr8 (by simp [Try.ntmps8]) fun E hP hR hl hid => ?_
        simp only [cr8] at hR
        refine w_go 4000 ?_
        simp [cc8]
        (refine w_call hP rfl (diskBegun_ok _) (by simp) (by simp <;> rfl) ?_; refine w_go 4000 ?_; simp)
        (refine w_call hP rfl (hO _) (by simp) (by simp <;> rfl) ?_; refine w_go 4000 ?_; simp)
        refine goc_false (by simp; omega) ?_
        simp
        (refine w_call hP rfl (hA _) (by simp) (by simp <;> rfl) ?_; refine w_go 4000 ?_; simp)
        refine goc_true (by simpa using he) ?_
        simp
        rw [hR]; exact rt_end (by simp <;> rfl) [] trivial (end_pure (by simp; simp [hse]) (by simp) (by simp))
    · rw [hB, if_pos rfl, if_pos rfl] at hO
      simp only [eDk, eBt, List.map_nil] at *
      refine fn_okc Try.func8 hcc8 (by decide) hcr8 (by simp [Try.ntmps8]) fun E hP hR hl hid => ?_
      simp only [cr8] at hR
      refine w_go 4000 ?_
      simp [cc8]
      (refine w_call hP rfl (diskBegun_ok _) (by simp) (by simp <;> rfl) ?_; refine w_go 4000 ?_; simp)
      (refine w_call hP rfl (hO _) (by simp) (by simp <;> rfl) ?_; refine w_go 4000 ?_; simp)
      refine goc_true (by simp; omega) ?_
      simp
      rw [hR]; exact rt_end (by simp <;> rfl) [] trivial (end_pure (by simp) (by simp) (by simp))
  · rw [if_neg hB, if_neg hB] at hO
    simp only [eDk, eBt, List.map_nil] at *
    refine fn_okc Try.func8 hcc8 (by decide) hcr8 (by simp [Try.ntmps8]) fun E hP hR hl hid => ?_
    simp only [cr8] at hR
    refine w_go 4000 ?_
    simp [cc8]
    (refine w_call hP rfl (diskBegun_ok _) (by simp) (by simp <;> rfl) ?_; refine w_go 4000 ?_; simp)
    (refine w_call hP rfl (hO _) (by simp) (by simp <;> rfl) ?_; refine w_go 4000 ?_; simp)
    refine goc_true (by simp [hB]) ?_
    simp
    rw [hR]; exact rt_end (by simp <;> rfl) [] trivial (end_pure (by simp) (by simp) (by simp))
end Go.Am
