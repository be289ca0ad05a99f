/- Parts of the proof: an abstract machine for Go functions, and what functions of the program give back (Dk11). No condition. -/
import Derived.Test.YtgdanfbkhaoieaaXL
namespace Go.Am
set_option linter.all false
open Go Go.RowKit Go.Proofs
set_option maxRecDepth 100000
set_option linter.all false

theorem rAppend_z (d : Dk) (b : Bt) (h : (rAppend d b).e ≠ 0) : (rAppend d b).d = ⟨[], 0⟩ := by
  unfold rAppend at h ⊢
  split
  · rfl
  · rename_i h1
    rw [if_neg h1] at h
    split
    · rename_i h2; rw [if_pos h2] at h; exact (h rfl).elim
    · rename_i h2
      rw [if_neg h2] at h
      split
      · rfl
      · rename_i h3; rw [if_neg h3] at h; exact (h rfl).elim
theorem rAppend_len (d : Dk) (b : Bt) (h : d.seg.length ≤ 8) : (rAppend d b).d.seg.length ≤ 9 := by
  unfold rAppend
  split
  · simp
  · split
    · simp; omega
    · split
      · simp
      · simp; omega
theorem rCrash_len (d : Dk) (k : Int) (h : d.seg.length ≤ 8) : (rCrash d k).seg.length ≤ 9 := by
  unfold rCrash
  split
  · simp; omega
  · omega
theorem dk0_true (e : Int) (h : e ≠ 0) : isDk ⟨[], 0⟩ e e ⟨[], 0⟩ = true := isDk_ok _ _ _ (fun h' => (h h').elim) fun _ => rfl
set_option maxHeartbeats 16000000 in
theorem DiskTells_ok (d : Dk) (b : Bt) (keep : Int) (id : Nat) : FnOk Try.prog 7 [eDk d, eBt b, .int .i64 keep] [] id (.bool true) [] := by
  have hO := Open_ok d
  have hA := Append_ok d b
  have hS := Sync_ok d
  have hC := Crash_okk d keep
  have hK := CheckDisk_ok d
  have hck := dCheck_ok d
  by_cases hB : fCheckD d = 0
  · obtain ⟨h8, h4⟩ := fCheckD_sz (by rw [hB]; decide)
    have hl4 := lastS_le h4
    obtain ⟨hs0, hs1⟩ := syn_in d hB
    obtain ⟨hab1, hab2⟩ := allB_len hB
    have hKb := rCheckBatch_ok b
    have hRO := OpenDisk_ok d.seg d.syn
    have hL := LastOf_ok d.seg d.syn
    have hsb := SameBatches_ok (allB d.seg) (allB d.seg)
    have hio := diskIs_ok ⟨(whole d.seg).seg, (whole d.seg).syn⟩ 0 0 ⟨(whole d.seg).seg, (whole d.seg).syn⟩
    have hwl : (whole d.seg).seg.length ≤ 8 := by simp [whole]; omega
    have hws : (whole d.seg).syn = (cutA (lastS d.seg) 0).last := rfl
    rw [isDk_ok _ _ _ (fun _ => rfl) (fun h => (h rfl).elim)] at hio
    rw [(sameL_iff sameBt_iff).2 rfl] at hsb
    rw [hB, if_pos rfl, if_pos rfl] at hO
    rw [hB] at hK hck
    rw [open_eq hB, ← hws] at hRO
    have hSv : fSync d = if (whole d.seg).syn < (lastS d.seg).length then ⟨⟨[], 0⟩, 4⟩ else ⟨⟨d.seg, (lastS d.seg).length⟩, 0⟩ := by unfold fSync; rw [if_neg (by simp [hB]), hws]
    by_cases hb : fCheckB b = 0
    · have hAO := AppendOf_ok d b
      have hia := diskIs_ok (rAppend d b).d (rAppend d b).e (rAppend d b).e (rAppend d b).d
      have hal := rAppend_len d b h8
      rw [isDk_ok _ _ _ (fun _ => rfl) (rAppend_z d b)] at hia
      rw [append_eq hB hb] at hA
      rw [hb] at hKb
      by_cases hk : 0 ≤ keep
      · have hCO := CrashOf_ok d keep
        have hcl := rCrash_len d keep h8
        have hic := diskIs_ok (rCrash d keep) 0 0 (rCrash d keep)
        rw [isDk_ok _ _ _ (fun _ => rfl) (fun h => (h rfl).elim)] at hic
        rw [crash_eq hB (by omega)] at hC
        by_cases ht : (whole d.seg).syn < (lastS d.seg).length
        · have hSv' : fSync d = ⟨⟨[], 0⟩, 4⟩ := by rw [hSv, if_pos ht]
          have his := diskIs_ok ⟨[], 0⟩ 4 4 ⟨d.seg, (lastS d.seg).length⟩
          rw [isDk_ok _ _ _ (fun h => by simp at h) (fun _ => rfl)] at his
          rw [hSv'] at hS
          simp only [eDk, eBt, List.map_nil] at *
          refine fn_okc Try.func7 hcc7 (by decide) hcr7 (by simp [Try.ntmps7]) fun E hP hR hl hid => ?_
          simp only [cr7] at hR
          refine w_go 4000 ?_
          simp [cc7]
          (refine w_call hP rfl (hO _) (by simp) (by simp <;> rfl) ?_; refine w_go 4000 ?_; simp)
          (refine w_call hP rfl (hA _) (by simp) (by simp <;> rfl) ?_; refine w_go 4000 ?_; simp)
          (refine w_call hP rfl (hS _) (by simp) (by simp <;> rfl) ?_; refine w_go 4000 ?_; simp)
          (refine w_call hP rfl (hC _) (by simp) (by simp <;> rfl) ?_; refine w_go 4000 ?_; simp)
          (refine w_call hP rfl (hK _) (by simp) (by simp <;> rfl) ?_; refine w_go 4000 ?_; simp)
          (refine w_call hP rfl (hKb _) (by simp) (by simp <;> rfl) ?_; refine w_go 4000 ?_; simp)
          refine goc_false (by simp; omega) ?_
          simp
          (refine w_call hP rfl (hRO _ h8 h4) (by simp) (by simp <;> rfl) ?_; refine w_go 4000 ?_; simp)
          (refine w_call hP rfl (hL _ (by omega)) (by simp) (by simp <;> rfl) ?_; refine w_go 4000 ?_; simp)
          refine goc_true (by simp; omega) ?_
          simp
          (refine w_call hP rfl (hAO _ hb h8 h4) (by simp) (by simp <;> rfl) ?_; refine w_go 4000 ?_; simp)
          (refine w_call hP rfl (hCO _ h8 hl4 hs0 hs1 (by omega)) (by simp) (by simp <;> rfl) ?_; refine w_go 4000 ?_; simp)
          (refine w_call hP rfl (diskBegun_ok _) (by simp) (by simp <;> rfl) ?_; refine w_go 4000 ?_; simp)
          (refine w_callg hP (by simp) rfl (fun hc => ⟨hck _, by revert hc; simp; try grind, by simp⟩) ?_; refine w_go 4000 ?_; simp)
          (refine w_callg hP (by simp) rfl (fun hc => ⟨hsb _ (by omega) (fun x hx => by have := hab2 x hx; omega), by revert hc; simp; try grind, by simp⟩) ?_; refine w_go 4000 ?_; simp)
          (refine w_callg hP (by simp) rfl (fun hc => ⟨hio _ (by omega), by revert hc; simp; try grind, by simp⟩) ?_; refine w_go 4000 ?_; simp)
          (refine w_callg hP (by simp) rfl (fun hc => ⟨hia _ (by omega), by revert hc; simp; try grind, by simp⟩) ?_; refine w_go 4000 ?_; simp)
          (refine w_callg hP (by simp) rfl (fun hc => ⟨his _ (by simp), by revert hc; simp; try grind, by simp⟩) ?_; refine w_go 4000 ?_; simp)
          (refine w_callg hP (by simp) rfl (fun hc => ⟨hic _ (by omega), by revert hc; simp; try grind, by simp⟩) ?_; refine w_go 4000 ?_; simp)
          rw [hR]; exact rt_end (by simp <;> rfl) [] trivial (end_pure (by simp) (by simp) (by simp))
        · have hSv' : fSync d = ⟨⟨d.seg, (lastS d.seg).length⟩, 0⟩ := by rw [hSv, if_neg ht]
          have his := diskIs_ok ⟨d.seg, (lastS d.seg).length⟩ 0 0 ⟨d.seg, (lastS d.seg).length⟩
          rw [isDk_ok _ _ _ (fun _ => rfl) (fun h => (h rfl).elim)] at his
          rw [hSv'] at hS
          simp only [eDk, eBt, List.map_nil] at *
          refine fn_okc Try.func7 hcc7 (by decide) hcr7 (by simp [Try.ntmps7]) fun E hP hR hl hid => ?_
          simp only [cr7] at hR
          refine w_go 4000 ?_
          simp [cc7]
          (refine w_call hP rfl (hO _) (by simp) (by simp <;> rfl) ?_; refine w_go 4000 ?_; simp)
          (refine w_call hP rfl (hA _) (by simp) (by simp <;> rfl) ?_; refine w_go 4000 ?_; simp)
          (refine w_call hP rfl (hS _) (by simp) (by simp <;> rfl) ?_; refine w_go 4000 ?_; simp)
          (refine w_call hP rfl (hC _) (by simp) (by simp <;> rfl) ?_; refine w_go 4000 ?_; simp)
          (refine w_call hP rfl (hK _) (by simp) (by simp <;> rfl) ?_; refine w_go 4000 ?_; simp)
          (refine w_call hP rfl (hKb _) (by simp) (by simp <;> rfl) ?_; refine w_go 4000 ?_; simp)
          refine goc_false (by simp; omega) ?_
          simp
          (refine w_call hP rfl (hRO _ h8 h4) (by simp) (by simp <;> rfl) ?_; refine w_go 4000 ?_; simp)
          (refine w_call hP rfl (hL _ (by omega)) (by simp) (by simp <;> rfl) ?_; refine w_go 4000 ?_; simp)
          refine goc_false (by simp; omega) ?_
          simp
          (refine w_call hP rfl (hAO _ hb h8 h4) (by simp) (by simp <;> rfl) ?_; refine w_go 4000 ?_; simp)
          (refine w_call hP rfl (hCO _ h8 hl4 hs0 hs1 (by omega)) (by simp) (by simp <;> rfl) ?_; refine w_go 4000 ?_; simp)
          (refine w_call hP rfl (diskBegun_ok _) (by simp) (by simp <;> rfl) ?_; refine w_go 4000 ?_; simp)
          (refine w_callg hP (by simp) rfl (fun hc => ⟨hck _, by revert hc; simp; try grind, by simp⟩) ?_; refine w_go 4000 ?_; simp)
          (refine w_callg hP (by simp) rfl (fun hc => ⟨hsb _ (by omega) (fun x hx => by have := hab2 x hx; omega), by revert hc; simp; try grind, by simp⟩) ?_; refine w_go 4000 ?_; simp)
          (refine w_callg hP (by simp) rfl (fun hc => ⟨hio _ (by omega), by revert hc; simp; try grind, by simp⟩) ?_; refine w_go 4000 ?_; simp)
          (refine w_callg hP (by simp) rfl (fun hc => ⟨hia _ (by omega), by revert hc; simp; try grind, by simp⟩) ?_; refine w_go 4000 ?_; simp)
          (refine w_callg hP (by simp) rfl (fun hc => ⟨his _ (by omega), by revert hc; simp; try grind, by simp⟩) ?_; refine w_go 4000 ?_; simp)
          (refine w_callg hP (by simp) rfl (fun hc => ⟨hic _ (by omega), by revert hc; simp; try grind, by simp⟩) ?_; refine w_go 4000 ?_; simp)
          rw [hR]; exact rt_end (by simp <;> rfl) [] trivial (end_pure (by simp) (by simp) (by simp))
      · have hic := diskIs0_ok ⟨[], 0⟩ 3 3
        rw [dk0_true 3 (by decide)] at hic
        rw [show fCrash d keep = ⟨⟨[], 0⟩, 3⟩ by unfold fCrash; rw [if_neg (by simp [hB]), if_pos (by omega)]] at hC
        by_cases ht : (whole d.seg).syn < (lastS d.seg).length
        · have hSv' : fSync d = ⟨⟨[], 0⟩, 4⟩ := by rw [hSv, if_pos ht]
          have his := diskIs_ok ⟨[], 0⟩ 4 4 ⟨d.seg, (lastS d.seg).length⟩
          rw [isDk_ok _ _ _ (fun h => by simp at h) (fun _ => rfl)] at his
          rw [hSv'] at hS
          simp only [eDk, eBt, List.map_nil] at *
          refine fn_okc Try.func7 hcc7 (by decide) hcr7 (by simp [Try.ntmps7]) fun E hP hR hl hid => ?_
          simp only [cr7] at hR
          refine w_go 4000 ?_
          simp [cc7]
          (refine w_call hP rfl (hO _) (by simp) (by simp <;> rfl) ?_; refine w_go 4000 ?_; simp)
          (refine w_call hP rfl (hA _) (by simp) (by simp <;> rfl) ?_; refine w_go 4000 ?_; simp)
          (refine w_call hP rfl (hS _) (by simp) (by simp <;> rfl) ?_; refine w_go 4000 ?_; simp)
          (refine w_call hP rfl (hC _) (by simp) (by simp <;> rfl) ?_; refine w_go 4000 ?_; simp)
          (refine w_call hP rfl (hK _) (by simp) (by simp <;> rfl) ?_; refine w_go 4000 ?_; simp)
          (refine w_call hP rfl (hKb _) (by simp) (by simp <;> rfl) ?_; refine w_go 4000 ?_; simp)
          refine goc_true (by simp; omega) ?_
          simp
          (refine w_call hP rfl (hRO _ h8 h4) (by simp) (by simp <;> rfl) ?_; refine w_go 4000 ?_; simp)
          (refine w_call hP rfl (hL _ (by omega)) (by simp) (by simp <;> rfl) ?_; refine w_go 4000 ?_; simp)
          refine goc_true (by simp; omega) ?_
          simp
          (refine w_call hP rfl (hAO _ hb h8 h4) (by simp) (by simp <;> rfl) ?_; refine w_go 4000 ?_; simp)
          (refine w_call hP rfl (diskBegun_ok _) (by simp) (by simp <;> rfl) ?_; refine w_go 4000 ?_; simp)
          (refine w_callg hP (by simp) rfl (fun hc => ⟨hck _, by revert hc; simp; try grind, by simp⟩) ?_; refine w_go 4000 ?_; simp)
          (refine w_callg hP (by simp) rfl (fun hc => ⟨hsb _ (by omega) (fun x hx => by have := hab2 x hx; omega), by revert hc; simp; try grind, by simp⟩) ?_; refine w_go 4000 ?_; simp)
          (refine w_callg hP (by simp) rfl (fun hc => ⟨hio _ (by omega), by revert hc; simp; try grind, by simp⟩) ?_; refine w_go 4000 ?_; simp)
          (refine w_callg hP (by simp) rfl (fun hc => ⟨hia _ (by omega), by revert hc; simp; try grind, by simp⟩) ?_; refine w_go 4000 ?_; simp)
          (refine w_callg hP (by simp) rfl (fun hc => ⟨his _ (by simp), by revert hc; simp; try grind, by simp⟩) ?_; refine w_go 4000 ?_; simp)
          (refine w_callg hP (by simp) rfl (fun hc => ⟨hic _ (by simp), by revert hc; simp; try grind, by simp⟩) ?_; refine w_go 4000 ?_; simp)
          rw [hR]; exact rt_end (by simp <;> rfl) [] trivial (end_pure (by simp) (by simp) (by simp))
        · have hSv' : fSync d = ⟨⟨d.seg, (lastS d.seg).length⟩, 0⟩ := by rw [hSv, if_neg ht]
          have his := diskIs_ok ⟨d.seg, (lastS d.seg).length⟩ 0 0 ⟨d.seg, (lastS d.seg).length⟩
          rw [isDk_ok _ _ _ (fun _ => rfl) (fun h => (h rfl).elim)] at his
          rw [hSv'] at hS
          simp only [eDk, eBt, List.map_nil] at *
          refine fn_okc Try.func7 hcc7 (by decide) hcr7 (by simp [Try.ntmps7]) fun E hP hR hl hid => ?_
          simp only [cr7] at hR
          refine w_go 4000 ?_
          simp [cc7]
          (refine w_call hP rfl (hO _) (by simp) (by simp <;> rfl) ?_; refine w_go 4000 ?_; simp)
          (refine w_call hP rfl (hA _) (by simp) (by simp <;> rfl) ?_; refine w_go 4000 ?_; simp)
          (refine w_call hP rfl (hS _) (by simp) (by simp <;> rfl) ?_; refine w_go 4000 ?_; simp)
          (refine w_call hP rfl (hC _) (by simp) (by simp <;> rfl) ?_; refine w_go 4000 ?_; simp)
          (refine w_call hP rfl (hK _) (by simp) (by simp <;> rfl) ?_; refine w_go 4000 ?_; simp)
          (refine w_call hP rfl (hKb _) (by simp) (by simp <;> rfl) ?_; refine w_go 4000 ?_; simp)
          refine goc_true (by simp; omega) ?_
          simp
          (refine w_call hP rfl (hRO _ h8 h4) (by simp) (by simp <;> rfl) ?_; refine w_go 4000 ?_; simp)
          (refine w_call hP rfl (hL _ (by omega)) (by simp) (by simp <;> rfl) ?_; refine w_go 4000 ?_; simp)
          refine goc_false (by simp; omega) ?_
          simp
          (refine w_call hP rfl (hAO _ hb h8 h4) (by simp) (by simp <;> rfl) ?_; refine w_go 4000 ?_; simp)
          (refine w_call hP rfl (diskBegun_ok _) (by simp) (by simp <;> rfl) ?_; refine w_go 4000 ?_; simp)
          (refine w_callg hP (by simp) rfl (fun hc => ⟨hck _, by revert hc; simp; try grind, by simp⟩) ?_; refine w_go 4000 ?_; simp)
          (refine w_callg hP (by simp) rfl (fun hc => ⟨hsb _ (by omega) (fun x hx => by have := hab2 x hx; omega), by revert hc; simp; try grind, by simp⟩) ?_; refine w_go 4000 ?_; simp)
          (refine w_callg hP (by simp) rfl (fun hc => ⟨hio _ (by omega), by revert hc; simp; try grind, by simp⟩) ?_; refine w_go 4000 ?_; simp)
          (refine w_callg hP (by simp) rfl (fun hc => ⟨hia _ (by omega), by revert hc; simp; try grind, by simp⟩) ?_; refine w_go 4000 ?_; simp)
          (refine w_callg hP (by simp) rfl (fun hc => ⟨his _ (by omega), by revert hc; simp; try grind, by simp⟩) ?_; refine w_go 4000 ?_; simp)
          (refine w_callg hP (by simp) rfl (fun hc => ⟨hic _ (by simp), by revert hc; simp; try grind, by simp⟩) ?_; refine w_go 4000 ?_; simp)
          rw [hR]; exact rt_end (by simp <;> rfl) [] trivial (end_pure (by simp) (by simp) (by simp))
    · have hia := diskIs0_ok ⟨[], 0⟩ (fCheckB b) (fCheckB b)
      rw [dk0_true _ hb] at hia
      rw [show fAppend d b = ⟨⟨[], 0⟩, fCheckB b⟩ by unfold fAppend; rw [if_neg (by simp [hB]), if_pos hb]] at hA
      by_cases hk : 0 ≤ keep
      · have hCO := CrashOf_ok d keep
        have hcl := rCrash_len d keep h8
        have hic := diskIs_ok (rCrash d keep) 0 0 (rCrash d keep)
        rw [isDk_ok _ _ _ (fun _ => rfl) (fun h => (h rfl).elim)] at hic
        rw [crash_eq hB (by omega)] at hC
        by_cases ht : (whole d.seg).syn < (lastS d.seg).length
        · have hSv' : fSync d = ⟨⟨[], 0⟩, 4⟩ := by rw [hSv, if_pos ht]
          have his := diskIs_ok ⟨[], 0⟩ 4 4 ⟨d.seg, (lastS d.seg).length⟩
          rw [isDk_ok _ _ _ (fun h => by simp at h) (fun _ => rfl)] at his
          rw [hSv'] at hS
          simp only [eDk, eBt, List.map_nil] at *
          refine fn_okc Try.func7 hcc7 (by decide) hcr7 (by simp [Try.ntmps7]) fun E hP hR hl hid => ?_
          simp only [cr7] at hR
          refine w_go 4000 ?_
          simp [cc7]
          (refine w_call hP rfl (hO _) (by simp) (by simp <;> rfl) ?_; refine w_go 4000 ?_; simp)
          (refine w_call hP rfl (hA _) (by simp) (by simp <;> rfl) ?_; refine w_go 4000 ?_; simp)
          (refine w_call hP rfl (hS _) (by simp) (by simp <;> rfl) ?_; refine w_go 4000 ?_; simp)
          (refine w_call hP rfl (hC _) (by simp) (by simp <;> rfl) ?_; refine w_go 4000 ?_; simp)
          (refine w_call hP rfl (hK _) (by simp) (by simp <;> rfl) ?_; refine w_go 4000 ?_; simp)
          (refine w_call hP rfl (hKb _) (by simp) (by simp <;> rfl) ?_; refine w_go 4000 ?_; simp)
          refine goc_false (by simp; omega) ?_
          simp
          (refine w_call hP rfl (hRO _ h8 h4) (by simp) (by simp <;> rfl) ?_; refine w_go 4000 ?_; simp)
          (refine w_call hP rfl (hL _ (by omega)) (by simp) (by simp <;> rfl) ?_; refine w_go 4000 ?_; simp)
          refine goc_true (by simp; omega) ?_
          simp
          refine goc_false (by simpa using hb) ?_
          simp
          (refine w_call hP rfl (hCO _ h8 hl4 hs0 hs1 (by omega)) (by simp) (by simp <;> rfl) ?_; refine w_go 4000 ?_; simp)
          (refine w_call hP rfl (diskBegun_ok _) (by simp) (by simp <;> rfl) ?_; refine w_go 4000 ?_; simp)
          (refine w_callg hP (by simp) rfl (fun hc => ⟨hck _, by revert hc; simp; try grind, by simp⟩) ?_; refine w_go 4000 ?_; simp)
          (refine w_callg hP (by simp) rfl (fun hc => ⟨hsb _ (by omega) (fun x hx => by have := hab2 x hx; omega), by revert hc; simp; try grind, by simp⟩) ?_; refine w_go 4000 ?_; simp)
          (refine w_callg hP (by simp) rfl (fun hc => ⟨hio _ (by omega), by revert hc; simp; try grind, by simp⟩) ?_; refine w_go 4000 ?_; simp)
          (refine w_callg hP (by simp) rfl (fun hc => ⟨hia _ (by simp), by revert hc; simp; try grind, by simp⟩) ?_; refine w_go 4000 ?_; simp)
          (refine w_callg hP (by simp) rfl (fun hc => ⟨his _ (by simp), by revert hc; simp; try grind, by simp⟩) ?_; refine w_go 4000 ?_; simp)
          (refine w_callg hP (by simp) rfl (fun hc => ⟨hic _ (by omega), by revert hc; simp; try grind, by simp⟩) ?_; refine w_go 4000 ?_; simp)
          rw [hR]; exact rt_end (by simp <;> rfl) [] trivial (end_pure (by simp) (by simp) (by simp))
        · have hSv' : fSync d = ⟨⟨d.seg, (lastS d.seg).length⟩, 0⟩ := by rw [hSv, if_neg ht]
          have his := diskIs_ok ⟨d.seg, (lastS d.seg).length⟩ 0 0 ⟨d.seg, (lastS d.seg).length⟩
          rw [isDk_ok _ _ _ (fun _ => rfl) (fun h => (h rfl).elim)] at his
          rw [hSv'] at hS
          simp only [eDk, eBt, List.map_nil] at *
          refine fn_okc Try.func7 hcc7 (by decide) hcr7 (by simp [Try.ntmps7]) fun E hP hR hl hid => ?_
          simp only [cr7] at hR
          refine w_go 4000 ?_
          simp [cc7]
          (refine w_call hP rfl (hO _) (by simp) (by simp <;> rfl) ?_; refine w_go 4000 ?_; simp)
          (refine w_call hP rfl (hA _) (by simp) (by simp <;> rfl) ?_; refine w_go 4000 ?_; simp)
          (refine w_call hP rfl (hS _) (by simp) (by simp <;> rfl) ?_; refine w_go 4000 ?_; simp)
          (refine w_call hP rfl (hC _) (by simp) (by simp <;> rfl) ?_; refine w_go 4000 ?_; simp)
          (refine w_call hP rfl (hK _) (by simp) (by simp <;> rfl) ?_; refine w_go 4000 ?_; simp)
          (refine w_call hP rfl (hKb _) (by simp) (by simp <;> rfl) ?_; refine w_go 4000 ?_; simp)
          refine goc_false (by simp; omega) ?_
          simp
          (refine w_call hP rfl (hRO _ h8 h4) (by simp) (by simp <;> rfl) ?_; refine w_go 4000 ?_; simp)
          (refine w_call hP rfl (hL _ (by omega)) (by simp) (by simp <;> rfl) ?_; refine w_go 4000 ?_; simp)
          refine goc_false (by simp; omega) ?_
          simp
          refine goc_false (by simpa using hb) ?_
          simp
          (refine w_call hP rfl (hCO _ h8 hl4 hs0 hs1 (by omega)) (by simp) (by simp <;> rfl) ?_; refine w_go 4000 ?_; simp)
          (refine w_call hP rfl (diskBegun_ok _) (by simp) (by simp <;> rfl) ?_; refine w_go 4000 ?_; simp)
          (refine w_callg hP (by simp) rfl (fun hc => ⟨hck _, by revert hc; simp; try grind, by simp⟩) ?_; refine w_go 4000 ?_; simp)
          (refine w_callg hP (by simp) rfl (fun hc => ⟨hsb _ (by omega) (fun x hx => by have := hab2 x hx; omega), by revert hc; simp; try grind, by simp⟩) ?_; refine w_go 4000 ?_; simp)
          (refine w_callg hP (by simp) rfl (fun hc => ⟨hio _ (by omega), by revert hc; simp; try grind, by simp⟩) ?_; refine w_go 4000 ?_; simp)
          (refine w_callg hP (by simp) rfl (fun hc => ⟨hia _ (by simp), by revert hc; simp; try grind, by simp⟩) ?_; refine w_go 4000 ?_; simp)
          (refine w_callg hP (by simp) rfl (fun hc => ⟨his _ (by omega), by revert hc; simp; try grind, by simp⟩) ?_; refine w_go 4000 ?_; simp)
          (refine w_callg hP (by simp) rfl (fun hc => ⟨hic _ (by omega), by revert hc; simp; try grind, by simp⟩) ?_; refine w_go 4000 ?_; simp)
          rw [hR]; exact rt_end (by simp <;> rfl) [] trivial (end_pure (by simp) (by simp) (by simp))
      · have hic := diskIs0_ok ⟨[], 0⟩ 3 3
        rw [dk0_true 3 (by decide)] at hic
        rw [show fCrash d keep = ⟨⟨[], 0⟩, 3⟩ by unfold fCrash; rw [if_neg (by simp [hB]), if_pos (by omega)]] at hC
        by_cases ht : (whole d.seg).syn < (lastS d.seg).length
        · have hSv' : fSync d = ⟨⟨[], 0⟩, 4⟩ := by rw [hSv, if_pos ht]
          have his := diskIs_ok ⟨[], 0⟩ 4 4 ⟨d.seg, (lastS d.seg).length⟩
          rw [isDk_ok _ _ _ (fun h => by simp at h) (fun _ => rfl)] at his
          rw [hSv'] at hS
          simp only [eDk, eBt, List.map_nil] at *
          refine fn_okc Try.func7 hcc7 (by decide) hcr7 (by simp [Try.ntmps7]) fun E hP hR hl hid => ?_
          simp only [cr7] at hR
          refine w_go 4000 ?_
          simp [cc7]
          (refine w_call hP rfl (hO _) (by simp) (by simp <;> rfl) ?_; refine w_go 4000 ?_; simp)
          (refine w_call hP rfl (hA _) (by simp) (by simp <;> rfl) ?_; refine w_go 4000 ?_; simp)
          (refine w_call hP rfl (hS _) (by simp) (by simp <;> rfl) ?_; refine w_go 4000 ?_; simp)
          (refine w_call hP rfl (hC _) (by simp) (by simp <;> rfl) ?_; refine w_go 4000 ?_; simp)
          (refine w_call hP rfl (hK _) (by simp) (by simp <;> rfl) ?_; refine w_go 4000 ?_; simp)
          (refine w_call hP rfl (hKb _) (by simp) (by simp <;> rfl) ?_; refine w_go 4000 ?_; simp)
          refine goc_true (by simp; omega) ?_
          simp
          (refine w_call hP rfl (hRO _ h8 h4) (by simp) (by simp <;> rfl) ?_; refine w_go 4000 ?_; simp)
          (refine w_call hP rfl (hL _ (by omega)) (by simp) (by simp <;> rfl) ?_; refine w_go 4000 ?_; simp)
          refine goc_true (by simp; omega) ?_
          simp
          refine goc_false (by simpa using hb) ?_
          simp
          (refine w_call hP rfl (diskBegun_ok _) (by simp) (by simp <;> rfl) ?_; refine w_go 4000 ?_; simp)
          (refine w_callg hP (by simp) rfl (fun hc => ⟨hck _, by revert hc; simp; try grind, by simp⟩) ?_; refine w_go 4000 ?_; simp)
          (refine w_callg hP (by simp) rfl (fun hc => ⟨hsb _ (by omega) (fun x hx => by have := hab2 x hx; omega), by revert hc; simp; try grind, by simp⟩) ?_; refine w_go 4000 ?_; simp)
          (refine w_callg hP (by simp) rfl (fun hc => ⟨hio _ (by omega), by revert hc; simp; try grind, by simp⟩) ?_; refine w_go 4000 ?_; simp)
          (refine w_callg hP (by simp) rfl (fun hc => ⟨hia _ (by simp), by revert hc; simp; try grind, by simp⟩) ?_; refine w_go 4000 ?_; simp)
          (refine w_callg hP (by simp) rfl (fun hc => ⟨his _ (by simp), by revert hc; simp; try grind, by simp⟩) ?_; refine w_go 4000 ?_; simp)
          (refine w_callg hP (by simp) rfl (fun hc => ⟨hic _ (by simp), by revert hc; simp; try grind, by simp⟩) ?_; refine w_go 4000 ?_; simp)
          rw [hR]; exact rt_end (by simp <;> rfl) [] trivial (end_pure (by simp) (by simp) (by simp))
        · have hSv' : fSync d = ⟨⟨d.seg, (lastS d.seg).length⟩, 0⟩ := by rw [hSv, if_neg ht]
          have his := diskIs_ok ⟨d.seg, (lastS d.seg).length⟩ 0 0 ⟨d.seg, (lastS d.seg).length⟩
          rw [isDk_ok _ _ _ (fun _ => rfl) (fun h => (h rfl).elim)] at his
          rw [hSv'] at hS
          simp only [eDk, eBt, List.map_nil] at *
          refine fn_okc Try.func7 hcc7 (by decide) hcr7 (by simp [Try.ntmps7]) fun E hP hR hl hid => ?_
          simp only [cr7] at hR
          refine w_go 4000 ?_
          simp [cc7]
          (refine w_call hP rfl (hO _) (by simp) (by simp <;> rfl) ?_; refine w_go 4000 ?_; simp)
          (refine w_call hP rfl (hA _) (by simp) (by simp <;> rfl) ?_; refine w_go 4000 ?_; simp)
          (refine w_call hP rfl (hS _) (by simp) (by simp <;> rfl) ?_; refine w_go 4000 ?_; simp)
          (refine w_call hP rfl (hC _) (by simp) (by simp <;> rfl) ?_; refine w_go 4000 ?_; simp)
          (refine w_call hP rfl (hK _) (by simp) (by simp <;> rfl) ?_; refine w_go 4000 ?_; simp)
          (refine w_call hP rfl (hKb _) (by simp) (by simp <;> rfl) ?_; refine w_go 4000 ?_; simp)
          refine goc_true (by simp; omega) ?_
          simp
          (refine w_call hP rfl (hRO _ h8 h4) (by simp) (by simp <;> rfl) ?_; refine w_go 4000 ?_; simp)
          (refine w_call hP rfl (hL _ (by omega)) (by simp) (by simp <;> rfl) ?_; refine w_go 4000 ?_; simp)
          refine goc_false (by simp; omega) ?_
          simp
          refine goc_false (by simpa using hb) ?_
          simp
          (refine w_call hP rfl (diskBegun_ok _) (by simp) (by simp <;> rfl) ?_; refine w_go 4000 ?_; simp)
          (refine w_callg hP (by simp) rfl (fun hc => ⟨hck _, by revert hc; simp; try grind, by simp⟩) ?_; refine w_go 4000 ?_; simp)
          (refine w_callg hP (by simp) rfl (fun hc => ⟨hsb _ (by omega) (fun x hx => by have := hab2 x hx; omega), by revert hc; simp; try grind, by simp⟩) ?_; refine w_go 4000 ?_; simp)
          (refine w_callg hP (by simp) rfl (fun hc => ⟨hio _ (by omega), by revert hc; simp; try grind, by simp⟩) ?_; refine w_go 4000 ?_; simp)
          (refine w_callg hP (by simp) rfl (fun hc => ⟨hia _ (by simp), by revert hc; simp; try grind, by simp⟩) ?_; refine w_go 4000 ?_; simp)
          (refine w_callg hP (by simp) rfl (fun hc => ⟨his _ (by omega), by revert hc; simp; try grind, by simp⟩) ?_; refine w_go 4000 ?_; simp)
          (refine w_callg hP (by simp) rfl (fun hc => ⟨hic _ (by simp), by revert hc; simp; try grind, by simp⟩) ?_; refine w_go 4000 ?_; simp)
          rw [hR]; exact rt_end (by simp <;> rfl) [] trivial (end_pure (by simp) (by simp) (by simp))
  · have hsb := SameBatches0_ok []
    have hi := diskIs0_ok ⟨[], 0⟩ (fCheckD d) (fCheckD d)
    rw [dk0_true _ hB] at hi
    rw [show sameL sameBt [] [] = true from rfl] at hsb
    rw [if_neg hB, if_neg hB] at hO
    rw [show fAppend d b = ⟨⟨[], 0⟩, fCheckD d⟩ by unfold fAppend; rw [if_pos hB]] at hA
    rw [show fSync d = ⟨⟨[], 0⟩, fCheckD d⟩ by unfold fSync; rw [if_pos hB]] at hS
    rw [show fCrash d keep = ⟨⟨[], 0⟩, fCheckD d⟩ by unfold fCrash; rw [if_pos hB]] at hC
    simp only [eDk, eBt, List.map_nil] at *
    refine fn_okc Try.func7 hcc7 (by decide) hcr7 (by simp [Try.ntmps7]) fun E hP hR hl hid => ?_
    simp only [cr7] at hR
    refine w_go 4000 ?_
    simp [cc7]
    (refine w_call hP rfl (hO _) (by simp) (by simp <;> rfl) ?_; refine w_go 4000 ?_; simp)
    (refine w_call hP rfl (hA _) (by simp) (by simp <;> rfl) ?_; refine w_go 4000 ?_; simp)
    (refine w_call hP rfl (hS _) (by simp) (by simp <;> rfl) ?_; refine w_go 4000 ?_; simp)
    (refine w_call hP rfl (hC _) (by simp) (by simp <;> rfl) ?_; refine w_go 4000 ?_; simp)
    (refine w_call hP rfl (hK _) (by simp) (by simp <;> rfl) ?_; refine w_go 4000 ?_; simp)
    refine goc_false (by simpa using hB) ?_
    simp
    refine goc_false (by simp [hB]) ?_
    simp
    refine goc_false (by simpa using hB) ?_
    simp
    refine goc_false (by simpa using hB) ?_
    simp
    refine goc_false (by simpa using hB) ?_
    simp
    (refine w_call hP rfl (diskBegun_ok _) (by simp) (by simp <;> rfl) ?_; refine w_go 4000 ?_; simp)
    (refine w_callg hP (by simp) rfl (fun hc => ⟨hck _, by revert hc; simp; try grind, by simp⟩) ?_; refine w_go 4000 ?_; simp)
    (refine w_callg hP (by simp) rfl (fun hc => ⟨hsb _ (by simp) (by simp), by revert hc; simp; try grind, by simp⟩) ?_; refine w_go 4000 ?_; simp)
    (refine w_callg hP (by simp) rfl (fun hc => ⟨hi _ (by simp), by revert hc; simp; try grind, by simp⟩) ?_; refine w_go 4000 ?_; simp)
    (refine w_callg hP (by simp) rfl (fun hc => ⟨hi _ (by simp), by revert hc; simp; try grind, by simp⟩) ?_; refine w_go 4000 ?_; simp)
    (refine w_callg hP (by simp) rfl (fun hc => ⟨hi _ (by simp), by revert hc; simp; try grind, by simp⟩) ?_; refine w_go 4000 ?_; simp)
    (refine w_callg hP (by simp) rfl (fun hc => ⟨hi _ (by simp), by revert hc; simp; try grind, by simp⟩) ?_; refine w_go 4000 ?_; simp)
    rw [hR]; exact rt_end (by simp <;> rfl) [] trivial (end_pure (by simp) (by simp) (by simp))
end Go.Am
