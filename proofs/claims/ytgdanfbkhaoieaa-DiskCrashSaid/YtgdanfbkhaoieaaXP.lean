/- Parts of the proof: an abstract machine for Go functions, and what functions of the program give back (Dk14, Dk15). No condition. -/
import Derived.Test.YtgdanfbkhaoieaaXO
namespace Go.Am
set_option linter.all false
set_option linter.all false
open Go Go.RowKit

theorem firstE_ne5 (l : List Ev) : firstE fEvent l ≠ 5 := by
  induction l with
  | nil => decide
  | cons e l ih =>
    simp only [firstE]
    split
    · unfold fEvent fForm; repeat' split
      all_goals omega
    · exact ih
theorem fCheckB_ne5 (b : Bt) : fCheckB b ≠ 5 := by
  unfold fCheckB
  repeat' split
  all_goals first | decide | exact firstE_ne5 _
theorem decode_5 (t : List UInt8) : (fDecode t).e = 5 ↔ dShort t = true := by
  unfold fDecode
  split
  · rename_i h; simp [h]
  · rename_i h
    split
    · simp [h]
    · split
      · exact ⟨fun h5 => (fCheckB_ne5 _ h5).elim, fun h' => (h h').elim⟩
      · simp [h]
theorem decode_n {t : List UInt8} (h : (fDecode t).e = 0) : (fDecode t).n = fNum (t.take 2) + 2 ∧ 2 ≤ t.length := by
  have h2 : 2 ≤ t.length := by have := decode_adv h; omega
  unfold fDecode at h ⊢
  split at h
  · simp at h
  · rename_i c1
    rw [if_neg c1]
    split at h
    · simp at h
    · rename_i c2
      rw [if_neg c2]
      split at h
      · rename_i c3; exact (c3 h).elim
      · rename_i c3
        rw [if_neg c3, fTake_in h2]
        exact ⟨rfl, h2⟩
theorem short_take {t : List UInt8} {k : Nat} (hk : k ≤ t.length) (h : dShort t = true ∨ ((fDecode t).e = 0 ∧ k < (fDecode t).n.toNat)) : dShort (t.take k) = true := by
  rw [dShort_iff]
  by_cases h2 : k < 2
  · exact .inl (by simp; omega)
  · right
    have e : (t.take k).take 2 = t.take 2 := by rw [List.take_take]; congr 1; omega
    rw [e, List.length_take, Nat.min_eq_left hk]
    rcases h with h | ⟨h, hn⟩
    · rw [dShort_iff] at h; omega
    · obtain ⟨d1, d2⟩ := decode_n h
      omega
/-- What is cut of a beginning is a beginning. -/
theorem cut_pre (s : List UInt8) (k : Nat) (hk : k ≤ s.length) (a : Nat) (ha : a ≤ k) (h5 : (cutA s a).e = 5) : (∃ r, (cutA s a).bs = (cutA (s.take k) a).bs ++ r) ∧ (cutA (s.take k) a).e = 5 := by
  refine cut_ind (s := s) (p := fun a => a ≤ k → (cutA s a).e = 5 → (∃ r, (cutA s a).bs = (cutA (s.take k) a).bs ++ r) ∧ (cutA (s.take k) a).e = 5) (fun a hd ha h5 => ?_) (fun a hd hle ih ha h5 => ?_) (s.length - a + 1) a (by omega) ha h5
  · rw [cutA_stop hd] at h5 ⊢
    simp only at h5 ⊢
    have hs : dShort ((s.drop a).take (k - a)) = true := short_take (by simp; omega) (.inl ((decode_5 _).1 h5))
    have h5' : (fDecode ((s.take k).drop a)).e = 5 := by rw [List.drop_take]; exact (decode_5 _).2 hs
    rw [cutA_stop (by rw [h5']; decide)]
    exact ⟨⟨[], rfl⟩, h5'⟩
  · by_cases hk2 : a + (fDecode (s.drop a)).n.toNat ≤ k
    · have e : fDecode ((s.take k).drop a) = fDecode (s.drop a) := by
        rw [List.drop_take]; exact decode_less hd (by omega)
      have hd' : (fDecode ((s.take k).drop a)).e = 0 := by rw [e]; exact hd
      rw [cutA_ok hd] at h5 ⊢
      rw [cutA_ok hd', e]
      simp only at h5 ⊢
      obtain ⟨⟨r, hr⟩, i2⟩ := ih hk2 h5
      exact ⟨⟨r, by rw [hr]; rfl⟩, i2⟩
    · have hs : dShort ((s.drop a).take (k - a)) = true := short_take (by simp; omega) (.inr ⟨hd, by omega⟩)
      have h5' : (fDecode ((s.take k).drop a)).e = 5 := by rw [List.drop_take]; exact (decode_5 _).2 hs
      rw [cutA_stop (s := s.take k) (by rw [h5']; decide)]
      exact ⟨⟨_, rfl⟩, h5'⟩
/-- Bytes of a batch that is not whole hold none. -/
theorem cut_part (s : List UInt8) (b : Bt) (hb : fCheckB b = 0) (h : (cutA s 0).last = s.length) (k : Nat) (hk : k < (fBytes b).length) : (cutA (s ++ (fBytes b).take k) 0).bs = (cutA s 0).bs ∧ (cutA (s ++ (fBytes b).take k) 0).e = 5 := by
  have hdl : ∀ a, a ≤ s.length → (s ++ (fBytes b).take k).drop a = s.drop a ++ (fBytes b).take k := fun a ha => by rw [List.drop_append_of_le_length ha]
  have key := cut_ind (s := s) (p := fun a => a ≤ s.length → (cutA s a).last = s.length → (cutA (s ++ (fBytes b).take k) a).bs = (cutA s a).bs ∧ (cutA (s ++ (fBytes b).take k) a).e = 5) (fun a hd ha hk => ?_) (fun a hd hle ih ha hk => ?_) (s.length + 1) 0 (by omega) (by omega) h
  · exact key
  · rw [cutA_stop hd] at hk ⊢
    simp only at hk ⊢
    subst hk
    have hdd : (s ++ (fBytes b).take k).drop s.length = (fBytes b).take k := by rw [List.drop_left]
    have hdc := decode_of b hb []
    rw [List.append_nil] at hdc
    have hs : dShort ((fBytes b).take k) = true := short_take (by omega) (.inr ⟨by rw [hdc], by rw [hdc]; simpa using by assumption⟩)
    have h5 : (fDecode ((s ++ (fBytes b).take k).drop s.length)).e = 5 := by rw [hdd]; exact (decode_5 _).2 hs
    rw [cutA_stop (by rw [h5]; decide)]
    exact ⟨rfl, h5⟩
  · rw [cutA_ok hd] at hk ⊢
    simp only at hk ⊢
    have e : fDecode ((s ++ (fBytes b).take k).drop a) = fDecode (s.drop a) := by rw [hdl a ha]; exact decode_more hd _
    have h0 : (fDecode ((s ++ (fBytes b).take k).drop a)).e = 0 := by rw [e]; exact hd
    rw [cutA_ok h0, e]
    simp only
    obtain ⟨i1, i2⟩ := ih hle hk
    rw [i1, i2]
    exact ⟨rfl, rfl⟩
/-- A disk behind a crash: of its last segment a beginning is there. -/
theorem crash_good {d : Dk} (h : fCheckD d = 0) (keep : Int) (hk : 0 ≤ keep) : Good (rCrash d keep).seg ∧ fCheckD (rCrash d keep) = 0 ∧ (∃ r, allB d.seg = allB (rCrash d keep).seg ++ r) := by
  have g := good_of h
  obtain ⟨z1, z2, z3, z4⟩ := fCheckD_zero h
  unfold rCrash
  split
  · rename_i hc
    have hn : (d.syn + keep).toNat ≤ (lastS d.seg).length := by omega
    obtain ⟨⟨r, hr⟩, p2⟩ := cut_pre (lastS d.seg) (d.syn + keep).toNat hn 0 (by omega) g.last5
    have h4 := g.last4
    have g' : Good (setL d.seg ((lastS d.seg).take (d.syn + keep).toNat)) := g.set (by simp; omega) p2
    have hls := lastS_setL hc.1 ((lastS d.seg).take (d.syn + keep).toNat)
    refine ⟨g', ?_, ⟨r, ?_⟩⟩
    · have e : (d.syn.toNat : Int) = d.syn := by omega
      have hch := g'.check d.syn.toNat
      rw [e] at hch
      refine hch ?_
      rw [hls]
      have h1 := cut_take ((lastS d.seg).take (d.syn + keep).toNat) d.syn.toNat (by simp; omega) 0 (by omega)
      rw [List.take_take, Nat.min_eq_left (by omega), cut_take (lastS d.seg) d.syn.toNat (by omega) 0 (by omega)] at h1
      exact h1.1 z4
    · simp only
      rw [allB_set hc.1, allB_ends hc.1, hr, List.append_assoc]
  · exact ⟨g, h, ⟨[], by simp⟩⟩
/-- One that keeps more has no fewer batches. -/
theorem crash_more {d : Dk} (h : fCheckD d = 0) (keep more : Int) (hk : 0 ≤ keep) (hm : keep ≤ more) : ∃ r, allB (rCrash d more).seg = allB (rCrash d keep).seg ++ r := by
  have g := good_of h
  obtain ⟨z1, z2, z3, z4⟩ := fCheckD_zero h
  by_cases hc : d.seg ≠ [] ∧ more < (lastS d.seg).length - d.syn
  · have hc2 : d.seg ≠ [] ∧ keep < (lastS d.seg).length - d.syn := ⟨hc.1, by omega⟩
    have e1 : (rCrash d more).seg = setL d.seg ((lastS d.seg).take (d.syn + more).toNat) := by unfold rCrash; rw [if_pos hc]
    have e2 : (rCrash d keep).seg = setL d.seg ((lastS d.seg).take (d.syn + keep).toNat) := by unfold rCrash; rw [if_pos hc2]
    rw [e1, e2, allB_set hc.1, allB_set hc.1]
    have p := cut_pre (lastS d.seg) (d.syn + more).toNat (by omega) 0 (by omega) g.last5
    obtain ⟨⟨r, hr⟩, p2⟩ := cut_pre ((lastS d.seg).take (d.syn + more).toNat) (d.syn + keep).toNat (by simp; omega) 0 (by omega) p.2
    rw [List.take_take, Nat.min_eq_left (by omega)] at hr
    exact ⟨r, by rw [hr, List.append_assoc]⟩
  · have e1 : rCrash d more = d := by unfold rCrash; rw [if_neg hc]
    rw [e1]
    exact (crash_good h keep hk).2.2
theorem crash_all {d : Dk} (h : fCheckD d = 0) : rCrash d 400 = d := by
  have g := good_of h
  have := g.last4
  obtain ⟨z1, z2, z3, z4⟩ := fCheckD_zero h
  unfold rCrash
  rw [if_neg (by rintro ⟨_, h⟩; omega)]
theorem crash_none {d : Dk} (h : fCheckD d = 0) : ((lastS (rCrash d 0).seg).length : Int) = d.syn := by
  obtain ⟨z1, z2, z3, z4⟩ := fCheckD_zero h
  unfold rCrash
  split
  · rename_i hc
    simp only [lastS_setL hc.1]
    simp; omega
  · rename_i hc
    by_cases hne : d.seg = []
    · rw [hne] at z3 ⊢; simp [lastS] at z3 ⊢; omega
    · have : ¬ (0 : Int) < (lastS d.seg).length - d.syn := fun h0 => hc ⟨hne, h0⟩
      omega
end Go.Am

namespace Go.Am
set_option linter.all false
open Go Go.RowKit Go.Proofs
set_option maxRecDepth 100000
set_option linter.all false

theorem rCrash_len' (d : Dk) (k : Int) (h : d.seg.length ≤ 8) : (rCrash d k).seg.length ≤ 9 := by
  unfold rCrash
  split
  · simp; omega
  · omega
set_option maxHeartbeats 8000000 in
theorem DiskKeeps_ok (d : Dk) (keep more : Int) (id : Nat) : FnOk Try.prog 10 [eDk d, .int .i64 keep, .int .i64 more] [] id (.bool true) [] := by
  have hO := Open_ok d
  by_cases hB : fCheckD d = 0
  · by_cases hk : 0 ≤ keep ∧ keep ≤ more
    · obtain ⟨hk0, hkm⟩ := hk
      have g := good_of hB
      obtain ⟨hab1, hab2⟩ := allB_len hB
      have h8 := g.h8
      obtain ⟨a1, a2, ra, a3⟩ := crash_good hB keep hk0
      obtain ⟨b1, b2, rb, b3⟩ := crash_good hB more (by omega)
      obtain ⟨rm, m3⟩ := crash_more hB keep more hk0 hkm
      have hCa := Crash_okk d keep
      have hCb := Crash_okk d more
      have hCc := Crash_okk d 400
      have hCn := Crash_okk d 0
      have hOx := Open_ok (rCrash d keep)
      have hOy := Open_ok (rCrash d more)
      have hsd := SameDisk_ok d d
      have hLO := LastOf_ok (rCrash d 0).seg (rCrash d 0).syn
      have hn8 := rCrash_len' d 0 h8
      have hnl := crash_none hB
      rw [crash_eq hB hk0] at hCa
      rw [crash_eq hB (by omega)] at hCb
      rw [crash_eq hB (by omega), crash_all hB] at hCc
      rw [crash_eq hB (by omega)] at hCn
      rw [a2, if_pos rfl, if_pos rfl] at hOx
      rw [b2, if_pos rfl, if_pos rfl] at hOy
      rw [hB, if_pos rfl, if_pos rfl] at hO
      rw [(sameDk_iff _ _).2 rfl] at hsd
      have lx : (allB (rCrash d keep).seg).length ≤ (allB (rCrash d more).seg).length := by rw [m3]; simp
      have ly : (allB (rCrash d more).seg).length ≤ (allB d.seg).length := by rw [b3]; simp
      have tx : (allB d.seg).take (allB (rCrash d keep).seg).length = allB (rCrash d keep).seg := by rw [a3]; simp
      have ty : (allB d.seg).take (allB (rCrash d more).seg).length = allB (rCrash d more).seg := by rw [b3]; simp
      generalize allB (rCrash d keep).seg = X at *
      generalize allB (rCrash d more).seg = Y at *
      have hX : ∀ x ∈ X, x.events.length < 9223372036854775807 := fun x hx => by
        have := hab2 x (by rw [a3]; simp [hx]); omega
      have hY : ∀ x ∈ Y, x.events.length < 9223372036854775807 := fun x hx => by
        have := hab2 x (by rw [b3]; simp [hx]); omega
      have hsx := SameBatches_ok X X
      have hsy := SameBatches_ok Y Y
      rw [(sameL_iff sameBt_iff).2 rfl] at hsx hsy
      have tx' : List.take X.length (List.map eBt (allB d.seg)) = List.map eBt X := by rw [← List.map_take, tx]
      have ty' : List.take Y.length (List.map eBt (allB d.seg)) = List.map eBt Y := by rw [← List.map_take, ty]
      simp only [eDk, eBt, List.map_nil] at *
      refine fn_okc Try.func10 hcc10 (by decide) hcr10 (by simp [Try.ntmps10]) fun E hP hR hl hid => ?_
      simp only [cr10] at hR
      refine w_go 4000 ?_
      simp [cc10]
      (refine w_call hP rfl (hO _) (by simp) (by simp <;> rfl) ?_; refine w_go 4000 ?_; simp)
      (refine w_call hP rfl (diskBegun_ok _) (by simp) (by simp <;> rfl) ?_; refine w_go 4000 ?_; simp)
      refine goc_false (by simp; omega) ?_
      simp
      (refine w_call hP rfl (hCa _) (by simp) (by simp <;> rfl) ?_; refine w_go 4000 ?_; simp)
      (refine w_call hP rfl (hCb _) (by simp) (by simp <;> rfl) ?_; refine w_go 4000 ?_; simp)
      (refine w_call hP rfl (hCc _) (by simp) (by simp <;> rfl) ?_; refine w_go 4000 ?_; simp)
      (refine w_call hP rfl (hCn _) (by simp) (by simp <;> rfl) ?_; refine w_go 4000 ?_; simp)
      (refine w_call hP rfl (hOx _) (by simp) (by simp <;> rfl) ?_; refine w_go 4000 ?_; simp)
      (refine w_call hP rfl (hOy _) (by simp) (by simp <;> rfl) ?_; refine w_go 4000 ?_; simp)
      (refine w_callg hP (by simp) rfl (fun hc => ⟨hsd _ (by omega), by revert hc; simp; try grind, by simp⟩) ?_; refine w_go 4000 ?_; simp)
      refine ⟨fun h1 h2 => ⟨⟨h1,h2⟩, fun a _ => rfl, by omega⟩, ?_⟩
      simp [lx, ly, tx']
      (refine w_callg hP (by simp) rfl (fun hc => ⟨hsx _ (by omega) hX, by revert hc; simp; try grind, by simp⟩) ?_; refine w_go 4000 ?_; simp)
      refine ⟨⟨fun a _ => rfl, by omega⟩, ?_⟩
      simp [ly, ty']
      (refine w_callg hP (by simp) rfl (fun hc => ⟨hsy _ (by omega) hY, by revert hc; simp; try grind, by simp⟩) ?_; refine w_go 4000 ?_; simp)
      (refine w_callg hP (by simp) rfl (fun hc => ⟨hLO _ (by omega), by revert hc; simp; try grind, by simp⟩) ?_; refine w_go 4000 ?_; simp)
      rw [hR]; exact rt_end (by simp <;> rfl) [] trivial (end_pure (by simp; simp [hnl]) (by simp) (by simp))
    · rw [hB, if_pos rfl, if_pos rfl] at hO
      simp only [eDk, eBt, List.map_nil] at *
      refine fn_okc Try.func10 hcc10 (by decide) hcr10 (by simp [Try.ntmps10]) fun E hP hR hl hid => ?_
      simp only [cr10] at hR
      refine w_go 4000 ?_
      simp [cc10]
      (refine w_call hP rfl (hO _) (by simp) (by simp <;> rfl) ?_; refine w_go 4000 ?_; simp)
      (refine w_call hP rfl (diskBegun_ok _) (by simp) (by simp <;> rfl) ?_; refine w_go 4000 ?_; simp)
      refine goc_true (by simp; omega) ?_
      simp
      rw [hR]; exact rt_end (by simp <;> rfl) [] trivial (end_pure (by simp) (by simp) (by simp))
  · rw [if_neg hB, if_neg hB] at hO
    simp only [eDk, eBt, List.map_nil] at *
    refine fn_okc Try.func10 hcc10 (by decide) hcr10 (by simp [Try.ntmps10]) fun E hP hR hl hid => ?_
    simp only [cr10] at hR
    refine w_go 4000 ?_
    simp [cc10]
    (refine w_call hP rfl (hO _) (by simp) (by simp <;> rfl) ?_; refine w_go 4000 ?_; simp)
    (refine w_call hP rfl (diskBegun_ok _) (by simp) (by simp <;> rfl) ?_; refine w_go 4000 ?_; simp)
    refine goc_true (by simp [hB]) ?_
    simp
    rw [hR]; exact rt_end (by simp <;> rfl) [] trivial (end_pure (by simp) (by simp) (by simp))
end Go.Am
