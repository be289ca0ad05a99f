/- Parts of the proof: an abstract machine for Go functions, and what functions of the program give back (Rf1). No condition. -/
import Derived.Test.YtgdanfbkhaoieaaXT
namespace Go.Am
set_option linter.all false
set_option linter.all false
open Go Go.RowKit Go.Proofs
set_option maxRecDepth 100000


theorem between_ok (n a b : Int) (id : Nat) : FnOk Try.prog 68 [.int .i64 n, .int .i64 a, .int .i64 b] [] id (.bool (decide (a ≤ n) && decide (n ≤ b))) [] := by
  refine fn_okc Try.func68 hcc68 (by decide) hcr68 (by simp [Try.ntmps68]) fun E hP hR hl hid => ?_
  simp only [cr68] at hR
  refine w_go 4000 ?_
  simp [cc68]
  rw [hR]; exact rt_end (by simp <;> rfl) [] trivial (end_pure (by simp) (by simp) (by simp))
theorem rIsInt_ok (n : Int) (id : Nat) : FnOk Try.prog 70 [.int .i64 n] [] id (.bool (decide (-999999999 ≤ n) && decide (n ≤ 999999999))) [] := by
  refine fn_okc Try.func70 hcc70 (by decide) hcr70 (by simp [Try.ntmps70]) fun E hP hR hl hid => ?_
  simp only [cr70] at hR
  refine w_go 4000 ?_
  simp [cc70]
  (refine w_call hP rfl (between_ok _ _ _ _) (by simp) (by simp <;> rfl) ?_; refine w_go 4000 ?_; simp)
  rw [hR]; exact rt_end (by simp <;> rfl) [] trivial (end_pure (by simp) (by simp) (by simp))
theorem rCheckEvent_ok (e : Ev) (id : Nat) : FnOk Try.prog 69 [eEv e] [] id (.int .i64 (fForm e)) [] := by
  unfold eEv
  refine fn_okc Try.func69 hcc69 (by decide) hcr69 (by simp [Try.ntmps69]) fun E hP hR hl hid => ?_
  simp only [cr69] at hR
  refine w_go 4000 ?_
  simp [cc69]
  repeat' first
    | (refine And.intro ?_ ?_)
    | (refine goc (fun h => ?_) (fun h => ?_) <;> simp)
    | (refine w_call hP rfl (between_ok _ _ _ _) (by simp) (by simp <;> rfl) ?_; refine w_go 4000 ?_; simp)
  all_goals first
    | (rw [hR]; refine rt_end (by simp <;> rfl) [] trivial (end_pure ?_ (by simp) (by simp)); simp; done)
    | (rw [hR]; refine rt_end (by simp <;> rfl) [] trivial (end_pure ?_ (by simp) (by simp)); (try simp); simp [fForm] at *; grind; done)
    | omega
    | (simp_all; done)
    | grind
set_option maxHeartbeats 1000000 in
theorem rCheckBatch_ok (b : Bt) (id : Nat) : FnOk Try.prog 19 [eBt b] [] id (.int .i64 (fCheckB b)) [] := by
  simp only [eBt]
  refine fn_okc Try.func19 hcc19 (by decide) hcr19 (by simp [Try.ntmps19]) fun E hP hR hl hid => ?_
  simp only [cr19] at hR
  refine w_go 4000 ?_
  simp [cc19]
  (refine w_call hP rfl (between_ok _ _ _ _) (by simp) (by simp <;> rfl) ?_; refine w_go 4000 ?_; simp)
  repeat' first
    | (refine goc (fun h => ?_) (fun h => ?_) <;> simp)
  · rw [hR]; exact rt_end (by simp <;> rfl) [] trivial (end_pure (by simp; simp [fCheckB] at *; omega) (by simp) (by simp))
  · rw [hR]; exact rt_end (by simp <;> rfl) [] trivial (end_pure (by simp; simp [fCheckB] at *; grind) (by simp) (by simp))
  · rw [hR]; exact rt_end (by simp <;> rfl) [] trivial (end_pure (by simp; simp [fCheckB] at *; grind) (by simp) (by simp))
  · have hc : fCheckB b = firstE fEvent b.events := by simp [fCheckB] at *; grind
    rw [hc] at hR
    have hlen : b.events.length ≤ 8 := by simp at *; omega
    refine w_loop (X := Nat) (fun i => ⟨[(1, true, .ptr E.n0 0 0), (3, true, .int .i64 i)], [(E.n0, some ⟨[.agg [.int .i64 b.number, .sl (b.events.map eEv)]], .agg [.int .i64 0, .nils], false, false⟩)], 1⟩) (fun i => i ≤ b.events.length ∧ firstE fEvent (b.events.drop i) = firstE fEvent b.events) (fun i => b.events.length - i) 0 ?_ ⟨by omega, rfl⟩ ?_
    · have hrn : rnOk [(E.n0, E.n0)] := by simp
      refine Conv.sub [(E.n0, E.n0)] hrn ?_ ?_ ?_ ?_ ?_ <;> (try simp)
    · rintro i ⟨hi, hf⟩ p hp
      refine w_go 4000 ?_
      simp
      refine goc (fun h => ?_) (fun h => ?_)
      · have h := of_decide_eq_true h
        obtain ⟨e, he, hd⟩ := drop_cons h
        rw [hd] at hf
        simp only [firstE] at hf
        simp [he, eEv]
        refine ⟨h, ?_⟩
        have hi1 : IntKind.i64.wrap ((i : Int) + 1) = ((i + 1 : Nat) : Int) := wrap64 (by omega)
        have hfe : fEvent e = if fForm e ≠ 0 then fForm e else if ¬ (0 ≤ e.type ∧ e.type ≤ 4) ∨ ¬ (1 ≤ e.id ∧ e.id ≤ 999) ∨ ¬ (0 ≤ e.field ∧ e.field ≤ 5) ∨ ¬ (-999999999 ≤ e.n ∧ e.n ≤ 999999999) then 3 else if 40 < e.text.length then 2 else 0 := rfl
        (refine w_call hP rfl (rCheckEvent_ok e _) (by simp) (by simp <;> rfl) ?_; refine w_go 4000 ?_; simp)
        refine goc (fun h1 => ?_) (fun h1 => ?_)
        · simp
          have h1' : fForm e ≠ 0 := by simpa using h1
          rw [if_pos h1'] at hfe
          rw [if_pos (by omega), hfe] at hf
          rw [hR]; exact rt_end (by simp <;> rfl) [] trivial (end_pure (by simp; exact hf) (by simp) (by simp))
        · simp
          have h1' : ¬ fForm e ≠ 0 := by simpa using h1
          rw [if_neg h1'] at hfe
          repeat' first
            | (refine And.intro ?_ ?_)
            | (refine w_call hP rfl (between_ok _ _ _ _) (by simp) (by simp <;> rfl) ?_; refine w_go 4000 ?_; simp)
            | (refine w_callg hP (by simp) rfl (fun hc => ⟨between_ok _ _ _ _, by revert hc; simp; try grind, by simp⟩) ?_; refine w_go 4000 ?_; simp)
            | (refine w_callg hP (by simp) rfl (fun hc => ⟨rIsInt_ok _ _, by revert hc; simp; try grind, by simp⟩) ?_; refine w_go 4000 ?_; simp)
          refine goc (fun h2 => ?_) (fun h2 => ?_)
          · simp
            have h2' : ¬ (0 ≤ e.type ∧ e.type ≤ 4) ∨ ¬ (1 ≤ e.id ∧ e.id ≤ 999) ∨ ¬ (0 ≤ e.field ∧ e.field ≤ 5) ∨ ¬ (-999999999 ≤ e.n ∧ e.n ≤ 999999999) := by simp at h2; omega
            rw [if_pos h2'] at hfe
            rw [if_pos (by omega), hfe] at hf
            rw [hR]; exact rt_end (by simp <;> rfl) [] trivial (end_pure (by simp; exact hf) (by simp) (by simp))
          · simp
            have h2' : ¬ (¬ (0 ≤ e.type ∧ e.type ≤ 4) ∨ ¬ (1 ≤ e.id ∧ e.id ≤ 999) ∨ ¬ (0 ≤ e.field ∧ e.field ≤ 5) ∨ ¬ (-999999999 ≤ e.n ∧ e.n ≤ 999999999)) := by simp at h2; omega
            rw [if_neg h2'] at hfe
            refine goc (fun h3 => ?_) (fun h3 => ?_)
            · simp
              have h3' : 40 < e.text.length := by simp at h3; omega
              rw [if_pos h3'] at hfe
              rw [if_pos (by omega), hfe] at hf
              rw [hR]; exact rt_end (by simp <;> rfl) [] trivial (end_pure (by simp; exact hf) (by simp) (by simp))
            · simp
              have h3' : ¬ 40 < e.text.length := by simp at h3; omega
              rw [if_neg h3'] at hfe
              rw [if_neg (by omega)] at hf
              refine hp _ (i + 1) ⟨h, hf⟩ (by omega) ?_
              have hrn : rnOk [(E.n0, E.n0)] := by simp[hi1]
              refine Conv.sub [(E.n0, E.n0)] hrn ?_ ?_ ?_ ?_ ?_ <;> (try simp[hi1])
      · have h := of_decide_eq_false h
        simp
        rw [List.drop_of_length_le (by omega)] at hf
        rw [hR]; exact rt_end (by simp <;> rfl) [] trivial (end_pure (by simp; exact hf) (by simp) (by simp))

@[simp] theorem toU8_byte (b : UInt8) : toU8 (.int .u8 b.toNat) = b := by simp [toU8]
theorem nbs_snoc (n : Int) (hn : 0 ≤ n) (k : Nat) : nbs n (k + 1) = nbs (n / 256) k ++ [lowByte n] := by
  induction k generalizing n with
  | zero => simp [nbs]
  | succ k ih =>
    rw [nbs, ih n hn, nbs]
    simp only [List.cons_append, List.cons.injEq, and_true]
    rw [Int.ediv_ediv_of_nonneg (by omega), show 8 * (k + 1) = 8 + 8 * k by omega, Int.pow_add]
    rfl
theorem numberBytes_ok : ∀ (k : Nat) (n : Int) (id : Nat), 0 ≤ n → n ≤ 4294967296 → k ≤ 8 → FnOk Try.prog 71 [.int .i64 n, .int .i64 k] [] id (.str (nbs n k)) []
  | 0, n, id, _, _, _ => by
    refine fn_okc Try.func71 hcc71 (by decide) hcr71 (by simp [Try.ntmps71]) fun E hP hR hl hid => ?_
    simp only [cr71] at hR
    refine w_go 4000 ?_
    simp [cc71]
    rw [hR]; exact rt_end (by simp <;> rfl) [] trivial (end_pure (by simp; rfl) (by simp) (by simp))
  | k + 1, n, id, hn, hn2, hk => by
    have ih := numberBytes_ok k (n / 256)
    refine fn_okc Try.func71 hcc71 (by decide) hcr71 (by simp [Try.ntmps71]) fun E hP hR hl hid => ?_
    simp only [cr71] at hR
    refine w_go 4000 ?_
    simp [cc71]
    have e1 : n.tdiv 256 = n / 256 := Int.tdiv_eq_ediv_of_nonneg hn
    have e2 : n.tmod 256 = n % 256 := Int.tmod_eq_emod_of_nonneg hn
    have e3 : IntKind.i64.wrap (n / 256) = n / 256 := wrap64 (by omega)
    have e4 : IntKind.i64.wrap (k : Int) = k := wrap64 (by omega)
    have e5 : IntKind.u8.wrap (n % 256) = (lowByte n).toNat := by
      rw [u8_wrap]; unfold lowByte; rw [Int.emod_emod_of_dvd _ (by decide)]
    refine goc_false (by simp; omega) ?_
    simp [e1, e2, e3, e4, e5]

    (refine w_call hP rfl (ih _ (by omega) (by omega) (by omega)) (by simp [e1, e2, e3, e4, e5]) (by simp [e1, e2, e3, e4, e5] <;> rfl) ?_; refine w_go 4000 ?_; simp [e1, e2, e3, e4, e5])
    refine ⟨rfl, by omega, ?_⟩
    rw [hR]; exact rt_end (by simp <;> rfl) [] trivial (end_pure (by simp; rw [nbs_snoc n hn]) (by simp) (by simp))
theorem nb1_ok (n : Int) (id : Nat) (h1 : 0 ≤ n) (h2 : n ≤ 4294967296) : FnOk Try.prog 71 [.int .i64 n, .int .i64 1] [] id (.str (nbs n 1)) [] := numberBytes_ok 1 n id h1 h2 (by omega)
theorem nb2_ok (n : Int) (id : Nat) (h1 : 0 ≤ n) (h2 : n ≤ 4294967296) : FnOk Try.prog 71 [.int .i64 n, .int .i64 2] [] id (.str (nbs n 2)) [] := numberBytes_ok 2 n id h1 h2 (by omega)
theorem nb4_ok (n : Int) (id : Nat) (h1 : 0 ≤ n) (h2 : n ≤ 4294967296) : FnOk Try.prog 71 [.int .i64 n, .int .i64 4] [] id (.str (nbs n 4)) [] := numberBytes_ok 4 n id h1 h2 (by omega)
end Go.Am
