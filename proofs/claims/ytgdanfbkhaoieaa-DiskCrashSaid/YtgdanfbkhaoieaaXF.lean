/- Parts of the proof: an abstract machine for Go functions, and what functions of the program give back (Rf1, Rf2, Rf3, Rf4, Pl1, Bl1). No condition. -/
import Derived.Test.YtgdanfbkhaoieaaXT
import Derived.Test.YtgdanfbkhaoieaaXC
namespace Go.Am
set_option linter.all false
set_option linter.all false
open Go Go.RowKit Go.Proofs
set_option maxRecDepth 100000


theorem between_ok (n a b : Int) (id : Nat) : FnOk Try.prog 68 [.int .i64 n, .int .i64 a, .int .i64 b] [] id (.bool (decide (a ≤ n) && decide (n ≤ b))) [] := by
  refine fn_okc Try.func68 hcc68 (by decide) hcr68 (by simp [Try.ntmps68]) fun E hP hR hl hid => ?_
  simp only [cr68] at hR
  refine w_go 4000 ?_
  simp [cc68]
  rw [hR]; exact rt_end (by simp <;> rfl) [] trivial (end_pure (by simp) (by simp) (by simp))
theorem rIsInt_ok (n : Int) (id : Nat) : FnOk Try.prog 70 [.int .i64 n] [] id (.bool (decide (-999999999 ≤ n) && decide (n ≤ 999999999))) [] := by
  refine fn_okc Try.func70 hcc70 (by decide) hcr70 (by simp [Try.ntmps70]) fun E hP hR hl hid => ?_
  simp only [cr70] at hR
  refine w_go 4000 ?_
  simp [cc70]
  (refine w_call hP rfl (between_ok _ _ _ _) (by simp) (by simp <;> rfl) ?_; refine w_go 4000 ?_; simp)
  rw [hR]; exact rt_end (by simp <;> rfl) [] trivial (end_pure (by simp) (by simp) (by simp))
theorem rCheckEvent_ok (e : Ev) (id : Nat) : FnOk Try.prog 69 [eEv e] [] id (.int .i64 (fForm e)) [] := by
  unfold eEv
  refine fn_okc Try.func69 hcc69 (by decide) hcr69 (by simp [Try.ntmps69]) fun E hP hR hl hid => ?_
  simp only [cr69] at hR
  refine w_go 4000 ?_
  simp [cc69]
  repeat' first
    | (refine And.intro ?_ ?_)
    | (refine goc (fun h => ?_) (fun h => ?_) <;> simp)
    | (refine w_call hP rfl (between_ok _ _ _ _) (by simp) (by simp <;> rfl) ?_; refine w_go 4000 ?_; simp)
  all_goals first
    | (rw [hR]; refine rt_end (by simp <;> rfl) [] trivial (end_pure ?_ (by simp) (by simp)); simp; done)
    | (rw [hR]; refine rt_end (by simp <;> rfl) [] trivial (end_pure ?_ (by simp) (by simp)); (try simp); simp [fForm] at *; grind; done)
    | omega
    | (simp_all; done)
    | grind
set_option maxHeartbeats 1000000 in
theorem rCheckBatch_ok (b : Bt) (id : Nat) : FnOk Try.prog 19 [eBt b] [] id (.int .i64 (fCheckB b)) [] := by
  simp only [eBt]
  refine fn_okc Try.func19 hcc19 (by decide) hcr19 (by simp [Try.ntmps19]) fun E hP hR hl hid => ?_
  simp only [cr19] at hR
  refine w_go 4000 ?_
  simp [cc19]
  (refine w_call hP rfl (between_ok _ _ _ _) (by simp) (by simp <;> rfl) ?_; refine w_go 4000 ?_; simp)
  repeat' first
    | (refine goc (fun h => ?_) (fun h => ?_) <;> simp)
  · rw [hR]; exact rt_end (by simp <;> rfl) [] trivial (end_pure (by simp; simp [fCheckB] at *; omega) (by simp) (by simp))
  · rw [hR]; exact rt_end (by simp <;> rfl) [] trivial (end_pure (by simp; simp [fCheckB] at *; grind) (by simp) (by simp))
  · rw [hR]; exact rt_end (by simp <;> rfl) [] trivial (end_pure (by simp; simp [fCheckB] at *; grind) (by simp) (by simp))
  · have hc : fCheckB b = firstE fEvent b.events := by simp [fCheckB] at *; grind
    rw [hc] at hR
    have hlen : b.events.length ≤ 8 := by simp at *; omega
    refine w_loop (X := Nat) (fun i => ⟨[(1, true, .ptr E.n0 0 0), (3, true, .int .i64 i)], [(E.n0, some ⟨[.agg [.int .i64 b.number, .sl (b.events.map eEv)]], .agg [.int .i64 0, .nils], false, false⟩)], 1⟩) (fun i => i ≤ b.events.length ∧ firstE fEvent (b.events.drop i) = firstE fEvent b.events) (fun i => b.events.length - i) 0 ?_ ⟨by omega, rfl⟩ ?_
    · have hrn : rnOk [(E.n0, E.n0)] := by simp
      refine Conv.sub [(E.n0, E.n0)] hrn ?_ ?_ ?_ ?_ ?_ <;> (try simp)
    · rintro i ⟨hi, hf⟩ p hp
      refine w_go 4000 ?_
      simp
      refine goc (fun h => ?_) (fun h => ?_)
      · have h := of_decide_eq_true h
        obtain ⟨e, he, hd⟩ := drop_cons h
        rw [hd] at hf
        simp only [firstE] at hf
        simp [he, eEv]
        refine ⟨h, ?_⟩
        have hi1 : IntKind.i64.wrap ((i : Int) + 1) = ((i + 1 : Nat) : Int) := wrap64 (by omega)
        have hfe : fEvent e = if fForm e ≠ 0 then fForm e else if ¬ (0 ≤ e.type ∧ e.type ≤ 4) ∨ ¬ (1 ≤ e.id ∧ e.id ≤ 999) ∨ ¬ (0 ≤ e.field ∧ e.field ≤ 5) ∨ ¬ (-999999999 ≤ e.n ∧ e.n ≤ 999999999) then 3 else if 40 < e.text.length then 2 else 0 := rfl
        (refine w_call hP rfl (rCheckEvent_ok e _) (by simp) (by simp <;> rfl) ?_; refine w_go 4000 ?_; simp)
        refine goc (fun h1 => ?_) (fun h1 => ?_)
        · simp
          have h1' : fForm e ≠ 0 := by simpa using h1
          rw [if_pos h1'] at hfe
          rw [if_pos (by omega), hfe] at hf
          rw [hR]; exact rt_end (by simp <;> rfl) [] trivial (end_pure (by simp; exact hf) (by simp) (by simp))
        · simp
          have h1' : ¬ fForm e ≠ 0 := by simpa using h1
          rw [if_neg h1'] at hfe
          repeat' first
            | (refine And.intro ?_ ?_)
            | (refine w_call hP rfl (between_ok _ _ _ _) (by simp) (by simp <;> rfl) ?_; refine w_go 4000 ?_; simp)
            | (refine w_callg hP (by simp) rfl (fun hc => ⟨between_ok _ _ _ _, by revert hc; simp; try grind, by simp⟩) ?_; refine w_go 4000 ?_; simp)
            | (refine w_callg hP (by simp) rfl (fun hc => ⟨rIsInt_ok _ _, by revert hc; simp; try grind, by simp⟩) ?_; refine w_go 4000 ?_; simp)
          refine goc (fun h2 => ?_) (fun h2 => ?_)
          · simp
            have h2' : ¬ (0 ≤ e.type ∧ e.type ≤ 4) ∨ ¬ (1 ≤ e.id ∧ e.id ≤ 999) ∨ ¬ (0 ≤ e.field ∧ e.field ≤ 5) ∨ ¬ (-999999999 ≤ e.n ∧ e.n ≤ 999999999) := by simp at h2; omega
            rw [if_pos h2'] at hfe
            rw [if_pos (by omega), hfe] at hf
            rw [hR]; exact rt_end (by simp <;> rfl) [] trivial (end_pure (by simp; exact hf) (by simp) (by simp))
          · simp
            have h2' : ¬ (¬ (0 ≤ e.type ∧ e.type ≤ 4) ∨ ¬ (1 ≤ e.id ∧ e.id ≤ 999) ∨ ¬ (0 ≤ e.field ∧ e.field ≤ 5) ∨ ¬ (-999999999 ≤ e.n ∧ e.n ≤ 999999999)) := by simp at h2; omega
            rw [if_neg h2'] at hfe
            refine goc (fun h3 => ?_) (fun h3 => ?_)
            · simp
              have h3' : 40 < e.text.length := by simp at h3; omega
              rw [if_pos h3'] at hfe
              rw [if_pos (by omega), hfe] at hf
              rw [hR]; exact rt_end (by simp <;> rfl) [] trivial (end_pure (by simp; exact hf) (by simp) (by simp))
            · simp
              have h3' : ¬ 40 < e.text.length := by simp at h3; omega
              rw [if_neg h3'] at hfe
              rw [if_neg (by omega)] at hf
              refine hp _ (i + 1) ⟨h, hf⟩ (by omega) ?_
              have hrn : rnOk [(E.n0, E.n0)] := by simp[hi1]
              refine Conv.sub [(E.n0, E.n0)] hrn ?_ ?_ ?_ ?_ ?_ <;> (try simp[hi1])
      · have h := of_decide_eq_false h
        simp
        rw [List.drop_of_length_le (by omega)] at hf
        rw [hR]; exact rt_end (by simp <;> rfl) [] trivial (end_pure (by simp; exact hf) (by simp) (by simp))

@[simp] theorem toU8_byte (b : UInt8) : toU8 (.int .u8 b.toNat) = b := by simp [toU8]
theorem nbs_snoc (n : Int) (hn : 0 ≤ n) (k : Nat) : nbs n (k + 1) = nbs (n / 256) k ++ [lowByte n] := by
  induction k generalizing n with
  | zero => simp [nbs]
  | succ k ih =>
    rw [nbs, ih n hn, nbs]
    simp only [List.cons_append, List.cons.injEq, and_true]
    rw [Int.ediv_ediv_of_nonneg (by omega), show 8 * (k + 1) = 8 + 8 * k by omega, Int.pow_add]
    rfl
theorem numberBytes_ok : ∀ (k : Nat) (n : Int) (id : Nat), 0 ≤ n → n ≤ 4294967296 → k ≤ 8 → FnOk Try.prog 71 [.int .i64 n, .int .i64 k] [] id (.str (nbs n k)) []
  | 0, n, id, _, _, _ => by
    refine fn_okc Try.func71 hcc71 (by decide) hcr71 (by simp [Try.ntmps71]) fun E hP hR hl hid => ?_
    simp only [cr71] at hR
    refine w_go 4000 ?_
    simp [cc71]
    rw [hR]; exact rt_end (by simp <;> rfl) [] trivial (end_pure (by simp; rfl) (by simp) (by simp))
  | k + 1, n, id, hn, hn2, hk => by
    have ih := numberBytes_ok k (n / 256)
    refine fn_okc Try.func71 hcc71 (by decide) hcr71 (by simp [Try.ntmps71]) fun E hP hR hl hid => ?_
    simp only [cr71] at hR
    refine w_go 4000 ?_
    simp [cc71]
    have e1 : n.tdiv 256 = n / 256 := Int.tdiv_eq_ediv_of_nonneg hn
    have e2 : n.tmod 256 = n % 256 := Int.tmod_eq_emod_of_nonneg hn
    have e3 : IntKind.i64.wrap (n / 256) = n / 256 := wrap64 (by omega)
    have e4 : IntKind.i64.wrap (k : Int) = k := wrap64 (by omega)
    have e5 : IntKind.u8.wrap (n % 256) = (lowByte n).toNat := by
      rw [u8_wrap]; unfold lowByte; rw [Int.emod_emod_of_dvd _ (by decide)]
    refine goc_false (by simp; omega) ?_
    simp [e1, e2, e3, e4, e5]

    (refine w_call hP rfl (ih _ (by omega) (by omega) (by omega)) (by simp [e1, e2, e3, e4, e5]) (by simp [e1, e2, e3, e4, e5] <;> rfl) ?_; refine w_go 4000 ?_; simp [e1, e2, e3, e4, e5])
    refine ⟨rfl, by omega, ?_⟩
    rw [hR]; exact rt_end (by simp <;> rfl) [] trivial (end_pure (by simp; rw [nbs_snoc n hn]) (by simp) (by simp))
theorem nb1_ok (n : Int) (id : Nat) (h1 : 0 ≤ n) (h2 : n ≤ 4294967296) : FnOk Try.prog 71 [.int .i64 n, .int .i64 1] [] id (.str (nbs n 1)) [] := numberBytes_ok 1 n id h1 h2 (by omega)
theorem nb2_ok (n : Int) (id : Nat) (h1 : 0 ≤ n) (h2 : n ≤ 4294967296) : FnOk Try.prog 71 [.int .i64 n, .int .i64 2] [] id (.str (nbs n 2)) [] := numberBytes_ok 2 n id h1 h2 (by omega)
theorem nb4_ok (n : Int) (id : Nat) (h1 : 0 ≤ n) (h2 : n ≤ 4294967296) : FnOk Try.prog 71 [.int .i64 n, .int .i64 4] [] id (.str (nbs n 4)) [] := numberBytes_ok 4 n id h1 h2 (by omega)
end Go.Am

namespace Go.Am
set_option linter.all false
set_option linter.all false
open Go Go.RowKit Go.Proofs
set_option maxRecDepth 100000


theorem fForm_in (e : Ev) (h : fForm e = 0) : (1 ≤ e.kind ∧ e.kind ≤ 6) ∧ (e.kind = 4 → e.n = 0) ∧ (e.kind ≠ 4 → e.text = []) ∧ (e.kind = 1 ∨ e.kind = 2 → e.field = 0 ∧ e.n = 0) := by
  unfold fForm at h
  split at h
  · omega
  · split at h
    · omega
    · rename_i h1 h2
      refine ⟨by omega, fun h3 => ?_, fun h3 => ?_, fun h3 => ?_⟩
      · apply Classical.byContradiction; intro h4; exact h2 (.inr (.inl ⟨h3, h4⟩))
      · apply Classical.byContradiction; intro h4; exact h2 (.inr (.inr ⟨h3, h4⟩))
      · constructor
        · apply Classical.byContradiction; intro h4; exact h2 (.inl ⟨h3, .inl h4⟩)
        · apply Classical.byContradiction; intro h4; exact h2 (.inl ⟨h3, .inr h4⟩)

theorem BatchBytes_ok (b : Bt) (id : Nat) (hb : fCheckB b = 0) : FnOk Try.prog 20 [eBt b] [] id (.str (fBytes b)) [] := by
  obtain ⟨hnum, hne, hl8, hev⟩ := fCheckB_zero hb
  simp only [eBt]
  refine fn_okc Try.func20 hcc20 (by decide) hcr20 (by simp [Try.ntmps20]) fun E hP hR hl hid => ?_
  simp only [cr20] at hR
  refine w_go 4000 ?_
  simp [cc20]
  repeat' first
    | (refine And.intro ?_ ?_)
    | (refine w_call hP rfl (nb2_ok _ _ (by omega) (by omega)) (by simp) (by simp <;> rfl) ?_; refine w_go 4000 ?_; simp)
    | (refine w_call hP rfl (nb1_ok _ _ (by omega) (by omega)) (by simp) (by simp <;> rfl) ?_; refine w_go 4000 ?_; simp)
  refine w_loop (X := Nat × List UInt8) (fun x => ⟨[(1, true, .ptr E.n0 0 0), (4, true, .int .i64 x.1), (3, true, .str x.2)], [(E.n0, some ⟨[.agg [.int .i64 b.number, .sl (b.events.map eEv)]], .agg [.int .i64 0, .nils], false, false⟩)], 1⟩)
    (fun x => x.1 ≤ b.events.length ∧ x.2 ++ (b.events.drop x.1).flatMap evBytes = btBytes b ∧ x.2.length ≤ 3 + 47 * x.1) (fun x => b.events.length - x.1) (0, nbs b.number 2 ++ nbs b.events.length 1) ?_ ⟨by simp, by simp [btBytes], by simp⟩ ?_
  · have hrn : rnOk [(E.n0, E.n0)] := by simp
    refine Conv.sub [(E.n0, E.n0)] hrn ?_ ?_ ?_ ?_ ?_ <;> (try simp)
  · rintro ⟨i, l⟩ ⟨hi, hf, hlen⟩ p hp
    simp only at hi hf hlen hp
    refine w_go 4000 ?_
    simp
    refine goc (fun h => ?_) (fun h => ?_)
    · have h := of_decide_eq_true h
      obtain ⟨e, he, hd⟩ := drop_cons h
      rw [hd] at hf
      have hve := hev e (List.mem_of_getElem? he)
      have hel := evBytes_len e hve
      obtain ⟨g1, g2, g3, g4, g5, g6⟩ := fEvent_in e hve
      obtain ⟨k1, k2, k3, k4⟩ := fForm_in e g6
      have hi1 : IntKind.i64.wrap ((i : Int) + 1) = ((i + 1 : Nat) : Int) := wrap64 (by omega)
      have hn1 : IntKind.i64.wrap (e.n + 999999999) = e.n + 999999999 := wrap64 (by omega)
      simp [he, eEv]
      refine ⟨h, ?_⟩
      repeat' first
        | (refine w_call hP rfl (nb1_ok _ _ (by omega) (by omega)) (by simp) (by simp <;> rfl) ?_; refine w_go 4000 ?_; simp)
        | (refine w_call hP rfl (nb2_ok _ _ (by omega) (by omega)) (by simp) (by simp <;> rfl) ?_; refine w_go 4000 ?_; simp)
      (repeat (refine And.intro (by first | assumption | omega | (simp; omega) | (simp_all; done)) ?_))
      refine goc (fun h1 => ?_) (fun h1 => ?_)
      · simp
        have h1' : e.kind = 4 := by simpa using h1
        repeat' first
          | (refine w_call hP rfl (nb1_ok _ _ (by omega) (by omega)) (by simp) (by simp <;> rfl) ?_; refine w_go 4000 ?_; simp)
        (repeat (refine And.intro (by first | assumption | omega | (simp; omega) | (simp_all; done)) ?_))
        refine hp _ (i + 1, l ++ evBytes e) ⟨h, ?_, ?_⟩ (by omega) ?_
        · rw [← hf]; simp
        · simp; omega
        · have hrn : rnOk [(E.n0, E.n0)] := by simp[hi1]
          refine Conv.sub [(E.n0, E.n0)] hrn ?_ ?_ ?_ ?_ ?_ <;> (try simp[hi1])
          rw [evBytes, if_neg (by omega), if_pos h1']
      · simp
        have h1' : ¬ e.kind = 4 := by simpa using h1
        refine goc (fun h2 => ?_) (fun h2 => ?_)
        · simp [hn1]
          have h2' : ¬ (e.kind = 1 ∨ e.kind = 2) := by have := of_decide_eq_true h2; omega
          (refine w_call hP rfl (nb1_ok _ _ (by omega) (by omega)) (by simp [hn1]) (by simp [hn1] <;> rfl) ?_; refine w_go 4000 ?_; simp [hn1])
          (refine w_call hP rfl (nb4_ok _ _ (by omega) (by omega)) (by simp [hn1]) (by simp [hn1] <;> rfl) ?_; refine w_go 4000 ?_; simp [hn1])
          (repeat (refine And.intro (by first | assumption | omega | (simp; omega) | (simp_all; done)) ?_))
          refine hp _ (i + 1, l ++ evBytes e) ⟨h, ?_, ?_⟩ (by omega) ?_
          · rw [← hf]; simp
          · simp; omega
          · have hrn : rnOk [(E.n0, E.n0)] := by simp[hi1]
            refine Conv.sub [(E.n0, E.n0)] hrn ?_ ?_ ?_ ?_ ?_ <;> (try simp[hi1])
            rw [evBytes, if_neg h2', if_neg h1']
        · simp
          have h2' : e.kind = 1 ∨ e.kind = 2 := by have := of_decide_eq_false h2; omega
          refine hp _ (i + 1, l ++ evBytes e) ⟨h, ?_, ?_⟩ (by omega) ?_
          · rw [← hf]; simp
          · simp; omega
          · have hrn : rnOk [(E.n0, E.n0)] := by simp[hi1]
            refine Conv.sub [(E.n0, E.n0)] hrn ?_ ?_ ?_ ?_ ?_ <;> (try simp[hi1])
            rw [evBytes, if_pos h2', List.append_nil]
    · have h := of_decide_eq_false h
      rw [List.drop_of_length_le (by omega)] at hf
      simp at hf
      subst hf
      have hbl : (btBytes b).length ≤ 3 + 47 * 8 := by omega
      simp
      (refine w_call hP rfl (nb2_ok _ _ (by omega) (by omega)) (by simp) (by simp <;> rfl) ?_; refine w_go 4000 ?_; simp)
      (repeat (refine And.intro (by first | assumption | omega | (simp; omega) | (simp_all; done)) ?_))
      rw [hR]; exact rt_end (by simp <;> rfl) [] trivial (end_pure (by simp; rfl) (by simp) (by simp))

def atN (s : List UInt8) (a k : Nat) : Int := if s.length < a + k then 0 else fNum ((s.drop a).take k)
def atB (s : List UInt8) (a k : Nat) : Bool := decide (a + k ≤ s.length)
theorem numberAt_ok (s : List UInt8) (a k : Nat) (id : Nat) (hs : s.length ≤ 1000000000000000000) (ha : a ≤ 1000000000000000000) (hk : k ≤ 4) :
    FnOk Try.prog 72 [.str s, .int .i64 a, .int .i64 k] [] id (.tup [.int .i64 (atN s a k), .bool (atB s a k)]) [] := by
  refine fn_okc Try.func72 hcc72 (by decide) hcr72 (by simp [Try.ntmps72]) fun E hP hR hl hid => ?_
  simp only [cr72] at hR
  refine w_go 4000 ?_
  simp [cc72]
  have e0 : IntKind.i64.wrap ((s.length : Int) - a) = (s.length : Int) - a := wrap64 (by omega)
  refine goc (fun h => ?_) (fun h => ?_)
  · simp
    have h' : s.length < a + k := by simp [e0] at h; omega
    have v1 : atN s a k = 0 := by unfold atN; rw [if_pos h']
    have v2 : atB s a k = false := by unfold atB; simp; omega
    rw [v1, v2] at hR
    rw [hR]; exact rt_end (by simp <;> rfl) [] trivial (end_pure (by simp) (by simp) (by simp))
  · simp
    have h' : ¬ s.length < a + k := by simp [e0] at h; omega
    have v1 : atN s a k = fNum ((s.drop a).take k) := by unfold atN; rw [if_neg h']
    have v2 : atB s a k = true := by unfold atB; simp; omega
    rw [v1, v2] at hR
    refine w_loop (X := Nat) (fun i => ⟨[(0, true, .str s), (1, true, .int .i64 a), (2, true, .int .i64 k), (8, true, .int .i64 (fNum ((s.drop a).take i))), (9, true, .int .i64 i)], [], 0⟩) (fun i => i ≤ k) (fun i => k - i) 0 ?_ (by omega) ?_
    · have hrn : rnOk [] := by simp[fNum]
      refine Conv.sub [] hrn ?_ ?_ ?_ ?_ ?_ <;> (try simp[fNum])
    · intro x hx p hp
      refine w_go 4000 ?_
      simp
      refine goc (fun h => ?_) (fun h => ?_)
      · have h := of_decide_eq_true h
        have hax : IntKind.i64.wrap ((a : Int) + x) = ((a + x : Nat) : Int) := wrap64 (by omega)
        obtain ⟨c, hc, _⟩ := drop_cons (l := s) (i := a + x) (by omega)
        have hat : ((a : Int) + x).toNat = a + x := by omega
        simp [hax, hat, hc]
        have hbd := fNum_bd ((s.drop a).take x)
        have hxl : ((s.drop a).take x).length = x := by simp; omega
        rw [hxl] at hbd
        have hpw : (256 : Int) ^ x ≤ 16777216 := by
          have : x = 0 ∨ x = 1 ∨ x = 2 ∨ x = 3 := by omega
          rcases this with e | e | e | e <;> rw [e] <;> decide
        have hcl := c.toNat_lt
        have e1 : IntKind.i64.wrap (256 * fNum ((s.drop a).take x)) = 256 * fNum ((s.drop a).take x) := wrap64 (by omega)
        have e2 : IntKind.i64.wrap (c.toNat : Int) = c.toNat := wrap64 (by omega)
        have e3 : IntKind.i64.wrap (256 * fNum ((s.drop a).take x) + c.toNat) = 256 * fNum ((s.drop a).take x) + c.toNat := wrap64 (by omega)
        have e4 : fNum ((s.drop a).take (x + 1)) = 256 * fNum ((s.drop a).take x) + c.toNat := by
          rw [List.take_add_one, List.getElem?_drop, hc, Option.toList_some, fNum_snoc]
        have e5 : IntKind.i64.wrap ((x : Int) + 1) = ((x + 1 : Nat) : Int) := wrap64 (by omega)
        rw [e1, e2, e3, ← e4, e5]
        refine ⟨by omega, hp _ (x + 1) (by omega) (by omega) ?_⟩
        have hrn : rnOk [] := by simp
        refine Conv.sub [] hrn ?_ ?_ ?_ ?_ ?_ <;> (try simp)
      · have h := of_decide_eq_false h
        simp
        obtain rfl : x = k := by omega
        rw [hR]; exact rt_end (by simp <;> rfl) [] trivial (end_pure (by simp) (by simp) (by simp))

def sameEv (a b : Ev) : Bool := a.kind == b.kind && (a.type == b.type && (a.id == b.id && (a.field == b.field && (a.n == b.n && a.text == b.text))))
theorem sameEv_iff (a b : Ev) : sameEv a b = true ↔ a = b := by
  obtain ⟨k, t, i, f, n, x⟩ := a
  obtain ⟨k', t', i', f', n', x'⟩ := b
  simp [sameEv]
def sameL {α : Type} (f : α → α → Bool) : List α → List α → Bool
  | [], [] => true
  | x :: a, y :: b => f x y && sameL f a b
  | _, _ => false
theorem sameL_ne {α : Type} {f : α → α → Bool} : ∀ {a b : List α}, a.length ≠ b.length → sameL f a b = false
  | [], [], h => (h rfl).elim
  | [], _ :: _, _ => rfl
  | _ :: _, [], _ => rfl
  | x :: a, y :: b, h => by simp only [sameL]; rw [sameL_ne (a := a) (b := b) (by simpa using h)]; simp
theorem sameL_iff {α : Type} {f : α → α → Bool} (hf : ∀ x y, f x y = true ↔ x = y) : ∀ {a b : List α}, sameL f a b = true ↔ a = b
  | [], [] => by simp [sameL]
  | [], _ :: _ => by simp [sameL]
  | _ :: _, [] => by simp [sameL]
  | x :: a, y :: b => by simp [sameL, hf, sameL_iff hf (a := a) (b := b)]
theorem SameEvents_ok (a b : List Ev) (id : Nat) (hl : a.length < 9223372036854775807) : FnOk Try.prog 63 [.sl (a.map eEv), .sl (b.map eEv)] [] id (.bool (sameL sameEv a b)) [] := by
  refine fn_okc Try.func63 hcc63 (by decide) hcr63 (by simp [Try.ntmps63]) fun E hP hR hl hid => ?_
  simp only [cr63] at hR
  refine w_go 4000 ?_
  simp [cc63]
  refine goc (fun h => ?_) (fun h => ?_)
  · simp
    have h' : a.length ≠ b.length := by simp at h; omega
    rw [sameL_ne h'] at hR
    rw [hR]; exact rt_end (by simp <;> rfl) [] trivial (end_pure (by simp) (by simp) (by simp))
  · simp
    have h' : a.length = b.length := by simp at h; omega
    refine w_loop (X := Nat) (fun i => ⟨[(0, true, .sl (a.map eEv)), (1, true, .sl (b.map eEv)), (5, true, .int .i64 i)], [], 0⟩) (fun i => i ≤ a.length ∧ sameL sameEv (a.drop i) (b.drop i) = sameL sameEv a b) (fun i => a.length - i) 0 ?_ ⟨by omega, rfl⟩ ?_
    · have hrn : rnOk [] := by simp
      refine Conv.sub [] hrn ?_ ?_ ?_ ?_ ?_ <;> (try simp)
    · rintro i ⟨hi, hf⟩ p hp
      refine w_go 4000 ?_
      simp
      refine goc (fun h => ?_) (fun h => ?_)
      · have h := of_decide_eq_true h
        obtain ⟨x, hx, hd⟩ := drop_cons h
        obtain ⟨y, hy, hd'⟩ := drop_cons (l := b) (i := i) (by omega)
        rw [hd, hd'] at hf
        simp only [sameL] at hf
        have hi1 : IntKind.i64.wrap ((i : Int) + 1) = ((i + 1 : Nat) : Int) := wrap64 (by omega)
        simp [hx, hy, eEv]
        (repeat (refine And.intro (by first | assumption | omega | (simp; omega) | (simp_all; done)) ?_))
        simp [eqAll, eqOne]
        refine goc (fun h2 => ?_) (fun h2 => ?_)
        · simp
          have h2' : sameEv x y = false := by
            cases hs : sameEv x y with
            | false => rfl
            | true => rw [(sameEv_iff x y).1 hs] at h2; simp at h2
          rw [h2', Bool.false_and] at hf
          rw [hR]; exact rt_end (by simp <;> rfl) [] trivial (end_pure (by simp; exact hf.symm) (by simp) (by simp))
        · simp
          have h2' : sameEv x y = true := by rw [sameEv]; simpa using h2
          rw [h2', Bool.true_and] at hf
          refine hp _ (i + 1) ⟨h, hf⟩ (by omega) ?_
          have hrn : rnOk [] := by simp[hi1]
          refine Conv.sub [] hrn ?_ ?_ ?_ ?_ ?_ <;> (try simp[hi1])
      · have h := of_decide_eq_false h
        simp
        rw [List.drop_of_length_le (by omega), List.drop_of_length_le (by omega)] at hf
        rw [hR]; exact rt_end (by simp <;> rfl) [] trivial (end_pure (by simp; exact hf.symm) (by simp) (by simp))

def sameBt (a b : Bt) : Bool := a.number == b.number && sameL sameEv a.events b.events
theorem sameBt_iff (a b : Bt) : sameBt a b = true ↔ a = b := by
  obtain ⟨n, l⟩ := a
  obtain ⟨n', l'⟩ := b
  simp [sameBt, sameL_iff sameEv_iff]
theorem pure_eBt (b : Bt) : (eBt b).pureB = true := by simp [eBt]
@[simp] theorem pure_bts (l : List Bt) : pureL (l.map eBt) = true := pureL_map pure_eBt l
@[simp] theorem names_bts (S : Nat → Prop) (l : List Bt) : namesL S (l.map eBt) := namesL_pure _ (pure_bts l)
theorem SameBatches_ok (a b : List Bt) (id : Nat) (hl : a.length < 9223372036854775807) (hl2 : ∀ x ∈ a, x.events.length < 9223372036854775807) : FnOk Try.prog 24 [.sl (a.map eBt), .sl (b.map eBt)] [] id (.bool (sameL sameBt a b)) [] := by
  refine fn_okc Try.func24 hcc24 (by decide) hcr24 (by simp [Try.ntmps24]) fun E hP hR hl hid => ?_
  simp only [cr24] at hR
  refine w_go 4000 ?_
  simp [cc24]
  refine goc (fun h => ?_) (fun h => ?_)
  · simp
    have h' : a.length ≠ b.length := by simp at h; omega
    rw [sameL_ne h'] at hR
    rw [hR]; exact rt_end (by simp <;> rfl) [] trivial (end_pure (by simp) (by simp) (by simp))
  · simp
    have h' : a.length = b.length := by simp at h; omega
    refine w_loop (X := Nat) (fun i => ⟨[(0, true, .sl (a.map eBt)), (1, true, .sl (b.map eBt)), (5, true, .int .i64 i)], [], 0⟩) (fun i => i ≤ a.length ∧ sameL sameBt (a.drop i) (b.drop i) = sameL sameBt a b) (fun i => a.length - i) 0 ?_ ⟨by omega, rfl⟩ ?_
    · have hrn : rnOk [] := by simp
      refine Conv.sub [] hrn ?_ ?_ ?_ ?_ ?_ <;> (try simp)
    · rintro i ⟨hi, hf⟩ p hp
      refine w_go 4000 ?_
      simp
      refine goc (fun h => ?_) (fun h => ?_)
      · have h := of_decide_eq_true h
        obtain ⟨x, hx, hd⟩ := drop_cons h
        obtain ⟨y, hy, hd'⟩ := drop_cons (l := b) (i := i) (by omega)
        rw [hd, hd'] at hf
        simp only [sameL] at hf
        have hi1 : IntKind.i64.wrap ((i : Int) + 1) = ((i + 1 : Nat) : Int) := wrap64 (by omega)
        simp [hx, hy, eBt]
        (repeat (refine And.intro (by first | assumption | omega | (simp; omega) | (simp_all; done)) ?_))
        (refine w_callg hP (by simp) rfl (fun hc => ⟨SameEvents_ok x.events y.events _ (hl2 x (List.mem_of_getElem? hx)), by revert hc; simp; try grind, by simp⟩) ?_; refine w_go 4000 ?_; simp)
        (repeat (refine And.intro (by first | assumption | omega | (simp; omega) | (simp_all; done)) ?_))
        refine goc (fun h2 => ?_) (fun h2 => ?_)
        · simp
          have h2' : sameBt x y = false := by
            cases hs : sameBt x y with
            | false => rfl
            | true =>
              rw [sameBt, Bool.and_eq_true] at hs
              rw [hs.2] at h2
              have := hs.1
              simp_all
          rw [h2', Bool.false_and] at hf
          rw [hR]; exact rt_end (by simp <;> rfl) [] trivial (end_pure (by simp; exact hf.symm) (by simp) (by simp))
        · simp
          have h2' : sameBt x y = true := by rw [sameBt]; simp_all
          rw [h2', Bool.true_and] at hf
          refine hp _ (i + 1) ⟨h, hf⟩ (by omega) ?_
          have hrn : rnOk [] := by simp[hi1]
          refine Conv.sub [] hrn ?_ ?_ ?_ ?_ ?_ <;> (try simp[hi1])
      · have h := of_decide_eq_false h
        simp
        rw [List.drop_of_length_le (by omega), List.drop_of_length_le (by omega)] at hf
        rw [hR]; exact rt_end (by simp <;> rfl) [] trivial (end_pure (by simp; exact hf.symm) (by simp) (by simp))
end Go.Am

namespace Go.Am
set_option linter.all false
set_option linter.all false
open Go Go.RowKit Go.Proofs
set_option maxRecDepth 100000


theorem fTake_in {s : List UInt8} {k : Nat} (h : k ≤ s.length) : fTake s k = s.take k := by unfold fTake; rw [if_neg (by omega)]
theorem fRest_in {s : List UInt8} {k : Nat} (h : k ≤ s.length) : fRest s k = s.drop k := by unfold fRest; rw [if_neg (by omega)]
theorem sh1_in {s : List UInt8} {sh : Bool} {k : Nat} (h : k ≤ s.length) : sh1 s sh k = sh := by unfold sh1; simp; omega
theorem sh1_out {s : List UInt8} {sh : Bool} {k : Nat} (h : s.length < k) : sh1 s sh k = true := by unfold sh1; simp [h]
theorem sh1_true (s : List UInt8) (k : Nat) : sh1 s true k = true := by unfold sh1; simp
theorem sh1_or {s : List UInt8} {sh : Bool} {k : Nat} (h : s.length < k ∨ sh = true) : sh1 s sh k = true := by
  rcases h with h | h
  · exact sh1_out h
  · subst h; exact sh1_true s k
theorem take1 {s : List UInt8} (h : 1 ≤ s.length) : ∃ a r, s = a :: r ∧ s.drop 1 = r := by
  cases s with
  | nil => simp at h
  | cons a r => exact ⟨a, r, rfl, rfl⟩
theorem fNum_one (c : UInt8) : fNum [c] = c.toNat := by simp [fNum]
/-- The head of an event, read at once. -/
theorem head_in {s : List UInt8} (h : 4 ≤ s.length) : fNum (fTake s 1) = fNum (s.take 4) / 16777216 ∧ fNum (fTake (fRest s 1) 1) = fNum (s.take 4) / 65536 % 256 ∧ fNum (fTake (fRest (fRest s 1) 1) 2) = fNum (s.take 4) % 65536 ∧ fRest (fRest (fRest s 1) 1) 2 = s.drop 4 ∧
    sh1 (fRest (fRest s 1) 1) (sh1 (fRest s 1) (sh1 s false 1) 1) 2 = false := by
  match s, h with
  | a :: b :: c :: d :: r, _ =>
    have ha := a.toNat_lt
    have hb := b.toNat_lt
    have hc := c.toNat_lt
    have hd := d.toNat_lt
    have e1 : fTake (a :: b :: c :: d :: r) 1 = [a] := by simp [fTake]
    have e2 : fRest (a :: b :: c :: d :: r) 1 = b :: c :: d :: r := by simp [fRest]
    have e3 : fTake (b :: c :: d :: r) 1 = [b] := by simp [fTake]
    have e4 : fRest (b :: c :: d :: r) 1 = c :: d :: r := by simp [fRest]
    have e5 : fTake (c :: d :: r) 2 = [c, d] := by simp [fTake]
    have e6 : fRest (c :: d :: r) 2 = r := by simp [fRest]; intro; omega
    rw [e2, e4, e1, e3, e5, e6]
    simp only [fNum, List.take_succ_cons, List.take_zero, List.foldl_cons, List.foldl_nil, List.drop_succ_cons, List.drop_zero]
    refine ⟨by omega, by omega, by omega, trivial, ?_⟩
    simp [sh1]
theorem head_out {s : List UInt8} (h : s.length < 4) : sh1 (fRest (fRest s 1) 1) (sh1 (fRest s 1) (sh1 s false 1) 1) 2 = true := by
  by_cases h1 : s.length < 1
  · rw [sh1_out (k := 1) h1, sh1_true, sh1_true]
  · rw [fRest_in (s := s) (by omega), sh1_in (s := s) (by omega)]
    by_cases h2 : (s.drop 1).length < 1
    · rw [sh1_out h2, sh1_true]
    · rw [fRest_in (s := s.drop 1) (by omega)]
      refine sh1_out ?_
      simp at h2 ⊢; omega
/-- An event, read at a place: what is wrong with it. -/
theorem ev_short {s : List UInt8} (h : s.length < 4) : (rEvent s false).sh = true := by
  have h0 := head_out h
  unfold rEvent
  simp only
  rw [h0]
  split
  · rfl
  · split
    · rfl
    · split <;> simp only [sh1_true]
theorem ev_kind {s : List UInt8} (h : 4 ≤ s.length) (hk : ¬ (1 ≤ fNum (s.take 4) / 16777216 ∧ fNum (s.take 4) / 16777216 ≤ 6)) : (rEvent s false).sh = true := by
  obtain ⟨h1, h2, h3, h4, h5⟩ := head_in h
  unfold rEvent
  simp only
  rw [if_pos (by omega)]
theorem ev_plain {s : List UInt8} (h : 4 ≤ s.length) (hk : fNum (s.take 4) / 16777216 = 1 ∨ fNum (s.take 4) / 16777216 = 2) :
    rEvent s false = ⟨⟨fNum (s.take 4) / 16777216, fNum (s.take 4) / 65536 % 256, fNum (s.take 4) % 65536, 0, 0, []⟩, s.drop 4, false⟩ := by
  obtain ⟨h1, h2, h3, h4, h5⟩ := head_in h
  unfold rEvent
  simp only
  rw [h1, h2, h3, h4, h5, if_neg (by omega), if_pos hk]
theorem ev_field {s : List UInt8} (h : 4 ≤ s.length) (h' : s.length < 5) (hk : 2 < fNum (s.take 4) / 16777216 ∧ fNum (s.take 4) / 16777216 ≤ 6) : (rEvent s false).sh = true := by
  obtain ⟨h1, h2, h3, h4, h5⟩ := head_in h
  unfold rEvent
  simp only
  rw [h1, h4, h5, if_neg (by omega), if_neg (by omega), sh1_out (s := s.drop 4) (k := 1) (by simp; omega)]
  split <;> simp only [sh1_true]
theorem at_drop {s : List UInt8} {a k : Nat} (h : a + k ≤ s.length) : atN s a k = fNum ((s.drop a).take k) := by unfold atN; rw [if_neg (by omega)]
theorem ev_text {s : List UInt8} (h : 5 ≤ s.length) (hk : fNum (s.take 4) / 16777216 = 4) :
    (s.length < 6 → (rEvent s false).sh = true) ∧ (6 ≤ s.length → ((s.length : Int) < 6 + fNum ((s.drop 5).take 1) → (rEvent s false).sh = true) ∧ (¬ ((s.length : Int) < 6 + fNum ((s.drop 5).take 1)) →
      rEvent s false = ⟨⟨fNum (s.take 4) / 16777216, fNum (s.take 4) / 65536 % 256, fNum (s.take 4) % 65536, fNum ((s.drop 4).take 1), 0, ((s.drop 6).take (fNum ((s.drop 5).take 1)).toNat)⟩, s.drop (6 + (fNum ((s.drop 5).take 1)).toNat), false⟩)) := by
  obtain ⟨h1, h2, h3, h4, h5⟩ := head_in (s := s) (by omega)
  have g1 : 1 ≤ (s.drop 4).length := by simp; omega
  unfold rEvent
  simp only
  rw [h1, h2, h3, h4, h5, if_neg (by omega), if_neg (by omega), if_pos hk, sh1_in g1, fTake_in g1, fRest_in g1, List.drop_drop]
  refine ⟨fun h6 => ?_, fun h6 => ?_⟩
  · rw [sh1_out (s := s.drop (4 + 1)) (by simp; omega), sh1_true]
  · have g2 : 1 ≤ (s.drop (4 + 1)).length := by simp; omega
    rw [sh1_in g2, fTake_in g2, fRest_in g2, List.drop_drop]
    have hb := fNum_bd ((s.drop (4 + 1)).take 1)
    refine ⟨fun h7 => ?_, fun h7 => ?_⟩
    · refine sh1_out (sh := false) (s := s.drop (4 + 1 + 1)) (k := (fNum ((s.drop (4 + 1)).take 1)).toNat) ?_
      simp at h7 hb ⊢; omega
    · have g3 : (fNum ((s.drop (4 + 1)).take 1)).toNat ≤ (s.drop (4 + 1 + 1)).length := by simp at h7 hb ⊢; omega
      rw [sh1_in g3, fTake_in g3, fRest_in g3, List.drop_drop]
theorem ev_num {s : List UInt8} (h : 5 ≤ s.length) (hk : 2 < fNum (s.take 4) / 16777216 ∧ fNum (s.take 4) / 16777216 ≤ 6) (hk4 : fNum (s.take 4) / 16777216 ≠ 4) :
    (s.length < 9 → (rEvent s false).sh = true) ∧ (9 ≤ s.length →
      rEvent s false = ⟨⟨fNum (s.take 4) / 16777216, fNum (s.take 4) / 65536 % 256, fNum (s.take 4) % 65536, fNum ((s.drop 4).take 1), fNum ((s.drop 5).take 4) - 999999999, []⟩, s.drop 9, false⟩) := by
  obtain ⟨h1, h2, h3, h4, h5⟩ := head_in (s := s) (by omega)
  have g1 : 1 ≤ (s.drop 4).length := by simp; omega
  unfold rEvent
  simp only
  rw [h1, h2, h3, h4, h5, if_neg (by omega), if_neg (by omega), if_neg hk4, sh1_in g1, fTake_in g1, fRest_in g1, List.drop_drop]
  refine ⟨fun h6 => ?_, fun h6 => ?_⟩
  · exact sh1_out (sh := false) (s := s.drop (4 + 1)) (k := 4) (by simp; omega)
  · have g2 : 4 ≤ (s.drop (4 + 1)).length := by simp; omega
    rw [sh1_in g2, fTake_in g2, fRest_in g2, List.drop_drop]

theorem dShort_iff (s : List UInt8) : dShort s = true ↔ (s.length < 2 ∨ (s.length : Int) - 2 < fNum (s.take 2)) := by
  unfold dShort
  by_cases h : s.length < 2
  · rw [sh1_out h, sh1_true]; simp [h]
  · rw [sh1_in (s := s) (k := 2) (by omega), fTake_in (s := s) (k := 2) (by omega), fRest_in (s := s) (k := 2) (by omega)]
    have hb := fNum_bd (s.take 2)
    simp only [sh1, Bool.false_or, decide_eq_true_eq, List.length_drop]
    omega
theorem dBody_in {s : List UInt8} (h : ¬ dShort s = true) : dBody s = (s.drop 2).take (fNum (s.take 2)).toNat ∧ 2 ≤ s.length ∧ fNum (s.take 2) ≤ (s.length : Int) - 2 ∧ (dBody s).length = (fNum (s.take 2)).toNat := by
  rw [dShort_iff] at h
  have hb := fNum_bd (s.take 2)
  have e : dBody s = (s.drop 2).take (fNum (s.take 2)).toNat := by
    unfold dBody
    rw [fTake_in (s := s) (k := 2) (by omega), fRest_in (s := s) (k := 2) (by omega), fTake_in (s := s.drop 2) (by simp; omega)]
  refine ⟨e, by omega, by omega, ?_⟩
  rw [e]; simp; omega
theorem rEvs_true (k : Nat) (s : List UInt8) : rEvs k s true = ⟨[], s, true⟩ := by cases k <;> rfl
theorem dEvs_short {b : List UInt8} (h : b.length < 3) : (dEvs b).sh = true := by
  have : sh1 (fRest b 2) (sh1 b false 2) 1 = true := by
    by_cases h2 : b.length < 2
    · rw [sh1_out h2, sh1_true]
    · rw [fRest_in (s := b) (k := 2) (by omega)]; exact sh1_out (by simp; omega)
  unfold dEvs
  rw [this, rEvs_true]
theorem dEvs_in {b : List UInt8} (h : 3 ≤ b.length) : dEvs b = rEvs (fNum ((b.drop 2).take 1)).toNat (b.drop 3) false ∧ dNum b = fNum (b.take 2) := by
  unfold dEvs dNum
  rw [fRest_in (s := b) (k := 2) (by omega), sh1_in (s := b) (k := 2) (by omega), fTake_in (s := b) (k := 2) (by omega)]
  have g : 1 ≤ (b.drop 2).length := by simp; omega
  rw [fTake_in g, fRest_in g, sh1_in g, List.drop_drop]
  exact ⟨rfl, rfl⟩
end Go.Am

namespace Go.Am
set_option linter.all false
set_option linter.all false
open Go Go.RowKit Go.Proofs
set_option maxRecDepth 100000


theorem na2_ok (s : List UInt8) (id : Nat) (hs : s.length ≤ 1000000000000000000) : FnOk Try.prog 72 [.str s, .int .i64 0, .int .i64 2] [] id (.tup [.int .i64 (atN s 0 2), .bool (atB s 0 2)]) [] := numberAt_ok s 0 2 id hs (by omega) (by omega)
theorem na21_ok (s : List UInt8) (id : Nat) (hs : s.length ≤ 1000000000000000000) : FnOk Try.prog 72 [.str s, .int .i64 2, .int .i64 1] [] id (.tup [.int .i64 (atN s 2 1), .bool (atB s 2 1)]) [] := numberAt_ok s 2 1 id hs (by omega) (by omega)
theorem nak_ok (s : List UInt8) (a k : Nat) (id : Nat) (hs : s.length ≤ 1000000000000000000) (ha : a ≤ 1000000000000000000) (hk : k ≤ 4) :
    FnOk Try.prog 72 [.str s, .int .i64 a, .int .i64 k] [] id (.tup [.int .i64 (atN s a k), .bool (atB s a k)]) [] := numberAt_ok s a k id hs ha hk

theorem na4_ok (s : List UInt8) (a : Nat) (id : Nat) (hs : s.length ≤ 1000000000000000000) (ha : a ≤ 1000000000000000000) : FnOk Try.prog 72 [.str s, .int .i64 a, .int .i64 4] [] id (.tup [.int .i64 (atN s a 4), .bool (atB s a 4)]) [] := numberAt_ok s a 4 id hs ha (by omega)
theorem na1_ok (s : List UInt8) (a : Nat) (id : Nat) (hs : s.length ≤ 1000000000000000000) (ha : a ≤ 1000000000000000000) : FnOk Try.prog 72 [.str s, .int .i64 a, .int .i64 1] [] id (.tup [.int .i64 (atN s a 1), .bool (atB s a 1)]) [] := numberAt_ok s a 1 id hs ha (by omega)
theorem ev_dead {t : List UInt8} (m : Nat) (h : (rEvent t false).sh = true) : (rEvs (m + 1) t false).sh = true := by
  simp only [rEvs, Bool.false_eq_true, if_false]
  rw [h, rEvs_true]
theorem ev_live {t r : List UInt8} {e : Ev} (m : Nat) (h : rEvent t false = ⟨e, r, false⟩) : rEvs (m + 1) t false = ⟨e :: (rEvs m r false).l, (rEvs m r false).s, (rEvs m r false).sh⟩ := by
  simp only [rEvs, Bool.false_eq_true, if_false]
  rw [h]
structure BoX where
  ok : Bool
  i : Nat
  a : Nat
  l : List Ev
set_option maxHeartbeats 4000000 in
theorem BatchOf_ok (s : List UInt8) (id : Nat) (hs : s.length ≤ 1000000000000000000) :
    FnOk Try.prog 21 [.str s] [] id (.tup [eBt (fDecode s).b, .int .i64 (fDecode s).n, .int .i64 (fDecode s).e]) [] := by
  simp only [eBt]
  refine fn_okc Try.func21 hcc21 (by decide) hcr21 (by simp [Try.ntmps21]) fun E hP hR hl hid => ?_
  simp only [cr21] at hR
  refine w_go 4000 ?_
  simp [cc21]
  (refine w_call hP rfl (na2_ok s _ (by omega)) (by simp) (by simp <;> rfl) ?_; refine w_go 4000 ?_; simp)
  have hlen2 : IntKind.i64.wrap ((s.length : Int) - 2) = (s.length : Int) - 2 := wrap64 (by omega)
  refine goc (fun h => ?_) (fun h => ?_)
  · simp
    have hd : dShort s = true := by
      rw [dShort_iff]
      simp [atB, atN, hlen2] at h
      rcases h with h | h
      · exact .inl (by omega)
      · by_cases h2 : s.length < 2
        · exact .inl h2
        · rw [if_neg h2] at h; exact .inr h
    have hv : fDecode s = ⟨⟨0, []⟩, 0, 5⟩ := by unfold fDecode; rw [if_pos hd]
    rw [hv] at hR
    have hrn : rnOk [] := by simp [id_lt hid, id_own hid, id_own' hid, id_own0 hid, id_own0' hid]
    rw [hR]
    refine rt_end (by simp <;> rfl) [] hrn ⟨?_, ?_, ?_, ?_, ?_, ?_⟩ <;> (try simp [id_lt hid, id_own hid, id_own' hid, id_own0 hid, id_own0' hid])
  · simp
    have hd : ¬ dShort s = true := by
      rw [dShort_iff]
      simp [atB, atN, hlen2] at h
      obtain ⟨h1, h2⟩ := h
      rw [if_neg (by omega)] at h2
      omega
    obtain ⟨hB, h2, hm, hBl⟩ := dBody_in hd
    have e1 : atN s 0 2 = fNum (s.take 2) := by unfold atN; rw [if_neg (by omega)]; simp
    have hbd := fNum_bd (s.take 2)
    have e2 : IntKind.i64.wrap (2 + fNum (s.take 2)) = 2 + fNum (s.take 2) := wrap64 (by omega)
    have e3 : (2 + fNum (s.take 2) - 2).toNat = (fNum (s.take 2)).toNat := by omega
    have h65 := fNum2 s
    rw [fTake_in (s := s) (k := 2) h2] at h65
    have hB64 : (dBody s).length ≤ 65535 := by omega
    rw [e1, e2]
    have hcut : List.drop 2 (List.take (2 + fNum (List.take 2 s)).toNat s) = dBody s := by
      rw [hB, List.drop_take]; congr 1; omega
    rw [hcut]
    refine ⟨⟨⟨by omega, by omega⟩, by omega⟩, ?_⟩
    (refine w_call hP rfl (na2_ok (dBody s) _ (by omega)) (by simp) (by simp <;> rfl) ?_; refine w_go 4000 ?_; simp)
    (refine w_call hP rfl (na21_ok (dBody s) _ (by omega)) (by simp) (by simp <;> rfl) ?_; refine w_go 4000 ?_; simp)
    have hnn : 0 ≤ atN (dBody s) 2 1 ∧ atN (dBody s) 2 1 ≤ 255 := by
      unfold atN
      split
      · omega
      · have hb := fNum_bd (((dBody s).drop 2).take 1)
        rw [show (((dBody s).drop 2).take 1).length = 1 by simp; omega] at hb
        omega
    have hnum : ¬ (dEvs (dBody s)).sh = true → atN (dBody s) 0 2 = dNum (dBody s) := fun h => by
      have h3 : ¬ (dBody s).length < 3 := fun h3 => h (dEvs_short h3)
      rw [(dEvs_in (by omega)).2]; unfold atN; rw [if_neg (by omega)]; simp
    have hbeg : (atB (dBody s) 2 1 = true → 3 ≤ (dBody s).length ∧ dEvs (dBody s) = rEvs (atN (dBody s) 2 1).toNat ((dBody s).drop 3) false) ∧ (atB (dBody s) 2 1 = false → (dEvs (dBody s)).sh = true) := by
      refine ⟨fun h => ?_, fun h => ?_⟩
      · simp [atB] at h
        refine ⟨h, ?_⟩
        rw [(dEvs_in h).1]; unfold atN; rw [if_neg (by omega)]
      · simp [atB] at h
        exact dEvs_short (by omega)
    have hv1 : (dEvs (dBody s)).sh = true → fDecode s = ⟨⟨0, []⟩, 0, 1⟩ := fun h => by unfold fDecode; rw [if_neg hd, if_pos (.inl h)]
    have hv2 : (dEvs (dBody s)).s ≠ [] → fDecode s = ⟨⟨0, []⟩, 0, 1⟩ := fun h => by unfold fDecode; rw [if_neg hd, if_pos (.inr h)]
    have hv3 : (dEvs (dBody s)).sh = false → (dEvs (dBody s)).s = [] → fDecode s = if fCheckB ⟨dNum (dBody s), (dEvs (dBody s)).l⟩ ≠ 0 then ⟨⟨0, []⟩, 0, fCheckB ⟨dNum (dBody s), (dEvs (dBody s)).l⟩⟩ else ⟨⟨dNum (dBody s), (dEvs (dBody s)).l⟩, fNum (fTake s 2) + 2, 0⟩ := fun h h' => by
      unfold fDecode; rw [if_neg hd, if_neg (by rw [h, h']; simp)]
    rw [fTake_in (s := s) (k := 2) h2] at hv3
    clear hB hBl hcut e1 h
    generalize dBody s = B at *
    generalize dEvs B = D at *
    generalize atN B 2 1 = n at *
    generalize fNum (List.take 2 s) = many at *
    refine w_loop (X := BoX) (fun x => ⟨[(0, true, .str B), (2, true, .ptr E.n0 0 0), (5, true, .int .i64 many), (6, true, .bool x.ok), (7, true, .ptr (E.n0 + 1) 0 0), (8, true, .int .i64 n), (9, true, .int .i64 x.a), (10, true, .int .i64 x.i)],
        [(E.n0, some ⟨[.agg [.int .i64 0, .nils]], .agg [.int .i64 0, .nils], false, false⟩), (E.n0 + 1, some ⟨[.agg [.int .i64 (atN B 0 2), .bsl (E.n0 + 2) 0 x.l.length]], .agg [.int .i64 0, .nils], false, false⟩), (E.n0 + 2, some (bxE x.l false))], 3⟩)
      (fun x => (x.ok = false → D.sh = true) ∧ (x.ok = true → x.a ≤ B.length ∧ x.i ≤ n.toNat ∧ x.l.length = x.i ∧ x.l ++ (rEvs (n.toNat - x.i) (B.drop x.a) false).l = D.l ∧ (rEvs (n.toNat - x.i) (B.drop x.a) false).s = D.s ∧ (rEvs (n.toNat - x.i) (B.drop x.a) false).sh = D.sh)) (fun x => if x.ok then n.toNat + 1 - x.i else 0)
      ⟨atB B 2 1, 0, 3, []⟩ ?_ ⟨hbeg.2, fun h => ?_⟩ ?_
    · refine Conv.trans (Conv.voidBox (E.n0 + 96) (by simp; rfl) rfl (.agg [.int .i64 (atN B 0 2), .nils] [.int .i64 (atN B 0 2), .bsl (E.n0 + 164) 0 0] rfl (fun m x y h1 h2 => ?_)) (.agg [.int .i64 0, .int .i64 0, .int .i64 0, .int .i64 0, .int .i64 0, .str []])) ?_
      · match m, h1, h2 with
        | 0, h1, h2 => simp at h1 h2; exact .inl (h1.symm.trans h2)
        | 1, h1, h2 => simp at h1 h2; exact .inr ⟨h1.symm, h2.symm⟩
        | m + 2, h1, h2 => simp at h1
      · have hrn : rnOk [(E.n0, E.n0), (E.n0 + 1, E.n0 + 96), (E.n0 + 2, E.n0 + 164)] := by simp
        refine Conv.sub [(E.n0, E.n0), (E.n0 + 1, E.n0 + 96), (E.n0 + 2, E.n0 + 164)] hrn ?_ ?_ ?_ ?_ ?_ <;> (try simp)
    · obtain ⟨q1, q2⟩ := hbeg.1 h
      subst q2
      exact ⟨q1, by simp, rfl, by simp⟩
    · rintro ⟨ok, i, a, l⟩ ⟨hno, hok⟩ p hp
      simp only at hno hok hp
      refine w_go 4000 ?_
      simp
      have hwa : ∀ k : Nat, k ≤ 1000 → a ≤ B.length → IntKind.i64.wrap ((a : Int) + k) = ((a + k : Nat) : Int) := fun k hk ha => wrap64 (by omega)
      refine goc (fun h => ?_) (fun h => ?_)
      · simp only [Bool.and_eq_true, decide_eq_true_eq] at h
        obtain ⟨h, rfl⟩ := h
        obtain ⟨ha, hi, hll, hf1, hf2, hf3⟩ := hok rfl
        obtain ⟨m, hm1⟩ : ∃ m, n.toNat - i = m + 1 := ⟨n.toNat - i - 1, by omega⟩
        have hm2 : n.toNat - (i + 1) = m := by omega
        rw [hm1] at hf1 hf2 hf3
        have hi1 : IntKind.i64.wrap ((i : Int) + 1) = ((i + 1 : Nat) : Int) := wrap64 (by omega)
        have hw4 := hwa 4 (by omega) ha
        have hdead : (rEvent (B.drop a) false).sh = true → D.sh = true := fun h => by rw [← hf3]; exact ev_dead m h
        simp
        (refine w_call hP rfl (na4_ok B a _ (by omega) (by omega)) (by simp) (by simp <;> rfl) ?_; refine w_go 4000 ?_; simp)
        have hb4 := fNum_bd ((B.drop a).take 4)
        have hb4' : 0 ≤ atN B a 4 ∧ atN B a 4 ≤ 4294967295 := by
          unfold atN
          split
          · omega
          · rw [show ((B.drop a).take 4).length = 4 by simp; omega] at hb4; omega
        have q1 : IntKind.i64.wrap ((atN B a 4).tdiv 16777216) = atN B a 4 / 16777216 := by rw [Int.tdiv_eq_ediv_of_nonneg hb4'.1, wrap64 (by omega)]
        have q2 : IntKind.i64.wrap ((atN B a 4).tdiv 65536) = atN B a 4 / 65536 := by rw [Int.tdiv_eq_ediv_of_nonneg hb4'.1, wrap64 (by omega)]
        have q3 : (atN B a 4 / 65536).tmod 256 = atN B a 4 / 65536 % 256 := Int.tmod_eq_emod_of_nonneg (by omega)
        have q4 : (atN B a 4).tmod 65536 = atN B a 4 % 65536 := Int.tmod_eq_emod_of_nonneg hb4'.1
        simp only [q1, q2, q3, q4]
        simp at hw4
        simp [hw4]
        by_cases g4 : B.length < a + 4
        · have v1 : atB B a 4 = false := by unfold atB; simp; omega
          simp [v1]
          (refine w_callg hP (by simp) rfl (fun hc => ⟨between_ok _ _ _ _, by revert hc; simp; try grind, by simp⟩) ?_; refine w_go 4000 ?_; simp)
          refine ⟨⟨by omega, by omega⟩, hp _ ⟨false, i + 1, a + 4, l ++ [⟨atN B a 4 / 16777216, atN B a 4 / 65536 % 256, atN B a 4 % 65536, 0, 0, []⟩]⟩ ⟨fun _ => hdead (ev_short (by simp; omega)), fun h => by cases h⟩ (by simp; omega) ?_⟩
          have hrn : rnOk [(E.n0, E.n0), (E.n0 + 1, E.n0 + 1), (E.n0 + 2, E.n0 + 195)] := by simp[hi1]
          refine Conv.sub [(E.n0, E.n0), (E.n0 + 1, E.n0 + 1), (E.n0 + 2, E.n0 + 195)] hrn ?_ ?_ ?_ ?_ ?_ <;> (try simp[hi1])
          all_goals first | omega | exact renL_pure (by simp [eEv]) (by simp [pureL_append])
        · have v1 : atB B a 4 = true := by unfold atB; simp; omega
          have v2 : atN B a 4 = fNum ((B.drop a).take 4) := at_drop (by omega)
          have hl4 : 4 ≤ (B.drop a).length := by simp; omega
          simp [v1]
          (refine w_callg hP (by simp) rfl (fun hc => ⟨between_ok _ _ _ _, by revert hc; simp; try grind, by simp⟩) ?_; refine w_go 4000 ?_; simp)
          rw [v2] at q1 q2 q3 q4 hb4' ⊢
          by_cases gk : 1 ≤ fNum ((B.drop a).take 4) / 16777216 ∧ fNum ((B.drop a).take 4) / 16777216 ≤ 6
          · have gkb : (decide (1 ≤ fNum ((B.drop a).take 4) / 16777216) && decide (fNum ((B.drop a).take 4) / 16777216 ≤ 6)) = true := by simp [gk]
            simp [gk]
            refine goc (fun g2 => ?_) (fun g2 => ?_)
            · simp
              have g2 := of_decide_eq_true g2
              (refine w_call hP rfl (na1_ok B (a + 4) _ (by omega) (by omega)) (by simp) (by simp <;> rfl) ?_; refine w_go 4000 ?_; simp)
              have hw5 : IntKind.i64.wrap ((a : Int) + 4 + 1) = (a : Int) + 5 := by rw [wrap64 (by omega)]; omega
              by_cases g5 : B.length < a + 5
              · have v5 : atB B (a + 4) 1 = false := by unfold atB; simp; omega
                simp [v5, hw5]
                refine ⟨⟨by omega, by omega⟩, hp _ ⟨false, i + 1, a + 5, l ++ [⟨fNum ((B.drop a).take 4) / 16777216, fNum ((B.drop a).take 4) / 65536 % 256, fNum ((B.drop a).take 4) % 65536, atN B (a + 4) 1, 0, []⟩]⟩ ⟨fun _ => hdead (ev_field hl4 (by simp; omega) ⟨g2, gk.2⟩), fun h => by cases h⟩ (by simp; omega) ?_⟩
                have hrn : rnOk [(E.n0, E.n0), (E.n0 + 1, E.n0 + 1), (E.n0 + 2, E.n0 + 271)] := by simp[hi1]
                refine Conv.sub [(E.n0, E.n0), (E.n0 + 1, E.n0 + 1), (E.n0 + 2, E.n0 + 271)] hrn ?_ ?_ ?_ ?_ ?_ <;> (try simp[hi1])
                all_goals first | omega | exact renL_pure (by simp [eEv]) (by simp [pureL_append])
              · have v5 : atB B (a + 4) 1 = true := by unfold atB; simp; omega
                have v6 : atN B (a + 4) 1 = fNum ((B.drop (a + 4)).take 1) := at_drop (by omega)
                simp [v5, hw5, v6]
                refine goc (fun g4 => ?_) (fun g4 => ?_)
                · simp
                  have g4 : fNum ((B.drop a).take 4) / 16777216 = 4 := by simpa using g4
                  (refine w_call hP rfl (na1_ok B (a + 5) _ (by omega) (by omega)) (by simp) (by simp <;> rfl) ?_; refine w_go 4000 ?_; simp)
                  have hw6 : IntKind.i64.wrap ((a : Int) + 5 + 1) = (a : Int) + 6 := by rw [wrap64 (by omega)]; omega
                  have hw60 : IntKind.i64.wrap ((a : Int) + 6) = (a : Int) + 6 := wrap64 (by omega)
                  by_cases g6 : B.length < a + 6
                  · have v7 : atB B (a + 5) 1 = false := by unfold atB; simp; omega
                    have v8 : atN B (a + 5) 1 = 0 := by unfold atN; rw [if_pos (by omega)]
                    simp [v7, v8, hw6]
                    refine ⟨⟨by omega, by omega⟩, hp _ ⟨false, i + 1, a + 6, l ++ [⟨fNum ((B.drop a).take 4) / 16777216, fNum ((B.drop a).take 4) / 65536 % 256, fNum ((B.drop a).take 4) % 65536, fNum ((B.drop (a + 4)).take 1), 0, []⟩]⟩ ⟨fun _ => hdead ((ev_text (by simp; omega) g4).1 (by simp; omega)), fun h => by cases h⟩ (by simp; omega) ?_⟩
                    have hrn : rnOk [(E.n0, E.n0), (E.n0 + 1, E.n0 + 1), (E.n0 + 2, E.n0 + 375)] := by simp[hi1, hw60]
                    refine Conv.sub [(E.n0, E.n0), (E.n0 + 1, E.n0 + 1), (E.n0 + 2, E.n0 + 375)] hrn ?_ ?_ ?_ ?_ ?_ <;> (try simp[hi1, hw60])
                    all_goals first | omega | exact renL_pure (by simp [eEv]) (by simp [pureL_append])
                  · have v7 : atB B (a + 5) 1 = true := by unfold atB; simp; omega
                    have v8 : atN B (a + 5) 1 = fNum ((B.drop (a + 5)).take 1) := at_drop (by omega)
                    simp [v7, v8, hw6]
                    have hb6 := fNum_bd ((B.drop (a + 5)).take 1)
                    rw [show ((B.drop (a + 5)).take 1).length = 1 by simp; omega] at hb6
                    obtain ⟨N, hN⟩ : ∃ N : Nat, fNum ((B.drop (a + 5)).take 1) = N := ⟨_, (Int.toNat_of_nonneg hb6.1).symm⟩
                    rw [hN] at hb6
                    simp only [hN]
                    have hww : IntKind.i64.wrap ((B.length : Int) - ((a : Int) + 6)) = (B.length : Int) - ((a : Int) + 6) := wrap64 (by omega)
                    have hwt : IntKind.i64.wrap ((a : Int) + 6 + N) = (a : Int) + 6 + N := wrap64 (by omega)
                    have hev := (ev_text (s := B.drop a) (by simp; omega) g4).2 (by simp; omega)
                    simp only [List.drop_drop, hN, Int.toNat_natCast] at hev
                    refine goc (fun g7 => ?_) (fun g7 => ?_)
                    · have g7 := of_decide_eq_true g7
                      rw [hww] at g7
                      have t1 : ((a : Int) + 6).toNat = a + 6 := by omega
                      have t2 : ((a : Int) + 6 + N).toNat = a + 6 + N := by omega
                      simp [hwt, t1, t2, List.drop_take]
                      have hlv := hev.2 (by simp; omega)
                      have hli := ev_live m hlv
                      rw [hli] at hf1 hf2 hf3
                      refine ⟨by omega, ⟨by omega, by omega⟩, hp _ ⟨true, i + 1, a + 6 + N, l ++ [⟨fNum ((B.drop a).take 4) / 16777216, fNum ((B.drop a).take 4) / 65536 % 256, fNum ((B.drop a).take 4) % 65536, fNum ((B.drop (a + 4)).take 1), 0, (B.drop (a + 6)).take N⟩]⟩ ⟨fun h => (by cases h), fun _ => ⟨(by simp only []; omega), (by simp only []; omega), by simp; omega, ?_, ?_, ?_⟩⟩ (by simp; omega) ?_⟩
                      · rw [hm2, ← hf1]; simp [Nat.add_assoc]
                      · rw [hm2, ← hf2]; simp [Nat.add_assoc]
                      · rw [hm2, ← hf3]; simp [Nat.add_assoc]
                      · have hrn : rnOk [(E.n0, E.n0), (E.n0 + 1, E.n0 + 1), (E.n0 + 2, E.n0 + 407)] := by simp[hi1]
                        refine Conv.sub [(E.n0, E.n0), (E.n0 + 1, E.n0 + 1), (E.n0 + 2, E.n0 + 407)] hrn ?_ ?_ ?_ ?_ ?_ <;> (try simp[hi1])
                        all_goals first | omega | exact renL_pure (by simp [eEv]) (by simp [pureL_append])
                    · have g7 := of_decide_eq_false g7
                      rw [hww] at g7
                      simp [hwt]
                      refine ⟨⟨by omega, by omega⟩, hp _ ⟨false, i + 1, a + 6 + N, l ++ [⟨fNum ((B.drop a).take 4) / 16777216, fNum ((B.drop a).take 4) / 65536 % 256, fNum ((B.drop a).take 4) % 65536, fNum ((B.drop (a + 4)).take 1), 0, []⟩]⟩ ⟨fun _ => hdead (hev.1 (by simp; omega)), fun h => by cases h⟩ (by simp; omega) ?_⟩
                      have hrn : rnOk [(E.n0, E.n0), (E.n0 + 1, E.n0 + 1), (E.n0 + 2, E.n0 + 375)] := by simp[hi1]
                      refine Conv.sub [(E.n0, E.n0), (E.n0 + 1, E.n0 + 1), (E.n0 + 2, E.n0 + 375)] hrn ?_ ?_ ?_ ?_ ?_ <;> (try simp[hi1])
                      all_goals first | omega | exact renL_pure (by simp [eEv]) (by simp [pureL_append])
                · simp
                  have g4 : ¬ fNum ((B.drop a).take 4) / 16777216 = 4 := by simpa using g4
                  (refine w_call hP rfl (na4_ok B (a + 5) _ (by omega) (by omega)) (by simp) (by simp <;> rfl) ?_; refine w_go 4000 ?_; simp)
                  have hw9 : IntKind.i64.wrap ((a : Int) + 5 + 4) = (a : Int) + 9 := by rw [wrap64 (by omega)]; omega
                  have hneg : IntKind.i64.wrap (-999999999) = -999999999 := wrap64 (by omega)
                  by_cases g9 : B.length < a + 9
                  · have v7 : atB B (a + 5) 4 = false := by unfold atB; simp; omega
                    have v8 : atN B (a + 5) 4 = 0 := by unfold atN; rw [if_pos (by omega)]
                    simp [v7, v8, hw9]
                    refine ⟨⟨by omega, by omega⟩, hp _ ⟨false, i + 1, a + 9, l ++ [⟨fNum ((B.drop a).take 4) / 16777216, fNum ((B.drop a).take 4) / 65536 % 256, fNum ((B.drop a).take 4) % 65536, fNum ((B.drop (a + 4)).take 1), -999999999, []⟩]⟩ ⟨fun _ => hdead ((ev_num (by simp; omega) ⟨g2, gk.2⟩ g4).1 (by simp; omega)), fun h => by cases h⟩ (by simp; omega) ?_⟩
                    have hrn : rnOk [(E.n0, E.n0), (E.n0 + 1, E.n0 + 1), (E.n0 + 2, E.n0 + 339)] := by simp[hi1, hneg]
                    refine Conv.sub [(E.n0, E.n0), (E.n0 + 1, E.n0 + 1), (E.n0 + 2, E.n0 + 339)] hrn ?_ ?_ ?_ ?_ ?_ <;> (try simp[hi1, hneg])
                    all_goals first | omega | exact renL_pure (by simp [eEv]) (by simp [pureL_append])
                  · have v7 : atB B (a + 5) 4 = true := by unfold atB; simp; omega
                    have v8 : atN B (a + 5) 4 = fNum ((B.drop (a + 5)).take 4) := at_drop (by omega)
                    simp [v7, v8, hw9]
                    have hb9 := fNum_bd ((B.drop (a + 5)).take 4)
                    rw [show ((B.drop (a + 5)).take 4).length = 4 by simp; omega] at hb9
                    have hnw : IntKind.i64.wrap (fNum ((B.drop (a + 5)).take 4) - 999999999) = fNum ((B.drop (a + 5)).take 4) - 999999999 := wrap64 (by omega)
                    have hlv := (ev_num (s := B.drop a) (by simp; omega) ⟨g2, gk.2⟩ g4).2 (by simp; omega)
                    have hli := ev_live m hlv
                    rw [hli] at hf1 hf2 hf3
                    simp only [List.drop_drop] at hf1 hf2 hf3
                    refine ⟨⟨by omega, by omega⟩, hp _ ⟨true, i + 1, a + 9, l ++ [⟨fNum ((B.drop a).take 4) / 16777216, fNum ((B.drop a).take 4) / 65536 % 256, fNum ((B.drop a).take 4) % 65536, fNum ((B.drop (a + 4)).take 1), fNum ((B.drop (a + 5)).take 4) - 999999999, []⟩]⟩ ⟨fun h => (by cases h), fun _ => ⟨(by simp only []; omega), (by simp only []; omega), by simp; omega, ?_, ?_, ?_⟩⟩ (by simp; omega) ?_⟩
                    · rw [hm2, ← hf1]; simp
                    · rw [hm2, ← hf2]
                    · rw [hm2, ← hf3]
                    · have hrn : rnOk [(E.n0, E.n0), (E.n0 + 1, E.n0 + 1), (E.n0 + 2, E.n0 + 339)] := by simp[hi1, hnw]
                      refine Conv.sub [(E.n0, E.n0), (E.n0 + 1, E.n0 + 1), (E.n0 + 2, E.n0 + 339)] hrn ?_ ?_ ?_ ?_ ?_ <;> (try simp[hi1, hnw])
                      all_goals first | omega | exact renL_pure (by simp [eEv]) (by simp [pureL_append])
            · simp
              have hlv := ev_plain (s := B.drop a) hl4 (by have := of_decide_eq_false g2; omega)
              have hli := ev_live m hlv
              rw [hli] at hf1 hf2 hf3
              simp only [List.drop_drop] at hf1 hf2 hf3
              refine ⟨⟨by omega, by omega⟩, hp _ ⟨true, i + 1, a + 4, l ++ [⟨fNum ((B.drop a).take 4) / 16777216, fNum ((B.drop a).take 4) / 65536 % 256, fNum ((B.drop a).take 4) % 65536, 0, 0, []⟩]⟩ ⟨fun h => (by cases h), fun _ => ⟨(by simp only []; omega), (by simp only []; omega), by simp; omega, ?_, ?_, ?_⟩⟩ (by simp; omega) ?_⟩
              · rw [hm2, ← hf1]; simp
              · rw [hm2, ← hf2]
              · rw [hm2, ← hf3]
              · have hrn : rnOk [(E.n0, E.n0), (E.n0 + 1, E.n0 + 1), (E.n0 + 2, E.n0 + 195)] := by simp[hi1]
                refine Conv.sub [(E.n0, E.n0), (E.n0 + 1, E.n0 + 1), (E.n0 + 2, E.n0 + 195)] hrn ?_ ?_ ?_ ?_ ?_ <;> (try simp[hi1])
                all_goals first | omega | exact renL_pure (by simp [eEv]) (by simp [pureL_append])
          · have gkb : (decide (1 ≤ fNum ((B.drop a).take 4) / 16777216) && decide (fNum ((B.drop a).take 4) / 16777216 ≤ 6)) = false := by
              cases hh : (decide (1 ≤ fNum ((B.drop a).take 4) / 16777216) && decide (fNum ((B.drop a).take 4) / 16777216 ≤ 6)) with
              | false => rfl
              | true => exact (gk (by simpa using hh)).elim
            simp [gkb]
            refine ⟨⟨by omega, by omega⟩, hp _ ⟨false, i + 1, a + 4, l ++ [⟨fNum ((B.drop a).take 4) / 16777216, fNum ((B.drop a).take 4) / 65536 % 256, fNum ((B.drop a).take 4) % 65536, 0, 0, []⟩]⟩ ⟨fun _ => hdead (ev_kind hl4 gk), fun h => by cases h⟩ (by simp; omega) ?_⟩
            have hrn : rnOk [(E.n0, E.n0), (E.n0 + 1, E.n0 + 1), (E.n0 + 2, E.n0 + 195)] := by simp[hi1]
            refine Conv.sub [(E.n0, E.n0), (E.n0 + 1, E.n0 + 1), (E.n0 + 2, E.n0 + 195)] hrn ?_ ?_ ?_ ?_ ?_ <;> (try simp[hi1])
            all_goals first | omega | exact renL_pure (by simp [eEv]) (by simp [pureL_append])
      · simp
        cases ok with
        | false =>
          have hd1 := hv1 (hno rfl)
          rw [hd1] at hR
          refine goc_true (by simp) ?_
          simp
          have hrn : rnOk [] := by simp [id_lt hid, id_own hid, id_own' hid, id_own0 hid, id_own0' hid]
          rw [hR]
          refine rt_end (by simp <;> rfl) [] hrn ⟨?_, ?_, ?_, ?_, ?_, ?_⟩ <;> (try simp [id_lt hid, id_own hid, id_own' hid, id_own0 hid, id_own0' hid])
        | true =>
          obtain ⟨ha, hi, hll, hf1, hf2, hf3⟩ := hok rfl
          have h : ¬ (i : Int) < n := by simpa using h
          rw [show n.toNat - i = 0 by omega] at hf1 hf2 hf3
          simp only [rEvs, List.append_nil] at hf1 hf2 hf3
          have hd3 := hv3 hf3.symm
          have hnn2 := hnum (by rw [← hf3]; simp)
          simp
          refine goc (fun h1 => ?_) (fun h1 => ?_)
          · simp
            have h1' : D.s ≠ [] := by
              rw [← hf2]
              intro h0
              have := congrArg List.length h0
              simp at h1 this; omega
            rw [hv2 h1'] at hR
            have hrn : rnOk [] := by simp [id_lt hid, id_own hid, id_own' hid, id_own0 hid, id_own0' hid]
            rw [hR]
            refine rt_end (by simp <;> rfl) [] hrn ⟨?_, ?_, ?_, ?_, ?_, ?_⟩ <;> (try simp [id_lt hid, id_own hid, id_own' hid, id_own0 hid, id_own0' hid])
          · simp
            have h1' : D.s = [] := by
              rw [← hf2]
              apply List.eq_nil_of_length_eq_zero
              simp at h1 ⊢; omega
            have hd4 := hd3 h1'
            rw [← hf1, ← hnn2] at hd4
            (refine w_callR hP rfl (rCheckBatch_ok ⟨atN B 0 2, l⟩ _) (by simp [eBt] <;> rfl) (by simp [eBt]) (by simp [eBt] <;> rfl) (by simp [eBt]) ?_; refine w_go 4000 ?_; simp [eBt])
            refine goc (fun h2 => ?_) (fun h2 => ?_)
            · simp
              have h2' : fCheckB ⟨atN B 0 2, l⟩ ≠ 0 := by simpa using h2
              rw [hd4, if_pos h2'] at hR
              have hrn : rnOk [] := by simp [id_lt hid, id_own hid, id_own' hid, id_own0 hid, id_own0' hid]
              rw [hR]
              refine rt_end (by simp <;> rfl) [] hrn ⟨?_, ?_, ?_, ?_, ?_, ?_⟩ <;> (try simp [id_lt hid, id_own hid, id_own' hid, id_own0 hid, id_own0' hid])
            · simp
              have h2' : ¬ fCheckB ⟨atN B 0 2, l⟩ ≠ 0 := by simpa using h2
              rw [hd4, if_neg h2'] at hR
              have hw2 : IntKind.i64.wrap (many + 2) = many + 2 := wrap64 (by omega)
              have h2'' : fCheckB ⟨atN B 0 2, l⟩ = 0 := by simpa using h2'
              have hrn : rnOk [] := by simp [hw2, h2'', id_lt hid, id_own hid, id_own' hid, id_own0 hid, id_own0' hid]
              rw [hR]
              refine rt_endR (by simp <;> rfl) (by simp [hw2, h2'', id_lt hid, id_own hid, id_own' hid, id_own0 hid, id_own0' hid] <;> exact ⟨rfl, rfl⟩) [] hrn ⟨?_, ?_, ?_, ?_, ?_, ?_⟩ <;> (try simp [hw2, h2'', id_lt hid, id_own hid, id_own' hid, id_own0 hid, id_own0' hid])
end Go.Am

namespace Go.Am
set_option linter.all false
set_option linter.all false
open Go Go.RowKit


theorem fNum_cons (c : UInt8) (l : List UInt8) : fNum (c :: l) = c.toNat * 256 ^ l.length + fNum l := by
  have key : ∀ (l : List UInt8) (n : Int), l.foldl (fun n c => 256 * n + (c.toNat : Int)) n = n * 256 ^ l.length + fNum l := fun l => by
    induction l with
    | nil => intro n; simp [fNum]
    | cons d l ih =>
      intro n
      simp only [List.foldl_cons, fNum, List.length_cons]
      rw [ih, ih (256 * 0 + (d.toNat : Int)), Int.pow_succ]
      simp only [Int.add_mul, Int.mul_comm 256 n, Int.mul_assoc, Int.mul_comm 256 (256 ^ l.length)]
      omega
  simp only [fNum, List.foldl_cons]
  rw [key]
  simp [fNum]
theorem lowByte_nat (n : Int) : ((lowByte n).toNat : Int) = n % 256 := by
  unfold lowByte
  simp [UInt8.toNat_ofNat']; omega
theorem pow8 (k : Nat) : (2 : Int) ^ (8 * k) = 256 ^ k := by
  rw [Int.pow_mul]; rfl
theorem emod_split (n B : Int) (hB : 0 < B) : n % (B * 256) = n / B % 256 * B + n % B := by
  have h1 := Int.emod_add_mul_ediv n B
  have h2 := Int.emod_add_mul_ediv (n / B) 256
  have h3 := Int.emod_nonneg n (show B ≠ 0 by omega)
  have h4 := Int.emod_lt_of_pos n hB
  have h5 : 0 ≤ n / B % 256 := by omega
  have h6 : n / B % 256 ≤ 255 := by omega
  have h7 : 0 ≤ n / B % 256 * B := Int.mul_nonneg h5 (by omega)
  have h8 : n / B % 256 * B ≤ 255 * B := Int.mul_le_mul_of_nonneg_right h6 (by omega)
  have e : n = (n / B % 256 * B + n % B) + (B * 256) * (n / B / 256) := by
    have h9 : B * (n / B) = B * (n / B % 256) + B * 256 * (n / B / 256) := by
      rw [Int.mul_assoc, ← Int.mul_add, h2]
    rw [Int.mul_comm (n / B % 256) B]
    omega
  have : n % (B * 256) = ((n / B % 256 * B + n % B) + (B * 256) * (n / B / 256)) % (B * 256) := by rw [← e]
  rw [this, Int.add_mul_emod_self_left, Int.emod_eq_of_lt (by omega) (by omega)]
theorem fNum_nbs (n : Int) : ∀ k, fNum (nbs n k) = n % 256 ^ k
  | 0 => by simp [nbs, fNum]
  | k + 1 => by
    rw [nbs, fNum_cons, fNum_nbs n k, nbs_length, lowByte_nat, pow8, Int.pow_succ, emod_split _ _ (Int.pow_pos (by omega))]
theorem fNum_nbs_in {n : Int} {k : Nat} (h0 : 0 ≤ n) (h : n < 256 ^ k) : fNum (nbs n k) = n := by
  rw [fNum_nbs, Int.emod_eq_of_lt h0 h]
theorem nbs_add (n m : Int) : ∀ k j, k ≤ j → nbs (n * 256 ^ j + m) k = nbs m k
  | 0, _, _ => rfl
  | k + 1, j, h => by
    simp only [nbs]
    rw [nbs_add n m k j (by omega)]
    congr 1
    obtain ⟨d, rfl⟩ : ∃ d, j = k + 1 + d := ⟨j - (k + 1), by omega⟩
    have e : n * 256 ^ (k + 1 + d) + m = m + (n * 256 ^ d * 256) * 256 ^ k := by
      rw [Int.pow_add, Int.pow_succ]
      simp only [Int.mul_comm, Int.mul_assoc, Int.mul_left_comm]
      omega
    rw [pow8, e, Int.add_mul_ediv_right _ _ (by have := Int.pow_pos (n := 256) (m := k) (by omega); omega)]
    unfold lowByte
    rw [Int.add_mul_emod_self_right]
theorem nbs_fNum : ∀ l : List UInt8, nbs (fNum l) l.length = l
  | [] => rfl
  | c :: l => by
    have hb := fNum_bd l
    simp only [List.length_cons, nbs]
    rw [fNum_cons, nbs_add _ _ _ _ (Nat.le_refl _), nbs_fNum l, pow8]
    congr 1
    rw [Int.add_comm, Int.add_mul_ediv_right _ _ (by omega), Int.ediv_eq_zero_of_lt hb.1 hb.2, Int.zero_add]
    unfold lowByte
    have := c.toNat_lt
    rw [show ((c.toNat : Int) % 256).toNat = c.toNat by omega]
    simp

theorem fTake_app {a b : List UInt8} {k : Nat} (h : a.length = k) : fTake (a ++ b) k = a := by subst h; unfold fTake; rw [if_neg (by simp)]; simp
theorem fRest_app {a b : List UInt8} {k : Nat} (h : a.length = k) : fRest (a ++ b) k = b := by subst h; unfold fRest; rw [if_neg (by simp)]; simp
theorem sh1_app {a b : List UInt8} {sh : Bool} {k : Nat} (h : a.length = k) : sh1 (a ++ b) sh k = sh := by subst h; unfold sh1; simp; omega
theorem rd_app {n : Int} {k : Nat} (b : List UInt8) (h0 : 0 ≤ n) (h : n < 256 ^ k) : fNum (fTake (nbs n k ++ b) k) = n := by rw [fTake_app (nbs_length n k), fNum_nbs_in h0 h]
theorem rs_app (n : Int) (k : Nat) (b : List UInt8) : fRest (nbs n k ++ b) k = b := fRest_app (nbs_length n k)
theorem sh_app (n : Int) (k : Nat) (b : List UInt8) (sh : Bool) : sh1 (nbs n k ++ b) sh k = sh := sh1_app (nbs_length n k)

theorem fForm_in0 (e : Ev) (h : fForm e = 0) : (1 ≤ e.kind ∧ e.kind ≤ 6) ∧ (e.kind = 4 → e.n = 0) ∧ (e.kind ≠ 4 → e.text = []) ∧ (e.kind = 1 ∨ e.kind = 2 → e.field = 0 ∧ e.n = 0) := by
  unfold fForm at h
  split at h
  · omega
  · split at h
    · omega
    · rename_i h1 h2
      refine ⟨by omega, fun h3 => ?_, fun h3 => ?_, fun h3 => ?_⟩
      · apply Classical.byContradiction; intro h4; exact h2 (.inr (.inl ⟨h3, h4⟩))
      · apply Classical.byContradiction; intro h4; exact h2 (.inr (.inr ⟨h3, h4⟩))
      · constructor
        · apply Classical.byContradiction; intro h4; exact h2 (.inl ⟨h3, .inl h4⟩)
        · apply Classical.byContradiction; intro h4; exact h2 (.inl ⟨h3, .inr h4⟩)

theorem rEvent_of (e : Ev) (h : fEvent e = 0) (r : List UInt8) : rEvent (evBytes e ++ r) false = ⟨e, r, false⟩ := by
  obtain ⟨h1, h2, h3, h4, h5, h6⟩ := fEvent_in e h
  obtain ⟨g1, g2, g3, g4⟩ := fForm_in0 e h6
  obtain ⟨k, t, i, f, n, x⟩ := e
  simp only at *
  unfold rEvent evBytes
  simp only [List.append_assoc]
  rw [rd_app _ (by omega) (by omega), rs_app, sh_app, rd_app _ (by omega) (by omega), rs_app, sh_app, rd_app _ (by omega) (by omega), rs_app, sh_app]
  rw [if_neg (by omega)]
  by_cases hk : k = 1 ∨ k = 2
  · obtain ⟨rfl, rfl⟩ := g4 hk
    obtain rfl := g3 (by omega)
    rw [if_pos hk, if_pos hk]
    rfl
  · rw [if_neg hk, if_neg hk]
    simp only [List.append_assoc]
    rw [rd_app _ (by omega) (by omega), rs_app, sh_app]
    by_cases hk4 : k = 4
    · obtain rfl := g2 hk4
      rw [if_pos hk4, if_pos hk4]
      simp only [List.append_assoc]
      rw [rd_app _ (by omega) (by omega), rs_app, sh_app]
      simp only [Int.toNat_natCast]
      rw [fTake_app rfl, fRest_app rfl, sh1_app rfl]
    · obtain rfl := g3 hk4
      rw [if_neg hk4, if_neg hk4]
      rw [rd_app _ (by omega) (by omega), rs_app, sh_app]
      congr 2
      omega
theorem rEvs_of : ∀ (l : List Ev) (r : List UInt8), (∀ e ∈ l, fEvent e = 0) → rEvs l.length (l.flatMap evBytes ++ r) false = ⟨l, r, false⟩
  | [], r, _ => rfl
  | e :: l, r, h => by
    simp only [List.length_cons, rEvs, List.flatMap_cons, List.append_assoc, Bool.false_eq_true, if_false]
    rw [rEvent_of e (h e (by simp)), rEvs_of l r fun x hx => h x (by simp [hx])]

theorem btBytes_len (b : Bt) (h : fCheckB b = 0) : (btBytes b).length ≤ 379 := by
  obtain ⟨h1, h2, h3, h4⟩ := fCheckB_zero h
  have : ∀ l : List Ev, (∀ e ∈ l, fEvent e = 0) → (l.flatMap evBytes).length ≤ 47 * l.length := fun l => by
    induction l with
    | nil => intro _; simp
    | cons e l ih =>
      intro hl
      have a := evBytes_len e (hl e (by simp))
      have b := ih fun x hx => hl x (by simp [hx])
      simp only [List.flatMap_cons, List.length_append, List.length_cons]
      omega
  have := this b.events h4
  unfold btBytes
  simp only [List.length_append, nbs_length]
  omega
theorem decode_of (b : Bt) (h : fCheckB b = 0) (s : List UInt8) : fDecode (fBytes b ++ s) = ⟨b, (fBytes b).length, 0⟩ := by
  have hl := btBytes_len b h
  obtain ⟨h1, h2, h3, h4⟩ := fCheckB_zero h
  have e1 : fNum (fTake (fBytes b ++ s) 2) = (btBytes b).length := by unfold fBytes; rw [List.append_assoc, rd_app _ (by omega) (by omega)]
  have e2 : fRest (fBytes b ++ s) 2 = btBytes b ++ s := by unfold fBytes; rw [List.append_assoc, rs_app]
  have e3 : sh1 (fBytes b ++ s) false 2 = false := by unfold fBytes; rw [List.append_assoc, sh_app]
  have e4 : dBody (fBytes b ++ s) = btBytes b := by unfold dBody; rw [e1, e2, Int.toNat_natCast, fTake_app rfl]
  have e5 : dShort (fBytes b ++ s) = false := by unfold dShort; rw [e1, e2, e3, Int.toNat_natCast, sh1_app rfl]
  have e6 : dNum (btBytes b) = b.number := by unfold dNum btBytes; rw [List.append_assoc, rd_app _ (by omega) (by omega)]
  have e7 : dEvs (btBytes b) = ⟨b.events, [], false⟩ := by
    unfold dEvs btBytes
    rw [List.append_assoc, rs_app, sh_app, rd_app _ (by omega) (by omega), rs_app, sh_app, Int.toNat_natCast]
    have := rEvs_of b.events [] h4
    rw [List.append_nil] at this
    exact this
  unfold fDecode
  rw [if_neg (by rw [e5]; simp), e4, e7, e6, if_neg (by simp), if_neg (by simp [h]), e1]
  simp only [fBytes, List.length_append, nbs_length]
  congr 1
  omega

/-! ### What is decoded is encoded as it was -/
theorem take_ok0 {s : List UInt8} {sh : Bool} {k : Nat} (h : sh1 s sh k = false) : sh = false ∧ fTake s k ++ fRest s k = s ∧ (fTake s k).length = k := by
  simp only [sh1, Bool.or_eq_false_iff, decide_eq_false_iff_not] at h
  obtain ⟨h1, h2⟩ := h
  refine ⟨h1, ?_, ?_⟩
  · simp [fTake, fRest, h2]
  · simp [fTake, h2]; omega
theorem nb_ok0 {s : List UInt8} {sh : Bool} {k : Nat} (h : sh1 s sh k = false) : nbs (fNum (fTake s k)) k ++ fRest s k = s := by
  obtain ⟨_, h2, h3⟩ := take_ok0 h
  have := nbs_fNum (fTake s k)
  rw [h3] at this
  rw [this, h2]
theorem rEvent_back (s : List UInt8) (sh : Bool) (h : (rEvent s sh).sh = false) : sh = false ∧ evBytes (rEvent s sh).e ++ (rEvent s sh).s = s := by
  unfold rEvent at h ⊢
  simp only at h ⊢
  split at h
  · cases h
  · rename_i hk
    rw [if_neg hk]
    split at h
    · rename_i hk2
      rw [if_pos hk2]
      simp only at h ⊢
      have a3 := nb_ok0 h
      have h2 := (take_ok0 h).1
      have a2 := nb_ok0 h2
      have h1 := (take_ok0 h2).1
      have a1 := nb_ok0 h1
      refine ⟨(take_ok0 h1).1, ?_⟩
      simp only [evBytes, if_pos hk2, List.append_nil, List.append_assoc, a3, a2, a1]
    · rename_i hk2
      rw [if_neg hk2]
      split at h
      · rename_i hk4
        rw [if_pos hk4]
        simp only at h ⊢
        obtain ⟨h5, b1, b2⟩ := take_ok0 h
        have a5 := nb_ok0 h5
        have h4 := (take_ok0 h5).1
        have a4 := nb_ok0 h4
        have h3 := (take_ok0 h4).1
        have a3 := nb_ok0 h3
        have h2 := (take_ok0 h3).1
        have a2 := nb_ok0 h2
        have h1 := (take_ok0 h2).1
        have a1 := nb_ok0 h1
        refine ⟨(take_ok0 h1).1, ?_⟩
        have hn := fNum_bd (fTake (fRest (fRest (fRest (fRest s 1) 1) 2) 1) 1)
        simp only [evBytes, if_neg hk2, if_pos hk4, List.append_assoc, b2]
        rw [Int.toNat_of_nonneg hn.1, b1, a5, a4, a3, a2, a1]
      · rename_i hk4
        rw [if_neg hk4]
        simp only at h ⊢
        have a5 := nb_ok0 h
        have h4 := (take_ok0 h).1
        have a4 := nb_ok0 h4
        have h3 := (take_ok0 h4).1
        have a3 := nb_ok0 h3
        have h2 := (take_ok0 h3).1
        have a2 := nb_ok0 h2
        have h1 := (take_ok0 h2).1
        have a1 := nb_ok0 h1
        refine ⟨(take_ok0 h1).1, ?_⟩
        simp only [evBytes, if_neg hk2, if_neg hk4, List.append_assoc, Int.sub_add_cancel, a5, a4, a3, a2, a1]
theorem rEvs_back : ∀ (k : Nat) (s : List UInt8) (sh : Bool), (rEvs k s sh).sh = false → sh = false ∧ (rEvs k s sh).l.flatMap evBytes ++ (rEvs k s sh).s = s ∧ (rEvs k s sh).l.length = k
  | 0, s, sh, h => ⟨h, rfl, rfl⟩
  | k + 1, s, sh, h => by
    cases sh with
    | true => simp [rEvs] at h
    | false =>
      simp only [rEvs, Bool.false_eq_true, if_false] at h ⊢
      obtain ⟨h1, h2, h3⟩ := rEvs_back k _ _ h
      obtain ⟨_, g2⟩ := rEvent_back s false h1
      refine ⟨trivial, ?_, by simp [h3]⟩
      simp only [List.flatMap_cons, List.append_assoc, h2, g2]
theorem dEvs_back (b : List UInt8) (h : (dEvs b).sh = false) (hs : (dEvs b).s = []) : btBytes ⟨dNum b, (dEvs b).l⟩ = b := by
  unfold dEvs at h hs ⊢
  obtain ⟨h1, h2, h3⟩ := rEvs_back _ _ _ h
  have a2 := nb_ok0 h1
  have h0 := (take_ok0 h1).1
  have a1 := nb_ok0 h0
  have hn := fNum_bd (fTake (fRest b 2) 1)
  unfold btBytes dNum
  simp only [h3]
  rw [Int.toNat_of_nonneg hn.1]
  rw [hs, List.append_nil] at h2
  rw [h2, List.append_assoc, a2, a1]
theorem decode_back (s : List UInt8) (h : (fDecode s).e = 0) : fCheckB (fDecode s).b = 0 ∧ (fDecode s).n = (fBytes (fDecode s).b).length ∧ fBytes (fDecode s).b ++ s.drop (fBytes (fDecode s).b).length = s := by
  unfold fDecode at h ⊢
  split at h
  · simp at h
  · rename_i c1
    rw [if_neg c1]
    split at h
    · simp at h
    · rename_i c2
      rw [if_neg c2]
      split at h
      · rename_i c3; exact (c3 h).elim
      · rename_i c3
        rw [if_neg c3]
        simp only at h ⊢
        have c3' : fCheckB ⟨dNum (dBody s), (dEvs (dBody s)).l⟩ = 0 := Classical.byContradiction c3
        have d1 : (dEvs (dBody s)).sh = false := by simpa using fun h => c2 (.inl h)
        have d2 : (dEvs (dBody s)).s = [] := Classical.byContradiction fun h => c2 (.inr h)
        have d3 : dShort s = false := by simpa using c1
        have hB := dEvs_back _ d1 d2
        unfold dShort at d3
        obtain ⟨e1, e2, e3⟩ := take_ok0 d3
        have a1 := nb_ok0 e1
        have hn := fNum_bd (fTake s 2)
        have hlen : ((dBody s).length : Int) = fNum (fTake s 2) := by unfold dBody; rw [e3]; omega
        have hby : fBytes ⟨dNum (dBody s), (dEvs (dBody s)).l⟩ = nbs (fNum (fTake s 2)) 2 ++ dBody s := by unfold fBytes; rw [hB, hlen]
        have hall : nbs (fNum (fTake s 2)) 2 ++ dBody s ++ fRest (fRest s 2) (fNum (fTake s 2)).toNat = s := by
          rw [List.append_assoc, dBody, e2, a1]
        refine ⟨c3', ?_, ?_⟩
        · rw [hby]; simp; omega
        · rw [hby]
          have key : ∀ X Y Z : List UInt8, X ++ Y = Z → X ++ Z.drop X.length = Z := fun X Y Z h => by subst h; rw [List.drop_left]
          exact key _ _ _ hall
end Go.Am

namespace Go.Am
set_option linter.all false
set_option linter.all false
open Go Go.RowKit Go.Proofs
set_option maxRecDepth 100000


def lotB : Bt := ⟨258, [⟨1, 1, 3, 0, 0, []⟩, ⟨4, 0, 3, 1, 0, [120, 121]⟩]⟩
theorem lot_ok (id : Nat) : FnOk Try.prog 73 [] [] id (eBt lotB) [] := by
  unfold eBt lotB
  refine fn_okc Try.func73 hcc73 (by decide) hcr73 (by simp [Try.ntmps73]) fun E hP hR hl hid => ?_
  simp only [cr73] at hR
  refine w_go 4000 ?_
  simp [cc73]
  have hrn : rnOk [] := by simp [eEv, id_lt hid, id_own hid, id_own' hid, id_own0 hid, id_own0' hid]
  rw [hR]
  refine rt_endR (by simp <;> rfl) (by simp [eEv, id_lt hid, id_own hid, id_own' hid, id_own0 hid, id_own0' hid] <;> exact ⟨rfl, rfl⟩) [] hrn ⟨?_, ?_, ?_, ?_, ?_, ?_⟩ <;> (try simp [eEv, id_lt hid, id_own hid, id_own' hid, id_own0 hid, id_own0' hid])
  exact namesL_pure _ rfl
theorem fCheck_lot : fCheckB lotB = 0 := by decide
theorem fBytes_lot : fBytes lotB = [0, 15, 1, 2, 2, 1, 1, 0, 3, 4, 0, 0, 3, 1, 2, 120, 121] := by decide
theorem fDecode_short : (fDecode [0, 15, 1]).e = 5 := by decide
set_option maxHeartbeats 1000000 in
theorem batchBegun_ok (id : Nat) : FnOk Try.prog 22 [] [] id (.bool true) [] := by
  have he := Encode_ok lotB
  have hd := Decode_ok ([0, 15, 1, 2, 2, 1, 1, 0, 3, 4, 0, 0, 3, 1, 2, 120, 121] ++ [122])
  have hd2 := Decode_ok [0, 15, 1]
  have hv := decode_of lotB fCheck_lot [122]
  have hck := bCheck_ok lotB
  rw [fBytes_lot] at hv
  rw [hv] at hd
  rw [if_pos fCheck_lot, fBytes_lot, fCheck_lot] at he
  rw [fCheck_lot] at hck
  have hlot := fun id => lot_ok id
  have hsame := SameBatches_ok [lotB] [lotB]
  have hss : sameL sameBt [lotB] [lotB] = true := by rw [sameL_iff sameBt_iff]
  rw [hss] at hsame
  simp only [eBt, List.map_cons, List.map_nil] at he hd hd2 hck hlot hsame
  refine fn_okc Try.func22 hcc22 (by decide) hcr22 (by simp [Try.ntmps22]) fun E hP hR hl hid => ?_
  simp only [cr22] at hR
  refine w_go 4000 ?_
  simp [cc22]
  (refine w_call hP rfl (hlot _) (by simp) (by simp <;> rfl) ?_; refine w_go 4000 ?_; simp)
  (refine w_call hP rfl (he _) (by simp) (by simp <;> rfl) ?_; refine w_go 4000 ?_; simp)
  (refine w_call hP rfl (hd _ (by simp)) (by simp) (by simp <;> rfl) ?_; refine w_go 4000 ?_; simp)
  (refine w_call hP rfl (hd2 _ (by simp)) (by simp) (by simp <;> rfl) ?_; refine w_go 4000 ?_; simp)
  simp [fDecode_short]
  (refine w_callg hP (by simp) rfl (fun hc => ⟨hlot _, by revert hc; simp; try grind, by simp⟩) ?_; refine w_go 4000 ?_; simp)
  (refine w_callg hP (by simp) rfl (fun hc => ⟨hck _, by revert hc; simp; try grind, by simp⟩) ?_; refine w_go 4000 ?_; simp)
  (refine w_callg hP (by simp) rfl (fun hc => ⟨hlot _, by revert hc; simp; try grind, by simp⟩) ?_; refine w_go 4000 ?_; simp)
  refine w_split (.bool true) (by simp) (fun _ => ?_) (fun hg => by simp at hg)
  (refine w_callR hP rfl (hsame _ (by simp) (by simp [lotB])) (by simp <;> rfl) (by simp) (by simp <;> rfl) (by simp) ?_; refine w_go 4000 ?_; simp)
  rw [hR]; exact rt_end (by simp <;> rfl) [] trivial (end_pure (by simp) (by simp) (by simp))

theorem dec_len (s : List UInt8) : (fDecode s).b.events.length ≤ 8 := by
  unfold fDecode
  split
  · simp
  · split
    · simp
    · split
      · simp
      · rename_i h
        exact (fCheckB_zero (Classical.byContradiction h)).2.2.1
theorem BatchTells_ok (b : Bt) (s : List UInt8) (id : Nat) (hs : s.length ≤ 1000000000000000000) (hb : b.events.length ≤ 1000000000000000000) : FnOk Try.prog 3 [eBt b, .str s] [] id (.bool true) [] := by
  have he := Encode_ok b
  have hd := Decode_ok s
  have hd2 := BatchOf_ok s
  have hck := bCheck_ok b
  have hck2 := rCheckBatch_ok b
  have hbb := fun (id : Nat) (h : fCheckB b = 0) => BatchBytes_ok b id h
  have hsame := SameBatches_ok [(fDecode s).b] [(fDecode s).b]
  have hss : sameL sameBt [(fDecode s).b] [(fDecode s).b] = true := by rw [sameL_iff sameBt_iff]
  rw [hss] at hsame
  have hlen := dec_len s
  simp only [eBt, List.map_cons, List.map_nil] at he hd hd2 hck hck2 hbb hsame ⊢
  refine fn_okc Try.func3 hcc3 (by decide) hcr3 (by simp [Try.ntmps3]) fun E hP hR hl hid => ?_
  simp only [cr3] at hR
  refine w_go 4000 ?_
  simp [cc3]
  (refine w_call hP rfl (he _) (by simp) (by simp <;> rfl) ?_; refine w_go 4000 ?_; simp)
  (refine w_call hP rfl (hd _ (by omega)) (by simp) (by simp <;> rfl) ?_; refine w_go 4000 ?_; simp)
  (refine w_call hP rfl (hck2 _) (by simp) (by simp <;> rfl) ?_; refine w_go 4000 ?_; simp)
  refine goc (fun h => ?_) (fun h => ?_)
  · have h' : fCheckB b = 0 := by simpa using h
    simp
    (refine w_call hP rfl (hbb _ h') (by simp) (by simp <;> rfl) ?_; refine w_go 4000 ?_; simp)
    (refine w_call hP rfl (hd2 _ (by omega)) (by simp) (by simp <;> rfl) ?_; refine w_go 4000 ?_; simp)
    (refine w_call hP rfl (batchBegun_ok _) (by simp) (by simp <;> rfl) ?_; refine w_go 4000 ?_; simp)
    (refine w_callg hP (by simp [h']) rfl (fun hc => ⟨hck _, by revert hc; simp [h']; try grind, by simp [h']⟩) ?_; refine w_go 4000 ?_; simp [h'])
    refine w_split (.bool true) (by simp) (fun _ => ?_) (fun hg => by simp [h'] at hg)
    (refine w_callR hP rfl (hsame _ (by simp) (by simp; omega)) (by simp [h'] <;> rfl) (by simp [h']) (by simp [h'] <;> rfl) (by simp [h']) ?_; refine w_go 4000 ?_; simp [h'])
    rw [hR]; exact rt_end (by simp <;> rfl) [] trivial (end_pure (by simp) (by simp) (by simp))
  · have h' : ¬ fCheckB b = 0 := by simpa using h
    simp
    (refine w_call hP rfl (hd2 _ (by omega)) (by simp) (by simp <;> rfl) ?_; refine w_go 4000 ?_; simp)
    (refine w_call hP rfl (batchBegun_ok _) (by simp) (by simp <;> rfl) ?_; refine w_go 4000 ?_; simp)
    (refine w_callg hP (by simp [h']) rfl (fun hc => ⟨hck _, by revert hc; simp [h']; try grind, by simp [h']⟩) ?_; refine w_go 4000 ?_; simp [h'])
    refine w_split (.bool true) (by simp) (fun _ => ?_) (fun hg => by simp [h'] at hg)
    (refine w_callR hP rfl (hsame _ (by simp) (by simp; omega)) (by simp [h'] <;> rfl) (by simp [h']) (by simp [h'] <;> rfl) (by simp [h']) ?_; refine w_go 4000 ?_; simp [h'])
    rw [hR]; exact rt_end (by simp <;> rfl) [] trivial (end_pure (by simp) (by simp) (by simp))
end Go.Am
