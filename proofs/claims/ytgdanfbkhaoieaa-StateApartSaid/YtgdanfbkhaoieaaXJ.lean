/- Parts of the proof: an abstract machine for Go functions, and what functions of the program give back (So1, St6). No condition. -/
import Derived.Test.YtgdanfbkhaoieaaXI
namespace Go.Am
set_option linter.all false
open Go Go.RowKit Go.Proofs
set_option maxRecDepth 100000
set_option linter.all false

def isTg (kind tid : Int) (t : Tg) : Bool := t.type == kind && t.id == tid
def tgAt (l : List Tg) (kind tid : Int) : Int := findJ (isTg kind tid) l 0
def aheadB (ta ia tb ib : Int) : Bool := decide (ta < tb) || (decide (ta = tb) && decide (ia < ib))
theorem ord_ahead {ta ia tb ib : Int} (h1 : 0 ≤ ta ∧ ta ≤ 1000) (h2 : 0 ≤ tb ∧ tb ≤ 1000) (h3 : 1 ≤ ia ∧ ia ≤ 999) (h4 : 1 ≤ ib ∧ ib ≤ 999) : (0 ≤ ordI ta ia tb ib) ↔ aheadB ta ia tb ib = false := by
  unfold ordI aheadB
  split
  · rw [wrap64 (by omega)]; simp; omega
  · rw [wrap64 (by omega)]; simp; omega


def I64 (n : Int) : Prop := -9223372036854775808 ≤ n ∧ n ≤ 9223372036854775807
theorem ord_zero {ta ia kind tid : Int} (h1 : 0 ≤ ta ∧ ta ≤ 1000) (h2 : -1 ≤ kind ∧ kind ≤ 1000) (h3 : 1 ≤ ia ∧ ia ≤ 999) (h4 : I64 tid) : ordI ta ia kind tid = 0 ↔ ta = kind ∧ ia = tid := by
  unfold ordI
  unfold I64 at h4
  split
  · rw [wrap64 (by omega)]; omega
  · by_cases hr : ia - tid ≤ 9223372036854775807
    · rw [wrap64 (by omega)]; omega
    · have : IntKind.i64.wrap (ia - tid) = ia - tid - 18446744073709551616 := by
        rw [IntKind.wrap_i64]; omega
      rw [this]; omega
theorem bs_spec (f : Nat → Int) (j : Nat) : ∀ (n a b : Nat), b - a < n → a ≤ j → j ≤ b → (∀ k, a ≤ k → k < j → f k < 0) → (∀ k, j ≤ k → k < b → ¬ f k < 0) → bs f a b = j
  | 0, a, b, hn, _, _, _, _ => by omega
  | n + 1, a, b, hn, h1, h2, h3, h4 => by
    rw [bs]
    split
    · rename_i hab
      split
      · rename_i hm
        have hj : (a + b) / 2 < j := by
          by_cases hh : (a + b) / 2 < j
          · exact hh
          · exact (h4 _ (by omega) (by omega) hm).elim
        exact bs_spec f j n _ b (by omega) (by omega) h2 (fun k hk hkj => h3 k (by omega) hkj) h4
      · rename_i hm
        have hj : j ≤ (a + b) / 2 := by
          by_cases hh : j ≤ (a + b) / 2
          · exact hh
          · exact (hm (h3 _ (by omega) (by omega))).elim
        exact bs_spec f j n a _ (by omega) h1 hj h3 (fun k hk hkb => h4 k hk (by omega))
    · omega
/-- Things stand in order, each with a number of a type and of its own. -/
structure Srt (l : List Tg) : Prop where
  ty : ∀ t ∈ l, 0 ≤ t.type ∧ t.type ≤ 1000
  id : ∀ t ∈ l, 1 ≤ t.id ∧ t.id ≤ 999
  asc : ∀ (i j : Nat) (a b : Tg), i < j → l[i]? = some a → l[j]? = some b → aheadB a.type a.id b.type b.id = true
theorem ahead_trans {a b c d e f : Int} (h1 : aheadB a b c d = true) (h2 : aheadB c d e f = true) : aheadB a b e f = true := by
  simp [aheadB] at *; omega
theorem ord_ahead2 {ta ia tb ib : Int} (h1 : 0 ≤ ta ∧ ta ≤ 1000) (h2 : 0 ≤ tb ∧ tb ≤ 1000) (h3 : 1 ≤ ia ∧ ia ≤ 999) (h4 : 1 ≤ ib ∧ ib ≤ 999) : (ordI ta ia tb ib < 0) ↔ aheadB ta ia tb ib = true := by
  have := ord_ahead h1 h2 h3 h4
  cases h : aheadB ta ia tb ib <;> simp [h] at this <;> simp <;> omega
theorem Srt.found {l : List Tg} (h : Srt l) {j : Nat} {t : Tg} (ht : l[j]? = some t) : fFindI l t.type t.id = j := by
  have hlt := (List.getElem?_eq_some_iff.1 ht).1
  have htm := List.mem_of_getElem? ht
  unfold fFindI
  refine bs_spec _ j (l.length + 1) 0 l.length (by omega) (by omega) (by omega) (fun k _ hk => ?_) (fun k hk hkl => ?_)
  · obtain ⟨u, hu⟩ : ∃ u, l[k]? = some u := ⟨_, List.getElem?_eq_getElem (by omega)⟩
    have hum := List.mem_of_getElem? hu
    simp only [fOrdAt, hu]
    rw [ord_ahead2 (h.ty u hum) (h.ty t htm) (h.id u hum) (h.id t htm)]
    exact h.asc k j u t hk hu ht
  · obtain ⟨u, hu⟩ : ∃ u, l[k]? = some u := ⟨_, List.getElem?_eq_getElem (by omega)⟩
    have hum := List.mem_of_getElem? hu
    simp only [fOrdAt, hu]
    rw [ord_ahead2 (h.ty u hum) (h.ty t htm) (h.id u hum) (h.id t htm)]
    rcases Nat.lt_or_ge j k with hjk | hjk
    · have := h.asc j k t u hjk ht hu
      simp [aheadB] at this ⊢; omega
    · obtain rfl : k = j := by omega
      rw [ht] at hu; injection hu with hu; subst hu
      simp [aheadB]
theorem Srt.findB {l : List Tg} (h : Srt l) {kind tid : Int} (h2 : -1 ≤ kind ∧ kind ≤ 1000) (h4 : I64 tid) : fFindB l kind tid = l.any (isTg kind tid) := by
  rw [Bool.eq_iff_iff, List.any_eq_true]
  constructor
  · intro hb
    simp only [fFindB, Bool.and_eq_true, decide_eq_true_eq] at hb
    obtain ⟨hlt, hz⟩ := hb
    obtain ⟨u, hu⟩ : ∃ u, l[fFindI l kind tid]? = some u := ⟨_, List.getElem?_eq_getElem hlt⟩
    have hum := List.mem_of_getElem? hu
    simp only [fOrdAt, hu] at hz
    rw [ord_zero (h.ty u hum) h2 (h.id u hum) h4] at hz
    exact ⟨u, hum, by simp [isTg, hz.1, hz.2]⟩
  · rintro ⟨t, ht, he⟩
    simp [isTg] at he
    obtain ⟨rfl, rfl⟩ := he
    obtain ⟨j, hj⟩ := List.mem_iff_getElem?.1 ht
    have hf := h.found hj
    have hlt := (List.getElem?_eq_some_iff.1 hj).1
    simp only [fFindB, hf, Bool.and_eq_true, decide_eq_true_eq]
    refine ⟨hlt, ?_⟩
    simp only [fOrdAt, hj]
    rw [ord_zero (h.ty t ht) h2 (h.id t ht) h4]
    exact ⟨rfl, rfl⟩
/-- What the check's first loop shows. -/
theorem srt_of {s : Sta} (hS : SchOk s.types) (hz : firstIx (fun i t => fTh1 s i t) s.things 0 = 0) : (∀ t ∈ s.things, TgOk s t) ∧ Srt s.things := by
  have h1 : ∀ (k : Nat) t, s.things[k]? = some t → fTh1 s k t = 0 := fun k t hk => by
    have := firstIx_zero _ _ _ hz k t hk
    rwa [Nat.zero_add] at this
  have hall : ∀ t ∈ s.things, TgOk s t := fun t ht => by
    obtain ⟨k, hk⟩ := List.mem_iff_getElem?.1 ht
    have h0 := h1 k t hk
    refine tgOk ?_
    unfold fTh1 at h0
    split at h0
    · rename_i g; exact (g h0).elim
    · rename_i g; exact Classical.byContradiction g
  have hty : ∀ t ∈ s.things, 0 ≤ t.type ∧ t.type ≤ 1000 := fun t ht => ⟨(hall t ht).ty0, by have := (hall t ht).ty1; have := hS.len; omega⟩
  have hid : ∀ t ∈ s.things, 1 ≤ t.id ∧ t.id ≤ 999 := fun t ht => ⟨(hall t ht).id1, (hall t ht).id2⟩
  have hstep : ∀ (i : Nat) (a b : Tg), s.things[i]? = some a → s.things[i + 1]? = some b → aheadB a.type a.id b.type b.id = true := fun i a b ha hb => by
    have h0 := h1 (i + 1) b hb
    unfold fTh1 at h0
    split at h0
    · rename_i g; exact (g h0).elim
    split at h0
    · omega
    · rename_i g
      simp [fOrdAt, ha] at g
      have ham := List.mem_of_getElem? ha
      have hbm := List.mem_of_getElem? hb
      exact (ord_ahead2 (hty a ham) (hty b hbm) (hid a ham) (hid b hbm)).1 g
  refine ⟨hall, hty, hid, fun i j a b hij ha hb => ?_⟩
  obtain ⟨d, rfl⟩ : ∃ d, j = i + 1 + d := ⟨j - i - 1, by omega⟩
  clear hij
  induction d generalizing b with
  | zero => exact hstep i a b ha hb
  | succ d ih =>
    obtain ⟨c, hc⟩ : ∃ c, s.things[i + 1 + d]? = some c := ⟨_, List.getElem?_eq_getElem (by have := (List.getElem?_eq_some_iff.1 hb).1; omega)⟩
    exact ahead_trans (ih c hc) (hstep _ c b hc (by rw [show i + 1 + d + 1 = i + 1 + (d + 1) by omega]; exact hb))
theorem findJ_lt {α : Type} (p : α → Bool) : ∀ (l : List α) (i : Nat), -1 ≤ findJ p l i ∧ findJ p l i < (i + l.length : Nat)  ∨ findJ p l i = -1
  | [], i => .inr rfl
  | x :: l, i => by
    simp only [findJ]
    split
    · exact .inl ⟨by omega, by simp; omega⟩
    · rcases findJ_lt p l (i + 1) with h | h
      · exact .inl ⟨h.1, by have := h.2; simp at this ⊢; omega⟩
      · exact .inr h
theorem kindOf_lt {l : List Ty} (hS : SchOk l) (n : List UInt8) : -1 ≤ kindOf l n ∧ kindOf l n ≤ 1000 := by
  have := hS.len
  rcases findJ_lt (fun t : Ty => t.name == n) l 0 with h | h
  · unfold kindOf; omega
  · unfold kindOf; omega
end Go.Am

namespace Go.Am
set_option linter.all false
open Go Go.RowKit Go.Proofs
set_option maxRecDepth 100000
set_option linter.all false

set_option maxHeartbeats 1000000 in
theorem ThingAt_ok (s : Sta) (kind tid : Int) (id : Nat) (hl8 : s.things.length ≤ 1000000) : FnOk Try.prog 54 [eSta s, .int .i64 kind, .int .i64 tid] [] id (.int .i64 (tgAt s.things kind tid)) [] := by
  unfold eSta
  refine fn_okc Try.func54 hcc54 (by decide) hcr54 (by simp [Try.ntmps54]) fun E hP hR hl hid => ?_
  simp only [cr54] at hR
  refine w_go 4000 ?_
  simp [cc54]
  refine w_loop (X := Nat) (fun i => ⟨[(1, true, .int .i64 kind), (2, true, .int .i64 tid), (3, true, .ptr E.n0 0 0), (7, true, .int .i64 i)], [(E.n0, some ⟨[.agg [.sl (s.types.map eTy), .sl (s.things.map eTg)]], .agg [.sl (s.types.map eTy), .sl (s.things.map eTg)], false, false⟩)], 1⟩) (fun i => i ≤ s.things.length ∧ findJ (isTg kind tid) (s.things.drop i) i = tgAt s.things kind tid) (fun i => s.things.length - i) 0 ?_ ⟨by omega, rfl⟩ ?_
  · have hrn : rnOk [(E.n0, E.n0)] := by simp
    refine Conv.sub [(E.n0, E.n0)] hrn ?_ ?_ ?_ ?_ ?_ <;> (try simp)
  · rintro i ⟨hi, hf⟩ p hp
    refine w_go 4000 ?_
    simp
    refine goc (fun h => ?_) (fun h => ?_)
    · have h := of_decide_eq_true h
      obtain ⟨t, hx, hd⟩ := drop_cons h
      rw [hd] at hf
      simp only [findJ] at hf
      have hi1 : IntKind.i64.wrap ((i : Int) + 1) = ((i + 1 : Nat) : Int) := wrap64 (by omega)
      simp [hx, eTg_eq t]
      refine ⟨h, fun h0 => ⟨h0, h⟩, ?_⟩
      refine goc (fun h1 => ?_) (fun h1 => ?_) <;> simp
      · rw [if_pos (show isTg kind tid t = true from h1)] at hf
        rw [hR]; exact rt_end (by simp <;> rfl) [] trivial (end_pure (by simp; exact hf) (by simp) (by simp))
      · rw [if_neg (by unfold isTg; rw [h1]; simp)] at hf
        refine hp _ (i + 1) ⟨h, hf⟩ (by omega) ?_
        have hrn : rnOk [(E.n0, E.n0)] := by simp[hi1]
        refine Conv.sub [(E.n0, E.n0)] hrn ?_ ?_ ?_ ?_ ?_ <;> (try simp[hi1])
    · have h := of_decide_eq_false h
      simp
      rw [List.drop_of_length_le (by omega)] at hf
      rw [hR]; exact rt_end (by simp <;> rfl) [] trivial (end_pure (by simp; exact hf) (by simp) (by simp))

end Go.Am
