/- Parts of the proof: an abstract machine for Go functions, and what functions of the program give back (Dk1, Dk2, Dk3, Dk4, Dk5, Dk6). No condition. -/
import Derived.Test.YtgdanfbkhaoieaaXF
import Derived.Test.YtgdanfbkhaoieaaCcD
import Derived.Test.YtgdanfbkhaoieaaXD
namespace Go.Am
set_option linter.all false
set_option linter.all false
open Go Go.RowKit

theorem decode_adv {s : List UInt8} (h : (fDecode s).e = 0) : 3 ≤ (fDecode s).n.toNat ∧ (fDecode s).n.toNat ≤ s.length ∧ (fDecode s).n = ((fDecode s).n.toNat : Int) ∧ (fDecode s).n.toNat ≤ 400 := by
  obtain ⟨h1, h2, h3⟩ := decode_back s h
  have hl := congrArg List.length h3
  have hb := btBytes_len _ h1
  have h4 : 3 ≤ (fBytes (fDecode s).b).length := by simp [fBytes, btBytes]; omega
  have h5 : (fBytes (fDecode s).b).length ≤ 400 := by simp [fBytes]; omega
  simp only [List.length_append, List.length_drop] at hl
  omega
theorem decode_more {s : List UInt8} (h : (fDecode s).e = 0) (x : List UInt8) : fDecode (s ++ x) = fDecode s := by
  obtain ⟨h1, h2, h3⟩ := decode_back s h
  have e : s ++ x = fBytes (fDecode s).b ++ (s.drop (fBytes (fDecode s).b).length ++ x) := by
    rw [← List.append_assoc, h3]
  rw [e, decode_of _ h1, ← h2]
  have := h
  cases hd : fDecode s with
  | mk b n e => rw [hd] at this; simp only at this; subst this; rfl
theorem decode_less {s : List UInt8} {k : Nat} (h : (fDecode s).e = 0) (hk : (fDecode s).n.toNat ≤ k) : fDecode (s.take k) = fDecode s := by
  obtain ⟨h1, h2, h3⟩ := decode_back s h
  have hn : (fDecode s).n.toNat = (fBytes (fDecode s).b).length := by omega
  have e : s.take k = fBytes (fDecode s).b ++ (s.drop (fBytes (fDecode s).b).length).take (k - (fBytes (fDecode s).b).length) := by
    conv => lhs; rw [← h3]
    rw [List.take_append, List.take_of_length_le (by omega)]
  rw [e, decode_of _ h1, ← h2]
  have := h
  cases hd : fDecode s with
  | mk b n e => rw [hd] at this; simp only at this; subst this; rfl

structure CutS where
  bs : List Bt
  ends : List Nat
  last : Nat
  e : Int
/-- A segment from a place on: its batches, where each begins, where the last one ends, what is wrong there. -/
def cutA (s : List UInt8) (a : Nat) : CutS :=
  if h : (fDecode (s.drop a)).e = 0 then
    ⟨(fDecode (s.drop a)).b :: (cutA s (a + (fDecode (s.drop a)).n.toNat)).bs, a :: (cutA s (a + (fDecode (s.drop a)).n.toNat)).ends, (cutA s (a + (fDecode (s.drop a)).n.toNat)).last, (cutA s (a + (fDecode (s.drop a)).n.toNat)).e⟩
  else ⟨[], [a], a, (fDecode (s.drop a)).e⟩
termination_by s.length - a
decreasing_by
  all_goals
    have := decode_adv h
    simp at this
    omega
theorem cutA_ok {s : List UInt8} {a : Nat} (h : (fDecode (s.drop a)).e = 0) : cutA s a =
    ⟨(fDecode (s.drop a)).b :: (cutA s (a + (fDecode (s.drop a)).n.toNat)).bs, a :: (cutA s (a + (fDecode (s.drop a)).n.toNat)).ends, (cutA s (a + (fDecode (s.drop a)).n.toNat)).last, (cutA s (a + (fDecode (s.drop a)).n.toNat)).e⟩ := by
  rw [cutA, dif_pos h]
theorem cutA_stop {s : List UInt8} {a : Nat} (h : ¬ (fDecode (s.drop a)).e = 0) : cutA s a = ⟨[], [a], a, (fDecode (s.drop a)).e⟩ := by
  rw [cutA, dif_neg h]

/-- By the way of the cut. -/
theorem cut_ind {s : List UInt8} {p : Nat → Prop} (stop : ∀ a, ¬ (fDecode (s.drop a)).e = 0 → p a) (step : ∀ a, (fDecode (s.drop a)).e = 0 → a + (fDecode (s.drop a)).n.toNat ≤ s.length → p (a + (fDecode (s.drop a)).n.toNat) → p a) : ∀ (m a : Nat), s.length - a < m → p a
  | 0, a, h => by omega
  | m + 1, a, h => by
    by_cases hd : (fDecode (s.drop a)).e = 0
    · have := decode_adv hd
      simp at this
      exact step a hd (by omega) (cut_ind stop step m _ (by omega))
    · exact stop a hd

theorem cut_facts (s : List UInt8) (a : Nat) (ha : a ≤ s.length) : a ≤ (cutA s a).last ∧ (cutA s a).last ≤ s.length ∧ (cutA s a).ends.getLast? = some (cutA s a).last ∧ (∀ x ∈ (cutA s a).ends, a ≤ x ∧ x ≤ (cutA s a).last) ∧ (cutA s a).e ≠ 0 ∧ (cutA s a).ends.length = (cutA s a).bs.length + 1 ∧ (∀ b ∈ (cutA s a).bs, fCheckB b = 0) := by
  refine cut_ind (s := s) (p := fun a => a ≤ s.length → a ≤ (cutA s a).last ∧ (cutA s a).last ≤ s.length ∧ (cutA s a).ends.getLast? = some (cutA s a).last ∧ (∀ x ∈ (cutA s a).ends, a ≤ x ∧ x ≤ (cutA s a).last) ∧ (cutA s a).e ≠ 0 ∧ (cutA s a).ends.length = (cutA s a).bs.length + 1 ∧ (∀ b ∈ (cutA s a).bs, fCheckB b = 0)) (fun a hd ha => ?_) (fun a hd hle ih ha => ?_) (s.length - a + 1) a (by omega) ha
  · rw [cutA_stop hd]
    exact ⟨Nat.le_refl _, ha, rfl, by simp, hd, rfl, by simp⟩
  · obtain ⟨i1, i2, i3, i4, i5, i6, i7⟩ := ih hle
    rw [cutA_ok hd]
    refine ⟨by simp only; omega, i2, ?_, ?_, i5, by simp [i6], ?_⟩
    · simp only [List.getLast?_cons, i3]; rfl
    · intro x hx
      simp only [List.mem_cons] at hx
      rcases hx with rfl | hx
      · exact ⟨Nat.le_refl _, by simp only; omega⟩
      · have := i4 x hx; exact ⟨by omega, this.2⟩
    · intro b hb
      simp only [List.mem_cons] at hb
      rcases hb with rfl | hb
      · exact (decode_back _ hd).1
      · exact i7 b hb
/-- What is cut of a beginning: a batch ends there, or it doesn't. -/
theorem cut_take (s : List UInt8) (k : Nat) (hk : k ≤ s.length) (a : Nat) (ha : a ≤ k) : (cutA (s.take k) a).last = k ↔ k ∈ (cutA s a).ends := by
  refine cut_ind (s := s) (p := fun a => a ≤ k → ((cutA (s.take k) a).last = k ↔ k ∈ (cutA s a).ends)) (fun a hd ha => ?_) (fun a hd hle ih ha => ?_) (s.length - a + 1) a (by omega) ha
  · have hd' : ¬ (fDecode ((s.take k).drop a)).e = 0 := fun h => by
      have e : (s.take k).drop a ++ s.drop k = s.drop a := by
        rw [show s.drop k = (s.drop a).drop (k - a) by rw [List.drop_drop]; congr 1; omega, List.drop_take]
        exact List.take_append_drop _ _
      have := decode_more h (s.drop k)
      rw [e] at this
      rw [this] at hd
      exact hd h
    rw [cutA_stop hd, cutA_stop hd']
    simp; omega
  · have hadv := decode_adv hd
    by_cases hk2 : a + (fDecode (s.drop a)).n.toNat ≤ k
    · have e : fDecode ((s.take k).drop a) = fDecode (s.drop a) := by
        rw [List.drop_take]; exact decode_less hd (by omega)
      have hd' : (fDecode ((s.take k).drop a)).e = 0 := by rw [e]; exact hd
      rw [cutA_ok hd, cutA_ok hd', e]
      simp only
      rw [ih hk2]
      simp; omega
    · have hd' : ¬ (fDecode ((s.take k).drop a)).e = 0 := fun h => by
        have e : (s.take k).drop a ++ s.drop k = s.drop a := by
          rw [show s.drop k = (s.drop a).drop (k - a) by rw [List.drop_drop]; congr 1; omega, List.drop_take]
          exact List.take_append_drop _ _
        have h1 := decode_more h (s.drop k)
        rw [e] at h1
        have h2 := decode_adv h
        rw [h1] at hk2
        simp at h2
        omega
      rw [cutA_ok hd, cutA_stop hd']
      have := (cut_facts s _ hle).2.2.2.1
      simp only [List.mem_cons]
      constructor
      · intro h; exact .inl h.symm
      · rintro (h | h)
        · exact h.symm
        · have := this k h; omega
end Go.Am

namespace Go.Am
set_option linter.all false
open Go Go.RowKit Go.Proofs
set_option maxRecDepth 100000
set_option linter.all false

def eN (l : List Nat) : List AV := l.map fun (n : Nat) => AV.int .i64 (n : Int)
@[simp] theorem pure_eN (l : List Nat) : pureL (eN l) = true := pureL_map (fun _ => rfl) l
@[simp] theorem names_eN (S : Nat → Prop) (l : List Nat) : namesL S (eN l) := namesL_pure _ (pure_eN l)
@[simp] theorem len_eN (l : List Nat) : (eN l).length = l.length := by simp [eN]
@[simp] theorem pure_strs (l : List (List UInt8)) : pureL (l.map AV.str) = true := pureL_map (fun _ => rfl) l
@[simp] theorem names_strs (S : Nat → Prop) (l : List (List UInt8)) : namesL S (l.map AV.str) := namesL_pure _ (pure_strs l)
@[simp] theorem ren_strs (R : Rn) (S : Nat → Prop) (l : List (List UInt8)) : RenL R S (l.map AV.str) (l.map AV.str) := renL_pure rfl (pure_strs l)
@[simp] theorem ren_eN (R : Rn) (S : Nat → Prop) (l : List Nat) : RenL R S (eN l) (eN l) := renL_pure rfl (pure_eN l)
@[simp] theorem ren_bts (R : Rn) (S : Nat → Prop) (l : List Bt) : RenL R S (l.map eBt) (l.map eBt) := renL_pure rfl (pure_bts l)
theorem eN_append (a b : List Nat) : eN (a ++ b) = eN a ++ eN b := by simp [eN]

structure CtX where
  a : Nat
  bs : List Bt
  pre : List Nat
theorem cut_ok (s : List UInt8) (id : Nat) (hs : s.length ≤ 400) : FnOk Try.prog 96 [.str s] [] id (.tup [.sl ((cutA s 0).bs.map eBt), .sl (eN (cutA s 0).ends), .int .i64 (cutA s 0).e]) [] := by
  refine fn_okc Try.func96 hcc96 (by decide) hcr96 (by simp [Try.ntmps96]) fun E hP hR hl hid => ?_
  simp only [cr96] at hR
  refine w_go 4000 ?_
  simp [cc96]
  refine w_loop (X := CtX) (fun x => ⟨[(0, true, .str s), (5, true, .bsl E.n0 0 x.bs.length), (6, true, .bsl (E.n0 + 1) 0 (x.pre.length + 1)), (7, true, .int .i64 x.a)],
      [(E.n0, some ⟨x.bs.map eBt, .agg [.int .i64 0, .nils], false, false⟩), (E.n0 + 1, some ⟨eN (x.pre ++ [x.a]), .int .i64 0, false, false⟩)], 2⟩)
    (fun x => x.a ≤ s.length ∧ x.bs.length ≤ x.a ∧ x.pre.length ≤ x.a ∧ x.bs ++ (cutA s x.a).bs = (cutA s 0).bs ∧ x.pre ++ (cutA s x.a).ends = (cutA s 0).ends ∧ (cutA s x.a).e = (cutA s 0).e) (fun x => s.length - x.a) ⟨0, [], []⟩ ?_ ⟨by simp, by simp, by simp, rfl, rfl, rfl⟩ ?_
  · refine Conv.trans (Conv.voidSlot 5 (x := .nils) (y := .bsl (E.n0 + 28) 0 0) (by simp) .nils (.agg [.int .i64 0, .nils])) ?_
    have hrn : rnOk [(E.n0, E.n0 + 28), (E.n0 + 1, E.n0 + 16)] := by simp[eN]
    refine Conv.sub [(E.n0, E.n0 + 28), (E.n0 + 1, E.n0 + 16)] hrn ?_ ?_ ?_ ?_ ?_ <;> (try simp[eN])
  · rintro ⟨a, bs, pre⟩ ⟨ha, hb, hpl, hf1, hf2, hf3⟩ p hp
    simp only at ha hb hpl hf1 hf2 hf3 hp
    have hD := Decode_ok (s.drop a)
    simp only [eBt] at hD
    refine w_go 4000 ?_
    simp
    refine ⟨ha, ?_⟩
    (refine w_call hP rfl (hD _ (by simp; omega)) (by simp) (by simp <;> rfl) ?_; refine w_go 4000 ?_; simp)
    refine goc (fun h => ?_) (fun h => ?_)
    · simp
      have h' : ¬ (fDecode (s.drop a)).e = 0 := by simpa using h
      rw [cutA_stop h'] at hf1 hf2 hf3
      simp only [List.append_nil] at hf1 hf2 hf3
      rw [← hf1, ← hf2, ← hf3] at hR
      have hrn : rnOk [] := by simp [id_lt hid, id_own hid, id_own' hid, id_own0 hid, id_own0' hid]
      rw [hR]
      refine rt_endR (by simp <;> rfl) (by simp [id_lt hid, id_own hid, id_own' hid, id_own0 hid, id_own0' hid] <;> exact ⟨rfl, rfl⟩) [] hrn ⟨?_, ?_, ?_, ?_, ?_, ?_⟩ <;> (try simp [id_lt hid, id_own hid, id_own' hid, id_own0 hid, id_own0' hid])
      exact ⟨List.take_of_length_le (by simp), by rw [List.take_of_length_le (by simp)]; exact names_eN _ _⟩
    · simp
      have h' : (fDecode (s.drop a)).e = 0 := by simpa using h
      have hadv := decode_adv h'
      simp only [List.length_drop] at hadv
      obtain ⟨n, hn⟩ : ∃ n : Nat, (fDecode (s.drop a)).n = n := ⟨_, hadv.2.2.1⟩
      rw [hn] at hadv
      simp only [Int.toNat_natCast] at hadv
      have hw : IntKind.i64.wrap ((a : Int) + n) = ((a + n : Nat) : Int) := wrap64 (by omega)
      rw [cutA_ok h', hn] at hf1 hf2 hf3
      simp only [Int.toNat_natCast] at hf1 hf2 hf3
      simp [hn, hw]
      refine ⟨⟨by omega, by omega⟩, ⟨by omega, by omega⟩, hp _ ⟨a + n, bs ++ [(fDecode (s.drop a)).b], pre ++ [a]⟩ ⟨(by first | omega | (simp; omega)), (by simp; omega), (by simp; omega), by simpa using hf1, by simpa using hf2, hf3⟩ (by first | omega | (simp; omega)) ?_⟩
      have hrn : rnOk [(E.n0, E.n0 + 86), (E.n0 + 1, E.n0 + 102)] := by simp
      refine Conv.sub [(E.n0, E.n0 + 86), (E.n0 + 1, E.n0 + 102)] hrn ?_ ?_ ?_ ?_ ?_ <;> (try simp)
      exact ⟨renL_pure (by simp [eBt]) (pureL_append (pure_bts bs) (by simp)), renL_pure (by simp [eN]) (pureL_append (pure_eN _) (by simp))⟩

def lastS (l : List (List UInt8)) : List UInt8 := l.getLast?.getD []
@[simp] def bxS (l : List (List UInt8)) : Bx := ⟨l.map AV.str, .str [], false, false⟩
theorem lastS_get {l : List (List UInt8)} (h : l ≠ []) : l[l.length - 1]? = some (lastS l) := by
  unfold lastS
  rw [List.getLast?_eq_getElem?]
  rw [List.getElem?_eq_getElem (by have := List.length_pos_iff.2 h; omega)]
  rfl
theorem last_ok (l : List (List UInt8)) (syn : Int) (id : Nat) (hl8 : l.length ≤ 1000000) : FnOk Try.prog 91 [.agg [.sl (l.map AV.str), .int .i64 syn]] [] id (.str (lastS l)) [] := by
  refine fn_okc Try.func91 hcc91 (by decide) hcr91 (by simp [Try.ntmps91]) fun E hP hR hl hid => ?_
  simp only [cr91] at hR
  refine w_go 4000 ?_
  simp [cc91]
  refine goc (fun h => ?_) (fun h => ?_)
  · simp
    have h' : l = [] := by simpa using h
    subst h'
    rw [hR]; exact rt_end (by simp <;> rfl) [] trivial (end_pure (by simp; rfl) (by simp) (by simp))
  · simp
    have h' : l ≠ [] := by simpa using h
    have hg := lastS_get h'
    have hp := List.length_pos_iff.2 h'
    have hw : IntKind.i64.wrap ((l.length : Int) - 1) = ((l.length - 1 : Nat) : Int) := by rw [wrap64 (by omega)]; omega
    simp [hw, hg]
    refine ⟨by omega, ?_⟩
    rw [hR]; exact rt_end (by simp <;> rfl) [] trivial (end_pure (by simp) (by simp) (by simp))
theorem last_lent (j : Nat) (l : List (List UInt8)) (syn : Int) (id : Nat) (hl8 : l.length ≤ 1000000) : FnOk Try.prog 91 [.agg [.bsl j 0 l.length, .int .i64 syn]] [(j, bxS l)] id (.str (lastS l)) [] := by
  simp only [bxS]
  refine fn_okc Try.func91 hcc91 (by decide) hcr91 (by simp [Try.ntmps91]) fun E hP hR hl hid => ?_
  simp only [cr91] at hR
  refine w_go 4000 ?_
  simp [cc91]
  have hj := hl (j, _) (List.mem_cons_self ..)
  simp only at hj
  have j1 := ne_own hj.1; have j2 := ne_own' hj.1; have j3 := ne_own0 hj.1; have j4 := ne_own0' hj.1
  simp [j1, j2, j3, j4, hj.1, id_ne hj.2, id_ne' hj.2]
  refine goc (fun h => ?_) (fun h => ?_)
  · simp [j1, j2, j3, j4, hj.1, id_ne hj.2, id_ne' hj.2]
    have h' : l = [] := by simpa using h
    subst h'
    have hrn : rnOk [] := by simp [j1, j2, j3, j4, hj.1, id_ne hj.2, id_ne' hj.2, id_lt hid, id_own hid, id_own' hid, id_own0 hid, id_own0' hid]
    rw [hR]
    refine rt_end (by simp <;> rfl) [] hrn ⟨?_, ?_, ?_, ?_, ?_, ?_⟩ <;> (try simp [j1, j2, j3, j4, hj.1, id_ne hj.2, id_ne' hj.2, id_lt hid, id_own hid, id_own' hid, id_own0 hid, id_own0' hid])
    rfl
  · simp [j1, j2, j3, j4, hj.1, id_ne hj.2, id_ne' hj.2]
    have h' : l ≠ [] := by simpa using h
    have hg := lastS_get h'
    have hp := List.length_pos_iff.2 h'
    have hw : IntKind.i64.wrap ((l.length : Int) - 1) = ((l.length - 1 : Nat) : Int) := by rw [wrap64 (by omega)]; omega
    simp [hw, hg, j1, j2, j3, j4, hj.1, id_ne hj.2, id_ne' hj.2]
    refine ⟨by omega, ?_⟩
    have hrn : rnOk [] := by simp [j1, j2, j3, j4, hj.1, id_ne hj.2, id_ne' hj.2, id_lt hid, id_own hid, id_own' hid, id_own0 hid, id_own0' hid]
    rw [hR]
    refine rt_end (by simp <;> rfl) [] hrn ⟨?_, ?_, ?_, ?_, ?_, ?_⟩ <;> (try simp [j1, j2, j3, j4, hj.1, id_ne hj.2, id_ne' hj.2, id_lt hid, id_own hid, id_own' hid, id_own0 hid, id_own0' hid])

/-! ### Looking through a slice -/
def findI {α : Type} (p : α → Bool) : List α → Nat → Int
  | [], _ => -1
  | x :: l, i => if p x then (i : Int) else findI p l (i + 1)
theorem findI_any {α : Type} (p : α → Bool) : ∀ (l : List α) (i : Nat), decide (0 ≤ findI p l i) = l.any p
  | [], i => by simp [findI]
  | x :: l, i => by
    simp only [findI, List.any_cons]
    by_cases hx : p x = true
    · simp [hx]
    · simp [hx, findI_any p l (i + 1)]
theorem long_ok (s : List UInt8) (id : Nat) : FnOk Try.prog 95 [.str s] [] id (.bool (decide (400 < s.length))) [] := by
  refine fn_okc Try.func95 hcc95 (by decide) hcr95 (by simp [Try.ntmps95]) fun E hP hR hl hid => ?_
  simp only [cr95] at hR
  refine w_go 4000 ?_
  simp [cc95]
  rw [hR]; exact rt_end (by simp <;> rfl) [] trivial (end_pure (by simp; omega) (by simp) (by simp))
theorem IndexFunc_ok (l : List (List UInt8)) (id : Nat) (hl8 : l.length ≤ 8) : FnOk Try.prog 138 [.sl (l.map AV.str), .fn 95 []] [] id (.int .i64 (findI (fun s => decide (400 < s.length)) l 0)) [] := by
  refine fn_okc Try.func138 hcc138 (by decide) hcr138 (by simp [Try.ntmps138]) fun E hP hR hl hid => ?_
  simp only [cr138] at hR
  refine w_go 4000 ?_
  simp [cc138]
  refine w_loop (X := Nat) (fun i => ⟨[(0, true, .sl (l.map AV.str)), (1, true, .fn 95 []), (7, true, .int .i64 l.length), (8, true, .int .i64 i)], [], 0⟩) (fun i => i ≤ l.length ∧ findI (fun s => decide (400 < s.length)) (l.drop i) i = findI (fun s => decide (400 < s.length)) l 0) (fun i => l.length - i) 0 ?_ ⟨by omega, rfl⟩ ?_
  · have hrn : rnOk [] := by simp
    refine Conv.sub [] hrn ?_ ?_ ?_ ?_ ?_ <;> (try simp)
  · rintro i ⟨hi, hf⟩ p hp
    refine w_go 4000 ?_
    simp
    refine goc (fun h => ?_) (fun h => ?_)
    · have h := of_decide_eq_true h
      obtain ⟨x, hx, hd⟩ := drop_cons h
      rw [hd] at hf
      simp only [findI] at hf
      have hi1 : IntKind.i64.wrap ((i : Int) + 1) = ((i + 1 : Nat) : Int) := wrap64 (by omega)
      simp [hx]
      refine ⟨h, ?_⟩
      refine w_callv hP rfl rfl (long_ok x _) (by simp) (by simp <;> rfl) ?_
      refine w_go 4000 ?_
      simp
      refine goc (fun h1 => ?_) (fun h1 => ?_)
      · simp
        rw [if_pos h1] at hf
        rw [hR]; exact rt_end (by simp <;> rfl) [] trivial (end_pure (by simp; exact hf) (by simp) (by simp))
      · simp
        rw [if_neg (by simpa using h1)] at hf
        refine hp _ (i + 1) ⟨h, hf⟩ (by omega) ?_
        have hrn : rnOk [] := by simp[hi1]
        refine Conv.sub [] hrn ?_ ?_ ?_ ?_ ?_ <;> (try simp[hi1])
    · have h := of_decide_eq_false h
      simp
      rw [List.drop_of_length_le (by omega)] at hf
      rw [hR]; exact rt_end (by simp <;> rfl) [] trivial (end_pure (by simp; exact hf) (by simp) (by simp))
theorem ContainsFunc_ok (l : List (List UInt8)) (id : Nat) (hl8 : l.length ≤ 8) : FnOk Try.prog 94 [.sl (l.map AV.str), .fn 95 []] [] id (.bool (l.any fun s => decide (400 < s.length))) [] := by
  refine fn_okc Try.func94 hcc94 (by decide) hcr94 (by simp [Try.ntmps94]) fun E hP hR hl hid => ?_
  simp only [cr94] at hR
  refine w_go 4000 ?_
  simp [cc94]
  (refine w_call hP rfl (IndexFunc_ok l _ hl8) (by simp) (by simp <;> rfl) ?_; refine w_go 4000 ?_; simp)
  rw [hR]; exact rt_end (by simp <;> rfl) [] trivial (end_pure (by simp; rw [findI_any]) (by simp) (by simp))
theorem Index_ok (l : List Nat) (v : Int) (id : Nat) (hl8 : l.length ≤ 1000000) : FnOk Try.prog 139 [.sl (eN l), .int .i64 v] [] id (.int .i64 (findI (fun (x : Nat) => v == (x : Int)) l 0)) [] := by
  unfold eN
  refine fn_okc Try.func139 hcc139 (by decide) hcr139 (by simp [Try.ntmps139]) fun E hP hR hl hid => ?_
  simp only [cr139] at hR
  refine w_go 4000 ?_
  simp [cc139]
  refine w_loop (X := Nat) (fun i => ⟨[(0, true, .sl (l.map fun (n : Nat) => AV.int .i64 (n : Int))), (1, true, .int .i64 v), (7, true, .int .i64 l.length), (8, true, .int .i64 i)], [], 0⟩) (fun i => i ≤ l.length ∧ findI (fun (x : Nat) => v == (x : Int)) (l.drop i) i = findI (fun (x : Nat) => v == (x : Int)) l 0) (fun i => l.length - i) 0 ?_ ⟨by omega, rfl⟩ ?_
  · have hrn : rnOk [] := by simp
    refine Conv.sub [] hrn ?_ ?_ ?_ ?_ ?_ <;> (try simp)
    all_goals exact names_eN _ _
  · rintro i ⟨hi, hf⟩ p hp
    refine w_go 4000 ?_
    simp
    refine goc (fun h => ?_) (fun h => ?_)
    · have h := of_decide_eq_true h
      obtain ⟨x, hx, hd⟩ := drop_cons h
      rw [hd] at hf
      simp only [findI] at hf
      have hi1 : IntKind.i64.wrap ((i : Int) + 1) = ((i + 1 : Nat) : Int) := wrap64 (by omega)
      simp [hx]
      refine ⟨h, ?_⟩
      refine goc (fun h1 => ?_) (fun h1 => ?_)
      · simp
        rw [if_pos h1] at hf
        rw [hR]; exact rt_end (by simp <;> rfl) [] trivial (end_pure (by simp; exact hf) (by simp) (by simp))
      · simp
        rw [if_neg (by simpa using h1)] at hf
        refine hp _ (i + 1) ⟨h, hf⟩ (by omega) ?_
        have hrn : rnOk [] := by simp[hi1]
        refine Conv.sub [] hrn ?_ ?_ ?_ ?_ ?_ <;> (try simp[hi1])
        all_goals exact names_eN _ _
    · have h := of_decide_eq_false h
      simp
      rw [List.drop_of_length_le (by omega)] at hf
      rw [hR]; exact rt_end (by simp <;> rfl) [] trivial (end_pure (by simp; exact hf) (by simp) (by simp))
theorem Contains_ok (l : List Nat) (v : Int) (id : Nat) (hl8 : l.length ≤ 1000000) : FnOk Try.prog 97 [.sl (eN l), .int .i64 v] [] id (.bool (l.any fun (x : Nat) => v == (x : Int))) [] := by
  refine fn_okc Try.func97 hcc97 (by decide) hcr97 (by simp [Try.ntmps97]) fun E hP hR hl hid => ?_
  simp only [cr97] at hR
  refine w_go 4000 ?_
  simp [cc97]
  (refine w_call hP rfl (Index_ok l v _ hl8) (by simp) (by simp <;> rfl) ?_; refine w_go 4000 ?_; simp)
  rw [hR]; exact rt_end (by simp <;> rfl) [] trivial (end_pure (by simp; rw [findI_any]) (by simp) (by simp))
end Go.Am

namespace Go.Am
set_option linter.all false
open Go Go.RowKit Go.Proofs
set_option maxRecDepth 100000
set_option linter.all false

structure Dk where
  seg : List (List UInt8)
  syn : Int
def eDk (d : Dk) : AV := .agg [.sl (d.seg.map AV.str), .int .i64 d.syn]
structure SgS where
  e : Int
  ends : List Nat
def fSegs : List (List UInt8) → List Nat → SgS
  | [], ends => ⟨0, ends⟩
  | s :: r, _ => if (cutA s 0).e ≠ 5 then ⟨(cutA s 0).e, []⟩ else if r ≠ [] ∧ (cutA s 0).last < s.length then ⟨4, []⟩ else fSegs r (cutA s 0).ends
def fCheckD (d : Dk) : Int :=
  if 8 < d.seg.length ∨ (d.seg.any fun s => decide (400 < s.length)) = true then 2
  else if (fSegs d.seg [0]).e ≠ 0 then (fSegs d.seg [0]).e
  else if ((fSegs d.seg [0]).ends.any fun (x : Nat) => d.syn == (x : Int)) = true then 0 else 3
theorem fSegs_ends : ∀ (l : List (List UInt8)) (en : List Nat), en.length ≤ 401 → (∀ s ∈ l, s.length ≤ 400) → (fSegs l en).ends.length ≤ 401
  | [], en, h, _ => h
  | s :: r, en, h, hl => by
    have hf := (cut_facts s 0 (by omega)).2.2.2.2.2.1
    have hb : (cutA s 0).bs.length ≤ s.length := by
      have := cut_ind (s := s) (p := fun a => a ≤ s.length → (cutA s a).bs.length ≤ s.length - a) (fun a hd ha => by rw [cutA_stop hd]; simp) (fun a hd hle ih ha => by
        have := ih hle
        have := decode_adv hd
        rw [cutA_ok hd]; simp only [List.length_cons]; omega) (s.length + 1) 0 (by omega) (by omega)
      omega
    have := hl s (by simp)
    simp only [fSegs]
    split
    · simp
    · split
      · simp
      · exact fSegs_ends r _ (by omega) fun x hx => hl x (by simp [hx])
theorem last_get (s : List UInt8) : (cutA s 0).ends[(cutA s 0).ends.length - 1]? = some (cutA s 0).last ∧ 1 ≤ (cutA s 0).ends.length ∧ (cutA s 0).ends.length ≤ s.length + 1 := by
  have hf := cut_facts s 0 (by omega)
  have h1 := hf.2.2.1
  rw [List.getLast?_eq_getElem?] at h1
  have hb : (cutA s 0).bs.length ≤ s.length := by
    have := cut_ind (s := s) (p := fun a => a ≤ s.length → (cutA s a).bs.length ≤ s.length - a) (fun a hd ha => by rw [cutA_stop hd]; simp) (fun a hd hle ih ha => by
      have := ih hle
      have := decode_adv hd
      rw [cutA_ok hd]; simp only [List.length_cons]; omega) (s.length + 1) 0 (by omega) (by omega)
    omega
  exact ⟨h1, by omega, by omega⟩

set_option maxHeartbeats 1000000 in
theorem dCheck_ok (d : Dk) (id : Nat) : FnOk Try.prog 41 [eDk d] [] id (.int .i64 (fCheckD d)) [] := by
  unfold eDk
  refine fn_okc Try.func41 hcc41 (by decide) hcr41 (by simp [Try.ntmps41]) fun E hP hR hl hid => ?_
  simp only [cr41] at hR
  refine w_go 4000 ?_
  simp [cc41]
  (refine w_callg hP (by simp) rfl (fun hc => ⟨ContainsFunc_ok d.seg _ (by revert hc; simp; omega), by revert hc; simp; try grind, by simp⟩) ?_; refine w_go 4000 ?_; simp)
  refine goc (fun h => ?_) (fun h => ?_)
  · simp
    have h' : 8 < d.seg.length ∨ (d.seg.any fun s => decide (400 < s.length)) = true := by
      simp at h ⊢; rcases h with h | h
      · exact .inl (by omega)
      · exact .inr h
    have hv : fCheckD d = 2 := by unfold fCheckD; rw [if_pos h']
    rw [hv] at hR
    rw [hR]; exact rt_end (by simp <;> rfl) [] trivial (end_pure (by simp) (by simp) (by simp))
  · have h' : ¬ (8 < d.seg.length ∨ (d.seg.any fun s => decide (400 < s.length)) = true) := by
      simp at h ⊢; exact ⟨by omega, h.2⟩
    have h8 : d.seg.length ≤ 8 := by omega
    have hss : ∀ s ∈ d.seg, s.length ≤ 400 := fun s hs => by
      simp at h'; exact h'.2 s hs
    have hv : fCheckD d = if (fSegs d.seg [0]).e ≠ 0 then (fSegs d.seg [0]).e else if ((fSegs d.seg [0]).ends.any fun (x : Nat) => d.syn == (x : Int)) = true then 0 else 3 := by unfold fCheckD; rw [if_neg h']
    rw [hv] at hR
    have hen := fSegs_ends d.seg [0] (by simp) hss
    simp
    refine w_loop (X := Nat × List Nat) (fun x => ⟨[(1, true, .ptr E.n0 0 0), (3, true, .sl (eN x.2)), (20, true, .sl (d.seg.map AV.str)), (21, true, .int .i64 d.seg.length), (22, true, .int .i64 x.1)], [(E.n0, some ⟨[.agg [.sl (d.seg.map AV.str), .int .i64 d.syn]], .agg [.nils, .int .i64 0], false, false⟩)], 1⟩)
      (fun x => x.1 ≤ d.seg.length ∧ fSegs (d.seg.drop x.1) x.2 = fSegs d.seg [0]) (fun x => d.seg.length - x.1) (0, [0]) ?_ ⟨by simp, rfl⟩ ?_
    · refine Conv.trans (Conv.frz 3 (x := .bsl (E.n0 + 44) 0 1) (x' := .sl [.int .i64 0]) (fz := [(E.n0 + 44, ⟨[.int .i64 0], .int .i64 0, false, false⟩)]) (by simp) (by simp) (by simp) (by simp)) ?_
      have hrn : rnOk [(E.n0, E.n0)] := by simp[eN]
      refine Conv.sub [(E.n0, E.n0)] hrn ?_ ?_ ?_ ?_ ?_ <;> (try simp[eN])
      exact namesL_pure _ rfl
    · rintro ⟨i, ends⟩ ⟨hi, hf⟩ p hp
      simp only at hi hf hp
      refine w_go 4000 ?_
      simp
      refine goc (fun h => ?_) (fun h => ?_)
      · have h := of_decide_eq_true h
        obtain ⟨x, hx, hd⟩ := drop_cons h
        rw [hd] at hf
        simp only [fSegs] at hf
        have hi1 : IntKind.i64.wrap ((i : Int) + 1) = ((i + 1 : Nat) : Int) := wrap64 (by omega)
        have hx4 := hss x (List.mem_of_getElem? hx)
        obtain ⟨g1, g2, g3⟩ := last_get x
        simp [hx]
        refine ⟨h, ?_⟩
        (refine w_call hP rfl (cut_ok x _ hx4) (by simp) (by simp <;> rfl) ?_; refine w_go 4000 ?_; simp)
        refine goc (fun h1 => ?_) (fun h1 => ?_)
        · simp
          have h1' : (cutA x 0).e ≠ 5 := by simpa using h1
          rw [if_pos h1'] at hf
          rw [← hf, if_pos (cut_facts x 0 (by omega)).2.2.2.2.1] at hR
          rw [hR]; exact rt_end (by simp <;> rfl) [] trivial (end_pure (by simp) (by simp) (by simp))
        · simp
          have h1' : ¬ (cutA x 0).e ≠ 5 := by simpa using h1
          rw [if_neg h1'] at hf
          have hwl : IntKind.i64.wrap ((d.seg.length : Int) - 1) = (d.seg.length : Int) - 1 := wrap64 (by omega)
          have hwe : IntKind.i64.wrap (((cutA x 0).ends.length : Int) - 1) = (((cutA x 0).ends.length - 1 : Nat) : Int) := by rw [wrap64 (by omega)]; omega
          have hel : (eN (cutA x 0).ends)[(cutA x 0).ends.length - 1]? = some (.int .i64 ((cutA x 0).last : Int)) := by simp [eN, g1]
          simp [hwl, hwe, hel]
          refine ⟨fun hh => ⟨hh, by omega⟩, ?_⟩
          have hr : d.seg.drop (i + 1) ≠ [] ↔ (i : Int) < (d.seg.length : Int) - 1 := by simp; omega
          refine goc (fun h2 => ?_) (fun h2 => ?_)
          · simp
            have h2' : d.seg.drop (i + 1) ≠ [] ∧ (cutA x 0).last < x.length := by
              rw [hr]; simpa using h2
            rw [if_pos h2'] at hf
            rw [← hf] at hR
            rw [if_pos (by simp)] at hR
            rw [hR]; exact rt_end (by simp <;> rfl) [] trivial (end_pure (by simp) (by simp) (by simp))
          · simp
            have h2' : ¬ (d.seg.drop (i + 1) ≠ [] ∧ (cutA x 0).last < x.length) := by
              rw [hr]; simpa using h2
            rw [if_neg h2'] at hf
            refine hp _ (i + 1, (cutA x 0).ends) ⟨h, hf⟩ (by simp only []; omega) ?_
            have hrn : rnOk [(E.n0, E.n0)] := by simp[hi1]
            refine Conv.sub [(E.n0, E.n0)] hrn ?_ ?_ ?_ ?_ ?_ <;> (try simp[hi1])
      · have h := of_decide_eq_false h
        simp
        rw [List.drop_of_length_le (by omega)] at hf
        simp only [fSegs] at hf
        rw [← hf] at hR hen
        simp only [ne_eq, not_true_eq_false, if_false] at hR
        (refine w_call hP rfl (Contains_ok ends d.syn _ (by simp only at hen; omega)) (by simp) (by simp <;> rfl) ?_; refine w_go 4000 ?_; simp)
        refine goc (fun h1 => ?_) (fun h1 => ?_)
        · simp
          have h1' : ¬ (ends.any fun (x : Nat) => d.syn == (x : Int)) = true := by simpa using h1
          rw [if_neg h1'] at hR
          rw [hR]; exact rt_end (by simp <;> rfl) [] trivial (end_pure (by simp) (by simp) (by simp))
        · simp
          have h1' : (ends.any fun (x : Nat) => d.syn == (x : Int)) = true := by simpa using h1
          rw [if_pos h1'] at hR
          rw [hR]; exact rt_end (by simp <;> rfl) [] trivial (end_pure (by simp) (by simp) (by simp))

/-! ### The keeper -/
@[simp] def bxK (j n : Nat) (syn : Int) : Bx := ⟨[.agg [.bsl j 0 n, .int .i64 syn]], .agg [.nils, .int .i64 0], false, false⟩
theorem Clone_ok (l : List (List UInt8)) (id : Nat) (hl8 : l.length ≤ 1000000) : FnOk Try.prog 137 [.sl (l.map AV.str)] [] id (.bsl id 0 l.length) [(id, some (bxS l))] := by
  simp only [bxS]
  refine fn_okc Try.func137 hcc137 (by decide) hcr137 (by simp [Try.ntmps137]) fun E hP hR hl hid => ?_
  simp only [cr137] at hR
  refine w_go 9 ?_
  simp [cc137]
  refine w_nil (s := 0) (d := 3) (e := 4) (xs := l.map AV.str) (by simp) (by decide) (fun hx => ?_) ?_
  · refine w_go 10 ?_
    simp
    have hx : l = [] := by simpa using hx
    subst hx
    refine w_conv (Conv.voidSlot 2 (x := .nils) (y := .bsl (E.n0 + 16) 0 0) (by simp) .nils (.str [])) ?_
    refine w_go 4000 ?_
    simp
    have hrn : rnOk [(id, E.n0 + 16)] := by simp [id_lt hid, id_own hid, id_own' hid, id_own0 hid, id_own0' hid]
    rw [hR]
    refine rt_end (by simp <;> rfl) [(id, E.n0 + 16)] hrn ⟨?_, ?_, ?_, ?_, ?_, ?_⟩ <;> (try simp [id_lt hid, id_own hid, id_own' hid, id_own0 hid, id_own0' hid])
  · refine w_go 4000 ?_
    simp
    refine ⟨⟨by omega, by omega⟩, ?_⟩
    have hrn : rnOk [(id, E.n0 + 20)] := by simp [id_lt hid, id_own hid, id_own' hid, id_own0 hid, id_own0' hid]
    rw [hR]
    refine rt_end (by simp <;> rfl) [(id, E.n0 + 20)] hrn ⟨?_, ?_, ?_, ?_, ?_, ?_⟩ <;> (try simp [id_lt hid, id_own hid, id_own' hid, id_own0 hid, id_own0' hid])
end Go.Am

namespace Go.Am
set_option linter.all false
open Go Go.RowKit Go.Proofs
set_option maxRecDepth 100000
set_option linter.all false

theorem id1_lt {id n0 : Nat} (h : id + 4 ≤ n0) : (id + 1 < n0) = True := by simp; omega
theorem id1_own {id n0 : Nat} (h : id + 4 ≤ n0) (t : Nat) : (id + 1 = n0 + t) = False := by simp; omega
theorem id1_own' {id n0 : Nat} (h : id + 4 ≤ n0) (t : Nat) : (n0 + t = id + 1) = False := by simp; omega
theorem id1_own0 {id n0 : Nat} (h : id + 4 ≤ n0) : (id + 1 = n0) = False := by simp; omega
theorem id1_own0' {id n0 : Nat} (h : id + 4 ≤ n0) : (n0 = id + 1) = False := by simp; omega

theorem own_ok (l : List (List UInt8)) (syn : Int) (id : Nat) (hl8 : l.length ≤ 1000000) : FnOk Try.prog 88 [.agg [.sl (l.map AV.str), .int .i64 syn]] [] id (.ptr id 0 0) [(id, some (bxK (id + 1) l.length syn)), (id + 1, some (bxS l))] := by
  simp only [bxK, bxS]
  refine fn_okc Try.func88 hcc88 (by decide) hcr88 (by simp [Try.ntmps88]) fun E hP hR hl hid => ?_
  simp only [cr88] at hR
  refine w_go 4000 ?_
  simp [cc88]
  (refine w_call hP rfl (Clone_ok l _ hl8) (by simp) (by simp <;> rfl) ?_; refine w_go 4000 ?_; simp)
  have hrn : rnOk [(id, E.n0 + 36), (id + 1, E.n0 + 16)] := by simp [id_lt hid, id_own hid, id_own' hid, id_own0 hid, id_own0' hid, id1_lt hid, id1_own hid, id1_own' hid, id1_own0 hid, id1_own0' hid]
  rw [hR]
  refine rt_end (by simp <;> rfl) [(id, E.n0 + 36), (id + 1, E.n0 + 16)] hrn ⟨?_, ?_, ?_, ?_, ?_, ?_⟩ <;> (try simp [id_lt hid, id_own hid, id_own' hid, id_own0 hid, id_own0' hid, id1_lt hid, id1_own hid, id1_own' hid, id1_own0 hid, id1_own0' hid])
theorem end_ok (k j : Nat) (l : List (List UInt8)) (syn : Int) (id : Nat) (hl8 : l.length ≤ 8) (h4 : (lastS l).length ≤ 400) (hkj : k ≠ j) : FnOk Try.prog 136 [.ptr k 0 0] [(k, bxK j l.length syn), (j, bxS l)] id (.int .i64 ((cutA (lastS l) 0).last : Int)) [] := by
  simp only [bxK, bxS]
  refine fn_okc Try.func136 hcc136 (by decide) hcr136 (by simp [Try.ntmps136]) fun E hP hR hl hid => ?_
  simp only [cr136] at hR
  refine w_go 4000 ?_
  simp [cc136]
  have hk := hl (k, _) (List.mem_cons_self ..)
  simp only at hk
  have k1 := ne_own hk.1; have k2 := ne_own' hk.1; have k3 := ne_own0 hk.1; have k4 := ne_own0' hk.1
  have hj := hl (j, _) (List.mem_cons_of_mem _ (List.mem_cons_self ..))
  simp only at hj
  have j1 := ne_own hj.1; have j2 := ne_own' hj.1; have j3 := ne_own0 hj.1; have j4 := ne_own0' hj.1
  have hkj' := hkj.symm
  (refine w_call hP rfl (last_lent j l syn _ (by omega)) (by simp [k1, k2, k3, k4, hk.1, id_ne hk.2, id_ne' hk.2, j1, j2, j3, j4, hj.1, id_ne hj.2, id_ne' hj.2, hkj, hkj']) (by simp [k1, k2, k3, k4, hk.1, id_ne hk.2, id_ne' hk.2, j1, j2, j3, j4, hj.1, id_ne hj.2, id_ne' hj.2, hkj, hkj'] <;> rfl) ?_; refine w_go 4000 ?_; simp [k1, k2, k3, k4, hk.1, id_ne hk.2, id_ne' hk.2, j1, j2, j3, j4, hj.1, id_ne hj.2, id_ne' hj.2, hkj, hkj'])
  (refine w_call hP rfl (cut_ok (lastS l) _ h4) (by simp [k1, k2, k3, k4, hk.1, id_ne hk.2, id_ne' hk.2, j1, j2, j3, j4, hj.1, id_ne hj.2, id_ne' hj.2, hkj, hkj']) (by simp [k1, k2, k3, k4, hk.1, id_ne hk.2, id_ne' hk.2, j1, j2, j3, j4, hj.1, id_ne hj.2, id_ne' hj.2, hkj, hkj'] <;> rfl) ?_; refine w_go 4000 ?_; simp [k1, k2, k3, k4, hk.1, id_ne hk.2, id_ne' hk.2, j1, j2, j3, j4, hj.1, id_ne hj.2, id_ne' hj.2, hkj, hkj'])
  obtain ⟨g1, g2, g3⟩ := last_get (lastS l)
  have hwe : IntKind.i64.wrap (((cutA (lastS l) 0).ends.length : Int) - 1) = (((cutA (lastS l) 0).ends.length - 1 : Nat) : Int) := by rw [wrap64 (by omega)]; omega
  have hel : (eN (cutA (lastS l) 0).ends)[(cutA (lastS l) 0).ends.length - 1]? = some (.int .i64 ((cutA (lastS l) 0).last : Int)) := by simp [eN, g1]
  simp [hwe, hel]
  refine ⟨by omega, ?_⟩
  have hrn : rnOk [] := by simp [k1, k2, k3, k4, hk.1, id_ne hk.2, id_ne' hk.2, j1, j2, j3, j4, hj.1, id_ne hj.2, id_ne' hj.2, hkj, hkj', id_lt hid, id_own hid, id_own' hid, id_own0 hid, id_own0' hid]
  rw [hR]
  refine rt_end (by simp <;> rfl) [] hrn ⟨?_, ?_, ?_, ?_, ?_, ?_⟩ <;> (try simp [k1, k2, k3, k4, hk.1, id_ne hk.2, id_ne' hk.2, j1, j2, j3, j4, hj.1, id_ne hj.2, id_ne' hj.2, hkj, hkj', id_lt hid, id_own hid, id_own' hid, id_own0 hid, id_own0' hid])
theorem torn_ok (k j : Nat) (l : List (List UInt8)) (syn : Int) (id : Nat) (hl8 : l.length ≤ 8) (h4 : (lastS l).length ≤ 400) (hkj : k ≠ j) : FnOk Try.prog 89 [.ptr k 0 0] [(k, bxK j l.length syn), (j, bxS l)] id (.bool (decide ((cutA (lastS l) 0).last < (lastS l).length))) [] := by
  have he := end_ok k j l syn
  simp only [bxK, bxS] at he ⊢
  refine fn_okc Try.func89 hcc89 (by decide) hcr89 (by simp [Try.ntmps89]) fun E hP hR hl hid => ?_
  simp only [cr89] at hR
  refine w_go 4000 ?_
  simp [cc89]
  have hk := hl (k, _) (List.mem_cons_self ..)
  simp only at hk
  have k1 := ne_own hk.1; have k2 := ne_own' hk.1; have k3 := ne_own0 hk.1; have k4 := ne_own0' hk.1
  have hj := hl (j, _) (List.mem_cons_of_mem _ (List.mem_cons_self ..))
  simp only at hj
  have j1 := ne_own hj.1; have j2 := ne_own' hj.1; have j3 := ne_own0 hj.1; have j4 := ne_own0' hj.1
  have hkj' := hkj.symm
  (refine w_call hP rfl (he _ hl8 h4 hkj) (by simp [k1, k2, k3, k4, hk.1, id_ne hk.2, id_ne' hk.2, j1, j2, j3, j4, hj.1, id_ne hj.2, id_ne' hj.2, hkj, hkj']) (by simp [k1, k2, k3, k4, hk.1, id_ne hk.2, id_ne' hk.2, j1, j2, j3, j4, hj.1, id_ne hj.2, id_ne' hj.2, hkj, hkj'] <;> rfl) ?_; refine w_go 4000 ?_; simp [k1, k2, k3, k4, hk.1, id_ne hk.2, id_ne' hk.2, j1, j2, j3, j4, hj.1, id_ne hj.2, id_ne' hj.2, hkj, hkj'])
  (refine w_call hP rfl (last_lent j l syn _ (by omega)) (by simp [k1, k2, k3, k4, hk.1, id_ne hk.2, id_ne' hk.2, j1, j2, j3, j4, hj.1, id_ne hj.2, id_ne' hj.2, hkj, hkj']) (by simp [k1, k2, k3, k4, hk.1, id_ne hk.2, id_ne' hk.2, j1, j2, j3, j4, hj.1, id_ne hj.2, id_ne' hj.2, hkj, hkj'] <;> rfl) ?_; refine w_go 4000 ?_; simp [k1, k2, k3, k4, hk.1, id_ne hk.2, id_ne' hk.2, j1, j2, j3, j4, hj.1, id_ne hj.2, id_ne' hj.2, hkj, hkj'])
  have hrn : rnOk [] := by simp [k1, k2, k3, k4, hk.1, id_ne hk.2, id_ne' hk.2, j1, j2, j3, j4, hj.1, id_ne hj.2, id_ne' hj.2, hkj, hkj', id_lt hid, id_own hid, id_own' hid, id_own0 hid, id_own0' hid]
  rw [hR]
  refine rt_end (by simp <;> rfl) [] hrn ⟨?_, ?_, ?_, ?_, ?_, ?_⟩ <;> (try simp [k1, k2, k3, k4, hk.1, id_ne hk.2, id_ne' hk.2, j1, j2, j3, j4, hj.1, id_ne hj.2, id_ne' hj.2, hkj, hkj', id_lt hid, id_own hid, id_own' hid, id_own0 hid, id_own0' hid])
def setL (l : List (List UInt8)) (s : List UInt8) : List (List UInt8) := l.set (l.length - 1) s
def trimS (l : List (List UInt8)) (n : Nat) : List (List UInt8) := setL l ((lastS l).take n)
theorem trim_ok (k j : Nat) (l : List (List UInt8)) (syn : Int) (n : Nat) (id : Nat) (hl8 : l.length ≤ 8) (hn : n ≤ (lastS l).length) (h4 : (lastS l).length ≤ 400) (hkj : k ≠ j) : FnOk Try.prog 92 [.ptr k 0 0, .int .i64 n] [(k, bxK j l.length syn), (j, bxS l)] id (.tup []) [(j, some (bxS (trimS l n)))] := by
  simp only [bxK, bxS]
  refine fn_okc Try.func92 hcc92 (by decide) hcr92 (by simp [Try.ntmps92]) fun E hP hR hl hid => ?_
  simp only [cr92] at hR
  refine w_go 4000 ?_
  simp [cc92]
  have hk := hl (k, _) (List.mem_cons_self ..)
  simp only at hk
  have k1 := ne_own hk.1; have k2 := ne_own' hk.1; have k3 := ne_own0 hk.1; have k4 := ne_own0' hk.1
  have hj := hl (j, _) (List.mem_cons_of_mem _ (List.mem_cons_self ..))
  simp only at hj
  have j1 := ne_own hj.1; have j2 := ne_own' hj.1; have j3 := ne_own0 hj.1; have j4 := ne_own0' hj.1
  have hkj' := hkj.symm
  simp [k1, k2, k3, k4, hk.1, id_ne hk.2, id_ne' hk.2, j1, j2, j3, j4, hj.1, id_ne hj.2, id_ne' hj.2, hkj, hkj']
  have hw : IntKind.i64.wrap ((l.length : Int) - 1) = (l.length : Int) - 1 := wrap64 (by omega)
  refine goc (fun h => ?_) (fun h => ?_)
  · have h' : l ≠ [] := by
      intro h0
      have h := of_decide_eq_true h
      rw [hw, h0] at h
      simp at h
    have hg := lastS_get h'
    have hp := List.length_pos_iff.2 h'
    have hw2 : IntKind.i64.wrap ((l.length : Int) - 1) = ((l.length - 1 : Nat) : Int) := by rw [hw]; omega
    simp [k1, k2, k3, k4, hk.1, id_ne hk.2, id_ne' hk.2, j1, j2, j3, j4, hj.1, id_ne hj.2, id_ne' hj.2, hkj, hkj', hw2, hg]
    refine ⟨by omega, hn, by omega, ?_⟩
    have hrn : rnOk [] := by simp [k1, k2, k3, k4, hk.1, id_ne hk.2, id_ne' hk.2, j1, j2, j3, j4, hj.1, id_ne hj.2, id_ne' hj.2, hkj, hkj', id_lt hid, id_own hid, id_own' hid, id_own0 hid, id_own0' hid]
    rw [hR]
    refine rt_end (by simp <;> rfl) [] hrn ⟨?_, ?_, ?_, ?_, ?_, ?_⟩ <;> (try simp [k1, k2, k3, k4, hk.1, id_ne hk.2, id_ne' hk.2, j1, j2, j3, j4, hj.1, id_ne hj.2, id_ne' hj.2, hkj, hkj', id_lt hid, id_own hid, id_own' hid, id_own0 hid, id_own0' hid])
    all_goals exact renL_pure (by simp [trimS, setL, List.map_set]) (by rw [← List.map_set]; exact pure_strs _)
  · have h := of_decide_eq_false h
    rw [hw] at h
    have h' : l = [] := List.eq_nil_of_length_eq_zero (by omega)
    subst h'
    have hneg0 : IntKind.i64.wrap (-1) = -1 := wrap64 (by omega)
    simp [k1, k2, k3, k4, hk.1, id_ne hk.2, id_ne' hk.2, j1, j2, j3, j4, hj.1, id_ne hj.2, id_ne' hj.2, hkj, hkj', hneg0]
    have hneg : IntKind.i64.wrap (-1) = -1 := wrap64 (by omega)
    have hrn : rnOk [] := by simp [k1, k2, k3, k4, hk.1, id_ne hk.2, id_ne' hk.2, j1, j2, j3, j4, hj.1, id_ne hj.2, id_ne' hj.2, hkj, hkj', trimS, setL, hneg, id_lt hid, id_own hid, id_own' hid, id_own0 hid, id_own0' hid]
    rw [hR]
    refine rt_end (by simp <;> rfl) [] hrn ⟨?_, ?_, ?_, ?_, ?_, ?_⟩ <;> (try simp [k1, k2, k3, k4, hk.1, id_ne hk.2, id_ne' hk.2, j1, j2, j3, j4, hj.1, id_ne hj.2, id_ne' hj.2, hkj, hkj', trimS, setL, hneg, id_lt hid, id_own hid, id_own' hid, id_own0 hid, id_own0' hid])
theorem putA_ok (k j : Nat) (l : List (List UInt8)) (syn : Int) (s : List UInt8) (id : Nat) (hl8 : l.length ≤ 8) (hne : l ≠ []) (hs : (lastS l).length + s.length ≤ 400) (hkj : k ≠ j) : FnOk Try.prog 90 [.ptr k 0 0, .str s] [(k, bxK j l.length syn), (j, bxS l)] id (.bool true) [(j, some (bxS (setL l (lastS l ++ s))))] := by
  simp only [bxK, bxS]
  refine fn_okc Try.func90 hcc90 (by decide) hcr90 (by simp [Try.ntmps90]) fun E hP hR hl hid => ?_
  simp only [cr90] at hR
  refine w_go 4000 ?_
  simp [cc90]
  have hk := hl (k, _) (List.mem_cons_self ..)
  simp only at hk
  have k1 := ne_own hk.1; have k2 := ne_own' hk.1; have k3 := ne_own0 hk.1; have k4 := ne_own0' hk.1
  have hj := hl (j, _) (List.mem_cons_of_mem _ (List.mem_cons_self ..))
  simp only at hj
  have j1 := ne_own hj.1; have j2 := ne_own' hj.1; have j3 := ne_own0 hj.1; have j4 := ne_own0' hj.1
  have hkj' := hkj.symm
  have hg := lastS_get hne
  have hp := List.length_pos_iff.2 hne
  have hw2 : IntKind.i64.wrap ((l.length : Int) - 1) = ((l.length - 1 : Nat) : Int) := by rw [wrap64 (by omega)]; omega
  have hw3 : IntKind.i64.wrap (((lastS l).length : Int) + s.length) = (lastS l).length + s.length := wrap64 (by omega)
  simp [k1, k2, k3, k4, hk.1, id_ne hk.2, id_ne' hk.2, j1, j2, j3, j4, hj.1, id_ne hj.2, id_ne' hj.2, hkj, hkj', hw2, hg, hw3, hp]
  refine ⟨by omega, ?_⟩
  refine goc_true (by simp; omega) ?_
  simp [k1, k2, k3, k4, hk.1, id_ne hk.2, id_ne' hk.2, j1, j2, j3, j4, hj.1, id_ne hj.2, id_ne' hj.2, hkj, hkj', hw2, hg]
  (repeat (refine And.intro (by first | assumption | omega | (simp; omega) | (simp_all; done)) ?_))
  have hrn : rnOk [] := by simp [k1, k2, k3, k4, hk.1, id_ne hk.2, id_ne' hk.2, j1, j2, j3, j4, hj.1, id_ne hj.2, id_ne' hj.2, hkj, hkj', id_lt hid, id_own hid, id_own' hid, id_own0 hid, id_own0' hid]
  rw [hR]
  refine rt_end (by simp <;> rfl) [] hrn ⟨?_, ?_, ?_, ?_, ?_, ?_⟩ <;> (try simp [k1, k2, k3, k4, hk.1, id_ne hk.2, id_ne' hk.2, j1, j2, j3, j4, hj.1, id_ne hj.2, id_ne' hj.2, hkj, hkj', id_lt hid, id_own hid, id_own' hid, id_own0 hid, id_own0' hid])
  all_goals exact renL_pure (by simp [setL, List.map_set]) (by rw [← List.map_set]; exact pure_strs _)
theorem putB_ok (k j : Nat) (l : List (List UInt8)) (syn : Int) (s : List UInt8) (id : Nat) (hl8 : l.length = 8) (hs : ¬ (lastS l).length + s.length ≤ 400) (h4 : (lastS l).length ≤ 400) (hs4 : s.length ≤ 1000) (hkj : k ≠ j) : FnOk Try.prog 90 [.ptr k 0 0, .str s] [(k, bxK j l.length syn), (j, bxS l)] id (.bool false) [] := by
  simp only [bxK, bxS]
  refine fn_okc Try.func90 hcc90 (by decide) hcr90 (by simp [Try.ntmps90]) fun E hP hR hl hid => ?_
  simp only [cr90] at hR
  refine w_go 4000 ?_
  simp [cc90]
  have hk := hl (k, _) (List.mem_cons_self ..)
  simp only at hk
  have k1 := ne_own hk.1; have k2 := ne_own' hk.1; have k3 := ne_own0 hk.1; have k4 := ne_own0' hk.1
  have hj := hl (j, _) (List.mem_cons_of_mem _ (List.mem_cons_self ..))
  simp only at hj
  have j1 := ne_own hj.1; have j2 := ne_own' hj.1; have j3 := ne_own0 hj.1; have j4 := ne_own0' hj.1
  have hkj' := hkj.symm
  have hne : l ≠ [] := by intro h; subst h; simp at hl8
  have hg := lastS_get hne
  have hp := List.length_pos_iff.2 hne
  have hw2 : IntKind.i64.wrap ((l.length : Int) - 1) = ((l.length - 1 : Nat) : Int) := by rw [wrap64 (by omega)]; omega
  have hw3 : IntKind.i64.wrap (((lastS l).length : Int) + s.length) = (lastS l).length + s.length := wrap64 (by omega)
  simp [k1, k2, k3, k4, hk.1, id_ne hk.2, id_ne' hk.2, j1, j2, j3, j4, hj.1, id_ne hj.2, id_ne' hj.2, hkj, hkj', hw2, hg, hw3, hp]
  refine ⟨by omega, ?_⟩
  refine goc_false (by simp; omega) ?_
  simp
  refine goc_true (by simp; omega) ?_
  simp
  have hrn : rnOk [] := by simp [k1, k2, k3, k4, hk.1, id_ne hk.2, id_ne' hk.2, j1, j2, j3, j4, hj.1, id_ne hj.2, id_ne' hj.2, hkj, hkj', id_lt hid, id_own hid, id_own' hid, id_own0 hid, id_own0' hid]
  rw [hR]
  refine rt_end (by simp <;> rfl) [] hrn ⟨?_, ?_, ?_, ?_, ?_, ?_⟩ <;> (try simp [k1, k2, k3, k4, hk.1, id_ne hk.2, id_ne' hk.2, j1, j2, j3, j4, hj.1, id_ne hj.2, id_ne' hj.2, hkj, hkj', id_lt hid, id_own hid, id_own' hid, id_own0 hid, id_own0' hid])
theorem putC_ok (k j : Nat) (l : List (List UInt8)) (syn : Int) (s : List UInt8) (id : Nat) (hl8 : l.length < 8) (hs : l = [] ∨ ¬ (lastS l).length + s.length ≤ 400) (h4 : (lastS l).length ≤ 400) (hs4 : s.length ≤ 1000) (hkj : k ≠ j) : FnOk Try.prog 90 [.ptr k 0 0, .str s] [(k, bxK j l.length syn), (j, bxS l)] id (.bool true) [(k, some (bxK id (l ++ [s]).length 0)), (j, none), (id, some (bxS (l ++ [s])))] := by
  simp only [bxK, bxS]
  refine fn_okc Try.func90 hcc90 (by decide) hcr90 (by simp [Try.ntmps90]) fun E hP hR hl hid => ?_
  simp only [cr90] at hR
  refine w_go 4000 ?_
  simp [cc90]
  have hk := hl (k, _) (List.mem_cons_self ..)
  simp only at hk
  have k1 := ne_own hk.1; have k2 := ne_own' hk.1; have k3 := ne_own0 hk.1; have k4 := ne_own0' hk.1
  have hj := hl (j, _) (List.mem_cons_of_mem _ (List.mem_cons_self ..))
  simp only at hj
  have j1 := ne_own hj.1; have j2 := ne_own' hj.1; have j3 := ne_own0 hj.1; have j4 := ne_own0' hj.1
  have hkj' := hkj.symm
  by_cases hne : l = []
  · subst hne
    simp [k1, k2, k3, k4, hk.1, id_ne hk.2, id_ne' hk.2, j1, j2, j3, j4, hj.1, id_ne hj.2, id_ne' hj.2, hkj, hkj']
    have hrn : rnOk [(id, E.n0 + 152)] := by simp [id_ne hk.2, id_ne' hk.2, id_ne hj.2, id_ne' hj.2, k1, k2, k3, k4, hk.1, id_ne hk.2, id_ne' hk.2, j1, j2, j3, j4, hj.1, id_ne hj.2, id_ne' hj.2, hkj, hkj', id_lt hid, id_own hid, id_own' hid, id_own0 hid, id_own0' hid]
    rw [hR]
    refine rt_end (by simp <;> rfl) [(id, E.n0 + 152)] hrn ⟨?_, ?_, ?_, ?_, ?_, ?_⟩ <;> (try simp [id_ne hk.2, id_ne' hk.2, id_ne hj.2, id_ne' hj.2, k1, k2, k3, k4, hk.1, id_ne hk.2, id_ne' hk.2, j1, j2, j3, j4, hj.1, id_ne hj.2, id_ne' hj.2, hkj, hkj', id_lt hid, id_own hid, id_own' hid, id_own0 hid, id_own0' hid])
  · have hs := hs.resolve_left hne
    have hg := lastS_get hne
    have hp := List.length_pos_iff.2 hne
    have hw2 : IntKind.i64.wrap ((l.length : Int) - 1) = ((l.length - 1 : Nat) : Int) := by rw [wrap64 (by omega)]; omega
    have hw3 : IntKind.i64.wrap (((lastS l).length : Int) + s.length) = (lastS l).length + s.length := wrap64 (by omega)
    simp [k1, k2, k3, k4, hk.1, id_ne hk.2, id_ne' hk.2, j1, j2, j3, j4, hj.1, id_ne hj.2, id_ne' hj.2, hkj, hkj', hw2, hg, hw3, hp]
    refine ⟨by omega, ?_⟩
    refine goc_false (by simp; omega) ?_
    simp
    refine goc_false (by simp; omega) ?_
    simp [k1, k2, k3, k4, hk.1, id_ne hk.2, id_ne' hk.2, j1, j2, j3, j4, hj.1, id_ne hj.2, id_ne' hj.2, hkj, hkj']
    (repeat (refine And.intro (by first | assumption | omega | (simp; omega) | (simp_all; done)) ?_))
    have hrn : rnOk [(id, E.n0 + 152)] := by simp [id_ne hk.2, id_ne' hk.2, id_ne hj.2, id_ne' hj.2, k1, k2, k3, k4, hk.1, id_ne hk.2, id_ne' hk.2, j1, j2, j3, j4, hj.1, id_ne hj.2, id_ne' hj.2, hkj, hkj', id_lt hid, id_own hid, id_own' hid, id_own0 hid, id_own0' hid]
    rw [hR]
    refine rt_end (by simp <;> rfl) [(id, E.n0 + 152)] hrn ⟨?_, ?_, ?_, ?_, ?_, ?_⟩ <;> (try simp [id_ne hk.2, id_ne' hk.2, id_ne hj.2, id_ne' hj.2, k1, k2, k3, k4, hk.1, id_ne hk.2, id_ne' hk.2, j1, j2, j3, j4, hj.1, id_ne hj.2, id_ne' hj.2, hkj, hkj', id_lt hid, id_own hid, id_own' hid, id_own0 hid, id_own0' hid])
    all_goals exact renL_pure rfl (pureL_append (pure_strs l) rfl)
end Go.Am

namespace Go.Am
set_option linter.all false
open Go Go.RowKit Go.Proofs
set_option maxRecDepth 100000
set_option linter.all false

def allB (l : List (List UInt8)) : List Bt := l.flatMap fun s => (cutA s 0).bs
theorem cut_bs (s : List UInt8) : (cutA s 0).bs.length ≤ s.length := by
  have := (last_get s).2.2
  have := (cut_facts s 0 (by omega)).2.2.2.2.2.1
  omega
theorem All_ok (l : List (List UInt8)) (syn : Int) (id : Nat) (hl8 : l.length ≤ 8) (h4 : ∀ s ∈ l, s.length ≤ 400) : FnOk Try.prog 86 [.agg [.sl (l.map AV.str), .int .i64 syn]] [] id (.sl ((allB l).map eBt)) [] := by
  refine fn_okc Try.func86 hcc86 (by decide) hcr86 (by simp [Try.ntmps86]) fun E hP hR hl hid => ?_
  simp only [cr86] at hR
  refine w_go 4000 ?_
  simp [cc86]
  refine w_loop (X := Nat × List Bt) (fun x => ⟨[(3, true, .bsl E.n0 0 x.2.length), (10, true, .sl (l.map AV.str)), (11, true, .int .i64 l.length), (12, true, .int .i64 x.1)], [(E.n0, some ⟨x.2.map eBt, .agg [.int .i64 0, .nils], false, false⟩)], 1⟩)
    (fun x => x.1 ≤ l.length ∧ x.2 ++ allB (l.drop x.1) = allB l ∧ x.2.length ≤ 400 * x.1) (fun x => l.length - x.1) (0, []) ?_ ⟨by simp, rfl, by simp⟩ ?_
  · refine Conv.trans (Conv.voidSlot 3 (x := .nils) (y := .bsl (E.n0 + 28) 0 0) (by simp) .nils (.agg [.int .i64 0, .nils])) ?_
    have hrn : rnOk [(E.n0, E.n0 + 28)] := by simp
    refine Conv.sub [(E.n0, E.n0 + 28)] hrn ?_ ?_ ?_ ?_ ?_ <;> (try simp)
  · rintro ⟨i, bs⟩ ⟨hi, hf, hbl⟩ p hp
    simp only at hi hf hbl hp
    refine w_go 4000 ?_
    simp
    refine goc (fun h => ?_) (fun h => ?_)
    · have h := of_decide_eq_true h
      obtain ⟨x, hx, hd⟩ := drop_cons h
      have hi1 : IntKind.i64.wrap ((i : Int) + 1) = ((i + 1 : Nat) : Int) := wrap64 (by omega)
      have hx4 := h4 x (List.mem_of_getElem? hx)
      have hcb := cut_bs x
      simp [hx]
      refine ⟨h, ?_⟩
      (refine w_call hP rfl (cut_ok x _ hx4) (by simp) (by simp <;> rfl) ?_; refine w_go 4000 ?_; simp)
      refine ⟨⟨fun a _ => ⟨rfl, fun y hy => ?_⟩, by omega, by omega⟩, hp _ (i + 1, bs ++ (cutA x 0).bs) ⟨h, ?_, by simp; omega⟩ (by simp only []; omega) ?_⟩
      · have hy : y ∈ (eBt a).cells := hy
        simp only [eBt, AV.cells, List.mem_cons, List.not_mem_nil, or_false] at hy
        rcases hy with rfl | rfl <;> rfl
      · rw [← hf, hd]; simp [allB]
      · have hrn : rnOk [(E.n0, E.n0 + 61)] := by simp[hi1]
        refine Conv.sub [(E.n0, E.n0 + 61)] hrn ?_ ?_ ?_ ?_ ?_ <;> (try simp[hi1])
        exact renL_pure rfl (pureL_append (pure_bts _) (pure_bts _))
    · have h := of_decide_eq_false h
      simp
      rw [List.drop_of_length_le (by omega)] at hf
      have hf : bs = allB l := by simpa [allB] using hf
      rw [← hf] at hR
      have hrn : rnOk [] := by simp [id_lt hid, id_own hid, id_own' hid, id_own0 hid, id_own0' hid]
      rw [hR]
      refine rt_endR (by simp <;> rfl) (by simp [id_lt hid, id_own hid, id_own' hid, id_own0 hid, id_own0' hid] <;> exact ⟨rfl, rfl⟩) [] hrn ⟨?_, ?_, ?_, ?_, ?_, ?_⟩ <;> (try simp [id_lt hid, id_own hid, id_own' hid, id_own0 hid, id_own0' hid])
@[simp] theorem setL_len (l : List (List UInt8)) (s : List UInt8) : (setL l s).length = l.length := by simp [setL]
@[simp] theorem trimS_len (l : List (List UInt8)) (n : Nat) : (trimS l n).length = l.length := by simp [trimS]
@[simp] theorem take_setL (l : List (List UInt8)) (s : List UInt8) (f : List UInt8 → AV) : List.take l.length ((setL l s).map f) = (setL l s).map f := List.take_of_length_le (by simp)
@[simp] theorem take_trimS (l : List (List UInt8)) (n : Nat) (f : List UInt8 → AV) : List.take l.length ((trimS l n).map f) = (trimS l n).map f := List.take_of_length_le (by simp)
structure WhS where
  seg : List (List UInt8)
  syn : Nat
def whole (l : List (List UInt8)) : WhS := ⟨trimS l (cutA (lastS l) 0).last, (cutA (lastS l) 0).last⟩
theorem Whole_ok (l : List (List UInt8)) (syn : Int) (id : Nat) (hl8 : l.length ≤ 8) (h4 : (lastS l).length ≤ 400) : FnOk Try.prog 87 [.agg [.sl (l.map AV.str), .int .i64 syn]] [] id (.agg [.sl ((whole l).seg.map AV.str), .int .i64 (whole l).syn]) [] := by
  have hown := own_ok l syn
  have hend := fun k j id (h : k ≠ j) => end_ok k j l syn id hl8 h4 h
  have htrim := fun k j id (h : k ≠ j) => trim_ok k j l (cutA (lastS l) 0).last (cutA (lastS l) 0).last id hl8 (cut_facts (lastS l) 0 (by omega)).2.1 h4 h
  simp only [bxK, bxS] at hown hend htrim
  refine fn_okc Try.func87 hcc87 (by decide) hcr87 (by simp [Try.ntmps87]) fun E hP hR hl hid => ?_
  simp only [cr87] at hR
  refine w_go 4000 ?_
  simp [cc87]
  (refine w_call hP rfl (hown _ (by omega)) (by simp) (by simp <;> rfl) ?_; refine w_go 4000 ?_; simp)
  simp [Nat.add_assoc]
  (refine w_call hP rfl (hend (E.n0 + 12) (E.n0 + 13) _ (by simp)) (by simp [Nat.add_assoc]) (by simp [Nat.add_assoc] <;> rfl) ?_; refine w_go 4000 ?_; simp [Nat.add_assoc])
  (refine w_call hP rfl (htrim (E.n0 + 12) (E.n0 + 13) _ (by simp)) (by simp [Nat.add_assoc]) (by simp [Nat.add_assoc] <;> rfl) ?_; refine w_go 4000 ?_; simp [Nat.add_assoc])
  have hrn : rnOk [] := by simp [whole, id_lt hid, id_own hid, id_own' hid, id_own0 hid, id_own0' hid]
  rw [hR]
  refine rt_endR (by simp <;> rfl) (by simp [whole, id_lt hid, id_own hid, id_own' hid, id_own0 hid, id_own0' hid] <;> exact ⟨rfl, rfl⟩) [] hrn ⟨?_, ?_, ?_, ?_, ?_, ?_⟩ <;> (try simp [whole, id_lt hid, id_own hid, id_own' hid, id_own0 hid, id_own0' hid])
theorem fCheckD_sz {d : Dk} (h : fCheckD d ≠ 2) : d.seg.length ≤ 8 ∧ ∀ s ∈ d.seg, s.length ≤ 400 := by
  unfold fCheckD at h
  split at h
  · exact (h rfl).elim
  · rename_i h1
    simp at h1
    exact ⟨h1.1, h1.2⟩
theorem lastS_mem {l : List (List UInt8)} (h : l ≠ []) : lastS l ∈ l := List.mem_of_getElem? (lastS_get h)
theorem lastS_le {l : List (List UInt8)} (h : ∀ s ∈ l, s.length ≤ 400) : (lastS l).length ≤ 400 := by
  by_cases hl : l = []
  · subst hl; simp [lastS]
  · exact h _ (lastS_mem hl)
theorem Open_ok (d : Dk) (id : Nat) : FnOk Try.prog 31 [eDk d] [] id (.tup [.sl ((if fCheckD d = 0 then allB d.seg else []).map eBt), eDk (if fCheckD d = 0 then ⟨(whole d.seg).seg, (whole d.seg).syn⟩ else ⟨[], 0⟩), .int .i64 (fCheckD d)]) [] := by
  have hck := dCheck_ok d
  simp only [eDk] at hck ⊢
  refine fn_okc Try.func31 hcc31 (by decide) hcr31 (by simp [Try.ntmps31]) fun E hP hR hl hid => ?_
  simp only [cr31] at hR
  refine w_go 4000 ?_
  simp [cc31]
  (refine w_call hP rfl (hck _) (by simp) (by simp <;> rfl) ?_; refine w_go 4000 ?_; simp)
  refine goc (fun h => ?_) (fun h => ?_)
  · simp
    have h' : ¬ fCheckD d = 0 := by simpa using h
    simp only [if_neg h'] at hR
    have hrn : rnOk [] := by simp [id_lt hid, id_own hid, id_own' hid, id_own0 hid, id_own0' hid]
    rw [hR]
    refine rt_end (by simp <;> rfl) [] hrn ⟨?_, ?_, ?_, ?_, ?_, ?_⟩ <;> (try simp [id_lt hid, id_own hid, id_own' hid, id_own0 hid, id_own0' hid])
  · simp
    have h' : fCheckD d = 0 := by simpa using h
    simp only [if_pos h'] at hR
    obtain ⟨h8, h4⟩ := fCheckD_sz (by rw [h']; decide)
    (refine w_call hP rfl (All_ok d.seg d.syn _ h8 h4) (by simp) (by simp <;> rfl) ?_; refine w_go 4000 ?_; simp)
    (refine w_call hP rfl (Whole_ok d.seg d.syn _ h8 (lastS_le h4)) (by simp) (by simp <;> rfl) ?_; refine w_go 4000 ?_; simp)
    have hrn : rnOk [] := by simp [h', id_lt hid, id_own hid, id_own' hid, id_own0 hid, id_own0' hid]
    rw [hR]
    refine rt_end (by simp <;> rfl) [] hrn ⟨?_, ?_, ?_, ?_, ?_, ?_⟩ <;> (try simp [h', id_lt hid, id_own hid, id_own' hid, id_own0 hid, id_own0' hid])
structure ApS where
  d : Dk
  e : Int
def fAppend (d : Dk) (b : Bt) : ApS :=
  if fCheckD d ≠ 0 then ⟨⟨[], 0⟩, fCheckD d⟩
  else if fCheckB b ≠ 0 then ⟨⟨[], 0⟩, fCheckB b⟩
  else if (cutA (lastS d.seg) 0).last < (lastS d.seg).length then ⟨⟨[], 0⟩, 4⟩
  else if d.seg ≠ [] ∧ (lastS d.seg).length + (fBytes b).length ≤ 400 then ⟨⟨setL d.seg (lastS d.seg ++ fBytes b), d.syn⟩, 0⟩
  else if d.seg.length = 8 then ⟨⟨[], 0⟩, 2⟩
  else ⟨⟨d.seg ++ [fBytes b], 0⟩, 0⟩
set_option maxHeartbeats 1000000 in
theorem Append_ok (d : Dk) (b : Bt) (id : Nat) : FnOk Try.prog 32 [eDk d, eBt b] [] id (.tup [eDk (fAppend d b).d, .int .i64 (fAppend d b).e]) [] := by
  have hck := dCheck_ok d
  have hbk := bCheck_ok b
  have hby := fun id (h : fCheckB b = 0) => Bytes_ok b id (fCheckB_zero h).2.2.2 (fCheckB_zero h).2.2.1
  have hown := own_ok d.seg d.syn
  have htorn := fun k j id (h8 : d.seg.length ≤ 8) (h4 : (lastS d.seg).length ≤ 400) (h : k ≠ j) => torn_ok k j d.seg d.syn id h8 h4 h
  have hpa := fun k j id (h1) (h2) (h3) (h : k ≠ j) => putA_ok k j d.seg d.syn (fBytes b) id h1 h2 h3 h
  have hpb := fun k j id (h1) (h2) (h3) (h4) (h : k ≠ j) => putB_ok k j d.seg d.syn (fBytes b) id h1 h2 h3 h4 h
  have hpc := fun k j id (h1) (h2) (h3) (h4) (h : k ≠ j) => putC_ok k j d.seg d.syn (fBytes b) id h1 h2 h3 h4 h
  simp only [eDk, eBt, bxK, bxS] at *
  refine fn_okc Try.func32 hcc32 (by decide) hcr32 (by simp [Try.ntmps32]) fun E hP hR hl hid => ?_
  simp only [cr32] at hR
  refine w_go 4000 ?_
  simp [cc32]
  (refine w_call hP rfl (hck _) (by simp) (by simp <;> rfl) ?_; refine w_go 4000 ?_; simp)
  refine goc (fun h => ?_) (fun h => ?_)
  · have h' : fCheckD d = 0 := by simpa using h
    obtain ⟨h8, h4⟩ := fCheckD_sz (by rw [h']; decide)
    have hl4 := lastS_le h4
    simp
    (refine w_call hP rfl (hbk _) (by simp) (by simp <;> rfl) ?_; refine w_go 4000 ?_; simp)
    refine goc (fun h1 => ?_) (fun h1 => ?_)
    · simp
      have h1' : fCheckB b ≠ 0 := by simpa using h1
      have hv : fAppend d b = ⟨⟨[], 0⟩, fCheckB b⟩ := by unfold fAppend; rw [if_neg (by simp [h']), if_pos h1']
      rw [hv] at hR
      have hrn : rnOk [] := by simp [id_lt hid, id_own hid, id_own' hid, id_own0 hid, id_own0' hid]
      rw [hR]
      refine rt_end (by simp <;> rfl) [] hrn ⟨?_, ?_, ?_, ?_, ?_, ?_⟩ <;> (try simp [id_lt hid, id_own hid, id_own' hid, id_own0 hid, id_own0' hid])
    · simp
      have h1' : fCheckB b = 0 := by simpa using h1
      have hbl : (fBytes b).length ≤ 400 := by have := btBytes_len b h1'; simp [fBytes]; omega
      (refine w_call hP rfl (hown _ (by omega)) (by simp [Nat.add_assoc]) (by simp [Nat.add_assoc] <;> rfl) ?_; refine w_go 4000 ?_; simp [Nat.add_assoc])
      (refine w_call hP rfl (htorn (E.n0 + 60) (E.n0 + 61) _ h8 hl4 (by simp)) (by simp [Nat.add_assoc]) (by simp [Nat.add_assoc] <;> rfl) ?_; refine w_go 4000 ?_; simp [Nat.add_assoc])
      refine goc (fun h2 => ?_) (fun h2 => ?_)
      · simp
        have h2' := of_decide_eq_true h2
        have hv : fAppend d b = ⟨⟨[], 0⟩, 4⟩ := by unfold fAppend; rw [if_neg (by simp [h']), if_neg (by simp [h1']), if_pos h2']
        rw [hv] at hR
        have hrn : rnOk [] := by simp [id_lt hid, id_own hid, id_own' hid, id_own0 hid, id_own0' hid]
        rw [hR]
        refine rt_end (by simp <;> rfl) [] hrn ⟨?_, ?_, ?_, ?_, ?_, ?_⟩ <;> (try simp [id_lt hid, id_own hid, id_own' hid, id_own0 hid, id_own0' hid])
      · simp
        have h2' := of_decide_eq_false h2
        (refine w_call hP rfl (hby _ h1') (by simp) (by simp <;> rfl) ?_; refine w_go 4000 ?_; simp)
        by_cases hp : d.seg ≠ [] ∧ (lastS d.seg).length + (fBytes b).length ≤ 400
        · have hv : fAppend d b = ⟨⟨setL d.seg (lastS d.seg ++ fBytes b), d.syn⟩, 0⟩ := by unfold fAppend; rw [if_neg (by simp [h']), if_neg (by simp [h1']), if_neg h2', if_pos hp]
          rw [hv] at hR
          (refine w_call hP rfl (hpa (E.n0 + 60) (E.n0 + 61) _ h8 hp.1 hp.2 (by simp)) (by simp [Nat.add_assoc]) (by simp [Nat.add_assoc] <;> rfl) ?_; refine w_go 4000 ?_; simp [Nat.add_assoc])
          have hrn : rnOk [] := by simp [id_lt hid, id_own hid, id_own' hid, id_own0 hid, id_own0' hid]
          rw [hR]
          refine rt_endR (by simp <;> rfl) (by simp [id_lt hid, id_own hid, id_own' hid, id_own0 hid, id_own0' hid] <;> exact ⟨rfl, rfl⟩) [] hrn ⟨?_, ?_, ?_, ?_, ?_, ?_⟩ <;> (try simp [id_lt hid, id_own hid, id_own' hid, id_own0 hid, id_own0' hid])
        · by_cases h88 : d.seg.length = 8
          · have hv : fAppend d b = ⟨⟨[], 0⟩, 2⟩ := by unfold fAppend; rw [if_neg (by simp [h']), if_neg (by simp [h1']), if_neg h2', if_neg hp, if_pos h88]
            rw [hv] at hR
            have hne : d.seg ≠ [] := by intro h0; rw [h0] at h88; simp at h88
            (refine w_call hP rfl (hpb (E.n0 + 60) (E.n0 + 61) _ h88 (fun h0 => hp ⟨hne, h0⟩) hl4 (by omega) (by simp)) (by simp [Nat.add_assoc]) (by simp [Nat.add_assoc] <;> rfl) ?_; refine w_go 4000 ?_; simp [Nat.add_assoc])
            have hrn : rnOk [] := by simp [id_lt hid, id_own hid, id_own' hid, id_own0 hid, id_own0' hid]
            rw [hR]
            refine rt_end (by simp <;> rfl) [] hrn ⟨?_, ?_, ?_, ?_, ?_, ?_⟩ <;> (try simp [id_lt hid, id_own hid, id_own' hid, id_own0 hid, id_own0' hid])
          · have hv : fAppend d b = ⟨⟨d.seg ++ [fBytes b], 0⟩, 0⟩ := by unfold fAppend; rw [if_neg (by simp [h']), if_neg (by simp [h1']), if_neg h2', if_neg hp, if_neg h88]
            rw [hv] at hR
            have hor : d.seg = [] ∨ ¬ (lastS d.seg).length + (fBytes b).length ≤ 400 := by
              by_cases hne : d.seg = []
              · exact .inl hne
              · exact .inr fun h0 => hp ⟨hne, h0⟩
            (refine w_call hP rfl (hpc (E.n0 + 60) (E.n0 + 61) _ (by omega) hor hl4 (by omega) (by simp)) (by simp [Nat.add_assoc]) (by simp [Nat.add_assoc] <;> rfl) ?_; refine w_go 4000 ?_; simp [Nat.add_assoc])
            have hrn : rnOk [] := by simp [id_lt hid, id_own hid, id_own' hid, id_own0 hid, id_own0' hid]
            rw [hR]
            refine rt_endR (by simp <;> rfl) (by simp [id_lt hid, id_own hid, id_own' hid, id_own0 hid, id_own0' hid] <;> exact ⟨rfl, rfl⟩) [] hrn ⟨?_, ?_, ?_, ?_, ?_, ?_⟩ <;> (try simp [id_lt hid, id_own hid, id_own' hid, id_own0 hid, id_own0' hid])
            exact ⟨List.take_of_length_le (by simp), by rw [List.take_of_length_le (by simp)]; exact namesL_pure _ (pureL_append (pure_strs _) rfl)⟩
  · have h' : ¬ fCheckD d = 0 := by simpa using h
    simp
    refine goc_true (by simpa using h') ?_
    simp
    have hv : fAppend d b = ⟨⟨[], 0⟩, fCheckD d⟩ := by unfold fAppend; rw [if_pos h']
    rw [hv] at hR
    have hrn : rnOk [] := by simp [id_lt hid, id_own hid, id_own' hid, id_own0 hid, id_own0' hid]
    rw [hR]
    refine rt_end (by simp <;> rfl) [] hrn ⟨?_, ?_, ?_, ?_, ?_, ?_⟩ <;> (try simp [id_lt hid, id_own hid, id_own' hid, id_own0 hid, id_own0' hid])

def fSync (d : Dk) : ApS :=
  if fCheckD d ≠ 0 then ⟨⟨[], 0⟩, fCheckD d⟩
  else if (cutA (lastS d.seg) 0).last < (lastS d.seg).length then ⟨⟨[], 0⟩, 4⟩
  else ⟨⟨d.seg, (lastS d.seg).length⟩, 0⟩
set_option maxHeartbeats 1000000 in
theorem Sync_ok (d : Dk) (id : Nat) : FnOk Try.prog 33 [eDk d] [] id (.tup [eDk (fSync d).d, .int .i64 (fSync d).e]) [] := by
  have hck := dCheck_ok d
  have hown := own_ok d.seg d.syn
  have htorn := fun k j id (h8 : d.seg.length ≤ 8) (h4 : (lastS d.seg).length ≤ 400) (h : k ≠ j) => torn_ok k j d.seg d.syn id h8 h4 h
  have hla := last_ok d.seg d.syn
  simp only [eDk, bxK, bxS] at *
  refine fn_okc Try.func33 hcc33 (by decide) hcr33 (by simp [Try.ntmps33]) fun E hP hR hl hid => ?_
  simp only [cr33] at hR
  refine w_go 4000 ?_
  simp [cc33]
  (refine w_call hP rfl (hck _) (by simp) (by simp <;> rfl) ?_; refine w_go 4000 ?_; simp)
  refine goc (fun h => ?_) (fun h => ?_)
  · have h' : ¬ fCheckD d = 0 := by simpa using h
    simp
    have hv : fSync d = ⟨⟨[], 0⟩, fCheckD d⟩ := by unfold fSync; rw [if_pos h']
    rw [hv] at hR
    have hrn : rnOk [] := by simp [id_lt hid, id_own hid, id_own' hid, id_own0 hid, id_own0' hid]
    rw [hR]
    refine rt_end (by simp <;> rfl) [] hrn ⟨?_, ?_, ?_, ?_, ?_, ?_⟩ <;> (try simp [id_lt hid, id_own hid, id_own' hid, id_own0 hid, id_own0' hid])
  · have h' : fCheckD d = 0 := by simpa using h
    obtain ⟨h8, h4⟩ := fCheckD_sz (by rw [h']; decide)
    have hl4 := lastS_le h4
    simp
    (refine w_call hP rfl (hown _ (by omega)) (by simp [Nat.add_assoc]) (by simp [Nat.add_assoc] <;> rfl) ?_; refine w_go 4000 ?_; simp [Nat.add_assoc])
    (refine w_call hP rfl (htorn (E.n0 + 36) (E.n0 + 37) _ h8 hl4 (by simp)) (by simp [Nat.add_assoc]) (by simp [Nat.add_assoc] <;> rfl) ?_; refine w_go 4000 ?_; simp [Nat.add_assoc])
    refine goc (fun h2 => ?_) (fun h2 => ?_)
    · simp
      have h2' := of_decide_eq_true h2
      have hv : fSync d = ⟨⟨[], 0⟩, 4⟩ := by unfold fSync; rw [if_neg (by simp [h']), if_pos h2']
      rw [hv] at hR
      have hrn : rnOk [] := by simp [id_lt hid, id_own hid, id_own' hid, id_own0 hid, id_own0' hid]
      rw [hR]
      refine rt_end (by simp <;> rfl) [] hrn ⟨?_, ?_, ?_, ?_, ?_, ?_⟩ <;> (try simp [id_lt hid, id_own hid, id_own' hid, id_own0 hid, id_own0' hid])
    · simp
      have h2' := of_decide_eq_false h2
      have hv : fSync d = ⟨⟨d.seg, (lastS d.seg).length⟩, 0⟩ := by unfold fSync; rw [if_neg (by simp [h']), if_neg h2']
      rw [hv] at hR
      (refine w_call hP rfl (hla _ (by omega)) (by simp [Nat.add_assoc]) (by simp [Nat.add_assoc] <;> rfl) ?_; refine w_go 4000 ?_; simp [Nat.add_assoc])
      have hrn : rnOk [] := by simp [id_lt hid, id_own hid, id_own' hid, id_own0 hid, id_own0' hid]
      rw [hR]
      refine rt_endR (by simp <;> rfl) (by simp [id_lt hid, id_own hid, id_own' hid, id_own0 hid, id_own0' hid] <;> exact ⟨rfl, rfl⟩) [] hrn ⟨?_, ?_, ?_, ?_, ?_, ?_⟩ <;> (try simp [id_lt hid, id_own hid, id_own' hid, id_own0 hid, id_own0' hid])
def fCrash (d : Dk) (keep : Int) : ApS :=
  if fCheckD d ≠ 0 then ⟨⟨[], 0⟩, fCheckD d⟩
  else if keep < 0 then ⟨⟨[], 0⟩, 3⟩
  else ⟨⟨trimS d.seg (d.syn + min keep ((lastS d.seg).length - d.syn)).toNat, d.syn⟩, 0⟩
set_option maxHeartbeats 1000000 in
theorem Crash_ok (d : Dk) (keep : Int) (id : Nat) (hsy : fCheckD d = 0 → 0 ≤ d.syn ∧ d.syn ≤ (lastS d.seg).length) : FnOk Try.prog 34 [eDk d, .int .i64 keep] [] id (.tup [eDk (fCrash d keep).d, .int .i64 (fCrash d keep).e]) [] := by
  have hck := dCheck_ok d
  have hown := own_ok d.seg d.syn
  have hla := last_ok d.seg d.syn
  have htrim := fun k j n id (h8 : d.seg.length ≤ 8) (hn : n ≤ (lastS d.seg).length) (h4 : (lastS d.seg).length ≤ 400) (h : k ≠ j) => trim_ok k j d.seg d.syn n id h8 hn h4 h
  simp only [eDk, bxK, bxS] at *
  refine fn_okc Try.func34 hcc34 (by decide) hcr34 (by simp [Try.ntmps34]) fun E hP hR hl hid => ?_
  simp only [cr34] at hR
  refine w_go 4000 ?_
  simp [cc34]
  (refine w_call hP rfl (hck _) (by simp) (by simp <;> rfl) ?_; refine w_go 4000 ?_; simp)
  refine goc (fun h => ?_) (fun h => ?_)
  · have h' : fCheckD d = 0 ∧ keep < 0 := by simpa using h
    simp
    have hv : fCrash d keep = ⟨⟨[], 0⟩, 3⟩ := by unfold fCrash; rw [if_neg (by simp [h'.1]), if_pos h'.2]
    rw [hv] at hR
    have hrn : rnOk [] := by simp [id_lt hid, id_own hid, id_own' hid, id_own0 hid, id_own0' hid]
    rw [hR]
    refine rt_end (by simp <;> rfl) [] hrn ⟨?_, ?_, ?_, ?_, ?_, ?_⟩ <;> (try simp [id_lt hid, id_own hid, id_own' hid, id_own0 hid, id_own0' hid])
  · simp
    refine goc (fun h1 => ?_) (fun h1 => ?_)
    · simp
      have h1' : ¬ fCheckD d = 0 := by simpa using h1
      have hv : fCrash d keep = ⟨⟨[], 0⟩, fCheckD d⟩ := by unfold fCrash; rw [if_pos h1']
      rw [hv] at hR
      have hrn : rnOk [] := by simp [id_lt hid, id_own hid, id_own' hid, id_own0 hid, id_own0' hid]
      rw [hR]
      refine rt_end (by simp <;> rfl) [] hrn ⟨?_, ?_, ?_, ?_, ?_, ?_⟩ <;> (try simp [id_lt hid, id_own hid, id_own' hid, id_own0 hid, id_own0' hid])
    · simp
      have h1' : fCheckD d = 0 := by simpa using h1
      have hk : ¬ keep < 0 := by simpa [h1'] using h
      obtain ⟨h8, h4⟩ := fCheckD_sz (by rw [h1']; decide)
      have hl4 := lastS_le h4
      obtain ⟨hs0, hs1⟩ := hsy h1'
      have hv : fCrash d keep = ⟨⟨trimS d.seg (d.syn + min keep ((lastS d.seg).length - d.syn)).toNat, d.syn⟩, 0⟩ := by unfold fCrash; rw [if_neg (by simp [h1']), if_neg hk]
      rw [hv] at hR
      have hm : 0 ≤ min keep ((lastS d.seg).length - d.syn) ∧ min keep ((lastS d.seg).length - d.syn) ≤ (lastS d.seg).length - d.syn := by omega
      have hw1 : IntKind.i64.wrap (((lastS d.seg).length : Int) - d.syn) = (lastS d.seg).length - d.syn := wrap64 (by omega)
      have hw2 : IntKind.i64.wrap (d.syn + min keep ((lastS d.seg).length - d.syn)) = (((d.syn + min keep ((lastS d.seg).length - d.syn)).toNat : Nat) : Int) := by rw [wrap64 (by omega)]; omega
      have hN : (d.syn + min keep ((lastS d.seg).length - d.syn)).toNat ≤ (lastS d.seg).length := by omega
      generalize (d.syn + min keep ((lastS d.seg).length - d.syn)).toNat = N at *
      (refine w_call hP rfl (hown _ (by omega)) (by simp [Nat.add_assoc]) (by simp [Nat.add_assoc] <;> rfl) ?_; refine w_go 4000 ?_; simp [Nat.add_assoc])
      (refine w_call hP rfl (hla _ (by omega)) (by simp [hw1, hw2, Nat.add_assoc]) (by simp [hw1, hw2, Nat.add_assoc] <;> rfl) ?_; refine w_go 4000 ?_; simp [hw1, hw2, Nat.add_assoc])
      (refine w_call hP rfl (htrim (E.n0 + 60) (E.n0 + 61) N _ h8 hN hl4 (by simp)) (by simp [hw1, hw2, Nat.add_assoc]) (by simp [hw1, hw2, Nat.add_assoc] <;> rfl) ?_; refine w_go 4000 ?_; simp [hw1, hw2, Nat.add_assoc])
      have hrn : rnOk [] := by simp [id_lt hid, id_own hid, id_own' hid, id_own0 hid, id_own0' hid]
      rw [hR]
      refine rt_endR (by simp <;> rfl) (by simp [id_lt hid, id_own hid, id_own' hid, id_own0 hid, id_own0' hid] <;> exact ⟨rfl, rfl⟩) [] hrn ⟨?_, ?_, ?_, ?_, ?_, ?_⟩ <;> (try simp [id_lt hid, id_own hid, id_own' hid, id_own0 hid, id_own0' hid])

theorem lastS_cons (s : List UInt8) (r : List (List UInt8)) : lastS (s :: r) = if r = [] then s else lastS r := by
  cases r with
  | nil => rfl
  | cons a r => simp [lastS, List.getLast?_cons_cons]
theorem fSegs_ok : ∀ (l : List (List UInt8)) (e0 : List Nat), (fSegs l e0).e = 0 → (∀ s ∈ l, (cutA s 0).e = 5) ∧ (fSegs l e0).ends = (if l = [] then e0 else (cutA (lastS l) 0).ends) ∧ (∀ (i : Nat) s, i + 1 < l.length → l[i]? = some s → (cutA s 0).last = s.length)
  | [], e0, _ => ⟨by simp, rfl, by simp⟩
  | s :: r, e0, h => by
    simp only [fSegs] at h ⊢
    split at h
    · exact ((cut_facts s 0 (by omega)).2.2.2.2.1 h).elim
    · rename_i h1
      rw [if_neg h1]
      split at h
      · simp at h
      · rename_i h2
        rw [if_neg h2]
        obtain ⟨i1, i2, i3⟩ := fSegs_ok r _ h
        have h5 : (cutA s 0).e = 5 := Classical.byContradiction h1
        refine ⟨fun x hx => ?_, ?_, fun i x hi hx => ?_⟩
        · rcases List.mem_cons.1 hx with rfl | hx
          · exact h5
          · exact i1 x hx
        · rw [i2, lastS_cons]
          simp only [reduceCtorEq, if_false]
          split <;> rfl
        · cases i with
          | zero =>
            simp at hx
            subst hx
            have hr : r ≠ [] := by intro h0; subst h0; simp at hi
            have := (cut_facts s 0 (by omega)).2.1
            have : ¬ (cutA s 0).last < s.length := fun h0 => h2 ⟨hr, h0⟩
            omega
          | succ i => exact i3 i x (by simpa using hi) (by simpa using hx)
theorem cut_nil : cutA [] 0 = ⟨[], [0], 0, 5⟩ := by
  rw [cutA_stop (by decide)]
  have : (fDecode (List.drop 0 [])).e = 5 := by decide
  rw [this]
theorem ends_last (l : List (List UInt8)) (h : (fSegs l [0]).e = 0) : (fSegs l [0]).ends = (cutA (lastS l) 0).ends := by
  rw [(fSegs_ok l [0] h).2.1]
  split
  · rename_i h0; subst h0
    rw [show lastS [] = [] from rfl, cut_nil]
  · rfl
theorem fCheckD_zero {d : Dk} (h : fCheckD d = 0) : (fSegs d.seg [0]).e = 0 ∧ 0 ≤ d.syn ∧ d.syn ≤ (lastS d.seg).length ∧ d.syn.toNat ∈ (cutA (lastS d.seg) 0).ends := by
  unfold fCheckD at h
  split at h
  · simp at h
  · split at h
    · rename_i h1; exact (h1 h).elim
    · rename_i h1
      have h1 : (fSegs d.seg [0]).e = 0 := Classical.byContradiction h1
      split at h
      · rename_i h2
        rw [ends_last _ h1] at h2
        simp only [List.any_eq_true, beq_iff_eq] at h2
        obtain ⟨x, hx, hs⟩ := h2
        have hf := cut_facts (lastS d.seg) 0 (by omega)
        have := hf.2.2.2.1 x hx
        refine ⟨h1, by omega, by omega, ?_⟩
        rw [hs, Int.toNat_natCast]; exact hx
      · simp at h
end Go.Am

namespace Go.Am
set_option linter.all false
open Go Go.RowKit Go.Proofs
set_option maxRecDepth 100000
set_option linter.all false

structure SgX where
  a : Nat
  bs : List Bt
theorem SegmentOf_ok (s : List UInt8) (id : Nat) (hs : s.length ≤ 400) : FnOk Try.prog 93 [.str s] [] id (.tup [.sl ((cutA s 0).bs.map eBt), .int .i64 ((cutA s 0).last : Int), .int .i64 (cutA s 0).e]) [] := by
  refine fn_okc Try.func93 hcc93 (by decide) hcr93 (by simp [Try.ntmps93]) fun E hP hR hl hid => ?_
  simp only [cr93] at hR
  refine w_go 4000 ?_
  simp [cc93]
  refine w_loop (X := SgX) (fun x => ⟨[(0, true, .str s), (5, true, .bsl E.n0 0 x.bs.length), (6, true, .int .i64 x.a)],
      [(E.n0, some ⟨x.bs.map eBt, .agg [.int .i64 0, .nils], false, false⟩)], 1⟩)
    (fun x => x.a ≤ s.length ∧ x.bs.length ≤ x.a ∧ x.bs ++ (cutA s x.a).bs = (cutA s 0).bs ∧ (cutA s x.a).last = (cutA s 0).last ∧ (cutA s x.a).e = (cutA s 0).e) (fun x => s.length - x.a) ⟨0, []⟩ ?_ ⟨by simp, by simp, rfl, rfl, rfl⟩ ?_
  · refine Conv.trans (Conv.voidSlot 5 (x := .nils) (y := .bsl (E.n0 + 20) 0 0) (by simp) .nils (.agg [.int .i64 0, .nils])) ?_
    have hrn : rnOk [(E.n0, E.n0 + 20)] := by simp
    refine Conv.sub [(E.n0, E.n0 + 20)] hrn ?_ ?_ ?_ ?_ ?_ <;> (try simp)
  · rintro ⟨a, bs⟩ ⟨ha, hb, hf1, hf2, hf3⟩ p hp
    simp only at ha hb hf1 hf2 hf3 hp
    have hD := BatchOf_ok (s.drop a)
    simp only [eBt] at hD
    refine w_go 4000 ?_
    simp
    refine ⟨ha, ?_⟩
    (refine w_call hP rfl (hD _ (by simp; omega)) (by simp) (by simp <;> rfl) ?_; refine w_go 4000 ?_; simp)
    refine goc (fun h => ?_) (fun h => ?_)
    · simp
      have h' : ¬ (fDecode (s.drop a)).e = 0 := by simpa using h
      rw [cutA_stop h'] at hf1 hf2 hf3
      simp only [List.append_nil] at hf1 hf2 hf3
      rw [← hf1, ← hf2, ← hf3] at hR
      have hrn : rnOk [] := by simp [id_lt hid, id_own hid, id_own' hid, id_own0 hid, id_own0' hid]
      rw [hR]
      refine rt_endR (by simp <;> rfl) (by simp [id_lt hid, id_own hid, id_own' hid, id_own0 hid, id_own0' hid] <;> exact ⟨rfl, rfl⟩) [] hrn ⟨?_, ?_, ?_, ?_, ?_, ?_⟩ <;> (try simp [id_lt hid, id_own hid, id_own' hid, id_own0 hid, id_own0' hid])
    · simp
      have h' : (fDecode (s.drop a)).e = 0 := by simpa using h
      have hadv := decode_adv h'
      simp only [List.length_drop] at hadv
      obtain ⟨n, hn⟩ : ∃ n : Nat, (fDecode (s.drop a)).n = n := ⟨_, hadv.2.2.1⟩
      rw [hn] at hadv
      simp only [Int.toNat_natCast] at hadv
      have hw : IntKind.i64.wrap ((a : Int) + n) = ((a + n : Nat) : Int) := wrap64 (by omega)
      rw [cutA_ok h', hn] at hf1 hf2 hf3
      simp only [Int.toNat_natCast] at hf1 hf2 hf3
      simp [hn, hw]
      refine ⟨⟨by omega, by omega⟩, hp _ ⟨a + n, bs ++ [(fDecode (s.drop a)).b]⟩ ⟨(by first | omega | (simp; omega)), (by simp; omega), by simpa using hf1, hf2, hf3⟩ (by first | omega | (simp; omega)) ?_⟩
      have hrn : rnOk [(E.n0, E.n0 + 69)] := by simp
      refine Conv.sub [(E.n0, E.n0 + 69)] hrn ?_ ?_ ?_ ?_ ?_ <;> (try simp)
      all_goals exact renL_pure (by simp [eBt]) (pureL_append (pure_bts bs) (by simp))
theorem LastOf_ok (l : List (List UInt8)) (syn : Int) (id : Nat) (hl8 : l.length ≤ 1000000) : FnOk Try.prog 37 [.agg [.sl (l.map AV.str), .int .i64 syn]] [] id (.str (lastS l)) [] := by
  refine fn_okc Try.func37 hcc37 (by decide) hcr37 (by simp [Try.ntmps37]) fun E hP hR hl hid => ?_
  simp only [cr37] at hR
  refine w_go 4000 ?_
  simp [cc37]
  refine goc (fun h => ?_) (fun h => ?_)
  · simp
    have h' : l = [] := by simpa using h
    subst h'
    rw [hR]; exact rt_end (by simp <;> rfl) [] trivial (end_pure (by simp; rfl) (by simp) (by simp))
  · simp
    have h' : l ≠ [] := by simpa using h
    have hg := lastS_get h'
    have hp := List.length_pos_iff.2 h'
    have hw : IntKind.i64.wrap ((l.length : Int) - 1) = ((l.length - 1 : Nat) : Int) := by rw [wrap64 (by omega)]; omega
    simp [hw, hg]
    refine ⟨by omega, ?_⟩
    rw [hR]; exact rt_end (by simp <;> rfl) [] trivial (end_pure (by simp) (by simp) (by simp))
def sameDk (a b : Dk) : Bool := a.syn == b.syn && sameL (fun x y => x == y) a.seg b.seg
theorem sameDk_iff (a b : Dk) : sameDk a b = true ↔ a = b := by
  obtain ⟨l, n⟩ := a
  obtain ⟨l', n'⟩ := b
  simp [sameDk, sameL_iff (f := fun (x y : List UInt8) => x == y) (by simp), and_comm]
theorem SameDisk_ok (a b : Dk) (id : Nat) (hl : a.seg.length < 9223372036854775807) : FnOk Try.prog 43 [eDk a, eDk b] [] id (.bool (sameDk a b)) [] := by
  simp only [eDk]
  refine fn_okc Try.func43 hcc43 (by decide) hcr43 (by simp [Try.ntmps43]) fun E hP hR hl hid => ?_
  simp only [cr43] at hR
  refine w_go 4000 ?_
  simp [cc43]
  refine goc (fun h => ?_) (fun h => ?_)
  · simp
    have hv : sameDk a b = false := by
      unfold sameDk
      by_cases h1 : a.syn = b.syn
      · have h2 : a.seg.length ≠ b.seg.length := by simp [h1] at h; omega
        rw [sameL_ne h2]; simp
      · simp [h1]
    rw [hv] at hR
    rw [hR]; exact rt_end (by simp <;> rfl) [] trivial (end_pure (by simp) (by simp) (by simp))
  · simp
    have h1 : a.syn = b.syn := by simp at h; exact h.1
    have h2 : a.seg.length = b.seg.length := by simp [h1] at h; omega
    have hv : sameDk a b = sameL (fun x y => x == y) a.seg b.seg := by simp [sameDk, h1]
    rw [hv] at hR
    refine w_loop (X := Nat) (fun i => ⟨[(2, true, .ptr E.n0 0 0), (3, true, .ptr (E.n0 + 1) 0 0), (5, true, .int .i64 i)], [(E.n0, some ⟨[.agg [.sl (a.seg.map AV.str), .int .i64 a.syn]], .agg [.nils, .int .i64 0], false, false⟩), (E.n0 + 1, some ⟨[.agg [.sl (b.seg.map AV.str), .int .i64 b.syn]], .agg [.nils, .int .i64 0], false, false⟩)], 2⟩)
      (fun i => i ≤ a.seg.length ∧ sameL (fun x y => x == y) (a.seg.drop i) (b.seg.drop i) = sameL (fun x y => x == y) a.seg b.seg) (fun i => a.seg.length - i) 0 ?_ ⟨by omega, rfl⟩ ?_
    · have hrn : rnOk [(E.n0, E.n0), (E.n0 + 1, E.n0 + 4)] := by simp
      refine Conv.sub [(E.n0, E.n0), (E.n0 + 1, E.n0 + 4)] hrn ?_ ?_ ?_ ?_ ?_ <;> (try simp)
    · rintro i ⟨hi, hf⟩ p hp
      refine w_go 4000 ?_
      simp
      refine goc (fun h => ?_) (fun h => ?_)
      · have h := of_decide_eq_true h
        obtain ⟨x, hx, hd⟩ := drop_cons h
        obtain ⟨y, hy, hd'⟩ := drop_cons (l := b.seg) (i := i) (by omega)
        rw [hd, hd'] at hf
        simp only [sameL] at hf
        have hi1 : IntKind.i64.wrap ((i : Int) + 1) = ((i + 1 : Nat) : Int) := wrap64 (by omega)
        simp [hx, hy]
        (repeat (refine And.intro (by first | assumption | omega | (simp; omega) | (simp_all; done)) ?_))
        refine goc (fun h3 => ?_) (fun h3 => ?_)
        · simp
          have h3' : (x == y) = false := by simpa using h3
          rw [h3', Bool.false_and] at hf
          rw [hR]; exact rt_end (by simp <;> rfl) [] trivial (end_pure (by simp; exact hf.symm) (by simp) (by simp))
        · simp
          have h3' : (x == y) = true := by simpa using h3
          rw [h3', Bool.true_and] at hf
          refine hp _ (i + 1) ⟨h, hf⟩ (by omega) ?_
          have hrn : rnOk [(E.n0, E.n0), (E.n0 + 1, E.n0 + 1)] := by simp[hi1]
          refine Conv.sub [(E.n0, E.n0), (E.n0 + 1, E.n0 + 1)] hrn ?_ ?_ ?_ ?_ ?_ <;> (try simp[hi1])
      · have h := of_decide_eq_false h
        simp
        rw [List.drop_of_length_le (by omega), List.drop_of_length_le (by omega)] at hf
        rw [hR]; exact rt_end (by simp <;> rfl) [] trivial (end_pure (by simp; exact hf.symm) (by simp) (by simp))
end Go.Am
