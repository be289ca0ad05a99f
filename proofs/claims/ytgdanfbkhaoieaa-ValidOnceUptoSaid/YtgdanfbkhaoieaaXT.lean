/- Parts of the proof: an abstract machine for Go functions, and what functions of the program give back (Bt1, Bt2, Bt3, Bt4, Bt5, Bt6, Bt7). No condition. -/
import Derived.Test.YtgdanfbkhaoieaaCcB
namespace Go.Am
set_option linter.all false
set_option linter.all false
open Go Go.RowKit Go.Proofs
set_option maxRecDepth 100000


theorem swithin_ok (n a b : Int) (id : Nat) : FnOk Try.prog 140 [.int .i64 n, .int .i64 a, .int .i64 b] [] id (.bool (decide (a ≤ n) && decide (n ≤ b))) [] := by
  refine fn_okc Try.func140 hcc140 (by decide) hcr140 (by simp [Try.ntmps140]) fun E hP hR hl hid => ?_
  simp only [cr140] at hR
  refine w_go 4000 ?_
  simp [cc140]
  rw [hR]; exact rt_end (by simp <;> rfl) [] trivial (end_pure (by simp) (by simp) (by simp))
theorem bwithin_ok (n a b : Int) (id : Nat) : FnOk Try.prog 127 [.int .i64 n, .int .i64 a, .int .i64 b] [] id (.bool (decide (a ≤ n) && decide (n ≤ b))) [] := by
  refine fn_okc Try.func127 hcc127 (by decide) hcr127 (by simp [Try.ntmps127]) fun E hP hR hl hid => ?_
  simp only [cr127] at hR
  refine w_go 4000 ?_
  simp [cc127]
  rw [hR]; exact rt_end (by simp <;> rfl) [] trivial (end_pure (by simp) (by simp) (by simp))
theorem bNumber_ok (n : Int) (id : Nat) : FnOk Try.prog 74 [.int .i64 n] [] id (.bool (decide (1 ≤ n) && decide (n ≤ 65535))) [] := by
  refine fn_okc Try.func74 hcc74 (by decide) hcr74 (by simp [Try.ntmps74]) fun E hP hR hl hid => ?_
  simp only [cr74] at hR
  refine w_go 4000 ?_
  simp [cc74]
  (refine w_call hP rfl (bwithin_ok _ _ _ _) (by simp) (by simp <;> rfl) ?_; refine w_go 4000 ?_; simp)
  rw [hR]; exact rt_end (by simp <;> rfl) [] trivial (end_pure (by simp) (by simp) (by simp))
theorem lexInt_ok (n : Int) (id : Nat) : FnOk Try.prog 129 [.int .i64 n] [] id (.bool (decide (-999999999 ≤ n) && decide (n ≤ 999999999))) [] := by
  refine fn_okc Try.func129 hcc129 (by decide) hcr129 (by simp [Try.ntmps129]) fun E hP hR hl hid => ?_
  simp only [cr129] at hR
  refine w_go 4000 ?_
  simp [cc129]
  rw [hR]; exact rt_end (by simp <;> rfl) [] trivial (end_pure (by simp) (by simp) (by simp))

structure Ev where
  kind : Int
  type : Int
  id : Int
  field : Int
  n : Int
  text : List UInt8
def eEv (e : Ev) : AV := .agg [.int .i64 e.kind, .int .i64 e.type, .int .i64 e.id, .int .i64 e.field, .int .i64 e.n, .str e.text]

def fForm (e : Ev) : Int := if ¬ (1 ≤ e.kind ∧ e.kind ≤ 6) then 7 else if (e.kind = 1 ∨ e.kind = 2) ∧ (e.field ≠ 0 ∨ e.n ≠ 0) ∨ e.kind = 4 ∧ e.n ≠ 0 ∨ e.kind ≠ 4 ∧ e.text ≠ [] then 1 else 0

theorem sForm_ok (e : Ev) (id : Nat) : FnOk Try.prog 128 [eEv e] [] id (.int .i64 (fForm e)) [] := by
  unfold eEv
  refine fn_okc Try.func128 hcc128 (by decide) hcr128 (by simp [Try.ntmps128]) fun E hP hR hl hid => ?_
  simp only [cr128] at hR
  refine w_go 4000 ?_
  simp [cc128]
  repeat' first
    | (refine And.intro ?_ ?_)
    | (refine goc (fun h => ?_) (fun h => ?_) <;> simp)
    | (refine w_call hP rfl (swithin_ok _ _ _ _) (by simp) (by simp <;> rfl) ?_; refine w_go 4000 ?_; simp)
  all_goals first
    | (rw [hR]; refine rt_end (by simp <;> rfl) [] trivial (end_pure ?_ (by simp) (by simp)); simp; done)
    | (rw [hR]; refine rt_end (by simp <;> rfl) [] trivial (end_pure ?_ (by simp) (by simp)); (try simp); simp [fForm] at *; grind; done)
    | omega
    | (simp_all; done)
    | grind
def fEvent (e : Ev) : Int := if fForm e ≠ 0 then fForm e else if ¬ (0 ≤ e.type ∧ e.type ≤ 4) ∨ ¬ (1 ≤ e.id ∧ e.id ≤ 999) ∨ ¬ (0 ≤ e.field ∧ e.field ≤ 5) ∨ ¬ (-999999999 ≤ e.n ∧ e.n ≤ 999999999) then 3 else if 40 < e.text.length then 2 else 0
theorem bevent_ok (e : Ev) (id : Nat) : FnOk Try.prog 75 [eEv e] [] id (.int .i64 (fEvent e)) [] := by
  unfold eEv
  refine fn_okc Try.func75 hcc75 (by decide) hcr75 (by simp [Try.ntmps75]) fun E hP hR hl hid => ?_
  simp only [cr75] at hR
  refine w_go 4000 ?_
  simp [cc75]
  repeat' first
    | (refine And.intro ?_ ?_)
    | (refine goc (fun h => ?_) (fun h => ?_) <;> simp)
    | (refine w_call hP rfl (sForm_ok e _) (by simp) (by simp <;> rfl) ?_; refine w_go 4000 ?_; simp)
    | (refine w_call hP rfl (bwithin_ok _ _ _ _) (by simp) (by simp <;> rfl) ?_; refine w_go 4000 ?_; simp)
    | (refine w_callg hP (by simp) rfl (fun hc => ⟨bwithin_ok _ _ _ _, by revert hc; simp; try grind, by simp⟩) ?_; refine w_go 4000 ?_; simp)
    | (refine w_callg hP (by simp) rfl (fun hc => ⟨lexInt_ok _ _, by revert hc; simp; try grind, by simp⟩) ?_; refine w_go 4000 ?_; simp)
  all_goals first
    | (rw [hR]; refine rt_end (by simp <;> rfl) [] trivial (end_pure ?_ (by simp) (by simp)); simp; done)
    | (rw [hR]; refine rt_end (by simp <;> rfl) [] trivial (end_pure ?_ (by simp) (by simp)); (try simp); simp [fEvent] at *; grind; done)
    | omega
    | (simp_all; done)
    | grind

/-- The first number that is not 0. -/
def firstE {α : Type} (f : α → Int) : List α → Int
  | [] => 0
  | x :: l => if f x ≠ 0 then f x else firstE f l
theorem drop_cons {α : Type} {l : List α} {i : Nat} (h : i < l.length) : ∃ x, l[i]? = some x ∧ l.drop i = x :: l.drop (i + 1) :=
  ⟨l[i], List.getElem?_eq_getElem h, List.drop_eq_getElem_cons h⟩

structure Bt where
  number : Int
  events : List Ev
def eBt (b : Bt) : AV := .agg [.int .i64 b.number, .sl (b.events.map eEv)]
theorem pure_eEv (e : Ev) : (eEv e).pureB = true := rfl
@[simp] theorem pure_evs (l : List Ev) : pureL (l.map eEv) = true := pureL_map pure_eEv l
@[simp] theorem names_evs (S : Nat → Prop) (l : List Ev) : namesL S (l.map eEv) := namesL_pure _ (pure_evs l)

def fCheckB (b : Bt) : Int := if ¬ (1 ≤ b.number ∧ b.number ≤ 65535) then 3 else if b.events = [] then 1 else if 8 < b.events.length then 2 else firstE fEvent b.events
theorem bCheck_ok (b : Bt) (id : Nat) : FnOk Try.prog 23 [eBt b] [] id (.int .i64 (fCheckB b)) [] := by
  unfold eBt
  refine fn_okc Try.func23 hcc23 (by decide) hcr23 (by simp [Try.ntmps23]) fun E hP hR hl hid => ?_
  simp only [cr23] at hR
  refine w_go 4000 ?_
  simp [cc23]
  (refine w_call hP rfl (bNumber_ok _ _) (by simp) (by simp <;> rfl) ?_; refine w_go 4000 ?_; simp)
  repeat' first
    | (refine goc (fun h => ?_) (fun h => ?_) <;> simp)
  · rw [hR]; exact rt_end (by simp <;> rfl) [] trivial (end_pure (by simp; simp [fCheckB] at *; omega) (by simp) (by simp))
  · rw [hR]; exact rt_end (by simp <;> rfl) [] trivial (end_pure (by simp; simp [fCheckB] at *; grind) (by simp) (by simp))
  · rw [hR]; exact rt_end (by simp <;> rfl) [] trivial (end_pure (by simp; simp [fCheckB] at *; grind) (by simp) (by simp))
  · have hc : fCheckB b = firstE fEvent b.events := by simp [fCheckB] at *; grind
    rw [hc] at hR
    have hlen : b.events.length ≤ 8 := by simp at *; omega
    refine w_loop (X := Nat) (fun i => ⟨[(22, true, .sl (b.events.map eEv)), (23, true, .int .i64 b.events.length), (24, true, .int .i64 i)], [], 0⟩) (fun i => i ≤ b.events.length ∧ firstE fEvent (b.events.drop i) = firstE fEvent b.events) (fun i => b.events.length - i) 0 ?_ ⟨by omega, rfl⟩ ?_
    · have hrn : rnOk [] := by simp
      refine Conv.sub [] hrn ?_ ?_ ?_ ?_ ?_ <;> (try simp)
    · rintro i ⟨hi, hf⟩ p hp
      refine w_go 4000 ?_
      simp
      refine goc (fun h => ?_) (fun h => ?_)
      · have h := of_decide_eq_true h
        obtain ⟨e, he, hd⟩ := drop_cons h
        have hin : ∀ (y z : AV), ((b.events.map eEv)[i]?.getD y).cells = (eEv e).cells := fun y z => by simp [he]
        rw [hd] at hf
        simp only [firstE] at hf
        simp [he, eEv]
        refine ⟨h, ?_⟩
        (refine w_call hP rfl (bevent_ok e _) (by simp) (by simp <;> rfl) ?_; refine w_go 4000 ?_; simp)
        refine goc (fun h1 => ?_) (fun h1 => ?_)
        · simp
          rw [if_pos (by simpa using h1)] at hf
          rw [hR]; exact rt_end (by simp <;> rfl) [] trivial (end_pure (by simp; exact hf) (by simp) (by simp))
        · simp
          rw [if_neg (by simpa using h1)] at hf
          refine hp _ (i + 1) ⟨h, hf⟩ (by omega) ?_
          have hrn : rnOk [] := by simp
          refine Conv.sub [] hrn ?_ ?_ ?_ ?_ ?_ <;> (try simp)
          exact wrap64 (by omega)
      · have h := of_decide_eq_false h
        simp
        rw [List.drop_of_length_le (by omega)] at hf
        rw [hR]; exact rt_end (by simp <;> rfl) [] trivial (end_pure (by simp; exact hf) (by simp) (by simp))
end Go.Am

namespace Go.Am
set_option linter.all false
set_option linter.all false
open Go Go.RowKit Go.Proofs
set_option maxRecDepth 100000


def lowByte (m : Int) : UInt8 := UInt8.ofNat (m % 256).toNat
def nbs (n : Int) : Nat → List UInt8
  | 0 => []
  | k + 1 => lowByte (n / 2 ^ (8 * k)) :: nbs n k
@[simp] theorem nbs_length (n : Int) : ∀ k, (nbs n k).length = k
  | 0 => rfl
  | k + 1 => by simp [nbs, nbs_length n k]
def eB (l : List UInt8) : List AV := l.map fun b => .int .u8 b.toNat
@[simp] theorem pure_eB (l : List UInt8) : pureL (eB l) = true := pureL_map (fun _ => rfl) l
@[simp] theorem names_eB (S : Nat → Prop) (l : List UInt8) : namesL S (eB l) := namesL_pure _ (pure_eB l)
@[simp] theorem ren_eB (R : Rn) (S : Nat → Prop) (l : List UInt8) : RenL R S (eB l) (eB l) := renL_pure rfl (pure_eB l)
@[simp] theorem len_eB (l : List UInt8) : (eB l).length = l.length := by simp [eB]
@[simp] theorem take_eB (l : List UInt8) : (eB l).take l.length = eB l := List.take_of_length_le (by simp)
theorem eB_append (a b : List UInt8) : eB (a ++ b) = eB a ++ eB b := by simp [eB]
theorem mem_eB {l : List UInt8} {x : AV} (h : x ∈ eB l) : ∃ b, x = .int .u8 (UInt8.toNat b) := by
  simp only [eB, List.mem_map] at h
  obtain ⟨b, _, rfl⟩ := h
  exact ⟨b, rfl⟩
theorem eB_toU8 (l : List UInt8) : (eB l).map toU8 = l := by
  simp only [eB, List.map_map]
  conv => rhs; rw [← List.map_id l]
  refine List.map_congr_left fun b _ => ?_
  simp [toU8]
theorem u8_wrap (x : Int) : IntKind.u8.wrap x = ((lowByte x).toNat : Int) := by
  rw [IntKind.wrap_u8]; unfold lowByte
  simp [UInt8.toNat_ofNat']; omega
@[simp] def bxB (l : List UInt8) : Bx := ⟨eB l, .int .u8 0, false, false⟩
@[simp] def bxW (c : AV) (d : AV) : Bx := ⟨[.agg [c]], d, false, false⟩

theorem wnumber_ok (i j : Nat) (n : Int) (k : Nat) (l : List UInt8) (d : AV) (id : Nat) (hk : 1 ≤ k) (hk8 : k ≤ 8) (hij : i ≠ j) (hlen : l.length ≤ 1048576) :
    FnOk Try.prog 124 [.ptr i 0 0, .int .i64 n, .int .i64 k] [(i, bxW (.bsl j 0 l.length) d), (j, bxB l)] id (.tup []) [(i, some (bxW (.bsl id 0 (l ++ nbs n k).length) d)), (j, none), (id, some (bxB (l ++ nbs n k)))] := by
  simp only [bxW, bxB]
  refine fn_okc Try.func124 hcc124 (by decide) hcr124 (by simp [Try.ntmps124]) fun E hP hR hl hid => ?_
  simp only [cr124] at hR
  refine w_go 4000 ?_
  simp [cc124]
  have hi := hl (i, _) (List.mem_cons_self ..)
  simp only at hi
  have i1 := ne_own hi.1
  have i2 := ne_own' hi.1
  have i3 := ne_own0 hi.1
  have i4 := ne_own0' hi.1
  have hj := hl (j, _) (List.mem_cons_of_mem _ (List.mem_cons_self ..))
  simp only at hj
  have j1 := ne_own hj.1
  have j2 := ne_own' hj.1
  have j3 := ne_own0 hj.1
  have j4 := ne_own0' hj.1
  refine w_loop (X := Nat × List UInt8) (fun x => ⟨[(0, true, .ptr i 0 0), (1, true, .int .i64 n), (6, true, .int .i64 ((x.1 : Int) - 1))], [(i, some ⟨[.agg [.bsl E.n0 0 x.2.length]], d, false, false⟩), (j, none), (E.n0, some ⟨eB x.2, .int .u8 0, false, false⟩)], 1⟩)
    (fun x => x.1 ≤ k ∧ x.2 ++ nbs n x.1 = l ++ nbs n k) (fun x => x.1) (k, l) ?_ ⟨Nat.le_refl _, rfl⟩ ?_
  · have hrn : rnOk [(E.n0, j)] := by simp[i3, i4, i1, i2, hi.1, j1, j2, j3, j4, hj.1, hij, hij.symm]
    refine Conv.sub [(E.n0, j)] hrn ?_ ?_ ?_ ?_ ?_ <;> (try simp[i3, i4, i1, i2, hi.1, j1, j2, j3, j4, hj.1, hij, hij.symm])
    exact wrap64 (by omega)
  · rintro ⟨m, l0⟩ ⟨hm, hl0⟩ p hp
    simp only at hm hl0 hp
    have hl1 : l0.length + (nbs n m).length = l.length + (nbs n k).length := by rw [← List.length_append, hl0]; simp
    rw [nbs_length, nbs_length] at hl1
    refine w_go 4000 ?_
    simp
    refine goc (fun h => ?_) (fun h => ?_)
    · have h := of_decide_eq_true h
      obtain ⟨m, rfl⟩ : ∃ m', m = m' + 1 := ⟨m - 1, by omega⟩
      have w1 : IntKind.i64.wrap (8 * (((m + 1 : Nat) : Int) - 1)) = ((8 * m : Nat) : Int) := by rw [wrap64 (by omega)]; omega
      simp at w1
      have w2 : (8 * (m : Int)).toNat = 8 * m := by omega
      simp [w1, w2, u8_wrap, IntKind.bits, i3, i4, i1, i2, hi.1, j1, j2, j3, j4, hj.1, hij, hij.symm]
      refine ⟨by omega, by omega, ?_⟩
      refine hp _ (m, l0 ++ [lowByte (n / 2 ^ (8 * m))]) ⟨by omega, ?_⟩ (by omega) ?_
      · rw [← hl0]; simp [nbs]
      · have hrn : rnOk [(E.n0, E.n0 + 53)] := by simp[i3, i4, i1, i2, hi.1, j1, j2, j3, j4, hj.1, hij, hij.symm]
        refine Conv.sub [(E.n0, E.n0 + 53)] hrn ?_ ?_ ?_ ?_ ?_ <;> (try simp[i3, i4, i1, i2, hi.1, j1, j2, j3, j4, hj.1, hij, hij.symm])
        · exact wrap64 (by omega)
        · exact renL_pure (by simp [eB]) (by simp [pureL_append])
    · have h := of_decide_eq_false h
      simp
      obtain rfl : m = 0 := by omega
      simp only [nbs, List.append_nil] at hl0
      subst hl0
      have hrn : rnOk [(id, E.n0)] := by simp
      rw [hR]
      refine ⟨trivial, false, [(id, E.n0)], hrn, ?_, ?_, ?_, ?_, ?_, ?_⟩
      all_goals try simp [id_ne hi.2, id_ne' hi.2, id_lt hid, id_own hid, id_own' hid, id_own0 hid, id_own0' hid, i1, i2, i3, i4, hi.1, j1, j2, j3, j4, hj.1, hij, hij.symm, id_ne hj.2, id_ne' hj.2]

theorem wnumber0_ok (i : Nat) (n : Int) (k : Nat) (d : AV) (id : Nat) (hk : 1 ≤ k) (hk8 : k ≤ 8) :
    FnOk Try.prog 124 [.ptr i 0 0, .int .i64 n, .int .i64 k] [(i, bxW .nils d)] id (.tup []) [(i, some (bxW (.bsl id 0 (nbs n k).length) d)), (id, some (bxB (nbs n k)))] := by
  simp only [bxW, bxB]
  refine fn_okc Try.func124 hcc124 (by decide) hcr124 (by simp [Try.ntmps124]) fun E hP hR hl hid => ?_
  simp only [cr124] at hR
  refine w_go 4000 ?_
  simp [cc124]
  have hi := hl (i, _) (List.mem_cons_self ..)
  simp only at hi
  have i1 := ne_own hi.1
  have i2 := ne_own' hi.1
  have i3 := ne_own0 hi.1
  have i4 := ne_own0' hi.1
  refine w_loop (X := Nat × List UInt8) (fun x => ⟨[(0, true, .ptr i 0 0), (1, true, .int .i64 n), (6, true, .int .i64 ((x.1 : Int) - 1))], [(i, some ⟨[.agg [.bsl E.n0 0 x.2.length]], d, false, false⟩), (E.n0, some ⟨eB x.2, .int .u8 0, false, false⟩)], 1⟩)
    (fun x => x.1 ≤ k ∧ x.2 ++ nbs n x.1 = [] ++ nbs n k) (fun x => x.1) (k, []) ?_ ⟨Nat.le_refl _, rfl⟩ ?_
  · refine Conv.trans (Conv.voidBox i (by simp; rfl) rfl (.agg [.nils] [.bsl (E.n0 + 12) 0 0] rfl (fun m x y h1 h2 => ?_)) (.int .u8 0)) ?_
    · match m, h1, h2 with
      | 0, h1, h2 => simp at h1 h2; exact .inr ⟨h1.symm, h2.symm⟩
      | m + 1, h1, h2 => simp at h1
    · have hrn : rnOk [(E.n0, E.n0 + 12)] := by simp[eB, i3, i4, i1, i2, hi.1]
      refine Conv.sub [(E.n0, E.n0 + 12)] hrn ?_ ?_ ?_ ?_ ?_ <;> (try simp[eB, i3, i4, i1, i2, hi.1])
      exact wrap64 (by omega)
  · rintro ⟨m, l0⟩ ⟨hm, hl0⟩ p hp
    simp only at hm hl0 hp
    have hl1 : l0.length + (nbs n m).length = 0 + (nbs n k).length := by rw [← List.length_append, hl0]; simp
    rw [nbs_length, nbs_length] at hl1
    refine w_go 4000 ?_
    simp
    refine goc (fun h => ?_) (fun h => ?_)
    · have h := of_decide_eq_true h
      obtain ⟨m, rfl⟩ : ∃ m', m = m' + 1 := ⟨m - 1, by omega⟩
      have w1 : IntKind.i64.wrap (8 * (((m + 1 : Nat) : Int) - 1)) = ((8 * m : Nat) : Int) := by rw [wrap64 (by omega)]; omega
      simp at w1
      have w2 : (8 * (m : Int)).toNat = 8 * m := by omega
      simp [w1, w2, u8_wrap, IntKind.bits, i3, i4, i1, i2, hi.1]
      refine ⟨by omega, by omega, ?_⟩
      refine hp _ (m, l0 ++ [lowByte (n / 2 ^ (8 * m))]) ⟨by omega, ?_⟩ (by omega) ?_
      · rw [← hl0]; simp [nbs]
      · have hrn : rnOk [(E.n0, E.n0 + 53)] := by simp[i3, i4, i1, i2, hi.1]
        refine Conv.sub [(E.n0, E.n0 + 53)] hrn ?_ ?_ ?_ ?_ ?_ <;> (try simp[i3, i4, i1, i2, hi.1])
        · exact wrap64 (by omega)
        · exact renL_pure (by simp [eB]) (by simp [pureL_append])
    · have h := of_decide_eq_false h
      simp
      obtain rfl : m = 0 := by omega
      simp only [nbs, List.append_nil] at hl0
      subst hl0
      have hrn : rnOk [(id, E.n0)] := by simp
      rw [hR]
      refine ⟨trivial, false, [(id, E.n0)], hrn, ?_, ?_, ?_, ?_, ?_, ?_⟩
      all_goals try simp [id_ne hi.2, id_ne' hi.2, id_lt hid, id_own hid, id_own' hid, id_own0 hid, id_own0' hid, i1, i2, i3, i4, hi.1]

end Go.Am

namespace Go.Am
set_option linter.all false
set_option linter.all false
open Go Go.RowKit Go.Proofs
set_option maxRecDepth 100000


def wr3 (i j id : Nat) (d : AV) (l : List UInt8) : List (Nat × Option Bx) := [(i, some (bxW (.bsl id 0 l.length) d)), (j, none), (id, some (bxB l))]
attribute [simp] wr3
theorem wn1_ok (i j : Nat) (n : Int) (l : List UInt8) (d : AV) (id : Nat) (hij : i ≠ j) (hlen : l.length ≤ 1048576) :
    FnOk Try.prog 124 [.ptr i 0 0, .int .i64 n, .int .i64 1] [(i, bxW (.bsl j 0 l.length) d), (j, bxB l)] id (.tup []) (wr3 i j id d (l ++ nbs n 1)) := wnumber_ok i j n 1 l d id (by omega) (by omega) hij hlen
theorem wn2_ok (i j : Nat) (n : Int) (l : List UInt8) (d : AV) (id : Nat) (hij : i ≠ j) (hlen : l.length ≤ 1048576) :
    FnOk Try.prog 124 [.ptr i 0 0, .int .i64 n, .int .i64 2] [(i, bxW (.bsl j 0 l.length) d), (j, bxB l)] id (.tup []) (wr3 i j id d (l ++ nbs n 2)) := wnumber_ok i j n 2 l d id (by omega) (by omega) hij hlen
theorem wn4_ok (i j : Nat) (n : Int) (l : List UInt8) (d : AV) (id : Nat) (hij : i ≠ j) (hlen : l.length ≤ 1048576) :
    FnOk Try.prog 124 [.ptr i 0 0, .int .i64 n, .int .i64 4] [(i, bxW (.bsl j 0 l.length) d), (j, bxB l)] id (.tup []) (wr3 i j id d (l ++ nbs n 4)) := wnumber_ok i j n 4 l d id (by omega) (by omega) hij hlen
theorem wn20_ok (i : Nat) (n : Int) (d : AV) (id : Nat) :
    FnOk Try.prog 124 [.ptr i 0 0, .int .i64 n, .int .i64 2] [(i, bxW .nils d)] id (.tup []) [(i, some (bxW (.bsl id 0 (nbs n 2).length) d)), (id, some (bxB (nbs n 2)))] := wnumber0_ok i n 2 d id (by omega) (by omega)

theorem plain_ok (k : Int) (id : Nat) : FnOk Try.prog 125 [.int .i64 k] [] id (.bool (k == 1 || k == 2)) [] := by
  refine fn_okc Try.func125 hcc125 (by decide) hcr125 (by simp [Try.ntmps125]) fun E hP hR hl hid => ?_
  simp only [cr125] at hR
  refine w_go 4000 ?_
  simp [cc125]
  rw [hR]; exact rt_end (by simp <;> rfl) [] trivial (end_pure (by simp) (by simp) (by simp))

theorem wtext_ok (i j : Nat) (s l : List UInt8) (d : AV) (id : Nat) (hij : i ≠ j) (hlen : l.length ≤ 1000000) (hs : s.length ≤ 1000) :
    FnOk Try.prog 126 [.ptr i 0 0, .str s] [(i, bxW (.bsl j 0 l.length) d), (j, bxB l)] id (.tup []) (wr3 i j id d (l ++ nbs s.length 1 ++ s)) := by
  simp only [bxW, bxB, wr3]
  refine fn_okc Try.func126 hcc126 (by decide) hcr126 (by simp [Try.ntmps126]) fun E hP hR hl hid => ?_
  simp only [cr126] at hR
  refine w_go 4000 ?_
  simp [cc126]
  have hi := hl (i, _) (List.mem_cons_self ..)
  simp only at hi
  have i1 := ne_own hi.1; have i2 := ne_own' hi.1; have i3 := ne_own0 hi.1; have i4 := ne_own0' hi.1
  have hj := hl (j, _) (List.mem_cons_of_mem _ (List.mem_cons_self ..))
  simp only at hj
  have j1 := ne_own hj.1; have j2 := ne_own' hj.1; have j3 := ne_own0 hj.1; have j4 := ne_own0' hj.1
  (refine w_call hP rfl (wn1_ok i j _ l d _ hij (by omega)) (by simp [hij, hij.symm, i1, i2, i3, i4, j1, j2, j3, j4]) (by simp [hij, hij.symm, i1, i2, i3, i4, j1, j2, j3, j4] <;> rfl) ?_; refine w_go 4000 ?_; simp [hij, hij.symm, i1, i2, i3, i4, j1, j2, j3, j4])
  refine ⟨by omega, ?_⟩
  have hrn : rnOk [(id, E.n0 + 40)] := by simp [hij, hij.symm, i1, i2, i3, i4, hi.1, id_ne hi.2, id_ne' hi.2, j1, j2, j3, j4, hj.1, id_ne hj.2, id_ne' hj.2, id_lt hid, id_own hid, id_own' hid, id_own0 hid, id_own0' hid]
  rw [hR]
  refine rt_end (by simp <;> rfl) [(id, E.n0 + 40)] hrn ⟨?_, ?_, ?_, ?_, ?_, ?_⟩ <;> (try simp [hij, hij.symm, i1, i2, i3, i4, hi.1, id_ne hi.2, id_ne' hi.2, j1, j2, j3, j4, hj.1, id_ne hj.2, id_ne' hj.2, id_lt hid, id_own hid, id_own' hid, id_own0 hid, id_own0' hid])
  refine ⟨by omega, renL_pure (by simp [eB]) (pureL_append (by simp) (pure_eB s))⟩

def evBytes (e : Ev) : List UInt8 := nbs e.kind 1 ++ (nbs e.type 1 ++ (nbs e.id 2 ++ if e.kind = 1 ∨ e.kind = 2 then [] else nbs e.field 1 ++ if e.kind = 4 then nbs e.text.length 1 ++ e.text else nbs (e.n + 999999999) 4))
def btBytes (b : Bt) : List UInt8 := nbs b.number 2 ++ nbs b.events.length 1 ++ b.events.flatMap evBytes
def fBytes (b : Bt) : List UInt8 := nbs (btBytes b).length 2 ++ btBytes b
theorem fEvent_in (e : Ev) (h : fEvent e = 0) : e.text.length ≤ 40 ∧ (0 ≤ e.type ∧ e.type ≤ 4) ∧ (1 ≤ e.id ∧ e.id ≤ 999) ∧ (0 ≤ e.field ∧ e.field ≤ 5) ∧ (-999999999 ≤ e.n ∧ e.n ≤ 999999999) ∧ fForm e = 0 := by
  unfold fEvent at h
  split at h
  · omega
  · split at h
    · omega
    · split at h <;> omega
theorem evBytes_len (e : Ev) (h : fEvent e = 0) : (evBytes e).length ≤ 47 := by
  have := (fEvent_in e h).1
  unfold evBytes
  split
  · simp
  · split <;> simp <;> omega

theorem Bytes_ok (b : Bt) (id : Nat) (hb : ∀ e ∈ b.events, fEvent e = 0) (hl8 : b.events.length ≤ 8) : FnOk Try.prog 64 [eBt b] [] id (.str (fBytes b)) [] := by
  simp only [eBt]
  refine fn_okc Try.func64 hcc64 (by decide) hcr64 (by simp [Try.ntmps64]) fun E hP hR hl hid => ?_
  simp only [cr64] at hR
  refine w_go 4000 ?_
  simp [cc64]
  (refine w_call hP rfl (wn20_ok _ _ _ _) (by simp) (by simp <;> rfl) ?_; refine w_go 4000 ?_; simp)
  (refine w_call hP rfl (wn1_ok _ (E.n0 + 32) _ (nbs b.number 2) (.agg [.nils]) _ (by simp) (by simp)) (by simp) (by simp <;> rfl) ?_; refine w_go 4000 ?_; simp)
  refine w_loop (X := Nat × List UInt8) (fun x => ⟨[(19, true, .sl (b.events.map eEv)), (20, true, .int .i64 b.events.length), (21, true, .int .i64 x.1), (3, true, .ptr E.n0 0 0)], [(E.n0, some (bxW (.bsl (E.n0 + 1) 0 x.2.length) (.agg [.nils]))), (E.n0 + 1, some (bxB x.2))], 2⟩)
    (fun x => x.1 ≤ b.events.length ∧ x.2 ++ (b.events.drop x.1).flatMap evBytes = btBytes b ∧ x.2.length ≤ 3 + 47 * x.1) (fun x => b.events.length - x.1) (0, nbs b.number 2 ++ nbs b.events.length 1) ?_ ⟨by simp, by simp [btBytes], by simp⟩ ?_
  · have hrn : rnOk [(E.n0, E.n0 + 12), (E.n0 + 1, E.n0 + 52)] := by simp
    refine Conv.sub [(E.n0, E.n0 + 12), (E.n0 + 1, E.n0 + 52)] hrn ?_ ?_ ?_ ?_ ?_ <;> (try simp)
  · rintro ⟨i, l⟩ ⟨hi, hf, hlen⟩ p hp
    simp only at hi hf hlen hp
    refine w_go 4000 ?_
    simp
    refine goc (fun h => ?_) (fun h => ?_)
    · have h := of_decide_eq_true h
      obtain ⟨e, he, hd⟩ := drop_cons h
      rw [hd] at hf
      simp [he, eEv]
      refine ⟨h, ?_⟩
      (refine w_call hP rfl (wn1_ok E.n0 (E.n0 + 1) _ l _ _ (by simp) (by omega)) (by simp) (by simp <;> rfl) ?_; refine w_go 4000 ?_; simp)
      (refine w_call hP rfl (wn1_ok E.n0 (E.n0 + 34) _ (l ++ nbs e.kind 1) _ _ (by simp) (by simp; omega)) (by simp) (by simp <;> rfl) ?_; refine w_go 4000 ?_; simp)
      (refine w_call hP rfl (wn2_ok E.n0 (E.n0 + 50) _ (l ++ nbs e.kind 1 ++ nbs e.type 1) _ _ (by simp) (by simp; omega)) (by simp) (by simp <;> rfl) ?_; refine w_go 4000 ?_; simp)
      (refine w_call hP rfl (plain_ok _ _) (by simp) (by simp <;> rfl) ?_; refine w_go 4000 ?_; simp)
      have hev := hb e (List.mem_of_getElem? he)
      have hel := evBytes_len e hev
      have hi1 : IntKind.i64.wrap ((i : Int) + 1) = ((i + 1 : Nat) : Int) := wrap64 (by omega)
      refine goc (fun h1 => ?_) (fun h1 => ?_)
      · simp
        have h1' : e.kind = 1 ∨ e.kind = 2 := by simpa using h1
        refine hp _ (i + 1, l ++ evBytes e) ⟨h, ?_, ?_⟩ (by omega) ?_
        · rw [← hf]; simp
        · simp; omega
        · have hrn : rnOk [(E.n0, E.n0), (E.n0 + 1, E.n0 + 66)] := by simp[hi1]
          refine Conv.sub [(E.n0, E.n0), (E.n0 + 1, E.n0 + 66)] hrn ?_ ?_ ?_ ?_ ?_ <;> (try simp[hi1])
          exact ⟨by simp [evBytes, h1'], by rw [evBytes, if_pos h1']; simp⟩
      · simp
        have h1' : ¬ (e.kind = 1 ∨ e.kind = 2) := by simpa using h1
        (refine w_call hP rfl (wn1_ok E.n0 (E.n0 + 66) _ (l ++ nbs e.kind 1 ++ nbs e.type 1 ++ nbs e.id 2) _ _ (by simp) (by simp; omega)) (by simp) (by simp <;> rfl) ?_; refine w_go 4000 ?_; simp)
        refine goc (fun h2 => ?_) (fun h2 => ?_)
        · simp
          have h2' : e.kind = 4 := by simpa using h2
          have htl := (fEvent_in e hev).1
          (refine w_call hP rfl (wtext_ok E.n0 (E.n0 + 94) _ (l ++ nbs e.kind 1 ++ nbs e.type 1 ++ nbs e.id 2 ++ nbs e.field 1) _ _ (by simp) (by simp; omega) (by omega)) (by simp) (by simp <;> rfl) ?_; refine w_go 4000 ?_; simp)
          refine hp _ (i + 1, l ++ evBytes e) ⟨h, ?_, ?_⟩ (by omega) ?_
          · rw [← hf]; simp
          · simp; omega
          · have hrn : rnOk [(E.n0, E.n0), (E.n0 + 1, E.n0 + 122)] := by simp[hi1]
            refine Conv.sub [(E.n0, E.n0), (E.n0 + 1, E.n0 + 122)] hrn ?_ ?_ ?_ ?_ ?_ <;> (try simp[hi1])
            exact ⟨by simp [evBytes, h1', h2'], by rw [evBytes, if_neg h1', if_pos h2']; simp⟩
        · simp
          have h2' : ¬ e.kind = 4 := by simpa using h2
          have hn := (fEvent_in e hev).2.2.2.2.1
          rw [show IntKind.i64.wrap (e.n + 999999999) = e.n + 999999999 from wrap64 (by omega)]
          (refine w_call hP rfl (wn4_ok E.n0 (E.n0 + 94) _ (l ++ nbs e.kind 1 ++ nbs e.type 1 ++ nbs e.id 2 ++ nbs e.field 1) _ _ (by simp) (by simp; omega)) (by simp) (by simp <;> rfl) ?_; refine w_go 4000 ?_; simp)
          refine hp _ (i + 1, l ++ evBytes e) ⟨h, ?_, ?_⟩ (by omega) ?_
          · rw [← hf]; simp
          · simp; omega
          · have hrn : rnOk [(E.n0, E.n0), (E.n0 + 1, E.n0 + 126)] := by simp[hi1]
            refine Conv.sub [(E.n0, E.n0), (E.n0 + 1, E.n0 + 126)] hrn ?_ ?_ ?_ ?_ ?_ <;> (try simp[hi1])
            exact ⟨by simp [evBytes, h1', h2'], by rw [evBytes, if_neg h1', if_neg h2']; simp⟩
    · have h := of_decide_eq_false h
      rw [List.drop_of_length_le (by omega)] at hf
      simp at hf
      subst hf
      simp
      (refine w_call hP rfl (wn20_ok _ _ _ _) (by simp) (by simp <;> rfl) ?_; refine w_go 4000 ?_; simp)
      have hlb : (btBytes b).length ≤ 1048576 := by omega
      have ht : List.take (2 + (btBytes b).length) (eB (nbs (btBytes b).length 2) ++ eB (btBytes b)) = eB (fBytes b) := by
        rw [List.take_of_length_le (by simp)]; simp [fBytes, eB_append]
      simp only [take_eB, ht, eB_toU8]
      refine ⟨⟨fun x hx => ?_, by omega, by omega⟩, fun x hx => ?_, ?_⟩
      · obtain ⟨c, rfl⟩ := mem_eB hx; simp
      · obtain ⟨c, rfl⟩ := mem_eB hx; rfl
      · rw [hR]; exact rt_end (by simp <;> rfl) [] trivial (end_pure (by simp; rw [List.take_of_length_le (by simp)]; simp [fBytes]) (by simp) (by simp))
end Go.Am

namespace Go.Am
set_option linter.all false
set_option linter.all false
open Go Go.RowKit Go.Proofs
set_option maxRecDepth 100000


theorem firstE_zero {α : Type} {f : α → Int} : ∀ {l : List α}, firstE f l = 0 ↔ ∀ x ∈ l, f x = 0
  | [] => by simp [firstE]
  | x :: l => by
    simp only [firstE]
    split
    · rename_i h; constructor
      · intro h'; exact (h h').elim
      · intro h'; exact (h (h' x (by simp))).elim
    · rename_i h
      rw [firstE_zero (l := l)]
      simp at h
      simp [h]
theorem fCheckB_zero {b : Bt} (h : fCheckB b = 0) : (1 ≤ b.number ∧ b.number ≤ 65535) ∧ b.events ≠ [] ∧ b.events.length ≤ 8 ∧ ∀ e ∈ b.events, fEvent e = 0 := by
  unfold fCheckB at h
  split at h
  · omega
  · split at h
    · omega
    · split at h
      · omega
      · rename_i h1 h2 h3
        exact ⟨by omega, h2, by omega, firstE_zero.1 h⟩
theorem Encode_ok (b : Bt) (id : Nat) : FnOk Try.prog 17 [eBt b] [] id (.tup [.str (if fCheckB b = 0 then fBytes b else []), .int .i64 (fCheckB b)]) [] := by
  simp only [eBt]
  refine fn_okc Try.func17 hcc17 (by decide) hcr17 (by simp [Try.ntmps17]) fun E hP hR hl hid => ?_
  simp only [cr17] at hR
  refine w_go 4000 ?_
  simp [cc17]
  (refine w_call hP rfl (bCheck_ok b _) (by simp) (by simp <;> rfl) ?_; refine w_go 4000 ?_; simp)
  refine goc (fun h => ?_) (fun h => ?_)
  · simp
    have h' : ¬ fCheckB b = 0 := by simpa using h
    rw [if_neg h'] at hR
    rw [hR]; exact rt_end (by simp <;> rfl) [] trivial (end_pure (by simp) (by simp) (by simp))
  · simp
    have h' : fCheckB b = 0 := by simpa using h
    obtain ⟨h1, h2, h3, h4⟩ := fCheckB_zero h'
    (refine w_call hP rfl (Bytes_ok b _ h4 h3) (by simp) (by simp <;> rfl) ?_; refine w_go 4000 ?_; simp)
    rw [if_pos h'] at hR
    rw [hR]; exact rt_end (by simp <;> rfl) [] trivial (end_pure (by simp; exact h'.symm) (by simp) (by simp))

@[simp] def bxR (s : List UInt8) (sh : Bool) (d : AV) : Bx := ⟨[.agg [.str s, .bool sh]], d, false, false⟩
theorem take_ok (i : Nat) (s : List UInt8) (sh : Bool) (n : Nat) (d : AV) (id : Nat) (hs : s.length ≤ 9223372036854775807) :
    FnOk Try.prog 66 [.ptr i 0 0, .int .i64 n] [(i, bxR s sh d)] id (.str (if s.length < n then [] else s.take n)) [(i, some (if s.length < n then bxR [] true d else bxR (s.drop n) sh d))] := by
  simp only [bxR]
  refine fn_okc Try.func66 hcc66 (by decide) hcr66 (by simp [Try.ntmps66]) fun E hP hR hl hid => ?_
  simp only [cr66] at hR
  refine w_go 4000 ?_
  simp [cc66]
  have hi := hl (i, _) (List.mem_cons_self ..)
  simp only at hi
  have i1 := ne_own hi.1; have i2 := ne_own' hi.1; have i3 := ne_own0 hi.1; have i4 := ne_own0' hi.1
  refine goc (fun h => ?_) (fun h => ?_)
  · simp [i1, i2, i3, i4, hi.1, id_ne hi.2, id_ne' hi.2]
    have h' : s.length < n := by simpa using h
    simp only [if_pos h'] at hR
    have hrn : rnOk [] := by simp [i1, i2, i3, i4, hi.1, id_ne hi.2, id_ne' hi.2, id_lt hid, id_own hid, id_own' hid, id_own0 hid, id_own0' hid]
    rw [hR]
    refine rt_end (by simp <;> rfl) [] hrn ⟨?_, ?_, ?_, ?_, ?_, ?_⟩ <;> (try simp [i1, i2, i3, i4, hi.1, id_ne hi.2, id_ne' hi.2, id_lt hid, id_own hid, id_own' hid, id_own0 hid, id_own0' hid])
  · simp [i1, i2, i3, i4, hi.1, id_ne hi.2, id_ne' hi.2]
    have h' : ¬ s.length < n := by simpa using h
    refine ⟨by omega, ?_⟩
    simp only [if_neg h'] at hR
    have hrn : rnOk [] := by simp [i1, i2, i3, i4, hi.1, id_ne hi.2, id_ne' hi.2, id_lt hid, id_own hid, id_own' hid, id_own0 hid, id_own0' hid]
    rw [hR]
    refine rt_end (by simp <;> rfl) [] hrn ⟨?_, ?_, ?_, ?_, ?_, ?_⟩ <;> (try simp [i1, i2, i3, i4, hi.1, id_ne hi.2, id_ne' hi.2, id_lt hid, id_own hid, id_own' hid, id_own0 hid, id_own0' hid])
end Go.Am

namespace Go.Am
set_option linter.all false
set_option linter.all false
open Go Go.RowKit Go.Proofs
set_option maxRecDepth 100000


def fNum (l : List UInt8) : Int := l.foldl (fun n c => 256 * n + (c.toNat : Int)) 0
theorem fNum_snoc (l : List UInt8) (c : UInt8) : fNum (l ++ [c]) = 256 * fNum l + c.toNat := by simp [fNum]
theorem fNum_bd (l : List UInt8) : 0 ≤ fNum l ∧ fNum l < 256 ^ l.length := by
  have key : ∀ (l : List UInt8) (n : Int) (m : Nat), 0 ≤ n → n < 256 ^ m → 0 ≤ l.foldl (fun n c => 256 * n + (c.toNat : Int)) n ∧ l.foldl (fun n c => 256 * n + (c.toNat : Int)) n < 256 ^ (m + l.length) := fun l => by
    induction l with
    | nil => intro n m h1 h2; exact ⟨h1, h2⟩
    | cons c l ih =>
      intro n m h1 h2
      have hc := c.toNat_lt
      have := ih (256 * n + c.toNat) (m + 1) (by omega) (by rw [Int.pow_succ]; omega)
      simp only [List.foldl_cons, List.length_cons]
      rw [show m + (l.length + 1) = m + 1 + l.length by omega]
      exact this
  have := key l 0 0 (by omega) (by omega)
  simpa [fNum] using this
@[simp] theorem names_u8 (S : Nat → Prop) (l : List UInt8) : namesL S (l.map fun b => AV.int .u8 (UInt8.toNat b)) := names_eB S l

theorem or_add (m c : Nat) (hm : m < 36028797018963968) (hc : c < 256) : bits .or .i64 ((256 * m : Nat) : Int) (c : Int) = ((256 * m + c : Nat) : Int) := by
  unfold bits
  have e1 : (BitVec.ofInt IntKind.i64.bits ((256 * m : Nat) : Int)).toNat = 256 * m := by
    rw [BitVec.ofInt_natCast, BitVec.toNat_ofNat]; exact Nat.mod_eq_of_lt (by show _ < 2 ^ 64; omega)
  have e2 : (BitVec.ofInt IntKind.i64.bits (c : Int)).toNat = c := by
    rw [BitVec.ofInt_natCast, BitVec.toNat_ofNat]; exact Nat.mod_eq_of_lt (by show _ < 2 ^ 64; omega)
  simp only [BitVec.toNat_or, e1, e2]
  have := Nat.two_pow_add_eq_or_of_lt (i := 8) (show c < 2 ^ 8 by omega) m
  rw [show 2 ^ 8 = 256 by rfl] at this
  rw [← this, wrap64 (by omega)]

def fTake (s : List UInt8) (k : Nat) : List UInt8 := if s.length < k then [] else s.take k
def fRest (s : List UInt8) (k : Nat) : List UInt8 := if s.length < k then [] else s.drop k
theorem rnumber_ok (i : Nat) (s : List UInt8) (sh : Bool) (k : Nat) (d : AV) (id : Nat) (hs : s.length ≤ 9223372036854775807) (hk : k ≤ 4) :
    FnOk Try.prog 65 [.ptr i 0 0, .int .i64 k] [(i, bxR s sh d)] id (.int .i64 (fNum (fTake s k))) [(i, some (bxR (fRest s k) (sh || decide (s.length < k)) d))] := by
  have hb : (if s.length < k then bxR [] true d else bxR (s.drop k) sh d) = bxR (fRest s k) (sh || decide (s.length < k)) d := by
    unfold fRest; split <;> simp [*]
  have htk : (if s.length < k then [] else s.take k) = fTake s k := rfl
  have htake := take_ok i s sh k d
  rw [hb, htk] at htake
  have hlen : (fTake s k).length ≤ k := by unfold fTake; split <;> simp; omega
  generalize fTake s k = t at *
  generalize fRest s k = r at *
  generalize (sh || decide (s.length < k)) = sh' at *
  simp only [bxR] at htake ⊢
  refine fn_okc Try.func65 hcc65 (by decide) hcr65 (by simp [Try.ntmps65]) fun E hP hR hl hid => ?_
  simp only [cr65] at hR
  refine w_go 4000 ?_
  simp [cc65]
  have hi := hl (i, _) (List.mem_cons_self ..)
  simp only at hi
  have i1 := ne_own hi.1; have i2 := ne_own' hi.1; have i3 := ne_own0 hi.1; have i4 := ne_own0' hi.1
  (refine w_call hP rfl (htake _ hs) (by simp [i1, i2, i3, i4, hi.1, id_ne hi.2, id_ne' hi.2]) (by simp [i1, i2, i3, i4, hi.1, id_ne hi.2, id_ne' hi.2] <;> rfl) ?_; refine w_go 4000 ?_; simp [i1, i2, i3, i4, hi.1, id_ne hi.2, id_ne' hi.2])
  have ht4 : t.length ≤ 4 := by omega
  refine ⟨by omega, w_loop (X := Nat) (fun x => ⟨[(11, true, .sl (t.map fun b => AV.int .u8 b.toNat)), (12, true, .int .i64 t.length), (13, true, .int .i64 x), (5, true, .int .i64 (fNum (t.take x)))], [(i, some (bxR r sh' d))], 0⟩)
    (fun x => x ≤ t.length) (fun x => t.length - x) 0 ?_ (by omega) ?_⟩
  · have hrn : rnOk [] := by simp[i1, i2, i3, i4, hi.1, id_ne hi.2, id_ne' hi.2, fNum]
    refine Conv.sub [] hrn ?_ ?_ ?_ ?_ ?_ <;> (try simp[i1, i2, i3, i4, hi.1, id_ne hi.2, id_ne' hi.2, fNum])
  · intro x hx p hp
    refine w_go 4000 ?_
    simp [i1, i2, i3, i4, hi.1, id_ne hi.2, id_ne' hi.2]
    refine goc (fun h => ?_) (fun h => ?_)
    · have h := of_decide_eq_true h
      obtain ⟨c, hc, _⟩ := drop_cons h
      simp [i1, i2, i3, i4, hi.1, id_ne hi.2, id_ne' hi.2, hc]
      have hbd := fNum_bd (t.take x)
      have hxl : (t.take x).length = x := by simp; omega
      rw [hxl] at hbd
      have hpw : (256 : Int) ^ x ≤ 16777216 := by
        have : x = 0 ∨ x = 1 ∨ x = 2 ∨ x = 3 := by omega
        rcases this with e | e | e | e <;> rw [e] <;> decide
      have hcl := c.toNat_lt
      have e0 : fNum (t.take x) * 2 ^ 8 = ((256 * (fNum (t.take x)).toNat : Nat) : Int) := by omega
      have e1 : IntKind.i64.wrap (fNum (t.take x) * 256) = ((256 * (fNum (t.take x)).toNat : Nat) : Int) := by rw [wrap64 (by omega)]; omega
      have e2 : IntKind.i64.wrap (c.toNat : Int) = ((c.toNat : Nat) : Int) := wrap64 (by omega)
      have e3 := or_add (fNum (t.take x)).toNat c.toNat (by omega) (by omega)
      have e4 : fNum (t.take (x + 1)) = ((256 * (fNum (t.take x)).toNat + c.toNat : Nat) : Int) := by
        rw [List.take_add_one, hc, Option.toList_some, fNum_snoc]; omega
      have e5 : IntKind.i64.wrap ((x : Int) + 1) = ((x + 1 : Nat) : Int) := wrap64 (by omega)
      rw [e1, e2, e3, ← e4, e5]
      refine ⟨h, by decide, hp _ (x + 1) (by omega) (by omega) ?_⟩
      have hrn : rnOk [] := by simp[i1, i2, i3, i4, hi.1, id_ne hi.2, id_ne' hi.2]
      refine Conv.sub [] hrn ?_ ?_ ?_ ?_ ?_ <;> (try simp[i1, i2, i3, i4, hi.1, id_ne hi.2, id_ne' hi.2])
    · have h := of_decide_eq_false h
      simp [i1, i2, i3, i4, hi.1, id_ne hi.2, id_ne' hi.2]
      obtain rfl : x = t.length := by omega
      rw [List.take_length]
      have hrn : rnOk [] := by simp [i1, i2, i3, i4, hi.1, id_ne hi.2, id_ne' hi.2, id_lt hid, id_own hid, id_own' hid, id_own0 hid, id_own0' hid]
      rw [hR]
      refine rt_end (by simp <;> rfl) [] hrn ⟨?_, ?_, ?_, ?_, ?_, ?_⟩ <;> (try simp [i1, i2, i3, i4, hi.1, id_ne hi.2, id_ne' hi.2, id_lt hid, id_own hid, id_own' hid, id_own0 hid, id_own0' hid])
end Go.Am

namespace Go.Am
set_option linter.all false
set_option linter.all false
open Go Go.RowKit Go.Proofs
set_option maxRecDepth 100000


theorem fRest_len (s : List UInt8) (k : Nat) : (fRest s k).length ≤ s.length := by unfold fRest; split <;> simp
def sh1 (s : List UInt8) (sh : Bool) (k : Nat) : Bool := sh || decide (s.length < k)
theorem rn1_ok (i : Nat) (s : List UInt8) (sh : Bool) (d : AV) (id : Nat) (hs : s.length ≤ 9223372036854775807) :
    FnOk Try.prog 65 [.ptr i 0 0, .int .i64 1] [(i, bxR s sh d)] id (.int .i64 (fNum (fTake s 1))) [(i, some (bxR (fRest s 1) (sh1 s sh 1) d))] := rnumber_ok i s sh 1 d id hs (by omega)
theorem rn2_ok (i : Nat) (s : List UInt8) (sh : Bool) (d : AV) (id : Nat) (hs : s.length ≤ 9223372036854775807) :
    FnOk Try.prog 65 [.ptr i 0 0, .int .i64 2] [(i, bxR s sh d)] id (.int .i64 (fNum (fTake s 2))) [(i, some (bxR (fRest s 2) (sh1 s sh 2) d))] := rnumber_ok i s sh 2 d id hs (by omega)
theorem rn4_ok (i : Nat) (s : List UInt8) (sh : Bool) (d : AV) (id : Nat) (hs : s.length ≤ 9223372036854775807) :
    FnOk Try.prog 65 [.ptr i 0 0, .int .i64 4] [(i, bxR s sh d)] id (.int .i64 (fNum (fTake s 4))) [(i, some (bxR (fRest s 4) (sh1 s sh 4) d))] := rnumber_ok i s sh 4 d id hs (by omega)
theorem takeI_ok (i : Nat) (s : List UInt8) (sh : Bool) (n : Int) (d : AV) (id : Nat) (hs : s.length ≤ 9223372036854775807) (hn : 0 ≤ n) :
    FnOk Try.prog 66 [.ptr i 0 0, .int .i64 n] [(i, bxR s sh d)] id (.str (fTake s n.toNat)) [(i, some (bxR (fRest s n.toNat) (sh1 s sh n.toNat) d))] := by
  obtain ⟨m, rfl⟩ : ∃ m : Nat, n = m := ⟨n.toNat, by omega⟩
  have h := take_ok i s sh m d id hs
  have hb : (if s.length < m then bxR [] true d else bxR (s.drop m) sh d) = bxR (fRest s m) (sh1 s sh m) d := by
    unfold fRest sh1; split <;> simp [*]
  rw [hb] at h
  exact h

structure RdS where
  e : Ev
  s : List UInt8
  sh : Bool
/-- What 'event' reads. -/
def rEvent (s : List UInt8) (sh : Bool) : RdS :=
  let k := fNum (fTake s 1); let s1 := fRest s 1; let h1 := sh1 s sh 1
  let t := fNum (fTake s1 1); let s2 := fRest s1 1; let h2 := sh1 s1 h1 1
  let i := fNum (fTake s2 2); let s3 := fRest s2 2; let h3 := sh1 s2 h2 2
  if k < 1 ∨ 6 < k then ⟨⟨k, t, i, 0, 0, []⟩, s3, true⟩
  else if k = 1 ∨ k = 2 then ⟨⟨k, t, i, 0, 0, []⟩, s3, h3⟩
  else
    let f := fNum (fTake s3 1); let s4 := fRest s3 1; let h4 := sh1 s3 h3 1
    if k = 4 then
      let n := fNum (fTake s4 1); let s5 := fRest s4 1; let h5 := sh1 s4 h4 1
      ⟨⟨k, t, i, f, 0, fTake s5 n.toNat⟩, fRest s5 n.toNat, sh1 s5 h5 n.toNat⟩
    else ⟨⟨k, t, i, f, fNum (fTake s4 4) - 999999999, []⟩, fRest s4 4, sh1 s4 h4 4⟩
theorem revent_ok (i : Nat) (s : List UInt8) (sh : Bool) (d : AV) (id : Nat) (hs : s.length ≤ 9223372036854775807) :
    FnOk Try.prog 67 [.ptr i 0 0] [(i, bxR s sh d)] id (eEv (rEvent s sh).e) [(i, some (bxR (rEvent s sh).s (rEvent s sh).sh d))] := by
  have l1 := fRest_len s 1
  have l2 := fRest_len (fRest s 1) 1
  have l3 := fRest_len (fRest (fRest s 1) 1) 2
  have l4 := fRest_len (fRest (fRest (fRest s 1) 1) 2) 1
  have l5 := fRest_len (fRest (fRest (fRest (fRest s 1) 1) 2) 1) 1
  simp only [bxR]
  refine fn_okc Try.func67 hcc67 (by decide) hcr67 (by simp [Try.ntmps67]) fun E hP hR hl hid => ?_
  simp only [cr67] at hR
  refine w_go 4000 ?_
  simp [cc67]
  have hi := hl (i, _) (List.mem_cons_self ..)
  simp only at hi
  have i1 := ne_own hi.1; have i2 := ne_own' hi.1; have i3 := ne_own0 hi.1; have i4 := ne_own0' hi.1
  (refine w_call hP rfl (rn1_ok i s sh d _ (by omega)) (by simp [i1, i2, i3, i4, hi.1, id_ne hi.2, id_ne' hi.2]) (by simp [i1, i2, i3, i4, hi.1, id_ne hi.2, id_ne' hi.2] <;> rfl) ?_; refine w_go 4000 ?_; simp [i1, i2, i3, i4, hi.1, id_ne hi.2, id_ne' hi.2])
  (refine w_call hP rfl (rn1_ok i (fRest s 1) (sh1 s sh 1) d _ (by omega)) (by simp [i1, i2, i3, i4, hi.1, id_ne hi.2, id_ne' hi.2]) (by simp [i1, i2, i3, i4, hi.1, id_ne hi.2, id_ne' hi.2] <;> rfl) ?_; refine w_go 4000 ?_; simp [i1, i2, i3, i4, hi.1, id_ne hi.2, id_ne' hi.2])
  (refine w_call hP rfl (rn2_ok i (fRest (fRest s 1) 1) (sh1 (fRest s 1) (sh1 s sh 1) 1) d _ (by omega)) (by simp [i1, i2, i3, i4, hi.1, id_ne hi.2, id_ne' hi.2]) (by simp [i1, i2, i3, i4, hi.1, id_ne hi.2, id_ne' hi.2] <;> rfl) ?_; refine w_go 4000 ?_; simp [i1, i2, i3, i4, hi.1, id_ne hi.2, id_ne' hi.2])
  have hbd := fNum_bd (fTake (fRest (fRest (fRest (fRest s 1) 1) 2) 1) 1)
  have hwr : ∀ l : List UInt8, l.length ≤ 4 → IntKind.i64.wrap (fNum l - 999999999) = fNum l - 999999999 := fun l hl => by
    have hb := fNum_bd l
    have : (256 : Int) ^ l.length ≤ 4294967296 := by
      have : l.length = 0 ∨ l.length = 1 ∨ l.length = 2 ∨ l.length = 3 ∨ l.length = 4 := by omega
      rcases this with e | e | e | e | e <;> rw [e] <;> decide
    exact wrap64 (by omega)
  have hk4 : (fTake (fRest (fRest (fRest (fRest s 1) 1) 2) 1) 4).length ≤ 4 := by unfold fTake; split <;> simp; omega
  refine goc (fun h => ?_) (fun h => ?_)
  · have h' : fNum (fTake s 1) < 1 ∨ 6 < fNum (fTake s 1) := by simpa using h
    simp [i1, i2, i3, i4, hi.1, id_ne hi.2, id_ne' hi.2]
    simp only [rEvent, if_pos h'] at hR
    have hrn : rnOk [] := by simp [i1, i2, i3, i4, hi.1, id_ne hi.2, id_ne' hi.2, eEv, id_lt hid, id_own hid, id_own' hid, id_own0 hid, id_own0' hid]
    rw [hR]
    refine rt_end (by simp <;> rfl) [] hrn ⟨?_, ?_, ?_, ?_, ?_, ?_⟩ <;> (try simp [i1, i2, i3, i4, hi.1, id_ne hi.2, id_ne' hi.2, eEv, id_lt hid, id_own hid, id_own' hid, id_own0 hid, id_own0' hid])
  · have h' : ¬ (fNum (fTake s 1) < 1 ∨ 6 < fNum (fTake s 1)) := by simpa using h
    simp [i1, i2, i3, i4, hi.1, id_ne hi.2, id_ne' hi.2]
    (refine w_call hP rfl (plain_ok _ _) (by simp [i1, i2, i3, i4, hi.1, id_ne hi.2, id_ne' hi.2]) (by simp [i1, i2, i3, i4, hi.1, id_ne hi.2, id_ne' hi.2] <;> rfl) ?_; refine w_go 4000 ?_; simp [i1, i2, i3, i4, hi.1, id_ne hi.2, id_ne' hi.2])
    refine goc (fun h1 => ?_) (fun h1 => ?_)
    · have h1' : fNum (fTake s 1) = 1 ∨ fNum (fTake s 1) = 2 := by simpa using h1
      simp [i1, i2, i3, i4, hi.1, id_ne hi.2, id_ne' hi.2]
      simp only [rEvent, if_neg h', if_pos h1'] at hR
      have hrn : rnOk [] := by simp [i1, i2, i3, i4, hi.1, id_ne hi.2, id_ne' hi.2, eEv, id_lt hid, id_own hid, id_own' hid, id_own0 hid, id_own0' hid]
      rw [hR]
      refine rt_end (by simp <;> rfl) [] hrn ⟨?_, ?_, ?_, ?_, ?_, ?_⟩ <;> (try simp [i1, i2, i3, i4, hi.1, id_ne hi.2, id_ne' hi.2, eEv, id_lt hid, id_own hid, id_own' hid, id_own0 hid, id_own0' hid])
    · have h1' : ¬ (fNum (fTake s 1) = 1 ∨ fNum (fTake s 1) = 2) := by simpa using h1
      simp [i1, i2, i3, i4, hi.1, id_ne hi.2, id_ne' hi.2]
      refine goc (fun h2 => ?_) (fun h2 => ?_)
      · have h2' : fNum (fTake s 1) = 4 := by simpa using h2
        simp [i1, i2, i3, i4, hi.1, id_ne hi.2, id_ne' hi.2]
        simp only [rEvent, if_neg h', if_neg h1', if_pos h2'] at hR
        (refine w_call hP rfl (rn1_ok i (fRest (fRest (fRest s 1) 1) 2) (sh1 (fRest (fRest s 1) 1) (sh1 (fRest s 1) (sh1 s sh 1) 1) 2) d _ (by omega)) (by simp [i1, i2, i3, i4, hi.1, id_ne hi.2, id_ne' hi.2]) (by simp [i1, i2, i3, i4, hi.1, id_ne hi.2, id_ne' hi.2] <;> rfl) ?_; refine w_go 4000 ?_; simp [i1, i2, i3, i4, hi.1, id_ne hi.2, id_ne' hi.2])
        (refine w_call hP rfl (rn1_ok i (fRest (fRest (fRest (fRest s 1) 1) 2) 1) (sh1 (fRest (fRest (fRest s 1) 1) 2) (sh1 (fRest (fRest s 1) 1) (sh1 (fRest s 1) (sh1 s sh 1) 1) 2) 1) d _ (by omega)) (by simp [i1, i2, i3, i4, hi.1, id_ne hi.2, id_ne' hi.2]) (by simp [i1, i2, i3, i4, hi.1, id_ne hi.2, id_ne' hi.2] <;> rfl) ?_; refine w_go 4000 ?_; simp [i1, i2, i3, i4, hi.1, id_ne hi.2, id_ne' hi.2])
        (refine w_call hP rfl (takeI_ok i (fRest (fRest (fRest (fRest (fRest s 1) 1) 2) 1) 1) (sh1 (fRest (fRest (fRest (fRest s 1) 1) 2) 1) (sh1 (fRest (fRest (fRest s 1) 1) 2) (sh1 (fRest (fRest s 1) 1) (sh1 (fRest s 1) (sh1 s sh 1) 1) 2) 1) 1) _ d _ (by omega) hbd.1) (by simp [i1, i2, i3, i4, hi.1, id_ne hi.2, id_ne' hi.2]) (by simp [i1, i2, i3, i4, hi.1, id_ne hi.2, id_ne' hi.2] <;> rfl) ?_; refine w_go 4000 ?_; simp [i1, i2, i3, i4, hi.1, id_ne hi.2, id_ne' hi.2])
        have hrn : rnOk [] := by simp [i1, i2, i3, i4, hi.1, id_ne hi.2, id_ne' hi.2, eEv, id_lt hid, id_own hid, id_own' hid, id_own0 hid, id_own0' hid]
        rw [hR]
        refine rt_end (by simp <;> rfl) [] hrn ⟨?_, ?_, ?_, ?_, ?_, ?_⟩ <;> (try simp [i1, i2, i3, i4, hi.1, id_ne hi.2, id_ne' hi.2, eEv, id_lt hid, id_own hid, id_own' hid, id_own0 hid, id_own0' hid])
      · have h2' : ¬ fNum (fTake s 1) = 4 := by simpa using h2
        simp [i1, i2, i3, i4, hi.1, id_ne hi.2, id_ne' hi.2]
        simp only [rEvent, if_neg h', if_neg h1', if_neg h2'] at hR
        (refine w_call hP rfl (rn1_ok i (fRest (fRest (fRest s 1) 1) 2) (sh1 (fRest (fRest s 1) 1) (sh1 (fRest s 1) (sh1 s sh 1) 1) 2) d _ (by omega)) (by simp [i1, i2, i3, i4, hi.1, id_ne hi.2, id_ne' hi.2]) (by simp [i1, i2, i3, i4, hi.1, id_ne hi.2, id_ne' hi.2] <;> rfl) ?_; refine w_go 4000 ?_; simp [i1, i2, i3, i4, hi.1, id_ne hi.2, id_ne' hi.2])
        (refine w_call hP rfl (rn4_ok i (fRest (fRest (fRest (fRest s 1) 1) 2) 1) (sh1 (fRest (fRest (fRest s 1) 1) 2) (sh1 (fRest (fRest s 1) 1) (sh1 (fRest s 1) (sh1 s sh 1) 1) 2) 1) d _ (by omega)) (by simp [i1, i2, i3, i4, hi.1, id_ne hi.2, id_ne' hi.2]) (by simp [i1, i2, i3, i4, hi.1, id_ne hi.2, id_ne' hi.2] <;> rfl) ?_; refine w_go 4000 ?_; simp [i1, i2, i3, i4, hi.1, id_ne hi.2, id_ne' hi.2])
        rw [hwr _ hk4]
        have hrn : rnOk [] := by simp [i1, i2, i3, i4, hi.1, id_ne hi.2, id_ne' hi.2, eEv, id_lt hid, id_own hid, id_own' hid, id_own0 hid, id_own0' hid]
        rw [hR]
        refine rt_end (by simp <;> rfl) [] hrn ⟨?_, ?_, ?_, ?_, ?_, ?_⟩ <;> (try simp [i1, i2, i3, i4, hi.1, id_ne hi.2, id_ne' hi.2, eEv, id_lt hid, id_own hid, id_own' hid, id_own0 hid, id_own0' hid])
end Go.Am

namespace Go.Am
set_option linter.all false
set_option linter.all false
open Go Go.RowKit Go.Proofs
set_option maxRecDepth 100000


structure RdL where
  l : List Ev
  s : List UInt8
  sh : Bool
def rEvs : Nat → List UInt8 → Bool → RdL
  | 0, s, sh => ⟨[], s, sh⟩
  | k + 1, s, sh => if sh then ⟨[], s, sh⟩ else ⟨(rEvent s sh).e :: (rEvs k (rEvent s sh).s (rEvent s sh).sh).l, (rEvs k (rEvent s sh).s (rEvent s sh).sh).s, (rEvs k (rEvent s sh).s (rEvent s sh).sh).sh⟩

structure DecS where
  b : Bt
  n : Int
  e : Int
def dBody (s : List UInt8) : List UInt8 := fTake (fRest s 2) (fNum (fTake s 2)).toNat
def dShort (s : List UInt8) : Bool := sh1 (fRest s 2) (sh1 s false 2) (fNum (fTake s 2)).toNat
def dNum (b : List UInt8) : Int := fNum (fTake b 2)
def dEvs (b : List UInt8) : RdL := rEvs (fNum (fTake (fRest b 2) 1)).toNat (fRest (fRest b 2) 1) (sh1 (fRest b 2) (sh1 b false 2) 1)
def fDecode (s : List UInt8) : DecS :=
  if dShort s = true then ⟨⟨0, []⟩, 0, 5⟩
  else if (dEvs (dBody s)).sh = true ∨ (dEvs (dBody s)).s ≠ [] then ⟨⟨0, []⟩, 0, 1⟩
  else if fCheckB ⟨dNum (dBody s), (dEvs (dBody s)).l⟩ ≠ 0 then ⟨⟨0, []⟩, 0, fCheckB ⟨dNum (dBody s), (dEvs (dBody s)).l⟩⟩
  else ⟨⟨dNum (dBody s), (dEvs (dBody s)).l⟩, fNum (fTake s 2) + 2, 0⟩
def bxE (l : List Ev) (f : Bool) : Bx := ⟨l.map eEv, .agg [.int .i64 0, .int .i64 0, .int .i64 0, .int .i64 0, .int .i64 0, .str []], false, f⟩
attribute [simp] bxE

theorem fTake_len (s : List UInt8) (k : Nat) : (fTake s k).length ≤ s.length := by unfold fTake; split <;> simp <;> omega
theorem rEvent_len (s : List UInt8) (sh : Bool) : (rEvent s sh).s.length ≤ s.length := by
  have l1 := fRest_len s 1
  have l2 := fRest_len (fRest s 1) 1
  have l3 := fRest_len (fRest (fRest s 1) 1) 2
  have l4 := fRest_len (fRest (fRest (fRest s 1) 1) 2) 1
  have l5 := fRest_len (fRest (fRest (fRest (fRest s 1) 1) 2) 1) 1
  have l6 := fRest_len (fRest (fRest (fRest (fRest s 1) 1) 2) 1) 4
  have l7 := fRest_len (fRest (fRest (fRest (fRest (fRest s 1) 1) 2) 1) 1) (fNum (fTake (fRest (fRest (fRest (fRest s 1) 1) 2) 1) 1)).toNat
  simp only [rEvent]
  split
  · show (fRest (fRest (fRest s 1) 1) 2).length ≤ _; omega
  · split
    · show (fRest (fRest (fRest s 1) 1) 2).length ≤ _; omega
    · split
      · simp only; omega
      · simp only; omega
theorem fNum1 (s : List UInt8) : 0 ≤ fNum (fTake s 1) ∧ fNum (fTake s 1) ≤ 255 := by
  have hb := fNum_bd (fTake s 1)
  have : (fTake s 1).length = 0 ∨ (fTake s 1).length = 1 := by unfold fTake; split <;> simp; omega
  rcases this with e | e <;> rw [e] at hb <;> simp at hb <;> omega

theorem fNum2 (s : List UInt8) : 0 ≤ fNum (fTake s 2) ∧ fNum (fTake s 2) ≤ 65535 := by
  have hb := fNum_bd (fTake s 2)
  have : (fTake s 2).length = 0 ∨ (fTake s 2).length = 1 ∨ (fTake s 2).length = 2 := by unfold fTake; split <;> simp; omega
  rcases this with e | e | e <;> rw [e] at hb <;> simp at hb <;> omega

theorem Decode_ok (s : List UInt8) (id : Nat) (hs : s.length ≤ 9223372036854775807) :
    FnOk Try.prog 18 [.str s] [] id (.tup [eBt (fDecode s).b, .int .i64 (fDecode s).n, .int .i64 (fDecode s).e]) [] := by
  have l1 := fRest_len s 2
  have hn := fNum_bd (fTake s 2)
  simp only [eBt]
  refine fn_okc Try.func18 hcc18 (by decide) hcr18 (by simp [Try.ntmps18]) fun E hP hR hl hid => ?_
  simp only [cr18] at hR
  refine w_go 4000 ?_
  simp [cc18]
  (refine w_call hP rfl (rn2_ok _ s false _ _ (by omega)) (by simp) (by simp <;> rfl) ?_; refine w_go 4000 ?_; simp)
  (refine w_call hP rfl (takeI_ok _ (fRest s 2) (sh1 s false 2) _ _ _ (by omega) hn.1) (by simp) (by simp <;> rfl) ?_; refine w_go 4000 ?_; simp)
  refine goc (fun h => ?_) (fun h => ?_)
  · simp
    have hv : fDecode s = ⟨⟨0, []⟩, 0, 5⟩ := by unfold fDecode dShort; rw [if_pos h]
    rw [hv] at hR
    have hrn : rnOk [] := by simp [id_lt hid, id_own hid, id_own' hid, id_own0 hid, id_own0' hid]
    rw [hR]
    refine rt_end (by simp <;> rfl) [] hrn ⟨?_, ?_, ?_, ?_, ?_, ?_⟩ <;> (try simp [id_lt hid, id_own hid, id_own' hid, id_own0 hid, id_own0' hid])
  · have hds : ¬ dShort s = true := by unfold dShort; rw [h]; simp
    have lb0 := fTake_len (fRest s 2) (fNum (fTake s 2)).toNat
    have lb : (dBody s).length ≤ 9223372036854775807 := by unfold dBody; omega
    have lb1 := fRest_len (dBody s) 2
    have lb2 := fRest_len (fRest (dBody s) 2) 1
    rw [show fTake (fRest s 2) (fNum (fTake s 2)).toNat = dBody s from rfl]
    simp
    (refine w_call hP rfl (rn2_ok _ (dBody s) false _ _ (by omega)) (by simp) (by simp <;> rfl) ?_; refine w_go 4000 ?_; simp)
    (refine w_call hP rfl (rn1_ok _ (fRest (dBody s) 2) (sh1 (dBody s) false 2) _ _ (by omega)) (by simp) (by simp <;> rfl) ?_; refine w_go 4000 ?_; simp)
    have hk := fNum1 (fRest (dBody s) 2)
    have hkk : ((fNum (fTake (fRest (dBody s) 2) 1)).toNat : Int) = fNum (fTake (fRest (dBody s) 2) 1) := by omega
    refine w_loop (X := Nat × RdL) (fun x => ⟨[(2, true, .ptr E.n0 0 0), (6, true, .int .i64 (fNum (fTake s 2))), (8, true, .ptr (E.n0 + 1) 0 0), (9, true, .ptr (E.n0 + 2) 0 0), (10, true, .int .i64 x.1)],
        [(E.n0, some ⟨[.agg [.int .i64 0, .nils]], .agg [.int .i64 0, .nils], false, false⟩), (E.n0 + 1, some (bxR x.2.s x.2.sh (.agg [.str [], .bool false]))), (E.n0 + 2, some ⟨[.agg [.int .i64 (dNum (dBody s)), .bsl (E.n0 + 3) 0 x.2.l.length]], .agg [.int .i64 0, .nils], false, false⟩), (E.n0 + 3, some (bxE x.2.l false))], 4⟩)
      (fun x => (x.2.l ++ (rEvs x.1 x.2.s x.2.sh).l = (dEvs (dBody s)).l ∧ (rEvs x.1 x.2.s x.2.sh).s = (dEvs (dBody s)).s ∧ (rEvs x.1 x.2.s x.2.sh).sh = (dEvs (dBody s)).sh) ∧ x.2.l.length + x.1 ≤ 255 ∧ x.2.s.length ≤ 9223372036854775807) (fun x => x.1)
      ((fNum (fTake (fRest (dBody s) 2) 1)).toNat, ⟨[], fRest (fRest (dBody s) 2) 1, sh1 (fRest (dBody s) 2) (sh1 (dBody s) false 2) 1⟩) ?_ ⟨⟨by simp only [dEvs, List.nil_append], by simp only [dEvs], by simp only [dEvs]⟩, by simp; omega, by simp; omega⟩ ?_
    · refine Conv.trans (Conv.voidBox (E.n0 + 100) (by simp; rfl) rfl (.agg [.int .i64 (dNum (dBody s)), .nils] [.int .i64 (dNum (dBody s)), .bsl (E.n0 + 120) 0 0] rfl (fun m x y h1 h2 => ?_)) (.agg [.int .i64 0, .int .i64 0, .int .i64 0, .int .i64 0, .int .i64 0, .str []])) ?_
      · match m, h1, h2 with
        | 0, h1, h2 => simp at h1 h2; exact .inl (h1.symm.trans h2)
        | 1, h1, h2 => simp at h1 h2; exact .inr ⟨h1.symm, h2.symm⟩
        | m + 2, h1, h2 => simp at h1
      · have hrn : rnOk [(E.n0, E.n0), (E.n0 + 1, E.n0 + 80), (E.n0 + 2, E.n0 + 100), (E.n0 + 3, E.n0 + 120)] := by simp[hkk, dNum]
        refine Conv.sub [(E.n0, E.n0), (E.n0 + 1, E.n0 + 80), (E.n0 + 2, E.n0 + 100), (E.n0 + 3, E.n0 + 120)] hrn ?_ ?_ ?_ ?_ ?_ <;> (try simp[hkk, dNum])
    · rintro ⟨k, l, s1, sh⟩ ⟨⟨hf1, hf2, hf3⟩, hlen, hs1⟩ p hp
      simp only at hf1 hf2 hf3 hlen hs1 hp
      refine w_go 4000 ?_
      simp
      refine goc (fun h => ?_) (fun h => ?_)
      · obtain ⟨h1, h2⟩ : 0 < k ∧ sh = false := by simpa using h
        subst h2
        obtain ⟨m, rfl⟩ : ∃ m, k = m + 1 := ⟨k - 1, by omega⟩
        simp only [rEvs, Bool.false_eq_true, if_false] at hf1 hf2 hf3
        have hel := rEvent_len s1 false
        simp
        (refine w_call hP rfl (revent_ok (E.n0 + 1) s1 false _ _ (by omega)) (by simp [eEv]) (by simp [eEv] <;> rfl) ?_; refine w_go 4000 ?_; simp [eEv])
        have hm1 : IntKind.i64.wrap (m : Int) = m := wrap64 (by omega)
        refine ⟨⟨by omega, by omega⟩, hp _ (m, ⟨l ++ [(rEvent s1 false).e], (rEvent s1 false).s, (rEvent s1 false).sh⟩) ⟨⟨by simpa using hf1, hf2, hf3⟩, by simp; omega, by simp; omega⟩ (by simp) ?_⟩
        have hrn : rnOk [(E.n0, E.n0), (E.n0 + 1, E.n0 + 1), (E.n0 + 2, E.n0 + 2), (E.n0 + 3, E.n0 + 60)] := by simp[hm1]
        refine Conv.sub [(E.n0, E.n0), (E.n0 + 1, E.n0 + 1), (E.n0 + 2, E.n0 + 2), (E.n0 + 3, E.n0 + 60)] hrn ?_ ?_ ?_ ?_ ?_ <;> (try simp[hm1])
        exact renL_pure (by simp [eEv]) (by simp [pureL_append])
      · simp
        have h0 : (rEvs k s1 sh).l = [] ∧ (rEvs k s1 sh).s = s1 ∧ (rEvs k s1 sh).sh = sh := by
          cases k with
          | zero => exact ⟨rfl, rfl, rfl⟩
          | succ k => have : sh = true := by simpa using h
                      subst this; exact ⟨rfl, rfl, rfl⟩
        rw [h0.1, List.append_nil] at hf1
        rw [h0.2.1] at hf2
        rw [h0.2.2] at hf3
        subst hf1 hf2 hf3
        refine goc (fun h1 => ?_) (fun h1 => ?_)
        · simp
          have h1' : (dEvs (dBody s)).sh = true ∨ (dEvs (dBody s)).s ≠ [] := by simpa using h1
          have hv : fDecode s = ⟨⟨0, []⟩, 0, 1⟩ := by unfold fDecode; rw [if_neg hds, if_pos h1']
          rw [hv] at hR
          have hrn : rnOk [] := by simp [id_lt hid, id_own hid, id_own' hid, id_own0 hid, id_own0' hid]
          rw [hR]
          refine rt_end (by simp <;> rfl) [] hrn ⟨?_, ?_, ?_, ?_, ?_, ?_⟩ <;> (try simp [id_lt hid, id_own hid, id_own' hid, id_own0 hid, id_own0' hid])
        · simp
          have h1' : ¬ ((dEvs (dBody s)).sh = true ∨ (dEvs (dBody s)).s ≠ []) := by simpa using h1
          (refine w_callR hP rfl (bCheck_ok ⟨dNum (dBody s), (dEvs (dBody s)).l⟩ _) (by simp [eBt] <;> rfl) (by simp [eBt]) (by simp [eBt] <;> rfl) (by simp [eBt]) ?_; refine w_go 4000 ?_; simp [eBt])
          refine goc (fun h2 => ?_) (fun h2 => ?_)
          · simp
            have h2' : fCheckB ⟨dNum (dBody s), (dEvs (dBody s)).l⟩ ≠ 0 := by simpa using h2
            have hv : fDecode s = ⟨⟨0, []⟩, 0, fCheckB ⟨dNum (dBody s), (dEvs (dBody s)).l⟩⟩ := by unfold fDecode; rw [if_neg hds, if_neg h1', if_pos h2']
            rw [hv] at hR
            have hrn : rnOk [] := by simp [id_lt hid, id_own hid, id_own' hid, id_own0 hid, id_own0' hid]
            rw [hR]
            refine rt_end (by simp <;> rfl) [] hrn ⟨?_, ?_, ?_, ?_, ?_, ?_⟩ <;> (try simp [id_lt hid, id_own hid, id_own' hid, id_own0 hid, id_own0' hid])
          · simp
            have h2' : ¬ fCheckB ⟨dNum (dBody s), (dEvs (dBody s)).l⟩ ≠ 0 := by simpa using h2
            have hv : fDecode s = ⟨⟨dNum (dBody s), (dEvs (dBody s)).l⟩, fNum (fTake s 2) + 2, 0⟩ := by unfold fDecode; rw [if_neg hds, if_neg h1', if_neg h2']
            rw [hv] at hR
            have h65 := fNum2 s
            have hw2 : IntKind.i64.wrap (fNum (fTake s 2) + 2) = fNum (fTake s 2) + 2 := wrap64 (by omega)
            have hrn : rnOk [] := by simp [hw2, id_lt hid, id_own hid, id_own' hid, id_own0 hid, id_own0' hid]
            rw [hR]
            refine rt_endR (by simp <;> rfl) (by simp [hw2, id_lt hid, id_own hid, id_own' hid, id_own0 hid, id_own0' hid] <;> exact ⟨rfl, rfl⟩) [] hrn ⟨?_, ?_, ?_, ?_, ?_, ?_⟩ <;> (try simp [hw2, id_lt hid, id_own hid, id_own' hid, id_own0 hid, id_own0' hid])
end Go.Am
