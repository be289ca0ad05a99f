/- The law: an event of one thing leaves all others. No condition. -/
import Derived.Test.YtgdanfbkhaoieaaXY
namespace Go.Am
set_option linter.all false
open Go Go.RowKit Go.Proofs
set_option maxRecDepth 100000
set_option linter.all false

theorem SameTypes_nil (id : Nat) : FnOk Try.prog 52 [.nils, .nils] [] id (.bool true) [] := by
  refine fn_okc Try.func52 hcc52 (by decide) hcr52 (by simp [Try.ntmps52]) fun E hP hR hl hid => ?_
  simp only [cr52] at hR
  refine w_go 4000 ?_
  simp [cc52]
  refine w_loop (X := Nat) (fun i => ⟨[(0, true, .nils), (5, true, .int .i64 0)], [], 0⟩) (fun i => True) (fun i => 0) 0 ?_ trivial ?_
  · have hrn : rnOk [] := by simp
    refine Conv.sub [] hrn ?_ ?_ ?_ ?_ ?_ <;> (try simp)
  · rintro i _ p hp
    refine w_go 4000 ?_
    simp
    rw [hR]; exact rt_end (by simp <;> rfl) [] trivial (end_pure (by simp) (by simp) (by simp))
theorem Same_one (t : Tg) (id : Nat) (h : t.cells.length ≤ 1000000 ∧ ∀ c ∈ t.cells, c.ids.length ≤ 1000000) : FnOk Try.prog 53 [.agg [.nils, .sl [eTg t]], .agg [.nils, .sl [eTg t]]] [] id (.bool true) [] := by
  have := SameStateG .nils .nils true rfl rfl (fun id => SameTypes_nil id) [t] [t] id (by simp) (fun x hx => by simp at hx; subst hx; exact h)
  simpa using this
theorem rt_sub {s : Sta} (hI : IdsI s) {e : Ev} (hn : I64 e.n) (h : fDoE s e = 0) : Rt s ∧ Rt (rawS s e) ∧ (rawS s e).types = s.types ∧ rawE s e = 0 := by
  obtain ⟨a1, a2⟩ := fDoE_zero h
  have hR := rt_of a1 hI
  obtain ⟨hr', ht'⟩ := rt_raw hR hn a2
  exact ⟨hR, hr', ht', a2⟩
set_option maxHeartbeats 4000000 in
theorem StateApart_ok (s : Sta) (x y : Ev) (id : Nat) (hI : IdsI s) (hn : I64 x.n) (hm : I64 y.n) : FnOk Try.prog 13 [eSta s, eEv x, eEv y] [] id (.bool true) [] := by
  have hb := fun id => stateBegun_ok id
  by_cases h0 : fDoE s x = 0
  · obtain ⟨hR, hr', ht', a2⟩ := rt_sub hI hn h0
    have hD := fun id => Do_done s x id (fDoE_zero h0).1 a2
    have hT := fun k t id => ThingAt_ok (rawS s x) k t id hr'.sz.2.2.1
    have hone := fun t (ht : t ∈ s.things) (hne : ¬ (t.type = x.type ∧ t.id = x.id)) => apart_one hR hn a2 ht hne
    have hsz := hR.sz
    have hF1 : (3 ≤ x.kind ∧ 3 ≤ y.kind ∧ ¬ (x.type = y.type ∧ x.id = y.id ∧ x.field = y.field)) → fDoE (rawS s x) y = fDoE s y := fun ⟨k1, k2, k3⟩ => by
      rw [fDoE_of hr'.st, fDoE_of hR.st, chg_field hR hn a2 k1 k2 k3]
    have hF2 : (3 ≤ x.kind ∧ 3 ≤ y.kind ∧ ¬ (x.type = y.type ∧ x.id = y.id ∧ x.field = y.field)) → fDoE s y = 0 → ∃ b c, (∀ id, FnOk Try.prog 44 [eSta (rawS s x), eEv y] [] id (.tup [eSta b, .int .i64 0]) []) ∧ (∀ id, FnOk Try.prog 44 [eSta s, eEv y] [] id (.tup [eSta c, .int .i64 0]) []) ∧ (∀ id, FnOk Try.prog 44 [eSta c, eEv x] [] id (.tup [eSta b, .int .i64 0]) []) ∧ (∀ id, FnOk Try.prog 53 [eSta b, eSta b] [] id (.bool true) []) := fun hk hy => by
      obtain ⟨k1, k2, k3⟩ := hk
      have hy0 := (fDoE_zero hy).2
      obtain ⟨p1, p2, p3⟩ := apart_two hR hn hm a2 hy0 k1 k2 k3
      obtain ⟨hry, _⟩ := rt_raw hR hm hy0
      refine ⟨rawS (rawS s x) y, rawS s y, fun id => Do_done _ y id hr'.st p1, fun id => Do_done s y id hR.st hy0, fun id => ?_, fun id => Same_self (rt_raw hr' hm p1).1 id⟩
      rw [p3]
      exact Do_done _ x id hry.st p2
    have hF3 : (3 ≤ x.kind ∧ 3 ≤ y.kind ∧ ¬ (x.type = y.type ∧ x.id = y.id ∧ x.field = y.field)) → fDoE s y ≠ 0 → (∀ id, FnOk Try.prog 44 [eSta (rawS s x), eEv y] [] id (.tup [eS0, .int .i64 (fDoE s y)]) []) ∧ (∀ id, FnOk Try.prog 44 [eSta s, eEv y] [] id (.tup [eS0, .int .i64 (fDoE s y)]) []) := fun hk hy => by
      refine ⟨fun id => ?_, fun id => Do_bad s y id hy⟩
      have := Do_bad (rawS s x) y id (by rw [hF1 hk]; exact hy)
      rwa [hF1 hk] at this
    clear hF1
    generalize hA : rawS s x = a at *
    unfold eSta eEv eS0 at *
    rw [ht'] at *
    refine fn_okc Try.func13 hcc13 (by decide) hcr13 (by simp [Try.ntmps13]) fun E hP hR hl hid => ?_
    simp only [cr13] at hR
    refine w_go 4000 ?_
    simp [cc13]
    (refine w_call hP rfl (hb _) (by simp) (by simp <;> rfl) ?_; refine w_go 4000 ?_; simp)
    (refine w_call hP rfl (hD _) (by simp) (by simp <;> rfl) ?_; refine w_go 4000 ?_; simp)
    refine w_loop (X := Nat) (fun i => ⟨[(3, true, .ptr E.n0 0 0), (4, true, .ptr (E.n0 + 1) 0 0), (5, true, .ptr (E.n0 + 2) 0 0), (7, true, .ptr (E.n0 + 3) 0 0), (9, true, .int .i64 i)],
      [(E.n0, some ⟨[.agg [.sl (s.types.map eTy), .sl (s.things.map eTg)]], .agg [.sl (s.types.map eTy), .sl (s.things.map eTg)], false, false⟩), (E.n0 + 1, some ⟨[.agg [.int .i64 x.kind, .int .i64 x.type, .int .i64 x.id, .int .i64 x.field, .int .i64 x.n, .str x.text]], .agg [.int .i64 x.kind, .int .i64 x.type, .int .i64 x.id, .int .i64 x.field, .int .i64 x.n, .str x.text], false, false⟩),
       (E.n0 + 2, some ⟨[.agg [.int .i64 y.kind, .int .i64 y.type, .int .i64 y.id, .int .i64 y.field, .int .i64 y.n, .str y.text]], .agg [.int .i64 y.kind, .int .i64 y.type, .int .i64 y.id, .int .i64 y.field, .int .i64 y.n, .str y.text], false, false⟩), (E.n0 + 3, some ⟨[.agg [.sl (s.types.map eTy), .sl (a.things.map eTg)]], .agg [.nils, .nils], false, false⟩)], 4⟩) (fun i => i ≤ s.things.length) (fun i => s.things.length - i) 0 ?_ (by omega) ?_
    · have hrn : rnOk [(E.n0, E.n0), (E.n0 + 1, E.n0 + 1024), (E.n0 + 2, E.n0 + 2048), (E.n0 + 3, E.n0 + 12288)] := by simp
      refine Conv.sub [(E.n0, E.n0), (E.n0 + 1, E.n0 + 1024), (E.n0 + 2, E.n0 + 2048), (E.n0 + 3, E.n0 + 12288)] hrn ?_ ?_ ?_ ?_ ?_ <;> (try simp)
    · rintro i hi p hp
      refine w_go 4000 ?_
      simp
      refine goc (fun h => ?_) (fun h => ?_)
      · have h := of_decide_eq_true h
        obtain ⟨t, hx⟩ : ∃ t, s.things[i]? = some t := ⟨_, List.getElem?_eq_getElem h⟩
        have htm := List.mem_of_getElem? hx
        have hi1 : IntKind.i64.wrap ((i : Int) + 1) = ((i + 1 : Nat) : Int) := wrap64 (by omega)
        simp [hx, eTg]
        (repeat (refine And.intro (by first | assumption | omega | (simp; omega) | (simp_all; done)) ?_))
        (refine w_call hP rfl (hT _ _ _) (by simp) (by simp <;> rfl) ?_; refine w_go 4000 ?_; simp)
        refine goc (fun g => ?_) (fun g => ?_)
        · simp
          refine hp _ (i + 1) (by omega) (by omega) ?_
          have hrn : rnOk [(E.n0, E.n0), (E.n0 + 1, E.n0 + 1), (E.n0 + 2, E.n0 + 2), (E.n0 + 3, E.n0 + 3)] := by simp[hi1]
          refine Conv.sub [(E.n0, E.n0), (E.n0 + 1, E.n0 + 1), (E.n0 + 2, E.n0 + 2), (E.n0 + 3, E.n0 + 3)] hrn ?_ ?_ ?_ ?_ ?_ <;> (try simp[hi1])
        · obtain ⟨k, hk1, hk2⟩ := hone t htm (by simp at g; omega)
          have hk0 : ((k : Int) < 0) = False := by simp
          have hkl := (List.getElem?_eq_some_iff.1 hk2).1
          have hcl := hsz.2.2.2 t htm
          have hS := fun id => Same_one t id hcl
          simp only [eTg] at hS
          simp [hk1, hk2, hk0, eTg]
          (repeat (refine And.intro (by first | assumption | omega | (simp; omega) | (simp_all; done)) ?_))
          refine w_split .nili (by simp) (fun _ => ?_) (fun hc => by simp at hc)
          (refine w_callR hP rfl (hS _) (by simp <;> rfl) (by simp) (by simp <;> rfl) (by simp) ?_; refine w_go 4000 ?_; simp)
          refine hp _ (i + 1) (by omega) (by omega) ?_
          have hrn : rnOk [(E.n0, E.n0), (E.n0 + 1, E.n0 + 1), (E.n0 + 2, E.n0 + 2), (E.n0 + 3, E.n0 + 3)] := by simp[hi1]
          refine Conv.sub [(E.n0, E.n0), (E.n0 + 1, E.n0 + 1), (E.n0 + 2, E.n0 + 2), (E.n0 + 3, E.n0 + 3)] hrn ?_ ?_ ?_ ?_ ?_ <;> (try simp[hi1])
      · simp
        refine ⟨fun a b => ⟨⟨a, b⟩, fun c => ⟨⟨a, b⟩, c⟩⟩, fun a b => ⟨⟨a, b⟩, fun c d => ⟨⟨a, b⟩, c, d⟩⟩, ?_⟩
        refine goc (fun g => ?_) (fun g => ?_)
        · simp
          rw [hR]; exact rt_end (by simp <;> rfl) [] trivial (end_pure (by simp) (by simp) (by simp))
        · have hw : 3 ≤ x.kind ∧ 3 ≤ y.kind ∧ ¬ (x.type = y.type ∧ x.id = y.id ∧ x.field = y.field) := by
            simp at g
            refine ⟨by omega, by omega, fun ⟨c1, c2, c3⟩ => ?_⟩
            exact g.2 c1 c2 c3
          simp
          by_cases hy : fDoE s y = 0
          · obtain ⟨b, c, q1, q2, q3, q4⟩ := hF2 hw hy
            (refine w_call hP rfl (q1 _) (by simp) (by simp <;> rfl) ?_; refine w_go 4000 ?_; simp)
            (refine w_call hP rfl (q2 _) (by simp) (by simp <;> rfl) ?_; refine w_go 4000 ?_; simp)
            (refine w_call hP rfl (q3 _) (by simp) (by simp <;> rfl) ?_; refine w_go 4000 ?_; simp)
            (refine w_callg hP (by simp) rfl (fun hc => ⟨q4 _, by revert hc; simp; try grind, by simp⟩) ?_; refine w_go 4000 ?_; simp)
            rw [hR]; exact rt_end (by simp <;> rfl) [] trivial (end_pure (by simp) (by simp) (by simp))
          · obtain ⟨q1, q2⟩ := hF3 hw hy
            (refine w_call hP rfl (q1 _) (by simp) (by simp <;> rfl) ?_; refine w_go 4000 ?_; simp)
            (refine w_call hP rfl (q2 _) (by simp) (by simp <;> rfl) ?_; refine w_go 4000 ?_; simp)
            refine goc_true (by simp [hy]) ?_
            simp
            rw [hR]; exact rt_end (by simp <;> rfl) [] trivial (end_pure (by simp) (by simp) (by simp))
  · have hD := fun id => Do_bad s x id h0
    unfold eSta eEv eS0 at *
    refine fn_okc Try.func13 hcc13 (by decide) hcr13 (by simp [Try.ntmps13]) fun E hP hR hl hid => ?_
    simp only [cr13] at hR
    refine w_go 4000 ?_
    simp [cc13]
    (refine w_call hP rfl (hb _) (by simp) (by simp <;> rfl) ?_; refine w_go 4000 ?_; simp)
    (refine w_call hP rfl (hD _) (by simp) (by simp <;> rfl) ?_; refine w_go 4000 ?_; simp)
    refine goc_true (by simpa using h0) ?_
    simp
    rw [hR]; exact rt_end (by simp <;> rfl) [] trivial (end_pure (by simp) (by simp) (by simp))
end Go.Am
