/- Parts of the proof: an abstract machine for Go functions, and what functions of the program give back (Vl9, Vl10, Vl11, Vl12, Vl13, Vl14, Vl15). No condition. -/
import Derived.Test.YtgdanfbkhaoieaaXI
import Derived.Test.YtgdanfbkhaoieaaXD
namespace Go.Am
set_option linter.all false
open Go Go.RowKit Go.Proofs
set_option maxRecDepth 100000
set_option linter.all false

theorem bool_ne {a b : Bool} (h : (!a == b) = true) : a ≠ b := by cases a <;> cases b <;> simp_all
theorem bool_nn {a b : Bool} (h : (!a == b) = false) : ¬ a ≠ b := by cases a <;> cases b <;> simp_all
theorem chk_mem : ∀ {q ah : List Sel}, fChkL q ah = 0 → ∀ x ∈ q, fArgs x.args = 0 ∧ fNm x = 0 ∧ fChkL x.kids [] = 0
  | [], ah, h, x, hx => by cases hx
  | s :: r, ah, h, x, hx => by
    simp only [fChkL] at h
    have h1 : fSel1 s ah = 0 := Classical.byContradiction fun h0 => by rw [if_pos h0] at h; exact h0 h
    rw [if_neg (by simp [h1])] at h
    have h2 : fChkK s = 0 := Classical.byContradiction fun h0 => by rw [if_pos h0] at h; exact h0 h
    rw [if_neg (by simp [h2])] at h
    rcases List.mem_cons.1 hx with rfl | hx
    · rw [fSel1_nm] at h1
      refine ⟨?_, ?_, by rw [← fChkK_eq]; exact h2⟩
      · split at h1
        · rename_i h0; exact (h0 h1).elim
        · split at h1
          · rename_i h0; exact (h0 h1).elim
          · rename_i h0; exact Classical.byContradiction h0
      · split at h1
        · rename_i h0; exact (h0 h1).elim
        · rename_i h0; exact Classical.byContradiction h0
    · exact chk_mem h x hx
theorem args_int {l : List Ag} (h : fArgs l = 0) : ∀ a ∈ l, -999999999 ≤ a.n ∧ a.n ≤ 999999999 := fun a ha => by
  obtain ⟨k, hk⟩ := List.mem_iff_getElem?.1 ha
  unfold fArgs at h
  split at h
  · simp at h
  have h0 := firstIx_zero _ _ _ h k a hk
  simp only [fArg1] at h0
  repeat' split at h0
  all_goals first | omega | skip
  all_goals try (simp_all; done)
  all_goals (unfold fArg at h0; repeat' split at h0)
  all_goals first | omega | (simp_all; done) | (rename_i g; omega)

theorem fKid_id (l : List Ty) (t : Ty) {s : Sel} (hn : s.name = tId) : fKid l t s = if fArgsV s.args tFirst false 0 999999999 ≠ 0 then fArgsV s.args tFirst false 0 999999999 else if s.kids = [] then 0 else 4 := by
  rw [fKid_eq, fieldAt, if_pos hn]
  simp only [show ((1 : Int) == 4) = false from rfl, show ((1 : Int) == 3) = false from rfl, Bool.or_false]
  split
  · rfl
  · cases hk : s.kids <;> simp
theorem fKid_none (l : List Ty) (t : Ty) {s : Sel} (hn : ¬ s.name = tId) (h : t.fields.find? (fun y => y.name == s.name) = none) : fKid l t s = 5 := by
  rw [fKid_eq, fieldAt, if_neg hn, h]
theorem fKid_fd (l : List Ty) (t : Ty) {s : Sel} {f : Fd} (hn : ¬ s.name = tId) (h : t.fields.find? (fun y => y.name == s.name) = some f) (hf : 1 ≤ f.kind ∧ f.kind ≤ 4) {t' : Ty} (ht : ¬ f.kind < 3 → typeAt l f.of = some t') :
    fKid l t s = if fArgsV s.args tFirst (f.kind == 4) 0 999999999 ≠ 0 then fArgsV s.args tFirst (f.kind == 4) 0 999999999 else if decide (f.kind < 3) ≠ s.kids.isEmpty then 4 else if f.kind < 3 then 0 else fKids l t' s.kids := by
  rw [fKid_eq, fieldAt, if_neg hn, h]
  simp only
  by_cases h3 : f.kind < 3
  · have e : (f.kind == 3 || f.kind == 4) = false := by simp; omega
    rw [e]
    simp only [h3, decide_true, if_true]
    split
    · rfl
    · cases hk : s.kids <;> simp
  · have e : (f.kind == 3 || f.kind == 4) = true := by simp; omega
    rw [e, ht h3]
    simp only [h3, decide_false, if_false]
    split
    · rfl
    · cases hk : s.kids <;> simp
set_option maxHeartbeats 4000000 in
theorem rfits_ok (l : List Ty) (hS : SchOk l) : ∀ (n : Nat) (q : List Sel) (kd : Nat) (t : Ty) (id : Nat), szL q < n → szL q ≤ 1099511627776 → l[kd]? = some t → fChkL q [] = 0 →
    FnOk Try.prog 79 [.sl (l.map eTy), .int .i64 (kd : Nat), .sl (q.map eSel)] [] id (.int .i64 (fKids l t q)) []
  | 0, q, kd, t, id, hn, hq8, hk, hc => by omega
  | n + 1, q, kd, t, id, hn, hq8, hkt, hc => by
    have ih := rfits_ok l hS n
    have hlen := szL_len q
    have htm := List.mem_of_getElem? hkt
    have hkl := (List.getElem?_eq_some_iff.1 hkt).1
    have hl5 := hS.len
    have hf6 := hS.fields t htm
    have hk0 : decide ((kd : Int) < 0) = false := by simp
    refine fn_okc Try.func79 hcc79 (by decide) hcr79 (by simp [Try.ntmps79]) fun E hP hR hl hid => ?_
    simp only [cr79] at hR
    refine w_go 4000 ?_
    simp [cc79]
    refine w_loop (X := Nat) (fun i => ⟨[(0, true, .sl (l.map eTy)), (1, true, .int .i64 kd), (2, true, .sl (q.map eSel)), (7, true, .int .i64 i)], [], 0⟩) (fun i => i ≤ q.length ∧ fKids l t (q.drop i) = fKids l t q) (fun i => q.length - i) 0 ?_ ⟨by omega, rfl⟩ ?_
    · have hrn : rnOk [] := by simp
      refine Conv.sub [] hrn ?_ ?_ ?_ ?_ ?_ <;> (try simp)
    · rintro i ⟨hi, hf⟩ p hp
      refine w_go 4000 ?_
      simp
      refine goc (fun h => ?_) (fun h => ?_)
      · have h := of_decide_eq_true h
        obtain ⟨x, hx, hd⟩ := drop_cons h
        have hxm : x ∈ q := List.mem_of_getElem? hx
        have hsz := szL_kids hxm
        have hsx := szL_mem hxm
        have hse := sz_eq x
        obtain ⟨hc1, -, hc2⟩ := chk_mem hc x hxm
        have hints := args_int hc1
        rw [hd] at hf
        simp only [fKids] at hf
        have hi1 : IntKind.i64.wrap ((i : Int) + 1) = ((i + 1 : Nat) : Int) := wrap64 (by omega)
        by_cases hn : x.name = tId
        · have hkid := fKid_id l t hn
          have hn' : x.name = [105, 100] := hn
          simp [hx, eSel_eq x, hn', hk0]
          refine ⟨h, ?_⟩
          refine w_loop (X := Nat) (fun k => ⟨[(0, true, .sl (l.map eTy)), (1, true, .int .i64 kd), (2, true, .sl (q.map eSel)), (7, true, .int .i64 i), (8, true, .ptr E.n0 0 0), (9, true, .int .i64 (-1)), (10, true, .bool false), (11, true, .bool true), (14, true, .int .i64 k)], [(E.n0, some ⟨[.agg [.str x.alias, .str [105, 100], .sl (x.args.map eAg), .sl (x.kids.map eSel)]], .agg [.str [], .str [], .nils, .nils], false, false⟩)], 1⟩) (fun k => k = 0) (fun k => 1) 0 ?_ rfl ?_
          · have hrn : rnOk [(E.n0, E.n0 + 32)] := by simp
            refine Conv.sub [(E.n0, E.n0 + 32)] hrn ?_ ?_ ?_ ?_ ?_ <;> (try simp)
          · rintro k rfl p2 hp2
            refine w_go 4000 ?_
            simp
            refine goc (fun h1 => ?_) (fun h1 => ?_)
            · have h1 := of_decide_eq_true h1
              obtain ⟨a, hy, hd2⟩ := drop_cons (l := x.args) (i := 0) (by omega)
              have hA : fArgsV x.args tFirst false 0 999999999 = 5 := by
                rw [List.drop_zero] at hd2
                rw [fArgsV, hd2]
                simp [firstE, fArgV]
              have hv : fKid l t x = 5 := by rw [hkid, hA]; rfl
              rw [hv, if_pos (by decide)] at hf
              simp [hy, eAg_eq a, hk0]
              refine ⟨by omega, ?_⟩
              rw [hR]; exact rt_end (by simp <;> rfl) [] trivial (end_pure (by simp; exact hf) (by simp) (by simp))
            · have h1 := of_decide_eq_false h1
              have hnil : x.args = [] := List.eq_nil_of_length_eq_zero (by omega)
              have hA : fArgsV x.args tFirst false 0 999999999 = 0 := by rw [hnil]; rfl
              simp
              refine goc (fun h2 => ?_) (fun h2 => ?_)
              · simp
                have hk0 : x.kids ≠ [] := by simpa using h2
                have hv : fKid l t x = 4 := by rw [hkid, hA, if_neg (by decide), if_neg hk0]
                rw [hv, if_pos (by decide)] at hf
                rw [hR]; exact rt_end (by simp <;> rfl) [] trivial (end_pure (by simp; exact hf) (by simp) (by simp))
              · simp
                have hk0 : x.kids = [] := by simpa using h2
                have hv : fKid l t x = 0 := by rw [hkid, hA, if_neg (by decide), if_pos hk0]
                rw [hv, if_neg (by decide)] at hf
                refine hp _ (i + 1) ⟨by omega, hf⟩ (by omega) ?_
                have hrn : rnOk [] := by simp[hi1]
                refine Conv.sub [] hrn ?_ ?_ ?_ ?_ ?_ <;> (try simp[hi1])
        · rcases findJ_spec (fun y => y.name == x.name) t.fields 0 with ⟨q1, q2⟩ | ⟨m, f, q1, q2, q3⟩
          · have hv := fKid_none l t hn q1
            rw [hv, if_pos (by decide)] at hf
            have hF := FieldAt_ok t.fields x.name
            rw [q2] at hF
            simp [hx, eSel_eq x, hk0]
            refine ⟨h, ?_⟩
            refine goc_false (by simpa [tId] using hn) ?_
            simp [hkt, eTy]
            refine ⟨hkl, ?_⟩
            (refine w_call hP rfl (hF _ (by omega)) (by simp) (by simp <;> rfl) ?_; refine w_go 4000 ?_; simp)
            rw [hR]; exact rt_end (by simp <;> rfl) [] trivial (end_pure (by simp; exact hf) (by simp) (by simp))
          · have hF := FieldAt_ok t.fields x.name
            rw [q2, Nat.zero_add] at hF
            have hfm := List.mem_of_getElem? q1
            have hfk := hS.kinds t htm f hfm
            have hml := (List.getElem?_eq_some_iff.1 q1).1
            obtain ⟨t', ht'⟩ : ∃ t', ¬ f.kind < 3 → typeAt l f.of = some t' ∧ ∃ m2 : Nat, l[m2]? = some t' ∧ findJ (fun y => y.name == f.of) l 0 = (m2 : Int) := by
              by_cases h3 : f.kind < 3
              · exact ⟨t, fun h => (h h3).elim⟩
              · have hof := hS.linked t htm f hfm (by omega)
                rcases findJ_spec (fun y => y.name == f.of) l 0 with ⟨r1, r2⟩ | ⟨k2, t', r1, r2, r3⟩
                · exact absurd hof (by rw [← findT_lt, r2]; decide)
                · exact ⟨t', fun _ => ⟨r3, k2, r1, by rw [r2]; simp⟩⟩
            have hkid := fKid_fd l t hn q3 hfk (fun h3 => (ht' h3).1)
            have hX := TypeAt_ok l f.of
            generalize findJ (fun y => y.name == f.of) l 0 = nx at hX ht'
            simp [hx, eSel_eq x, hk0]
            refine ⟨h, ?_⟩
            refine goc_false (by simpa [tId] using hn) ?_
            simp [hkt, eTy]
            refine ⟨hkl, ?_⟩
            (refine w_call hP rfl (hF _ (by omega)) (by simp) (by simp <;> rfl) ?_; refine w_go 4000 ?_; simp)
            refine goc_false (by simp) ?_
            simp [hkt, q1, eTy, eFd]
            refine ⟨hkl, hml, ?_⟩
            (refine w_call hP rfl (hX _ (by omega)) (by simp) (by simp <;> rfl) ?_; refine w_go 4000 ?_; simp)
            refine w_loop (X := Nat) (fun k => ⟨[(0, true, .sl (l.map eTy)), (1, true, .int .i64 kd), (2, true, .sl (q.map eSel)), (7, true, .int .i64 i), (8, true, .ptr E.n0 0 0), (9, true, .int .i64 nx), (10, true, .bool (f.kind == 4)), (11, true, .bool (decide (f.kind < 3))), (14, true, .int .i64 k)], [(E.n0, some ⟨[.agg [.str x.alias, .str x.name, .sl (x.args.map eAg), .sl (x.kids.map eSel)]], .agg [.str [], .str [], .nils, .nils], false, false⟩)], 1⟩) (fun k => k ≤ x.args.length ∧ firstE (fArgV tFirst (f.kind == 4) 0 999999999) (x.args.drop k) = firstE (fArgV tFirst (f.kind == 4) 0 999999999) x.args) (fun k => x.args.length - k) 0 ?_ ⟨by omega, rfl⟩ ?_
            · have hrn : rnOk [(E.n0, E.n0 + 32)] := by simp
              refine Conv.sub [(E.n0, E.n0 + 32)] hrn ?_ ?_ ?_ ?_ ?_ <;> (try simp)
            · rintro k ⟨hk, hg⟩ p2 hp2
              refine w_go 4000 ?_
              simp
              refine goc (fun h1 => ?_) (fun h1 => ?_)
              · have h1 := of_decide_eq_true h1
                obtain ⟨a, hy, hd2⟩ := drop_cons h1
                rw [hd2] at hg
                simp only [firstE] at hg
                have ha := hints a (List.mem_of_getElem? hy)
                have hk1 : IntKind.i64.wrap ((k : Int) + 1) = ((k + 1 : Nat) : Int) := wrap64 (by omega)
                simp [hy, eAg_eq a, hk0]
                refine ⟨h1, ?_⟩
                skip
                refine goc (fun h2 => ?_) (fun h2 => ?_) <;> simp [hk0]
                · have hv : fArgV tFirst (f.kind == 4) 0 999999999 a = 5 := by simp at h2; unfold fArgV; rw [if_pos (by simpa [tFirst] using h2)]
                  rw [hv, if_pos (by decide)] at hg
                  have hA : fArgsV x.args tFirst (f.kind == 4) 0 999999999 = 5 := hg.symm
                  have hv : fKid l t x = 5 := by rw [hkid, hA, if_pos (by decide)]
                  rw [hv, if_pos (by decide)] at hf
                  rw [hR]; exact rt_end (by simp <;> rfl) [] trivial (end_pure (by simp; exact hf) (by simp) (by simp))
                refine goc (fun h3 => ?_) (fun h3 => ?_) <;> simp [hk0]
                · have hv : fArgV tFirst (f.kind == 4) 0 999999999 a = 7 := by simp at h2; unfold fArgV; rw [if_neg (by simpa [tFirst] using h2), if_pos h3]
                  rw [hv, if_pos (by decide)] at hg
                  have hA : fArgsV x.args tFirst (f.kind == 4) 0 999999999 = 7 := hg.symm
                  have hv : fKid l t x = 7 := by rw [hkid, hA, if_pos (by decide)]
                  rw [hv, if_pos (by decide)] at hf
                  rw [hR]; exact rt_end (by simp <;> rfl) [] trivial (end_pure (by simp; exact hf) (by simp) (by simp))
                skip
                refine w_split (.bool false) (by simp) (fun hg => by simp [hk0] at hg) (fun _ => ?_)
                refine w_go 4000 ?_
                simp [hk0]
                refine goc (fun h4 => ?_) (fun h4 => ?_) <;> simp
                · have hv : fArgV tFirst (f.kind == 4) 0 999999999 a = 3 := by simp at h2 h4; unfold fArgV; rw [if_neg (by simpa [tFirst] using h2), if_neg (by simp [h3]), if_pos (by omega)]
                  rw [hv, if_pos (by decide)] at hg
                  have hA : fArgsV x.args tFirst (f.kind == 4) 0 999999999 = 3 := hg.symm
                  have hv : fKid l t x = 3 := by rw [hkid, hA, if_pos (by decide)]
                  rw [hv, if_pos (by decide)] at hf
                  rw [hR]; exact rt_end (by simp <;> rfl) [] trivial (end_pure (by simp; exact hf) (by simp) (by simp))
                · have hv : fArgV tFirst (f.kind == 4) 0 999999999 a = 0 := by simp at h2 h4; unfold fArgV; rw [if_neg (by simpa [tFirst] using h2), if_neg (by simp [h3]), if_neg (by omega)]
                  rw [hv, if_neg (by decide)] at hg
                  refine hp2 _ (k + 1) ⟨h1, hg⟩ (by omega) ?_
                  have hrn : rnOk [(E.n0, E.n0)] := by simp[hk1]
                  refine Conv.sub [(E.n0, E.n0)] hrn ?_ ?_ ?_ ?_ ?_ <;> (try simp[hk1])
              · have h1 := of_decide_eq_false h1
                rw [List.drop_of_length_le (by omega)] at hg
                simp only [firstE] at hg
                simp
                have hA : fArgsV x.args tFirst (f.kind == 4) 0 999999999 = 0 := hg.symm
                rw [hA, if_neg (by decide)] at hkid
                have hlk : ((x.kids.length : Int) == 0) = x.kids.isEmpty := by rw [Bool.eq_iff_iff]; simp
                rw [hlk]
                refine goc (fun h2 => ?_) (fun h2 => ?_)
                · try simp
                  have hv : fKid l t x = 4 := by rw [hkid, if_pos (bool_ne h2)]
                  rw [hv, if_pos (by decide)] at hf
                  rw [hR]; exact rt_end (by simp <;> rfl) [] trivial (end_pure (by simp; exact hf) (by simp) (by simp))
                · try simp
                  rw [if_neg (bool_nn h2)] at hkid
                  refine goc (fun h4 => ?_) (fun h4 => ?_)
                  · try simp
                    have h4 : ¬ f.kind < 3 := by simpa using h4
                    obtain ⟨-, m2, r1, r2⟩ := ht' h4
                    rw [if_neg h4] at hkid
                    rw [hkid] at hf
                    subst r2
                    (refine w_call hP rfl (ih x.kids m2 t' _ (by omega) (by omega) r1 hc2) (by simp) (by simp <;> rfl) ?_; refine w_go 4000 ?_; simp)
                    refine goc (fun h5 => ?_) (fun h5 => ?_) <;> simp
                    · rw [if_pos (by simpa using h5)] at hf
                      rw [hR]; exact rt_end (by simp <;> rfl) [] trivial (end_pure (by simp; exact hf) (by simp) (by simp))
                    · rw [if_neg (by simpa using h5)] at hf
                      refine hp _ (i + 1) ⟨h, hf⟩ (by omega) ?_
                      have hrn : rnOk [] := by simp[hi1]
                      refine Conv.sub [] hrn ?_ ?_ ?_ ?_ ?_ <;> (try simp[hi1])
                  · try simp
                    have h4 : f.kind < 3 := by simpa using h4
                    rw [if_pos h4] at hkid
                    rw [hkid, if_neg (by decide)] at hf
                    refine hp _ (i + 1) ⟨h, hf⟩ (by omega) ?_
                    have hrn : rnOk [] := by simp[hi1]
                    refine Conv.sub [] hrn ?_ ?_ ?_ ?_ ?_ <;> (try simp[hi1])
      · have h := of_decide_eq_false h
        simp
        rw [List.drop_of_length_le (by omega)] at hf
        rw [← hf] at hR
        rw [hR]; exact rt_end (by simp <;> rfl) [] trivial (end_pure (by simp; rfl) (by simp) (by simp))

set_option maxHeartbeats 4000000 in
theorem rroot_ok (l : List Ty) (hS : SchOk l) (q : List Sel) (id : Nat) (hq8 : szL q ≤ 1099511627776) (hc : fChkL q [] = 0) :
    FnOk Try.prog 79 [.sl (l.map eTy), .int .i64 (-1), .sl (q.map eSel)] [] id (.int .i64 (fFits l q)) [] := by
  have hlen := szL_len q
  have hl5 := hS.len
  refine fn_okc Try.func79 hcc79 (by decide) hcr79 (by simp [Try.ntmps79]) fun E hP hR hl hid => ?_
  simp only [cr79] at hR
  refine w_go 4000 ?_
  simp [cc79]
  refine w_loop (X := Nat) (fun i => ⟨[(0, true, .sl (l.map eTy)), (1, true, .int .i64 (-1)), (2, true, .sl (q.map eSel)), (7, true, .int .i64 i)], [], 0⟩) (fun i => i ≤ q.length ∧ fFits l (q.drop i) = fFits l q) (fun i => q.length - i) 0 ?_ ⟨by omega, rfl⟩ ?_
  · have hrn : rnOk [] := by simp
    refine Conv.sub [] hrn ?_ ?_ ?_ ?_ ?_ <;> (try simp)
  · rintro i ⟨hi, hf⟩ p hp
    refine w_go 4000 ?_
    simp
    refine goc (fun h => ?_) (fun h => ?_)
    · have h := of_decide_eq_true h
      obtain ⟨x, hx, hd⟩ := drop_cons h
      have hxm : x ∈ q := List.mem_of_getElem? hx
      have hsz := szL_kids hxm
      have hsx := szL_mem hxm
      have hse := sz_eq x
      obtain ⟨hc1, -, hc2⟩ := chk_mem hc x hxm
      have hints := args_int hc1
      rw [hd] at hf
      simp only [fFits, firstE] at hf
      have hi1 : IntKind.i64.wrap ((i : Int) + 1) = ((i + 1 : Nat) : Int) := wrap64 (by omega)
      rcases findJ_spec (fun y => y.name == x.name) l 0 with ⟨q1, q2⟩ | ⟨m2, t', q1, q2, q3⟩
      · have hv : fRoot l x = 5 := by rw [fRoot, typeAt, q1]
        rw [hv, if_pos (by decide)] at hf
        have hX := TypeAt_ok l x.name
        rw [q2] at hX
        simp [hx, eSel_eq x]
        refine ⟨h, ?_⟩
        (refine w_call hP rfl (hX _ (by omega)) (by simp) (by simp <;> rfl) ?_; refine w_go 4000 ?_; simp)
        rw [hR]; exact rt_end (by simp <;> rfl) [] trivial (end_pure (by simp; exact hf) (by simp) (by simp))
      · have hkid : fRoot l x = if fArgsV x.args tId true 1 999 ≠ 0 then fArgsV x.args tId true 1 999 else if x.kids = [] then 4 else fKids l t' x.kids := by rw [fRoot, typeAt, q3]
        have hX := TypeAt_ok l x.name
        rw [q2, Nat.zero_add] at hX
        have hK := fun id => rfits_ok l hS (szL x.kids + 1) x.kids m2 t' id (by omega) (by omega) q1 hc2
        simp [hx, eSel_eq x]
        refine ⟨h, ?_⟩
        (refine w_call hP rfl (hX _ (by omega)) (by simp) (by simp <;> rfl) ?_; refine w_go 4000 ?_; simp)
        refine goc_false (by simp) ?_
        simp
        refine w_loop (X := Nat) (fun k => ⟨[(0, true, .sl (l.map eTy)), (1, true, .int .i64 (-1)), (2, true, .sl (q.map eSel)), (7, true, .int .i64 i), (8, true, .ptr E.n0 0 0), (9, true, .int .i64 m2), (10, true, .bool false), (11, true, .bool false), (14, true, .int .i64 k)], [(E.n0, some ⟨[.agg [.str x.alias, .str x.name, .sl (x.args.map eAg), .sl (x.kids.map eSel)]], .agg [.str [], .str [], .nils, .nils], false, false⟩)], 1⟩) (fun k => k ≤ x.args.length ∧ firstE (fArgV tId true 1 999) (x.args.drop k) = firstE (fArgV tId true 1 999) x.args) (fun k => x.args.length - k) 0 ?_ ⟨by omega, rfl⟩ ?_
        · have hrn : rnOk [(E.n0, E.n0 + 32)] := by simp
          refine Conv.sub [(E.n0, E.n0 + 32)] hrn ?_ ?_ ?_ ?_ ?_ <;> (try simp)
        · rintro k ⟨hk, hg⟩ p2 hp2
          refine w_go 4000 ?_
          simp
          refine goc (fun h1 => ?_) (fun h1 => ?_)
          · have h1 := of_decide_eq_true h1
            obtain ⟨a, hy, hd2⟩ := drop_cons h1
            rw [hd2] at hg
            simp only [firstE] at hg
            have ha := hints a (List.mem_of_getElem? hy)
            have hk1 : IntKind.i64.wrap ((k : Int) + 1) = ((k + 1 : Nat) : Int) := wrap64 (by omega)
            simp [hy, eAg_eq a]
            refine ⟨h1, ?_⟩
            refine goc (fun h2 => ?_) (fun h2 => ?_) <;> simp
            · have hv : fArgV tId true 1 999 a = 5 := by simp at h2; unfold fArgV; rw [if_pos (by simpa [tId] using h2)]
              rw [hv, if_pos (by decide)] at hg
              have hA : fArgsV x.args tId true 1 999 = 5 := hg.symm
              have hv : fRoot l x = 5 := by rw [hkid, hA, if_pos (by decide)]
              rw [hv, if_pos (by decide)] at hf
              rw [hR]; exact rt_end (by simp <;> rfl) [] trivial (end_pure (by simp; exact hf) (by simp) (by simp))
            refine goc (fun h3 => ?_) (fun h3 => ?_) <;> simp
            · have hv : fArgV tId true 1 999 a = 7 := by simp at h2; unfold fArgV; rw [if_neg (by simpa [tId] using h2), if_pos h3]
              rw [hv, if_pos (by decide)] at hg
              have hA : fArgsV x.args tId true 1 999 = 7 := hg.symm
              have hv : fRoot l x = 7 := by rw [hkid, hA, if_pos (by decide)]
              rw [hv, if_pos (by decide)] at hf
              rw [hR]; exact rt_end (by simp <;> rfl) [] trivial (end_pure (by simp; exact hf) (by simp) (by simp))
            (refine w_callg hP (by simp) rfl (fun hc => ⟨between_ok _ _ _ _, by revert hc; simp; try grind, by simp⟩) ?_; refine w_go 4000 ?_; simp)
            refine goc (fun h4 => ?_) (fun h4 => ?_) <;> simp
            · have hv : fArgV tId true 1 999 a = 3 := by simp at h2 h4; unfold fArgV; rw [if_neg (by simpa [tId] using h2), if_neg (by simp [h3]), if_pos (by omega)]
              rw [hv, if_pos (by decide)] at hg
              have hA : fArgsV x.args tId true 1 999 = 3 := hg.symm
              have hv : fRoot l x = 3 := by rw [hkid, hA, if_pos (by decide)]
              rw [hv, if_pos (by decide)] at hf
              rw [hR]; exact rt_end (by simp <;> rfl) [] trivial (end_pure (by simp; exact hf) (by simp) (by simp))
            · have hv : fArgV tId true 1 999 a = 0 := by simp at h2 h4; unfold fArgV; rw [if_neg (by simpa [tId] using h2), if_neg (by simp [h3]), if_neg (by omega)]
              rw [hv, if_neg (by decide)] at hg
              refine hp2 _ (k + 1) ⟨h1, hg⟩ (by omega) ?_
              have hrn : rnOk [(E.n0, E.n0)] := by simp[hk1]
              refine Conv.sub [(E.n0, E.n0)] hrn ?_ ?_ ?_ ?_ ?_ <;> (try simp[hk1])
          · have h1 := of_decide_eq_false h1
            rw [List.drop_of_length_le (by omega)] at hg
            simp only [firstE] at hg
            simp
            have hA : fArgsV x.args tId true 1 999 = 0 := hg.symm
            rw [hA, if_neg (by decide)] at hkid
            refine goc (fun h2 => ?_) (fun h2 => ?_)
            · simp
              have h2 : x.kids = [] := by simpa using h2
              have hv : fRoot l x = 4 := by rw [hkid, if_pos h2]
              rw [hv, if_pos (by decide)] at hf
              rw [hR]; exact rt_end (by simp <;> rfl) [] trivial (end_pure (by simp; exact hf) (by simp) (by simp))
            · simp
              have h2 : ¬ x.kids = [] := by simpa using h2
              rw [if_neg h2] at hkid
              rw [hkid] at hf
              (refine w_call hP rfl (hK _) (by simp) (by simp <;> rfl) ?_; refine w_go 4000 ?_; simp)
              refine goc (fun h5 => ?_) (fun h5 => ?_) <;> simp
              · rw [if_pos (by simpa using h5)] at hf
                rw [hR]; exact rt_end (by simp <;> rfl) [] trivial (end_pure (by simp; exact hf) (by simp) (by simp))
              · rw [if_neg (by simpa using h5)] at hf
                refine hp _ (i + 1) ⟨h, hf⟩ (by omega) ?_
                have hrn : rnOk [] := by simp[hi1]
                refine Conv.sub [] hrn ?_ ?_ ?_ ?_ ?_ <;> (try simp[hi1])
    · have h := of_decide_eq_false h
      simp
      rw [List.drop_of_length_le (by omega)] at hf
      rw [← hf] at hR
      rw [hR]; exact rt_end (by simp <;> rfl) [] trivial (end_pure (by simp; rfl) (by simp) (by simp))
theorem CheckFits_ok (l : List Ty) (q : List Sel) (id : Nat) (hq8 : szL q ≤ 1099511627776) :
    FnOk Try.prog 26 [.sl (l.map eTy), .sl (q.map eSel)] [] id (.int .i64 (fValid l q)) [] := by
  refine fn_okc Try.func26 hcc26 (by decide) hcr26 (by simp [Try.ntmps26]) fun E hP hR hl hid => ?_
  simp only [cr26] at hR
  refine w_go 4000 ?_
  simp [cc26]
  (refine w_call hP rfl (CheckSchema_ok l _) (by simp) (by simp <;> rfl) ?_; refine w_go 4000 ?_; simp)
  refine goc (fun h1 => ?_) (fun h1 => ?_) <;> simp
  · have h1 : fCheckT l = 0 := by simpa using h1
    have hs := schOk h1
    (refine w_call hP rfl (CheckQuery_ok q _ hq8) (by simp) (by simp <;> rfl) ?_; refine w_go 4000 ?_; simp)
    refine goc (fun h2 => ?_) (fun h2 => ?_) <;> simp
    · have h2 : fQuery q = 0 := by simpa using h2
      have h3 : fChkL q [] = 0 := by
        unfold fQuery at h2
        split at h2
        · simp at h2
        · split at h2
          · simp at h2
          · exact h2
      (refine w_call hP rfl (rroot_ok l hs q _ hq8 h3) (by simp) (by simp <;> rfl) ?_; refine w_go 4000 ?_; simp)
      rw [hR]; exact rt_end (by simp <;> rfl) [] trivial (end_pure (by simp; unfold fValid; rw [if_neg (by simp [h1]), if_neg (by simp [h2])]) (by simp) (by simp))
    · have h2 : fQuery q ≠ 0 := by simpa using h2
      rw [hR]; exact rt_end (by simp <;> rfl) [] trivial (end_pure (by simp; unfold fValid; rw [if_neg (by simp [h1]), if_pos h2]) (by simp) (by simp))
  · have h1 : fCheckT l ≠ 0 := by simpa using h1
    refine goc_false (by simpa using h1) ?_
    simp
    rw [hR]; exact rt_end (by simp <;> rfl) [] trivial (end_pure (by simp; unfold fValid; rw [if_pos h1]) (by simp) (by simp))
end Go.Am

namespace Go.Am
set_option linter.all false
open Go Go.RowKit Go.Proofs
set_option maxRecDepth 100000
set_option linter.all false

mutual
def fPathS (ahead : List UInt8) : Sel → List (List UInt8)
  | .mk a n _ k => (ahead ++ if a ≠ [] then a else n) :: fPathL ((ahead ++ if a ≠ [] then a else n) ++ [47]) k
def fPathL (ahead : List UInt8) : List Sel → List (List UInt8)
  | [] => []
  | s :: r => fPathS ahead s ++ fPathL ahead r
end
theorem fPathS_eq (ahead : List UInt8) (s : Sel) : fPathS ahead s = (ahead ++ called s) :: fPathL (ahead ++ called s ++ [47]) s.kids := by cases s; rfl
mutual
theorem path_lenS (ahead : List UInt8) : ∀ s : Sel, (fPathS ahead s).length ≤ s.sz
  | .mk a n x k => by
    have := path_lenL ((ahead ++ if a ≠ [] then a else n) ++ [47]) k
    simp only [fPathS, List.length_cons, Sel.sz]; omega
theorem path_lenL (ahead : List UInt8) : ∀ l : List Sel, (fPathL ahead l).length ≤ szL l
  | [] => by simp [fPathL]
  | s :: r => by
    have h1 := path_lenS ahead s
    have h2 := path_lenL ahead r
    simp only [fPathL, List.length_append, szL]; omega
end
theorem fName_len {s : List UInt8} (h : fName s = 0) : s.length ≤ 12 := by
  unfold fName at h
  split at h
  · simp at h
  · omega
theorem called_len {s : Sel} (h : fNm s = 0) : (called s).length ≤ 12 := by
  unfold fNm at h
  unfold called
  split at h
  · rename_i h0; exact (h0 h).elim
  · rename_i h0
    split at h
    · rename_i h1; rw [if_pos h1]; exact fName_len h
    · rename_i h1; rw [if_neg h1]; exact fName_len (Classical.byContradiction h0)
@[simp] theorem pure_strs' (l : List (List UInt8)) : pureL (l.map AV.str) = true := pureL_map (fun _ => rfl) l
@[simp] theorem names_strs' (S : Nat → Prop) (l : List (List UInt8)) : namesL S (l.map AV.str) := namesL_pure _ (pure_strs' l)
@[simp] theorem ren_strs' (R : Rn) (S : Nat → Prop) (l : List (List UInt8)) : RenL R S (l.map AV.str) (l.map AV.str) := renL_pure rfl (pure_strs' l)

set_option maxHeartbeats 4000000 in
theorem walk_ok : ∀ (n : Nat) (q : List Sel) (ahead : List UInt8) (out : List (List UInt8)) (bo bw j id : Nat), szL q < n → fChkL q [] = 0 → szL q ≤ 1099511627776 → ahead.length + 13 * szL q ≤ 35184372088832 → out.length + szL q ≤ 2199023255552 → bo ≠ bw → bo ≠ j → bw ≠ j →
    FnOk Try.prog 76 [.str ahead, .sl (q.map eSel), .ptr bo 0 0, .ptr bw 0 0]
      [(bo, ⟨[.bsl j 0 out.length], .nils, false, false⟩), (j, ⟨out.map AV.str, .str [], false, false⟩), (bw, ⟨[.fn 76 [.ptr bo 0 0, .ptr bw 0 0]], .nilf, false, false⟩)] id (.tup [])
      [(bo, some ⟨[.bsl id 0 (out ++ fPathL ahead q).length], .nils, false, false⟩), (j, none), (id, some ⟨(out ++ fPathL ahead q).map AV.str, .str [], false, false⟩)]
  | 0, q, ahead, out, bo, bw, j, id, hn, hc, hq8, ha8, ho8, d1, d2, d3 => by omega
  | n + 1, q, ahead, out, bo, bw, j, id, hn, hc, hq8, ha8, ho8, d1, d2, d3 => by
    have ih := walk_ok n
    have hlen := szL_len q
    refine fn_okc Try.func76 hcc76 (by decide) hcr76 (by simp [Try.ntmps76]) fun E hP hR hl hid => ?_
    simp only [cr76] at hR
    refine w_go 4000 ?_
    simp [cc76]
    have hbo := hl (bo, _) (List.mem_cons_self ..)
    simp only at hbo
    have bo1 := ne_own hbo.1; have bo2 := ne_own' hbo.1; have bo3 := ne_own0 hbo.1; have bo4 := ne_own0' hbo.1
    have hj := hl (j, _) (List.mem_cons_of_mem _ (List.mem_cons_self ..))
    simp only at hj
    have j1 := ne_own hj.1; have j2 := ne_own' hj.1; have j3 := ne_own0 hj.1; have j4 := ne_own0' hj.1
    have hbw := hl (bw, _) (List.mem_cons_of_mem _ (List.mem_cons_of_mem _ (List.mem_cons_self ..)))
    simp only at hbw
    have bw1 := ne_own hbw.1; have bw2 := ne_own' hbw.1; have bw3 := ne_own0 hbw.1; have bw4 := ne_own0' hbw.1
    refine w_loop (X := Nat × List (List UInt8)) (fun x => ⟨[(0, true, .str ahead), (2, true, .ptr bo 0 0), (3, true, .ptr bw 0 0), (9, true, .sl (q.map eSel)), (10, true, .int .i64 q.length), (11, true, .int .i64 x.1)], [(bo, some ⟨[.bsl E.n0 0 x.2.length], .nils, false, false⟩), (j, none), (E.n0, some ⟨x.2.map AV.str, .str [], false, false⟩), (bw, some ⟨[.fn 76 [.ptr bo 0 0, .ptr bw 0 0]], .nilf, false, false⟩)], 1⟩)
      (fun x => x.1 ≤ q.length ∧ x.2 ++ fPathL ahead (q.drop x.1) = out ++ fPathL ahead q ∧ x.2.length + szL (q.drop x.1) ≤ out.length + szL q) (fun x => q.length - x.1) (0, out) ?_ ⟨by simp, rfl, by simp⟩ ?_
    · have hrn : rnOk [(E.n0, j)] := by simp[bo1, bo2, bo3, bo4, hbo.1, id_ne hbo.2, id_ne' hbo.2, j1, j2, j3, j4, hj.1, id_ne hj.2, id_ne' hj.2, bw1, bw2, bw3, bw4, hbw.1, id_ne hbw.2, id_ne' hbw.2, d1, d1.symm, d2, d2.symm, d3, d3.symm]
      refine Conv.sub [(E.n0, j)] hrn ?_ ?_ ?_ ?_ ?_ <;> (try simp[bo1, bo2, bo3, bo4, hbo.1, id_ne hbo.2, id_ne' hbo.2, j1, j2, j3, j4, hj.1, id_ne hj.2, id_ne' hj.2, bw1, bw2, bw3, bw4, hbw.1, id_ne hbw.2, id_ne' hbw.2, d1, d1.symm, d2, d2.symm, d3, d3.symm])
    · rintro ⟨i, o⟩ ⟨hi, hf, hol⟩ p hp
      simp only at hi hf hol hp
      refine w_go 4000 ?_
      simp [bo1, bo2, bo3, bo4, hbo.1, id_ne hbo.2, id_ne' hbo.2, j1, j2, j3, j4, hj.1, id_ne hj.2, id_ne' hj.2, bw1, bw2, bw3, bw4, hbw.1, id_ne hbw.2, id_ne' hbw.2, d1, d1.symm, d2, d2.symm, d3, d3.symm]
      refine goc (fun h => ?_) (fun h => ?_)
      · have h := of_decide_eq_true h
        obtain ⟨x, hx, hd⟩ := drop_cons h
        have hxm : x ∈ q := List.mem_of_getElem? hx
        have hsz := szL_kids hxm
        have hsx := szL_mem hxm
        have hse := sz_eq x
        obtain ⟨hc1, hc0, hc2⟩ := chk_mem hc x hxm
        have hcl := called_len hc0
        rw [hd] at hf hol
        simp only [fPathL, szL] at hf hol
        rw [fPathS_eq] at hf
        have hi1 : IntKind.i64.wrap ((i : Int) + 1) = ((i + 1 : Nat) : Int) := wrap64 (by omega)
        have hcx := Called_ok x
        rw [eSel_eq] at hcx
        simp [hx, eSel_eq x, bo1, bo2, bo3, bo4, hbo.1, id_ne hbo.2, id_ne' hbo.2, j1, j2, j3, j4, hj.1, id_ne hj.2, id_ne' hj.2, bw1, bw2, bw3, bw4, hbw.1, id_ne hbw.2, id_ne' hbw.2, d1, d1.symm, d2, d2.symm, d3, d3.symm]
        refine ⟨h, ?_⟩
        (refine w_call hP rfl (hcx _) (by simp [bo1, bo2, bo3, bo4, hbo.1, id_ne hbo.2, id_ne' hbo.2, j1, j2, j3, j4, hj.1, id_ne hj.2, id_ne' hj.2, bw1, bw2, bw3, bw4, hbw.1, id_ne hbw.2, id_ne' hbw.2, d1, d1.symm, d2, d2.symm, d3, d3.symm]) (by simp [bo1, bo2, bo3, bo4, hbo.1, id_ne hbo.2, id_ne' hbo.2, j1, j2, j3, j4, hj.1, id_ne hj.2, id_ne' hj.2, bw1, bw2, bw3, bw4, hbw.1, id_ne hbw.2, id_ne' hbw.2, d1, d1.symm, d2, d2.symm, d3, d3.symm] <;> rfl) ?_; refine w_go 4000 ?_; simp [bo1, bo2, bo3, bo4, hbo.1, id_ne hbo.2, id_ne' hbo.2, j1, j2, j3, j4, hj.1, id_ne hj.2, id_ne' hj.2, bw1, bw2, bw3, bw4, hbw.1, id_ne hbw.2, id_ne' hbw.2, d1, d1.symm, d2, d2.symm, d3, d3.symm])
        refine ⟨by omega, ⟨by omega, by omega⟩, by omega, ?_⟩
        have hI := fun id => ih x.kids (ahead ++ (called x ++ [47])) (o ++ [ahead ++ called x]) bo bw (E.n0 + 53) id (by omega) hc2 (by omega) (by simp; omega) (by simp; omega) d1 (by omega) (by omega)
        simp only [List.map_append, List.map_cons, List.map_nil, List.length_append, List.length_cons, List.length_nil, Nat.zero_add] at hI
        refine w_callv hP rfl rfl (hI _) (by simp) (by simp [bo1, bo2, bo3, bo4, hbo.1, id_ne hbo.2, id_ne' hbo.2, j1, j2, j3, j4, hj.1, id_ne hj.2, id_ne' hj.2, bw1, bw2, bw3, bw4, hbw.1, id_ne hbw.2, id_ne' hbw.2, d1, d1.symm, d2, d2.symm, d3, d3.symm] <;> exact ⟨rfl, rfl⟩) ?_
        refine w_go 4000 ?_
        simp [bo1, bo2, bo3, bo4, hbo.1, id_ne hbo.2, id_ne' hbo.2, j1, j2, j3, j4, hj.1, id_ne hj.2, id_ne' hj.2, bw1, bw2, bw3, bw4, hbw.1, id_ne hbw.2, id_ne' hbw.2, d1, d1.symm, d2, d2.symm, d3, d3.symm]
        have hpl := path_lenL (ahead ++ (called x ++ [47])) x.kids
        refine hp _ (i + 1, o ++ (ahead ++ called x) :: fPathL (ahead ++ (called x ++ [47])) x.kids) ⟨h, by rw [← hf]; simp, by simp; omega⟩ (by simp only; omega) ?_
        have hrn : rnOk [(E.n0, E.n0 + 81)] := by simp[hi1, bo1, bo2, bo3, bo4, hbo.1, id_ne hbo.2, id_ne' hbo.2, j1, j2, j3, j4, hj.1, id_ne hj.2, id_ne' hj.2, bw1, bw2, bw3, bw4, hbw.1, id_ne hbw.2, id_ne' hbw.2, d1, d1.symm, d2, d2.symm, d3, d3.symm]
        refine Conv.sub [(E.n0, E.n0 + 81)] hrn ?_ ?_ ?_ ?_ ?_ <;> (try simp[hi1, bo1, bo2, bo3, bo4, hbo.1, id_ne hbo.2, id_ne' hbo.2, j1, j2, j3, j4, hj.1, id_ne hj.2, id_ne' hj.2, bw1, bw2, bw3, bw4, hbw.1, id_ne hbw.2, id_ne' hbw.2, d1, d1.symm, d2, d2.symm, d3, d3.symm])
        exact ⟨by omega, renL_pure rfl (pureL_append (pure_strs' o) (by simp))⟩
      · have h := of_decide_eq_false h
        simp [bo1, bo2, bo3, bo4, hbo.1, id_ne hbo.2, id_ne' hbo.2, j1, j2, j3, j4, hj.1, id_ne hj.2, id_ne' hj.2, bw1, bw2, bw3, bw4, hbw.1, id_ne hbw.2, id_ne' hbw.2, d1, d1.symm, d2, d2.symm, d3, d3.symm]
        rw [List.drop_of_length_le (by omega)] at hf
        simp only [fPathL, List.append_nil] at hf
        subst hf
        have hrn : rnOk [(id, E.n0)] := by simp [bo1, bo2, bo3, bo4, hbo.1, id_ne hbo.2, id_ne' hbo.2, j1, j2, j3, j4, hj.1, id_ne hj.2, id_ne' hj.2, bw1, bw2, bw3, bw4, hbw.1, id_ne hbw.2, id_ne' hbw.2, d1, d1.symm, d2, d2.symm, d3, d3.symm, id_lt hid, id_own hid, id_own' hid, id_own0 hid, id_own0' hid]
        rw [hR]
        refine rt_end (by simp <;> rfl) [(id, E.n0)] hrn ⟨?_, ?_, ?_, ?_, ?_, ?_⟩ <;> (try simp [bo1, bo2, bo3, bo4, hbo.1, id_ne hbo.2, id_ne' hbo.2, j1, j2, j3, j4, hj.1, id_ne hj.2, id_ne' hj.2, bw1, bw2, bw3, bw4, hbw.1, id_ne hbw.2, id_ne' hbw.2, d1, d1.symm, d2, d2.symm, d3, d3.symm, id_lt hid, id_own hid, id_own' hid, id_own0 hid, id_own0' hid])
        exact renL_pure rfl (pureL_append (pure_strs' out) (pure_strs' _))
set_option maxHeartbeats 4000000 in
/-- The same, where nothing has been told yet. -/
theorem walk0_ok (q : List Sel) (ahead : List UInt8) (bo bw id : Nat) (hc : fChkL q [] = 0) (hq8 : szL q ≤ 1099511627776) (ha8 : ahead.length + 13 * szL q ≤ 35184372088832) (d1 : bo ≠ bw) :
    FnOk Try.prog 76 [.str ahead, .sl (q.map eSel), .ptr bo 0 0, .ptr bw 0 0]
      [(bo, ⟨[.nils], .nils, false, false⟩), (bw, ⟨[.fn 76 [.ptr bo 0 0, .ptr bw 0 0]], .nilf, false, false⟩)] id (.tup [])
      [(bo, some ⟨[.bsl id 0 (fPathL ahead q).length], .nils, false, false⟩), (id, some ⟨(fPathL ahead q).map AV.str, .str [], false, false⟩)] := by
  have hlen := szL_len q
  refine fn_okc Try.func76 hcc76 (by decide) hcr76 (by simp [Try.ntmps76]) fun E hP hR hl hid => ?_
  simp only [cr76] at hR
  refine w_go 4000 ?_
  simp [cc76]
  have hbo := hl (bo, _) (List.mem_cons_self ..)
  simp only at hbo
  have bo1 := ne_own hbo.1; have bo2 := ne_own' hbo.1; have bo3 := ne_own0 hbo.1; have bo4 := ne_own0' hbo.1
  have hbw := hl (bw, _) (List.mem_cons_of_mem _ (List.mem_cons_self ..))
  simp only at hbw
  have bw1 := ne_own hbw.1; have bw2 := ne_own' hbw.1; have bw3 := ne_own0 hbw.1; have bw4 := ne_own0' hbw.1
  refine w_loop (X := Nat × List (List UInt8)) (fun x => ⟨[(0, true, .str ahead), (2, true, .ptr bo 0 0), (3, true, .ptr bw 0 0), (9, true, .sl (q.map eSel)), (10, true, .int .i64 q.length), (11, true, .int .i64 x.1)], [(bo, some ⟨[.bsl E.n0 0 x.2.length], .nils, false, false⟩), (E.n0, some ⟨x.2.map AV.str, .str [], false, false⟩), (bw, some ⟨[.fn 76 [.ptr bo 0 0, .ptr bw 0 0]], .nilf, false, false⟩)], 1⟩)
    (fun x => x.1 ≤ q.length ∧ x.2 ++ fPathL ahead (q.drop x.1) = fPathL ahead q ∧ x.2.length + szL (q.drop x.1) ≤ szL q) (fun x => q.length - x.1) (0, []) ?_ ⟨by simp, rfl, by simp⟩ ?_
  · refine Conv.trans (Conv.voidBox bo (by simp; rfl) rfl .nils (.str [])) ?_
    have hrn : rnOk [(E.n0, E.n0 + 12)] := by simp[bo1, bo2, bo3, bo4, hbo.1, id_ne hbo.2, id_ne' hbo.2, bw1, bw2, bw3, bw4, hbw.1, id_ne hbw.2, id_ne' hbw.2, d1, d1.symm]
    refine Conv.sub [(E.n0, E.n0 + 12)] hrn ?_ ?_ ?_ ?_ ?_ <;> (try simp[bo1, bo2, bo3, bo4, hbo.1, id_ne hbo.2, id_ne' hbo.2, bw1, bw2, bw3, bw4, hbw.1, id_ne hbw.2, id_ne' hbw.2, d1, d1.symm])
  · rintro ⟨i, o⟩ ⟨hi, hf, hol⟩ p hp
    simp only at hi hf hol hp
    refine w_go 4000 ?_
    simp [bo1, bo2, bo3, bo4, hbo.1, id_ne hbo.2, id_ne' hbo.2, bw1, bw2, bw3, bw4, hbw.1, id_ne hbw.2, id_ne' hbw.2, d1, d1.symm]
    refine goc (fun h => ?_) (fun h => ?_)
    · have h := of_decide_eq_true h
      obtain ⟨x, hx, hd⟩ := drop_cons h
      have hxm : x ∈ q := List.mem_of_getElem? hx
      have hsz := szL_kids hxm
      have hsx := szL_mem hxm
      have hse := sz_eq x
      obtain ⟨hc1, hc0, hc2⟩ := chk_mem hc x hxm
      have hcl := called_len hc0
      rw [hd] at hf hol
      simp only [fPathL, szL] at hf hol
      rw [fPathS_eq] at hf
      have hi1 : IntKind.i64.wrap ((i : Int) + 1) = ((i + 1 : Nat) : Int) := wrap64 (by omega)
      have hcx := Called_ok x
      rw [eSel_eq] at hcx
      simp [hx, eSel_eq x, bo1, bo2, bo3, bo4, hbo.1, id_ne hbo.2, id_ne' hbo.2, bw1, bw2, bw3, bw4, hbw.1, id_ne hbw.2, id_ne' hbw.2, d1, d1.symm]
      refine ⟨h, ?_⟩
      (refine w_call hP rfl (hcx _) (by simp [bo1, bo2, bo3, bo4, hbo.1, id_ne hbo.2, id_ne' hbo.2, bw1, bw2, bw3, bw4, hbw.1, id_ne hbw.2, id_ne' hbw.2, d1, d1.symm]) (by simp [bo1, bo2, bo3, bo4, hbo.1, id_ne hbo.2, id_ne' hbo.2, bw1, bw2, bw3, bw4, hbw.1, id_ne hbw.2, id_ne' hbw.2, d1, d1.symm] <;> rfl) ?_; refine w_go 4000 ?_; simp [bo1, bo2, bo3, bo4, hbo.1, id_ne hbo.2, id_ne' hbo.2, bw1, bw2, bw3, bw4, hbw.1, id_ne hbw.2, id_ne' hbw.2, d1, d1.symm])
      refine ⟨by omega, ⟨by omega, by omega⟩, by omega, ?_⟩
      have hI := fun id => walk_ok (szL x.kids + 1) x.kids (ahead ++ (called x ++ [47])) (o ++ [ahead ++ called x]) bo bw (E.n0 + 53) id (by omega) hc2 (by omega) (by simp; omega) (by simp; omega) d1 (by omega) (by omega)
      simp only [List.map_append, List.map_cons, List.map_nil, List.length_append, List.length_cons, List.length_nil, Nat.zero_add] at hI
      refine w_callv hP rfl rfl (hI _) (by simp) (by simp [bo1, bo2, bo3, bo4, hbo.1, id_ne hbo.2, id_ne' hbo.2, bw1, bw2, bw3, bw4, hbw.1, id_ne hbw.2, id_ne' hbw.2, d1, d1.symm] <;> exact ⟨rfl, rfl⟩) ?_
      refine w_go 4000 ?_
      simp [bo1, bo2, bo3, bo4, hbo.1, id_ne hbo.2, id_ne' hbo.2, bw1, bw2, bw3, bw4, hbw.1, id_ne hbw.2, id_ne' hbw.2, d1, d1.symm]
      have hpl := path_lenL (ahead ++ (called x ++ [47])) x.kids
      refine hp _ (i + 1, o ++ (ahead ++ called x) :: fPathL (ahead ++ (called x ++ [47])) x.kids) ⟨h, by rw [← hf]; simp, by simp; omega⟩ (by simp only; omega) ?_
      have hrn : rnOk [(E.n0, E.n0 + 81)] := by simp[hi1, bo1, bo2, bo3, bo4, hbo.1, id_ne hbo.2, id_ne' hbo.2, bw1, bw2, bw3, bw4, hbw.1, id_ne hbw.2, id_ne' hbw.2, d1, d1.symm]
      refine Conv.sub [(E.n0, E.n0 + 81)] hrn ?_ ?_ ?_ ?_ ?_ <;> (try simp[hi1, bo1, bo2, bo3, bo4, hbo.1, id_ne hbo.2, id_ne' hbo.2, bw1, bw2, bw3, bw4, hbw.1, id_ne hbw.2, id_ne' hbw.2, d1, d1.symm])
      exact ⟨by omega, renL_pure rfl (pureL_append (pure_strs' o) (by simp))⟩
    · have h := of_decide_eq_false h
      simp [bo1, bo2, bo3, bo4, hbo.1, id_ne hbo.2, id_ne' hbo.2, bw1, bw2, bw3, bw4, hbw.1, id_ne hbw.2, id_ne' hbw.2, d1, d1.symm]
      rw [List.drop_of_length_le (by omega)] at hf
      simp only [fPathL, List.append_nil] at hf
      subst hf
      have hrn : rnOk [(id, E.n0)] := by simp [bo1, bo2, bo3, bo4, hbo.1, id_ne hbo.2, id_ne' hbo.2, bw1, bw2, bw3, bw4, hbw.1, id_ne hbw.2, id_ne' hbw.2, d1, d1.symm, id_lt hid, id_own hid, id_own' hid, id_own0 hid, id_own0' hid]
      rw [hR]
      refine rt_end (by simp <;> rfl) [(id, E.n0)] hrn ⟨?_, ?_, ?_, ?_, ?_, ?_⟩ <;> (try simp [bo1, bo2, bo3, bo4, hbo.1, id_ne hbo.2, id_ne' hbo.2, bw1, bw2, bw3, bw4, hbw.1, id_ne hbw.2, id_ne' hbw.2, d1, d1.symm, id_lt hid, id_own hid, id_own' hid, id_own0 hid, id_own0' hid])
end Go.Am

namespace Go.Am
set_option linter.all false
open Go Go.RowKit Go.Proofs
set_option maxRecDepth 100000
set_option linter.all false

theorem fQuery_chk {q : List Sel} (h : fQuery q = 0) : fChkL q [] = 0 := by
  unfold fQuery at h
  split at h
  · simp at h
  · split at h
    · simp at h
    · exact h
theorem fValid_q {l : List Ty} {q : List Sel} (h : fValid l q = 0) : fCheckT l = 0 ∧ fQuery q = 0 ∧ fFits l q = 0 := by
  unfold fValid at h
  split at h
  · rename_i h0; exact (h0 h).elim
  · rename_i h0
    split at h
    · rename_i h1; exact (h1 h).elim
    · rename_i h1
      exact ⟨Classical.byContradiction h0, Classical.byContradiction h1, h⟩
def fPaths (l : List Ty) (q : List Sel) : List (List UInt8) := if fValid l q = 0 then fPathL [] q else []
set_option maxHeartbeats 1000000 in
theorem Paths_ok (l : List Ty) (q : List Sel) (id : Nat) (hq8 : szL q ≤ 1099511627776) :
    FnOk Try.prog 25 [.sl (l.map eTy), .sl (q.map eSel)] [] id (.tup [.sl ((fPaths l q).map AV.str), .int .i64 (fValid l q)]) [] := by
  have hV := vQuery_ok l q
  by_cases h0 : fValid l q = 0
  · have hc := fQuery_chk (fValid_q h0).2.1
    have hW := fun bo bw id d1 => walk0_ok q [] bo bw id hc hq8 (by simp; omega) d1
    rw [show fPaths l q = fPathL [] q by unfold fPaths; rw [if_pos h0]]
    rw [h0] at hV ⊢
    refine fn_okc Try.func25 hcc25 (by decide) hcr25 (by simp [Try.ntmps25]) fun E hP hR hl hid => ?_
    simp only [cr25] at hR
    refine w_go 4000 ?_
    simp [cc25]
    (refine w_call hP rfl (hV _ hq8) (by simp) (by simp <;> rfl) ?_; refine w_go 4000 ?_; simp)
    refine w_callv hP rfl rfl (hW (E.n0 + 32) (E.n0 + 36) _ (by omega)) (by simp) (by simp <;> exact ⟨rfl, rfl⟩) ?_
    refine w_go 4000 ?_
    simp
    have hrn : rnOk [] := by simp [id_lt hid, id_own hid, id_own' hid, id_own0 hid, id_own0' hid]
    rw [hR]
    refine rt_endR (by simp <;> rfl) (by simp [id_lt hid, id_own hid, id_own' hid, id_own0 hid, id_own0' hid] <;> exact ⟨rfl, rfl⟩) [] hrn ⟨?_, ?_, ?_, ?_, ?_, ?_⟩ <;> (try simp [id_lt hid, id_own hid, id_own' hid, id_own0 hid, id_own0' hid])
  · rw [show fPaths l q = [] by unfold fPaths; rw [if_neg h0]]
    refine fn_okc Try.func25 hcc25 (by decide) hcr25 (by simp [Try.ntmps25]) fun E hP hR hl hid => ?_
    simp only [cr25] at hR
    refine w_go 4000 ?_
    simp [cc25]
    (refine w_call hP rfl (hV _ hq8) (by simp) (by simp <;> rfl) ?_; refine w_go 4000 ?_; simp)
    refine goc_true (by simpa using h0) ?_
    simp
    have hrn : rnOk [] := by simp [id_lt hid, id_own hid, id_own' hid, id_own0 hid, id_own0' hid]
    rw [hR]
    refine rt_end (by simp <;> rfl) [] hrn ⟨?_, ?_, ?_, ?_, ?_, ?_⟩ <;> (try simp [id_lt hid, id_own hid, id_own' hid, id_own0 hid, id_own0' hid])
end Go.Am

namespace Go.Am
set_option linter.all false
open Go Go.RowKit Go.Proofs
set_option maxRecDepth 100000
set_option linter.all false

set_option maxHeartbeats 4000000 in
theorem PathsOf_ok : ∀ (n : Nat) (q : List Sel) (ahead : List UInt8) (id : Nat), szL q < n → fChkL q [] = 0 → szL q ≤ 1099511627776 → ahead.length + 13 * szL q ≤ 35184372088832 →
    FnOk Try.prog 27 [.str ahead, .sl (q.map eSel)] [] id (.sl ((fPathL ahead q).map AV.str)) []
  | 0, q, ahead, id, hn, hc, hq8, ha8 => by omega
  | n + 1, q, ahead, id, hn, hc, hq8, ha8 => by
    have ih := PathsOf_ok n
    have hlen := szL_len q
    refine fn_okc Try.func27 hcc27 (by decide) hcr27 (by simp [Try.ntmps27]) fun E hP hR hl hid => ?_
    simp only [cr27] at hR
    refine w_go 4000 ?_
    simp [cc27]
    refine w_loop (X := Nat × List (List UInt8)) (fun x => ⟨[(0, true, .str ahead), (1, true, .sl (q.map eSel)), (5, true, .bsl E.n0 0 x.2.length), (6, true, .int .i64 x.1)], [(E.n0, some ⟨x.2.map AV.str, .str [], false, false⟩)], 1⟩)
      (fun x => x.1 ≤ q.length ∧ x.2 ++ fPathL ahead (q.drop x.1) = fPathL ahead q ∧ x.2.length + szL (q.drop x.1) ≤ szL q) (fun x => q.length - x.1) (0, []) ?_ ⟨by simp, rfl, by simp⟩ ?_
    · refine Conv.trans (Conv.voidSlot 5 (x := .nils) (y := .bsl (E.n0 + 12) 0 0) (by simp) .nils (.str [])) ?_
      have hrn : rnOk [(E.n0, E.n0 + 12)] := by simp
      refine Conv.sub [(E.n0, E.n0 + 12)] hrn ?_ ?_ ?_ ?_ ?_ <;> (try simp)
    · rintro ⟨i, o⟩ ⟨hi, hf, hol⟩ p hp
      simp only at hi hf hol hp
      refine w_go 4000 ?_
      simp
      refine goc (fun h => ?_) (fun h => ?_)
      · have h := of_decide_eq_true h
        obtain ⟨x, hx, hd⟩ := drop_cons h
        have hxm : x ∈ q := List.mem_of_getElem? hx
        have hsz := szL_kids hxm
        have hsx := szL_mem hxm
        have hse := sz_eq x
        obtain ⟨hc1, hc0, hc2⟩ := chk_mem hc x hxm
        have hcl := called_len hc0
        rw [hd] at hf hol
        simp only [fPathL, szL] at hf hol
        rw [fPathS_eq] at hf
        have hi1 : IntKind.i64.wrap ((i : Int) + 1) = ((i + 1 : Nat) : Int) := wrap64 (by omega)
        have hcx := CalledOf_ok x
        rw [eSel_eq] at hcx
        have hI := fun id => ih x.kids (ahead ++ (called x ++ [47])) id (by omega) hc2 (by omega) (by simp; omega)
        have hpl := path_lenL (ahead ++ (called x ++ [47])) x.kids
        simp [hx, eSel_eq x]
        refine ⟨h, ?_⟩
        (refine w_call hP rfl (hcx _) (by simp [hx, eSel_eq x]) (by simp [hx, eSel_eq x] <;> rfl) ?_; refine w_go 4000 ?_; simp [hx, eSel_eq x])
        refine ⟨by omega, ⟨by omega, by omega⟩, by omega, h, ?_⟩
        (refine w_call hP rfl (hI _) (by simp [hx, eSel_eq x]) (by simp [hx, eSel_eq x] <;> rfl) ?_; refine w_go 4000 ?_; simp [hx, eSel_eq x])
        refine ⟨⟨by omega, by omega⟩, hp _ (i + 1, o ++ (ahead ++ called x) :: fPathL (ahead ++ (called x ++ [47])) x.kids) ⟨h, by rw [← hf]; simp, by simp; omega⟩ (by simp only; omega) ?_⟩
        have hrn : rnOk [(E.n0, E.n0 + 97)] := by simp[hi1]
        refine Conv.sub [(E.n0, E.n0 + 97)] hrn ?_ ?_ ?_ ?_ ?_ <;> (try simp[hi1])
        · omega
        · exact renL_pure rfl (pureL_append (pure_strs' o) (by simp))
      · have h := of_decide_eq_false h
        simp
        rw [List.drop_of_length_le (by omega)] at hf
        simp only [fPathL, List.append_nil] at hf
        subst hf
        have hrn : rnOk [] := by simp [id_lt hid, id_own hid, id_own' hid, id_own0 hid, id_own0' hid]
        rw [hR]
        refine rt_endR (by simp <;> rfl) (by simp [id_lt hid, id_own hid, id_own' hid, id_own0 hid, id_own0' hid] <;> exact ⟨rfl, rfl⟩) [] hrn ⟨?_, ?_, ?_, ?_, ?_, ?_⟩ <;> (try simp [id_lt hid, id_own hid, id_own' hid, id_own0 hid, id_own0' hid])

/-- Are texts the same? As the law looks. -/
theorem sameTexts_ok (a b : List (List UInt8)) (id : Nat) (ha : a.length < 9223372036854775807) : FnOk Try.prog 30 [.sl (a.map AV.str), .sl (b.map AV.str)] [] id (.bool (a == b)) [] := by
  refine fn_okc Try.func30 hcc30 (by decide) hcr30 (by simp [Try.ntmps30]) fun E hP hR hl hid => ?_
  simp only [cr30] at hR
  refine w_go 4000 ?_
  simp [cc30]
  refine goc (fun h => ?_) (fun h => ?_) <;> simp
  · have hne : (a == b) = false := by
      rw [beq_eq_false_iff_ne]; rintro rfl; simp at h
    rw [hR]; exact rt_end (by simp <;> rfl) [] trivial (end_pure (by simp; exact beq_eq_false_iff_ne.1 hne) (by simp) (by simp))
  have hlen : a.length = b.length := by simp at h; omega
  refine w_loop (X := Nat) (fun i => ⟨[(0, true, .sl (a.map AV.str)), (1, true, .sl (b.map AV.str)), (5, true, .int .i64 i)], [], 0⟩) (fun i => i ≤ a.length ∧ (a.drop i == b.drop i) = (a == b)) (fun i => a.length - i) 0 ?_ ⟨by omega, rfl⟩ ?_
  · have hrn : rnOk [] := by simp
    refine Conv.sub [] hrn ?_ ?_ ?_ ?_ ?_ <;> (try simp)
  · rintro i ⟨hi, hf⟩ p hp
    refine w_go 4000 ?_
    simp
    refine goc (fun h => ?_) (fun h => ?_)
    · have h := of_decide_eq_true h
      obtain ⟨x, hx, hd⟩ := drop_cons h
      obtain ⟨y, hy, hd2⟩ := drop_cons (l := b) (i := i) (by omega)
      rw [hd, hd2] at hf
      have hi1 : IntKind.i64.wrap ((i : Int) + 1) = ((i + 1 : Nat) : Int) := wrap64 (by omega)
      simp [hx, hy]
      refine ⟨h, by omega, ?_⟩
      refine goc (fun h1 => ?_) (fun h1 => ?_) <;> simp
      · have hne : x ≠ y := by simpa using h1
        have hv : (a == b) = false := by rw [← hf, beq_eq_false_iff_ne]; intro hh; exact hne (List.cons.inj hh).1
        rw [hR]; exact rt_end (by simp <;> rfl) [] trivial (end_pure (by simp; exact beq_eq_false_iff_ne.1 hv) (by simp) (by simp))
      · have he : x = y := by simpa using h1
        subst he
        refine hp _ (i + 1) ⟨h, by simpa using hf⟩ (by omega) ?_
        have hrn : rnOk [] := by simp[hi1]
        refine Conv.sub [] hrn ?_ ?_ ?_ ?_ ?_ <;> (try simp[hi1])
    · have h := of_decide_eq_false h
      simp
      rw [List.drop_of_length_le (by omega), List.drop_of_length_le (by omega)] at hf
      rw [hR]; exact rt_end (by simp <;> rfl) [] trivial (end_pure (by simp; exact eq_of_beq hf.symm) (by simp) (by simp))
end Go.Am

namespace Go.Am
set_option linter.all false
open Go Go.RowKit Go.Proofs
set_option maxRecDepth 100000
set_option linter.all false

def tyW : List Ty := [⟨[65], [⟨[110], 1, []⟩, ⟨[116], 2, []⟩, ⟨[98], 3, [66]⟩, ⟨[108], 4, [65]⟩]⟩, ⟨[66], [⟨[109], 1, []⟩]⟩]
def lookW : List Sel := [.mk [] [65] [] [.mk [] [105, 100] [] [], .mk [107] [108] [⟨[102, 105, 114, 115, 116], false, [], 1⟩] [.mk [] [110] [] []], .mk [] [98] [] [.mk [] [109] [] []]]]
theorem val_look : fValid tyW lookW = 0 := by decide
theorem val_one : fValid tyW [.mk [] [65] [] []] = 4 := by decide
theorem path_look : fPathL [] lookW = [[65], [65, 47, 105, 100], [65, 47, 107], [65, 47, 107, 47, 110], [65, 47, 98], [65, 47, 98, 47, 109]] := by decide
theorem sz_look : szL lookW = 7 := by decide
theorem types_ok (id : Nat) : FnOk Try.prog 81 [] [] id (.sl (tyW.map eTy)) [] := by
  unfold tyW
  simp only [List.map_cons, List.map_nil, eTy, eFd]
  refine fn_okc Try.func81 hcc81 (by decide) hcr81 (by simp [Try.ntmps81]) fun E hP hR hl hid => ?_
  simp only [cr81] at hR
  refine w_go 4000 ?_
  simp [cc81]
  have hrn : rnOk [] := by simp [id_lt hid, id_own hid, id_own' hid, id_own0 hid, id_own0' hid]
  rw [hR]
  refine rt_endR (by simp <;> rfl) (by simp [id_lt hid, id_own hid, id_own' hid, id_own0 hid, id_own0' hid] <;> exact ⟨rfl, rfl⟩) [] hrn ⟨?_, ?_, ?_, ?_, ?_, ?_⟩ <;> (try simp [id_lt hid, id_own hid, id_own' hid, id_own0 hid, id_own0' hid])
  exact namesL_pure _ rfl
theorem look_raw (id : Nat) : FnOk Try.prog 82 [] [] id (.sl [.agg [.str [], .str [65], .nils, .sl [.agg [.str [], .str [105, 100], .nils, .nils], .agg [.str [107], .str [108], .sl [.agg [.str [102, 105, 114, 115, 116], .bool false, .str [], .int .i64 1]], .sl [.agg [.str [], .str [110], .nils, .nils]]], .agg [.str [], .str [98], .nils, .sl [.agg [.str [], .str [109], .nils, .nils]]]]]]) [] := by
  refine fn_okc Try.func82 hcc82 (by decide) hcr82 (by simp [Try.ntmps82]) fun E hP hR hl hid => ?_
  simp only [cr82] at hR
  refine w_go 4000 ?_
  simp [cc82]
  have hrn : rnOk [] := by simp [id_lt hid, id_own hid, id_own' hid, id_own0 hid, id_own0' hid]
  rw [hR]
  refine rt_endR (by simp <;> rfl) (by simp [id_lt hid, id_own hid, id_own' hid, id_own0 hid, id_own0' hid] <;> exact ⟨rfl, rfl⟩) [] hrn ⟨?_, ?_, ?_, ?_, ?_, ?_⟩ <;> (try simp [id_lt hid, id_own hid, id_own' hid, id_own0 hid, id_own0' hid])
  exact namesL_pure _ rfl
theorem look_ok (id : Nat) : FnOk Try.prog 82 [] [] id (.sl (lookW.map eSel)) [] := (look_raw id).nrm
theorem vQuery1_ok (id : Nat) : FnOk Try.prog 29 [.sl (tyW.map eTy), .sl [.agg [.str [], .str [65], .nils, .nils]]] [] id (.int .i64 4) [] := by
  have h := vQuery_ok tyW [.mk [] [65] [] []] id (by decide)
  rw [val_one] at h
  refine FnOk.nrmA ?_
  exact h
theorem validBegun_ok (id : Nat) : FnOk Try.prog 28 [] [] id (.bool true) [] := by
  have hP0 := fun id => Paths_ok tyW lookW id (by rw [sz_look]; omega)
  have hQ0 := fun id => vQuery_ok tyW lookW id (by rw [sz_look]; omega)
  have hS := fun id => sameTexts_ok [[65], [65, 47, 105, 100], [65, 47, 107], [65, 47, 107, 47, 110], [65, 47, 98], [65, 47, 98, 47, 109]] [[65], [65, 47, 105, 100], [65, 47, 107], [65, 47, 107, 47, 110], [65, 47, 98], [65, 47, 98, 47, 109]] id (by decide)
  rw [show fPaths tyW lookW = fPathL [] lookW by unfold fPaths; rw [if_pos val_look], path_look, val_look] at hP0
  rw [val_look] at hQ0
  rw [beq_self_eq_true] at hS
  simp only [List.map_cons, List.map_nil] at hP0 hS
  refine fn_okc Try.func28 hcc28 (by decide) hcr28 (by simp [Try.ntmps28]) fun E hP hR hl hid => ?_
  simp only [cr28] at hR
  refine w_go 4000 ?_
  simp [cc28]
  (refine w_call hP rfl (types_ok _) (by simp) (by simp <;> rfl) ?_; refine w_go 4000 ?_; simp)
  (refine w_call hP rfl (look_ok _) (by simp) (by simp <;> rfl) ?_; refine w_go 4000 ?_; simp)
  (refine w_call hP rfl (hP0 _) (by simp) (by simp <;> rfl) ?_; refine w_go 4000 ?_; simp)
  (refine w_callg hP (by simp) rfl (fun hc => ⟨types_ok _, by revert hc; simp; try grind, by simp⟩) ?_; refine w_go 4000 ?_; simp)
  (refine w_callg hP (by simp) rfl (fun hc => ⟨look_ok _, by revert hc; simp; try grind, by simp⟩) ?_; refine w_go 4000 ?_; simp)
  (refine w_callg hP (by simp) rfl (fun hc => ⟨hQ0 _, by revert hc; simp; try grind, by simp⟩) ?_; refine w_go 4000 ?_; simp)
  (refine w_callg hP (by simp) rfl (fun hc => ⟨types_ok _, by revert hc; simp; try grind, by simp⟩) ?_; refine w_go 4000 ?_; simp)
  refine w_split (.bool true) (by simp) (fun _ => ?_) (fun hg => by simp at hg)
  (refine w_callR hP rfl (vQuery1_ok _) (by simp <;> rfl) (by simp) (by simp <;> rfl) (by simp) ?_; refine w_go 4000 ?_; simp)
  refine w_split (.bool true) (by simp) (fun _ => ?_) (fun hg => by simp at hg)
  (refine w_callR hP rfl (hS _) (by simp <;> rfl) (by simp) (by simp <;> rfl) (by simp) ?_; refine w_go 4000 ?_; simp)
  rw [hR]; exact rt_end (by simp <;> rfl) [] trivial (end_pure (by simp) (by simp) (by simp))
end Go.Am

namespace Go.Am
set_option linter.all false
open Go Go.RowKit Go.Proofs
set_option maxRecDepth 100000
set_option linter.all false

theorem anC_47 : anC 47 = false := by decide
theorem fName_an {s : List UInt8} (h : fName s = 0) : s ≠ [] ∧ ∀ c ∈ s, anC c = true := by
  unfold fName at h
  split at h
  · simp at h
  · split at h
    · rename_i h1 h2
      cases s with
      | nil => simp [nameOk] at h2
      | cons c r =>
        simp only [nameOk, Bool.and_eq_true, List.all_eq_true] at h2
        refine ⟨by simp, fun x hx => ?_⟩
        rcases List.mem_cons.1 hx with rfl | hx
        · simp [anC, h2.1]
        · exact h2.2 x hx
    · simp at h
theorem called_an {s : Sel} (h : fNm s = 0) : called s ≠ [] ∧ ∀ c ∈ called s, anC c = true := by
  unfold fNm at h
  unfold called
  split at h
  · rename_i h0; exact (h0 h).elim
  · rename_i h0
    split at h
    · rename_i h1; rw [if_pos h1]; exact fName_an h
    · rename_i h1; rw [if_neg h1]; exact fName_an (Classical.byContradiction h0)
def hdP (p : List UInt8) : List UInt8 := p.takeWhile fun c => c != 47
theorem hdP_app {c t : List UInt8} (h : ∀ x ∈ c, anC x = true) : hdP (c ++ 47 :: t) = c := by
  unfold hdP
  rw [List.takeWhile_append_of_pos (fun x hx => by
    have := h x hx
    simp only [bne_iff_ne, ne_eq]
    rintro rfl
    rw [anC_47] at this; cases this)]
  simp
theorem hdP_self {c : List UInt8} (h : ∀ x ∈ c, anC x = true) : hdP c = c := by
  unfold hdP
  have := List.takeWhile_append_of_pos (p := fun c : UInt8 => c != 47) (l₁ := c) (l₂ := []) (fun x hx => by
    have := h x hx
    simp only [bne_iff_ne, ne_eq]
    rintro rfl
    rw [anC_47] at this; cases this)
  simpa using this
theorem path_map (a : List UInt8) : ∀ l : List Sel, (∀ s ∈ l, ∀ b, fPathS b s = (fPathS [] s).map (b ++ ·)) → fPathL a l = (fPathL [] l).map (a ++ ·)
  | [], _ => rfl
  | s :: r, h => by
    simp only [fPathL, List.map_append]
    rw [h s (by simp) a, path_map a r fun x hx => h x (by simp [hx])]
theorem pathS_map : ∀ (n : Nat) (s : Sel), s.sz ≤ n → ∀ b, fPathS b s = (fPathS [] s).map (b ++ ·)
  | 0, s, h, b => by have := sz_eq s; omega
  | n + 1, s, h, b => by
    have hz := sz_eq s
    have ih : ∀ x ∈ s.kids, ∀ b, fPathS b x = (fPathS [] x).map (b ++ ·) := fun x hx b => pathS_map n x (by have := szL_mem hx; omega) b
    rw [fPathS_eq, fPathS_eq, path_map _ _ ih, path_map ([] ++ called s ++ [47]) _ ih]
    simp
theorem pathL_eq (a : List UInt8) (l : List Sel) : fPathL a l = (fPathL [] l).map (a ++ ·) := path_map a l fun s _ b => pathS_map s.sz s (Nat.le_refl _) b
theorem pathS_eq2 (s : Sel) : fPathS [] s = called s :: (fPathL [] s.kids).map (fun t => called s ++ 47 :: t) := by
  rw [fPathS_eq, pathL_eq]
  simp
theorem pathS_hd {s : Sel} (h : fNm s = 0) : ∀ p ∈ fPathS [] s, hdP p = called s := by
  have ha := (called_an h).2
  intro p hp
  rw [pathS_eq2] at hp
  rcases List.mem_cons.1 hp with rfl | hp
  · exact hdP_self ha
  · obtain ⟨t, -, rfl⟩ := List.mem_map.1 hp
    exact hdP_app ha
theorem pathL_hd : ∀ {l ah : List Sel}, fChkL l ah = 0 → ∀ p ∈ fPathL [] l, ∃ s ∈ l, hdP p = called s
  | [], ah, h, p, hp => by simp [fPathL] at hp
  | s :: r, ah, h, p, hp => by
    simp only [fPathL] at hp
    rcases List.mem_append.1 hp with hp | hp
    · exact ⟨s, by simp, pathS_hd (chk_mem h s (by simp)).2.1 p hp⟩
    · have h' : fChkL r (ah ++ [s]) = 0 := by
        simp only [fChkL] at h
        split at h
        · rename_i h0; exact (h0 h).elim
        · split at h
          · rename_i h0; exact (h0 h).elim
          · exact h
      obtain ⟨x, hx, e⟩ := pathL_hd h' p hp
      exact ⟨x, by simp [hx], e⟩
theorem chk_tail {s : Sel} {r ah : List Sel} (h : fChkL (s :: r) ah = 0) : fSel1 s ah = 0 ∧ fChkL s.kids [] = 0 ∧ fChkL r (ah ++ [s]) = 0 := by
  simp only [fChkL] at h
  split at h
  · rename_i h0; exact (h0 h).elim
  · rename_i h0
    split at h
    · rename_i h1; exact (h1 h).elim
    · rename_i h1
      exact ⟨Classical.byContradiction h0, by rw [← fChkK_eq]; exact Classical.byContradiction h1, h⟩
theorem chk_called : ∀ {l ah : List Sel}, fChkL l ah = 0 → ∀ x ∈ l, ∀ y ∈ ah, called y ≠ called x
  | [], ah, h, x, hx, y, hy => by cases hx
  | s :: r, ah, h, x, hx, y, hy => by
    obtain ⟨h1, h2, h3⟩ := chk_tail h
    rcases List.mem_cons.1 hx with rfl | hx
    · rw [fSel1_dup] at h1
      have := (fDup_zero h1).2
      intro e
      rw [List.any_eq_false] at this
      exact this y hy (by simp [e])
    · exact chk_called h3 x hx y (by simp [hy])
/-- No path is there twice. -/
theorem path_once : ∀ (n : Nat) (l ah : List Sel), szL l < n → fChkL l ah = 0 → (fPathL [] l).Nodup
  | 0, l, ah, hn, h => by omega
  | n + 1, [], ah, hn, h => by simp [fPathL]
  | n + 1, s :: r, ah, hn, h => by
    obtain ⟨h1, h2, h3⟩ := chk_tail h
    have hz := sz_eq s
    simp only [szL] at hn
    have i1 := path_once n r _ (by omega) h3
    have i2 := path_once n s.kids [] (by omega) h2
    have hs0 := (chk_mem h s (by simp)).2.1
    simp only [fPathL]
    rw [List.nodup_append]
    refine ⟨?_, i1, fun p hp p' hp' e => ?_⟩
    · rw [pathS_eq2, List.nodup_cons]
      refine ⟨fun hm => ?_, ?_⟩
      · obtain ⟨t, -, e⟩ := List.mem_map.1 hm
        have := congrArg List.length e
        simp at this
      · rw [List.Nodup, List.pairwise_map]
        exact List.Pairwise.imp (fun {a b} hab e => hab (by simpa using e)) i2
    · subst e
      have e1 := pathS_hd hs0 p hp
      obtain ⟨x, hx, e2⟩ := pathL_hd h3 p hp'
      exact chk_called h3 x hx s (by simp) (by rw [← e1, ← e2])
theorem once_get {l : List (List UInt8)} (h : l.Nodup) {i k : Nat} {x y : List UInt8} (hk : k < i) (hx : l[i]? = some x) (hy : l[k]? = some y) : x ≠ y := by
  obtain ⟨hi, rfl⟩ := List.getElem?_eq_some_iff.1 hx
  obtain ⟨hk', rfl⟩ := List.getElem?_eq_some_iff.1 hy
  exact (List.pairwise_iff_getElem.1 h k i hk' hi hk).symm

/-- Without its last selects it fits, too. -/
theorem manyL_take : ∀ (m : Nat) (l : List Sel) (k : Nat), manyL m (l.take k) ≤ manyL m l
  | 0, l, k => by simp [manyL]; omega
  | m + 1, l, k => by
    have h2 : ((l.take k).map fun s => manyL m s.kids).sum + ((l.drop k).map fun s => manyL m s.kids).sum = (l.map fun s => manyL m s.kids).sum := by
      rw [← List.sum_append, ← List.map_append, List.take_append_drop]
    simp only [manyL, List.length_take]
    omega
theorem fold_le {m : Nat} : ∀ (l : List Sel) (a : Nat), a ≤ l.foldl (fun d s => max d (deepL m s.kids + 1)) a
  | [], a => Nat.le_refl _
  | s :: r, a => by simp only [List.foldl_cons]; exact Nat.le_trans (by omega) (fold_le r _)
theorem fold_mono {m : Nat} : ∀ (l : List Sel) (a b : Nat), a ≤ b → l.foldl (fun d s => max d (deepL m s.kids + 1)) a ≤ l.foldl (fun d s => max d (deepL m s.kids + 1)) b
  | [], a, b, h => h
  | s :: r, a, b, h => by simp only [List.foldl_cons]; exact fold_mono r _ _ (by omega)
theorem deepL_take (m : Nat) (l : List Sel) (k : Nat) : deepL m (l.take k) ≤ deepL m l := by
  cases m with
  | zero => simp only [deepL, List.length_take]; omega
  | succ m =>
    simp only [deepL]
    refine Nat.le_trans (fold_mono _ _ (min l.length 1) (by simp; omega)) ?_
    conv => rhs; rw [← List.take_append_drop k l, List.foldl_append]
    simp only [List.take_append_drop]
    exact fold_le _ _
theorem chk_take : ∀ {l ah : List Sel} (k : Nat), fChkL l ah = 0 → fChkL (l.take k) ah = 0
  | [], ah, k, h => by simp [fChkL]
  | s :: r, ah, 0, h => by simp [fChkL]
  | s :: r, ah, k + 1, h => by
    obtain ⟨h1, h2, h3⟩ := chk_tail h
    simp only [List.take_succ_cons, fChkL]
    rw [if_neg (by simp [h1]), if_neg (by rw [fChkK_eq]; simp [h2])]
    exact chk_take k h3
theorem first_take {α : Type} {f : α → Int} : ∀ {l : List α} (k : Nat), firstE f l = 0 → firstE f (l.take k) = 0
  | [], k, h => by simp [firstE]
  | s :: r, 0, h => by simp [firstE]
  | s :: r, k + 1, h => by
    simp only [firstE] at h
    simp only [List.take_succ_cons, firstE]
    split at h
    · rename_i h0; exact (h0 h).elim
    · rename_i h0; rw [if_neg h0]; exact first_take k h
theorem valid_take {l : List Ty} {q : List Sel} (k : Nat) (hk : 1 ≤ k) (h : fValid l q = 0) : fValid l (q.take k) = 0 := by
  obtain ⟨h1, h2, h3⟩ := fValid_q h
  have hc := fQuery_chk h2
  have hq : fQuery (q.take k) = 0 := by
    unfold fQuery at h2 ⊢
    split at h2
    · simp at h2
    · rename_i hne
      split at h2
      · simp at h2
      · rename_i hs
        have m1 := manyL_take 5 q k
        have m2 := deepL_take 5 q k
        rw [if_neg (by cases q with | nil => exact (hne rfl).elim | cons a r => cases k with | zero => omega | succ k => simp), if_neg (by omega)]
        exact chk_take k h2
  unfold fValid
  rw [if_neg (by simp [h1]), if_neg (by simp [hq])]
  exact first_take k h3
end Go.Am

namespace Go.Am
set_option linter.all false
open Go Go.RowKit Go.Proofs
set_option maxRecDepth 100000
set_option linter.all false

theorem szL_take : ∀ (q : List Sel) (k : Nat), szL (q.take k) ≤ szL q
  | [], k => by simp
  | s :: r, 0 => by simp [szL]
  | s :: r, k + 1 => by have := szL_take r k; simp only [List.take_succ_cons, szL]; omega
theorem sameTexts0_ok (id : Nat) : FnOk Try.prog 30 [.sl [], .nils] [] id (.bool true) [] := by
  have h := sameTexts_ok [] [] id (by decide)
  refine FnOk.nrmA ?_
  exact h
set_option maxHeartbeats 2000000 in
theorem ValidTells_ok (l : List Ty) (q : List Sel) (id : Nat) (hq8 : szL q ≤ 1099511627776) : FnOk Try.prog 5 [.sl (l.map eTy), .sl (q.map eSel)] [] id (.bool true) [] := by
  have hP1 := fun id => Paths_ok l q id hq8
  have hC := fun id => CheckFits_ok l q id hq8
  have hQ := fun id => vQuery_ok l q id hq8
  by_cases h0 : fValid l q = 0
  · have hc := fQuery_chk (fValid_q h0).2.1
    have hR0 := fun id => PathsOf_ok (szL q + 1) q [] id (by omega) hc hq8 (by simp; omega)
    have hl := path_lenL [] q
    have hS := fun id => sameTexts_ok (fPathL [] q) (fPathL [] q) id (by omega)
    rw [beq_self_eq_true] at hS
    rw [show fPaths l q = fPathL [] q by unfold fPaths; rw [if_pos h0], h0] at hP1
    rw [h0] at hC hQ
    refine fn_okc Try.func5 hcc5 (by decide) hcr5 (by simp [Try.ntmps5]) fun E hP hR hl hid => ?_
    simp only [cr5] at hR
    refine w_go 4000 ?_
    simp [cc5]
    (refine w_call hP rfl (hP1 _) (by simp) (by simp <;> rfl) ?_; refine w_go 4000 ?_; simp)
    (refine w_call hP rfl (hC _) (by simp) (by simp <;> rfl) ?_; refine w_go 4000 ?_; simp)
    (refine w_call hP rfl (hR0 _) (by simp) (by simp <;> rfl) ?_; refine w_go 4000 ?_; simp)
    (refine w_call hP rfl (validBegun_ok _) (by simp) (by simp <;> rfl) ?_; refine w_go 4000 ?_; simp)
    (refine w_callg hP (by simp) rfl (fun hc => ⟨hQ _, by revert hc; simp; try grind, by simp⟩) ?_; refine w_go 4000 ?_; simp)
    (refine w_callg hP (by simp) rfl (fun hc => ⟨hS _, by revert hc; simp; try grind, by simp⟩) ?_; refine w_go 4000 ?_; simp)
    rw [hR]; exact rt_end (by simp <;> rfl) [] trivial (end_pure (by simp) (by simp) (by simp))
  · rw [show fPaths l q = [] by unfold fPaths; rw [if_neg h0]] at hP1
    simp only [List.map_nil] at hP1
    refine fn_okc Try.func5 hcc5 (by decide) hcr5 (by simp [Try.ntmps5]) fun E hP hR hl hid => ?_
    simp only [cr5] at hR
    refine w_go 4000 ?_
    simp [cc5]
    (refine w_call hP rfl (hP1 _) (by simp) (by simp <;> rfl) ?_; refine w_go 4000 ?_; simp)
    (refine w_call hP rfl (hC _) (by simp) (by simp <;> rfl) ?_; refine w_go 4000 ?_; simp)
    refine goc_false (by simpa using h0) ?_
    simp
    (refine w_call hP rfl (validBegun_ok _) (by simp) (by simp <;> rfl) ?_; refine w_go 4000 ?_; simp)
    (refine w_callg hP (by simp) rfl (fun hc => ⟨hQ _, by revert hc; simp; try grind, by simp⟩) ?_; refine w_go 4000 ?_; simp)
    (refine w_callg hP (by simp) rfl (fun hc => ⟨sameTexts0_ok _, by revert hc; simp; try grind, by simp⟩) ?_; refine w_go 4000 ?_; simp)
    rw [hR]; exact rt_end (by simp <;> rfl) [] trivial (end_pure (by simp) (by simp) (by simp))
set_option maxHeartbeats 2000000 in
theorem ValidOnce_ok (l : List Ty) (q : List Sel) (id : Nat) (hq8 : szL q ≤ 1099511627776) : FnOk Try.prog 6 [.sl (l.map eTy), .sl (q.map eSel)] [] id (.bool true) [] := by
  have hP1 := fun id => Paths_ok l q id hq8
  by_cases h0 : fValid l q = 0
  · have hc := fQuery_chk (fValid_q h0).2.1
    have hlen := szL_len q
    have hl := path_lenL [] q
    have hN := path_once (szL q + 1) q [] (by omega) hc
    have hT := fun (h : 2 ≤ q.length) => valid_take (q.length - 1) (by omega) h0
    have hQ := fun id => vQuery_ok l (q.take (q.length - 1)) id
    rw [show fPaths l q = fPathL [] q by unfold fPaths; rw [if_pos h0], h0] at hP1
    generalize fPathL [] q = ps at *
    refine fn_okc Try.func6 hcc6 (by decide) hcr6 (by simp [Try.ntmps6]) fun E hP hR hl hid => ?_
    simp only [cr6] at hR
    refine w_go 4000 ?_
    simp [cc6]
    (refine w_call hP rfl (hP1 _) (by simp) (by simp <;> rfl) ?_; refine w_go 4000 ?_; simp)
    (refine w_call hP rfl (validBegun_ok _) (by simp) (by simp <;> rfl) ?_; refine w_go 4000 ?_; simp)
    refine w_loop (X := Nat) (fun i => ⟨[(0, true, .sl (l.map eTy)), (1, true, .sl (q.map eSel)), (5, true, .sl (ps.map AV.str)), (7, true, .int .i64 i)], [], 0⟩) (fun i => i ≤ ps.length) (fun i => ps.length - i) 0 ?_ (by omega) ?_
    · have hrn : rnOk [] := by simp
      refine Conv.sub [] hrn ?_ ?_ ?_ ?_ ?_ <;> (try simp)
    · intro i hi p hp
      refine w_go 4000 ?_
      simp
      refine goc (fun h => ?_) (fun h => ?_)
      · have h := of_decide_eq_true h
        have hi1 : IntKind.i64.wrap ((i : Int) + 1) = ((i + 1 : Nat) : Int) := wrap64 (by omega)
        obtain ⟨x, hx, -⟩ := drop_cons (l := ps) (i := i) (by omega)
        simp
        refine w_loop (X := Nat) (fun k => ⟨[(0, true, .sl (l.map eTy)), (1, true, .sl (q.map eSel)), (5, true, .sl (ps.map AV.str)), (7, true, .int .i64 i), (8, true, .int .i64 k)], [], 0⟩) (fun k => k ≤ i) (fun k => i - k) 0 ?_ (by omega) ?_
        · have hrn : rnOk [] := by simp
          refine Conv.sub [] hrn ?_ ?_ ?_ ?_ ?_ <;> (try simp)
        · intro k hk p2 hp2
          refine w_go 4000 ?_
          simp
          refine goc (fun h2 => ?_) (fun h2 => ?_)
          · have h2 := of_decide_eq_true h2
            have hk1 : IntKind.i64.wrap ((k : Int) + 1) = ((k + 1 : Nat) : Int) := wrap64 (by omega)
            obtain ⟨y, hy, -⟩ := drop_cons (l := ps) (i := k) (by omega)
            have hne := once_get hN (by omega) hx hy
            simp [hx, hy]
            refine ⟨by omega, by omega, ?_⟩
            refine goc_false (by simpa using hne) ?_
            simp
            refine hp2 _ (k + 1) (by omega) (by omega) ?_
            have hrn : rnOk [] := by simp[hk1]
            refine Conv.sub [] hrn ?_ ?_ ?_ ?_ ?_ <;> (try simp[hk1])
          · simp
            refine hp _ (i + 1) (by omega) (by omega) ?_
            have hrn : rnOk [] := by simp[hi1]
            refine Conv.sub [] hrn ?_ ?_ ?_ ?_ ?_ <;> (try simp[hi1])
      · simp
        by_cases hq1 : q.length ≤ 1
        · refine ⟨fun h => by omega, ?_⟩
          refine w_split (.int .i64 0) (by simp) (fun hg => by simp at hg; omega) (fun _ => ?_)
          refine w_go 4000 ?_
          simp
          refine ⟨by omega, ?_⟩
          rw [hR]; exact rt_end (by simp <;> rfl) [] trivial (end_pure (by simp) (by simp) (by simp))
        · have hw : IntKind.i64.wrap ((q.length : Int) - 1) = ((q.length - 1 : Nat) : Int) := by rw [wrap64 (by omega)]; omega
          simp only [hw, Int.toNat_natCast]
          rw [hT (by omega)] at hQ
          rw [List.map_take] at hQ
          refine ⟨fun h => ⟨h, fun a _ => by rw [eSel_eq]; rfl, by omega, by omega⟩, ?_⟩
          (refine w_callg hP (by simp) rfl (fun hc => ⟨hQ _ (Nat.le_trans (szL_take q _) hq8), by revert hc; simp; try grind, by simp⟩) ?_; refine w_go 4000 ?_; simp)
          rw [hR]; exact rt_end (by simp <;> rfl) [] trivial (end_pure (by simp) (by simp) (by simp))
  · rw [show fPaths l q = [] by unfold fPaths; rw [if_neg h0]] at hP1
    simp only [List.map_nil] at hP1
    refine fn_okc Try.func6 hcc6 (by decide) hcr6 (by simp [Try.ntmps6]) fun E hP hR hl hid => ?_
    simp only [cr6] at hR
    refine w_go 4000 ?_
    simp [cc6]
    (refine w_call hP rfl (hP1 _) (by simp) (by simp <;> rfl) ?_; refine w_go 4000 ?_; simp)
    (refine w_call hP rfl (validBegun_ok _) (by simp) (by simp <;> rfl) ?_; refine w_go 4000 ?_; simp)
    refine goc_true (by simpa using h0) ?_
    simp
    rw [hR]; exact rt_end (by simp <;> rfl) [] trivial (end_pure (by simp) (by simp) (by simp))
end Go.Am
