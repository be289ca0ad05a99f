/- Parts of the proof: an abstract machine for Go functions, and what functions of the program give back (Dk7, Dk8, Dk9, Dk10). No condition. -/
import Derived.Test.YtgdanfbkhaoieaaXK
namespace Go.Am
set_option linter.all false
open Go Go.RowKit Go.Proofs
set_option maxRecDepth 100000
set_option linter.all false

theorem any_drop {l : List (List UInt8)} {i : Nat} {x : List UInt8} (hd : l.drop i = x :: l.drop (i + 1)) (p : List UInt8 → Bool) : (l.drop i).any p = (p x || (l.drop (i + 1)).any p) := by rw [hd]; rfl
set_option maxHeartbeats 4000000 in
theorem CheckDisk_ok (d : Dk) (id : Nat) : FnOk Try.prog 35 [eDk d] [] id (.int .i64 (fCheckD d)) [] := by
  unfold eDk
  refine fn_okc Try.func35 hcc35 (by decide) hcr35 (by simp [Try.ntmps35]) fun E hP hR hl hid => ?_
  simp only [cr35] at hR
  refine w_go 4000 ?_
  simp [cc35]
  refine goc (fun h => ?_) (fun h => ?_)
  · simp
    have h' : 8 < d.seg.length := by simp at h; omega
    have hv : fCheckD d = 2 := by unfold fCheckD; rw [if_pos (.inl h')]
    rw [hv] at hR
    rw [hR]; exact rt_end (by simp <;> rfl) [] trivial (end_pure (by simp) (by simp) (by simp))
  · have h8 : d.seg.length ≤ 8 := by simp at h; omega
    simp
    refine w_loop (X := Nat) (fun i => ⟨[(1, true, .ptr E.n0 0 0), (3, true, .int .i64 i)], [(E.n0, some ⟨[.agg [.sl (d.seg.map AV.str), .int .i64 d.syn]], .agg [.nils, .int .i64 0], false, false⟩)], 1⟩)
      (fun i => i ≤ d.seg.length ∧ (d.seg.drop i).any (fun s => decide (400 < s.length)) = d.seg.any (fun s => decide (400 < s.length))) (fun i => d.seg.length - i) 0 ?_ ⟨by simp, rfl⟩ ?_
    · have hrn : rnOk [(E.n0, E.n0)] := by simp
      refine Conv.sub [(E.n0, E.n0)] hrn ?_ ?_ ?_ ?_ ?_ <;> (try simp)
    · rintro i ⟨hi, hf⟩ p hp
      refine w_go 4000 ?_
      simp
      refine goc (fun h => ?_) (fun h => ?_)
      · have h := of_decide_eq_true h
        obtain ⟨x, hx, hd⟩ := drop_cons h
        rw [any_drop hd] at hf
        have hi1 : IntKind.i64.wrap ((i : Int) + 1) = ((i + 1 : Nat) : Int) := wrap64 (by omega)
        simp [hx]
        refine ⟨h, ?_⟩
        refine goc (fun h1 => ?_) (fun h1 => ?_)
        · simp
          have h1' : 400 < x.length := by simp at h1; omega
          have hv : fCheckD d = 2 := by unfold fCheckD; rw [if_pos (.inr (by rw [← hf]; simp [h1']))]
          rw [hv] at hR
          rw [hR]; exact rt_end (by simp <;> rfl) [] trivial (end_pure (by simp) (by simp) (by simp))
        · simp
          have h1' : ¬ 400 < x.length := by simp at h1; omega
          refine hp _ (i + 1) ⟨h, by rw [← hf]; simp [h1']⟩ (by omega) ?_
          have hrn : rnOk [(E.n0, E.n0)] := by simp[hi1]
          refine Conv.sub [(E.n0, E.n0)] hrn ?_ ?_ ?_ ?_ ?_ <;> (try simp[hi1])
      · have h := of_decide_eq_false h
        rw [List.drop_of_length_le (by omega)] at hf
        have hany : d.seg.any (fun s => decide (400 < s.length)) = false := hf.symm
        have hss : ∀ s ∈ d.seg, s.length ≤ 400 := fun s hs => by
          simp at hany; exact hany s hs
        have hv : fCheckD d = if (fSegs d.seg [0]).e ≠ 0 then (fSegs d.seg [0]).e else if ((fSegs d.seg [0]).ends.any fun (x : Nat) => d.syn == (x : Int)) = true then 0 else 3 := by
          unfold fCheckD; rw [if_neg (by rw [hany]; simp; omega)]
        rw [hv] at hR
        simp
        clear hf hp h hi
        refine w_loop (X := Nat) (fun i => ⟨[(1, true, .ptr E.n0 0 0), (4, true, .int .i64 i)], [(E.n0, some ⟨[.agg [.sl (d.seg.map AV.str), .int .i64 d.syn]], .agg [.nils, .int .i64 0], false, false⟩)], 1⟩)
          (fun i => i ≤ d.seg.length ∧ ∃ en, fSegs (d.seg.drop i) en = fSegs d.seg [0]) (fun i => d.seg.length - i) 0 ?_ ⟨by simp, [0], rfl⟩ ?_
        · have hrn : rnOk [(E.n0, E.n0)] := by simp
          refine Conv.sub [(E.n0, E.n0)] hrn ?_ ?_ ?_ ?_ ?_ <;> (try simp)
        · rintro i ⟨hi, en, hf⟩ p hp
          refine w_go 4000 ?_
          simp
          refine goc (fun h => ?_) (fun h => ?_)
          · have h := of_decide_eq_true h
            obtain ⟨x, hx, hd⟩ := drop_cons h
            rw [hd] at hf
            simp only [fSegs] at hf
            have hi1 : IntKind.i64.wrap ((i : Int) + 1) = ((i + 1 : Nat) : Int) := wrap64 (by omega)
            have hx4 := hss x (List.mem_of_getElem? hx)
            simp [hx]
            refine ⟨h, ?_⟩
            (refine w_call hP rfl (SegmentOf_ok x _ hx4) (by simp) (by simp <;> rfl) ?_; refine w_go 4000 ?_; simp)
            refine goc (fun h1 => ?_) (fun h1 => ?_)
            · simp
              have h1' : (cutA x 0).e ≠ 5 := by simpa using h1
              rw [if_pos h1'] at hf
              rw [← hf, if_pos (cut_facts x 0 (by omega)).2.2.2.2.1] at hR
              rw [hR]; exact rt_end (by simp <;> rfl) [] trivial (end_pure (by simp) (by simp) (by simp))
            · simp
              have h1' : ¬ (cutA x 0).e ≠ 5 := by simpa using h1
              rw [if_neg h1'] at hf
              have hwl : IntKind.i64.wrap ((d.seg.length : Int) - 1) = (d.seg.length : Int) - 1 := wrap64 (by omega)
              simp [hwl, hx]
              refine ⟨fun hh => ⟨hh, h⟩, ?_⟩
              have hr : d.seg.drop (i + 1) ≠ [] ↔ (i : Int) < (d.seg.length : Int) - 1 := by simp; omega
              refine goc (fun h2 => ?_) (fun h2 => ?_)
              · simp
                have h2' : d.seg.drop (i + 1) ≠ [] ∧ (cutA x 0).last < x.length := by
                  rw [hr]; simpa using h2
                rw [if_pos h2'] at hf
                rw [← hf, if_pos (by simp)] at hR
                rw [hR]; exact rt_end (by simp <;> rfl) [] trivial (end_pure (by simp) (by simp) (by simp))
              · simp
                have h2' : ¬ (d.seg.drop (i + 1) ≠ [] ∧ (cutA x 0).last < x.length) := by
                  rw [hr]; simpa using h2
                rw [if_neg h2'] at hf
                refine hp _ (i + 1) ⟨h, _, hf⟩ (by omega) ?_
                have hrn : rnOk [(E.n0, E.n0)] := by simp[hi1]
                refine Conv.sub [(E.n0, E.n0)] hrn ?_ ?_ ?_ ?_ ?_ <;> (try simp[hi1])
          · have h := of_decide_eq_false h
            simp
            rw [List.drop_of_length_le (by omega)] at hf
            simp only [fSegs] at hf
            have h0 : (fSegs d.seg [0]).e = 0 := by rw [← hf]
            have hen := ends_last _ h0
            rw [if_neg (by rw [h0]; simp), hen] at hR
            have hl4 := lastS_le hss
            (refine w_call hP rfl (LastOf_ok d.seg d.syn _ (by omega)) (by simp) (by simp <;> rfl) ?_; refine w_go 4000 ?_; simp)
            (refine w_call hP rfl (between_ok _ _ _ _) (by simp) (by simp <;> rfl) ?_; refine w_go 4000 ?_; simp)
            refine goc (fun h1 => ?_) (fun h1 => ?_)
            · simp
              have h1' : ¬ (0 ≤ d.syn ∧ d.syn ≤ (lastS d.seg).length) := by
                intro ⟨h2, h3⟩; simp [h2, h3] at h1
              have hno : ¬ ((cutA (lastS d.seg) 0).ends.any fun (x : Nat) => d.syn == (x : Int)) = true := by
                simp only [List.any_eq_true, beq_iff_eq, not_exists, not_and]
                intro x hx hs
                have hf := cut_facts (lastS d.seg) 0 (by omega)
                have := hf.2.2.2.1 x hx
                exact h1' (by omega)
              rw [if_neg hno] at hR
              rw [hR]; exact rt_end (by simp <;> rfl) [] trivial (end_pure (by simp) (by simp) (by simp))
            · simp
              have h1' : 0 ≤ d.syn ∧ d.syn ≤ (lastS d.seg).length := by simpa using h1
              obtain ⟨n, hn⟩ : ∃ n : Nat, d.syn = n := ⟨_, (Int.toNat_of_nonneg h1'.1).symm⟩
              rw [hn] at h1' hR
              have hnl : n ≤ (lastS d.seg).length := by omega
              have hct := cut_take (lastS d.seg) n hnl 0 (by omega)
              have hany2 : ((cutA (lastS d.seg) 0).ends.any fun (x : Nat) => (n : Int) == (x : Int)) = true ↔ n ∈ (cutA (lastS d.seg) 0).ends := by
                simp only [List.any_eq_true, beq_iff_eq]
                constructor
                · rintro ⟨x, hx, hs⟩
                  have : n = x := by omega
                  subst this; exact hx
                · intro hx; exact ⟨n, hx, rfl⟩
              simp [hn]
              refine ⟨hnl, ?_⟩
              (refine w_call hP rfl (SegmentOf_ok ((lastS d.seg).take n) _ (by simp; omega)) (by simp [hn]) (by simp [hn] <;> rfl) ?_; refine w_go 4000 ?_; simp [hn])
              refine goc (fun h2 => ?_) (fun h2 => ?_)
              · simp
                have h2' : ¬ (cutA ((lastS d.seg).take n) 0).last = n := by simp at h2; omega
                rw [if_neg (by rw [hany2, ← hct]; exact h2')] at hR
                rw [hR]; exact rt_end (by simp <;> rfl) [] trivial (end_pure (by simp) (by simp) (by simp))
              · simp
                have h2' : (cutA ((lastS d.seg).take n) 0).last = n := by simp at h2; omega
                rw [if_pos (by rw [hany2, ← hct]; exact h2')] at hR
                rw [hR]; exact rt_end (by simp <;> rfl) [] trivial (end_pure (by simp) (by simp) (by simp))
end Go.Am

namespace Go.Am
set_option linter.all false
open Go Go.RowKit Go.Proofs
set_option maxRecDepth 100000
set_option linter.all false

theorem rv_nil {G : Gh} {w : World} {v : Value} (h : RV G w .nils v) : RV G w (.sl []) v := by
  cases h
  exact .sl [] none 0 0 (fun _ _ => undef) (Nat.le_refl _) (by simp [maxLen]) (fun _ => ⟨rfl, rfl⟩) (fun i x hi => by simp at hi) (fun a i x j y _ hi => by simp at hi) (fun a i x j y _ hi => by simp at hi) (fun i x j y hi => by simp at hi)
theorem rv_aggnil {G : Gh} {w : World} {v : Value} {cs ds : List AV} (h : RV G w (.agg cs) v) (hl : cs.length = ds.length) (hh : ∀ (i : Nat) x y, cs[i]? = some x → ds[i]? = some y → x = y ∨ (x = .nils ∧ y = .sl [])) : RV G w (.agg ds) v := by
  cases h with | agg _ vs hs hx =>
  refine .agg ds vs (hl.symm.trans hs) fun i y hy => ?_
  obtain ⟨x, hx'⟩ : ∃ x, cs[i]? = some x := ⟨_, List.getElem?_eq_getElem (by rw [hl]; exact (List.getElem?_eq_some_iff.1 hy).1)⟩
  rcases hh i x y hx' hy with rfl | ⟨rfl, rfl⟩
  · exact hx i x hx'
  · exact rv_nil (hx i _ hx')
/-- A slice that is nil may be handed over where an empty one is. -/
theorem FnOk.nil {P : Program} {f : Nat} {args args' : List AV} {rd : List (Nat × Bx)} {id : Nat} {res : AV} {wr : List (Nat × Option Bx)} (h : FnOk P f args rd id res wr) (hl : args'.length = args.length)
    (ha : ∀ (i : Nat) x y, args'[i]? = some x → args[i]? = some y → ∀ (G : Gh) w v, RV G w x v → RV G w y v) : FnOk P f args' rd id res wr := by
  refine ⟨h.1, fun C G bx w vs nb hs hv hh hnb hid => h.2 C G bx w vs nb hs ⟨hl.symm.trans hv.1, fun i y hy => ?_⟩ hh hnb hid⟩
  obtain ⟨x, hx'⟩ : ∃ x, args'[i]? = some x := ⟨_, List.getElem?_eq_getElem (by rw [hl]; exact (List.getElem?_eq_some_iff.1 hy).1)⟩
  exact ha i x y hx' hy G w _ (hv.2 i x hx')
theorem rv_dk0 (n : Int) (G : Gh) (w : World) (v : Value) (h : RV G w (.agg [.nils, .int .i64 n]) v) : RV G w (.agg [.sl [], .int .i64 n]) v := by
  refine rv_aggnil h rfl fun i x y hx hy => ?_
  match i, hx, hy with
  | 0, hx, hy => simp at hx hy; exact .inr ⟨hx.symm, hy.symm⟩
  | 1, hx, hy => simp at hx hy; exact .inl (hx.symm.trans hy)
  | i + 2, hx, hy => simp at hx
theorem SameDisk0_ok (a : Dk) (id : Nat) (hl : a.seg.length < 9223372036854775807) : FnOk Try.prog 43 [eDk a, .agg [.nils, .int .i64 0]] [] id (.bool (sameDk a ⟨[], 0⟩)) [] := by
  refine (SameDisk_ok a ⟨[], 0⟩ id hl).nil rfl fun i x y hx hy G w v h => ?_
  match i, hx, hy with
  | 0, hx, hy => simp at hx hy; subst hx hy; exact h
  | 1, hx, hy => simp at hx hy; subst hx hy; exact rv_dk0 0 G w v h
  | i + 2, hx, hy => simp at hx
def cutT (s : List UInt8) : List UInt8 := s.take (cutA s 0).last
theorem OpenDisk_ok (l : List (List UInt8)) (syn : Int) (id : Nat) (hl8 : l.length ≤ 8) (h4 : ∀ s ∈ l, s.length ≤ 400) : FnOk Try.prog 36 [.agg [.sl (l.map AV.str), .int .i64 syn]] [] id (.tup [.sl ((allB l).map eBt), .agg [.sl ((l.map cutT).map AV.str), .int .i64 ((cutA (lastS l) 0).last : Int)]]) [] := by
  refine fn_okc Try.func36 hcc36 (by decide) hcr36 (by simp [Try.ntmps36]) fun E hP hR hl hid => ?_
  simp only [cr36] at hR
  refine w_go 4000 ?_
  simp [cc36]
  refine w_loop (X := Nat × List Bt) (fun x => ⟨[(1, true, .ptr E.n0 0 0), (3, true, .ptr (E.n0 + 1) 0 0), (4, true, .bsl (E.n0 + 3) 0 x.2.length), (5, true, .ptr (E.n0 + 2) 0 0), (6, true, .int .i64 x.1)],
      [(E.n0, some ⟨[.agg [.sl (l.map AV.str), .int .i64 syn]], .agg [.nils, .int .i64 0], false, false⟩), (E.n0 + 1, some ⟨[.agg [.nils, .int .i64 0]], .agg [.nils, .int .i64 0], false, false⟩), (E.n0 + 2, some ⟨[.agg [.bsl (E.n0 + 4) 0 x.1, .int .i64 ((cutA (lastS (l.take x.1)) 0).last : Int)]], .agg [.nils, .int .i64 0], false, false⟩), (E.n0 + 3, some ⟨x.2.map eBt, .agg [.int .i64 0, .nils], false, false⟩), (E.n0 + 4, some ⟨((l.take x.1).map cutT).map AV.str, .str [], false, false⟩)], 5⟩)
    (fun x => x.1 ≤ l.length ∧ x.2 ++ allB (l.drop x.1) = allB l ∧ x.2.length ≤ 400 * x.1) (fun x => l.length - x.1) (0, []) ?_ ⟨by simp, rfl, by simp⟩ ?_
  · have h0 : (cutA (lastS (l.take 0)) 0).last = 0 := by rw [List.take_zero, show lastS [] = [] from rfl, cut_nil]
    refine Conv.trans (Conv.voidSlot 4 (x := .nils) (y := .bsl (E.n0 + 24) 0 0) (by simp) .nils (.agg [.int .i64 0, .nils])) (Conv.trans (Conv.voidBox (E.n0 + 16) (by simp; rfl) rfl (.agg [.nils, .int .i64 0] [.bsl (E.n0 + 25) 0 0, .int .i64 0] rfl (fun m x y h1 h2 => ?_)) (.str [])) ?_)
    · match m, h1, h2 with
      | 0, h1, h2 => simp at h1 h2; exact .inr ⟨h1.symm, h2.symm⟩
      | 1, h1, h2 => simp at h1 h2; exact .inl (h1.symm.trans h2)
      | m + 2, h1, h2 => simp at h1
    · simp only [h0]
      have hrn : rnOk [(E.n0, E.n0), (E.n0 + 1, E.n0 + 8), (E.n0 + 2, E.n0 + 16), (E.n0 + 3, E.n0 + 24), (E.n0 + 4, E.n0 + 25)] := by simp
      refine Conv.sub [(E.n0, E.n0), (E.n0 + 1, E.n0 + 8), (E.n0 + 2, E.n0 + 16), (E.n0 + 3, E.n0 + 24), (E.n0 + 4, E.n0 + 25)] hrn ?_ ?_ ?_ ?_ ?_ <;> (try simp)
  · rintro ⟨i, bs⟩ ⟨hi, hf, hbl⟩ p hp
    simp only at hi hf hbl hp
    refine w_go 4000 ?_
    simp
    refine goc (fun h => ?_) (fun h => ?_)
    · have h := of_decide_eq_true h
      obtain ⟨x, hx, hd⟩ := drop_cons h
      have hi1 : IntKind.i64.wrap ((i : Int) + 1) = ((i + 1 : Nat) : Int) := wrap64 (by omega)
      have hx4 := h4 x (List.mem_of_getElem? hx)
      have hcb := cut_bs x
      have hcl := (cut_facts x 0 (by omega)).2.1
      have hlt : l.take (i + 1) = l.take i ++ [x] := by rw [List.take_add_one, hx]; rfl
      have hls : lastS (l.take (i + 1)) = x := by rw [hlt]; simp [lastS]
      simp [hx]
      refine ⟨h, ?_⟩
      (refine w_call hP rfl (SegmentOf_ok x _ hx4) (by simp [hx]) (by simp [hx] <;> rfl) ?_; refine w_go 4000 ?_; simp [hx])
      refine ⟨⟨fun a _ => ⟨rfl, fun y hy => ?_⟩, by omega, by omega⟩, ?_⟩
      · have hy : y ∈ (eBt a).cells := hy
        simp only [eBt, AV.cells, List.mem_cons, List.not_mem_nil, or_false] at hy
        rcases hy with rfl | rfl <;> rfl
      · (repeat (refine And.intro (by first | assumption | omega | (simp; omega) | (simp_all; done)) ?_))
        refine hp _ (i + 1, bs ++ (cutA x 0).bs) ⟨h, ?_, by simp; omega⟩ (by simp only []; omega) ?_
        · rw [← hf, hd]; simp [allB]
        · have hrn : rnOk [(E.n0, E.n0), (E.n0 + 1, E.n0 + 1), (E.n0 + 2, E.n0 + 2), (E.n0 + 3, E.n0 + 85), (E.n0 + 4, E.n0 + 133)] := by simp[hi1, hls]
          refine Conv.sub [(E.n0, E.n0), (E.n0 + 1, E.n0 + 1), (E.n0 + 2, E.n0 + 2), (E.n0 + 3, E.n0 + 85), (E.n0 + 4, E.n0 + 133)] hrn ?_ ?_ ?_ ?_ ?_ <;> (try simp[hi1, hls])
          refine ⟨renL_pure rfl (pureL_append (pure_bts _) (pure_bts _)), renL_pure ?_ ?_⟩
          · rw [List.take_add_one]; simp [hx, cutT]
          · rw [← List.map_take]; exact pureL_append (pureL_map (fun _ => rfl) _) rfl
    · have h := of_decide_eq_false h
      simp
      rw [List.drop_of_length_le (by omega)] at hf
      have hf : bs = allB l := by simpa [allB] using hf
      obtain rfl : i = l.length := by omega
      rw [← hf] at hR
      simp only [List.take_length] at *
      have hrn : rnOk [] := by simp [id_lt hid, id_own hid, id_own' hid, id_own0 hid, id_own0' hid]
      rw [hR]
      refine rt_endR (by simp <;> rfl) (by simp [id_lt hid, id_own hid, id_own' hid, id_own0 hid, id_own0' hid] <;> exact ⟨rfl, rfl⟩) [] hrn ⟨?_, ?_, ?_, ?_, ?_, ?_⟩ <;> (try simp [id_lt hid, id_own hid, id_own' hid, id_own0 hid, id_own0' hid])
      all_goals exact namesL_pure _ (pureL_map (fun _ => rfl) _)
theorem set_setL (l : List (List UInt8)) (s : List UInt8) : (List.map AV.str l).set (l.length - 1) (AV.str s) = List.map AV.str (setL l s) := by simp [setL, List.map_set]
def rAppend (d : Dk) (b : Bt) : ApS :=
  if (cutA (lastS d.seg) 0).last < (lastS d.seg).length then ⟨⟨[], 0⟩, 4⟩
  else if d.seg ≠ [] ∧ (lastS d.seg).length + (fBytes b).length ≤ 400 then ⟨⟨setL d.seg (lastS d.seg ++ fBytes b), d.syn⟩, 0⟩
  else if d.seg.length = 8 then ⟨⟨[], 0⟩, 2⟩
  else ⟨⟨d.seg ++ [fBytes b], 0⟩, 0⟩
set_option maxHeartbeats 2000000 in
theorem AppendOf_ok (d : Dk) (b : Bt) (id : Nat) (hb : fCheckB b = 0) (hl8 : d.seg.length ≤ 8) (h4 : ∀ s ∈ d.seg, s.length ≤ 400) : FnOk Try.prog 38 [eDk d, eBt b] [] id (.tup [eDk (rAppend d b).d, .int .i64 (rAppend d b).e]) [] := by
  have hby := fun id => BatchBytes_ok b id hb
  have hla := LastOf_ok d.seg d.syn
  have hl4 := lastS_le h4
  have hbl : (fBytes b).length ≤ 400 := by have := btBytes_len b hb; simp [fBytes]; omega
  simp only [eDk, eBt] at *
  refine fn_okc Try.func38 hcc38 (by decide) hcr38 (by simp [Try.ntmps38]) fun E hP hR hl hid => ?_
  simp only [cr38] at hR
  refine w_go 4000 ?_
  simp [cc38]
  (refine w_call hP rfl (hla _ (by omega)) (by simp) (by simp <;> rfl) ?_; refine w_go 4000 ?_; simp)
  (refine w_call hP rfl (SegmentOf_ok (lastS d.seg) _ hl4) (by simp) (by simp <;> rfl) ?_; refine w_go 4000 ?_; simp)
  (refine w_call hP rfl (hla _ (by omega)) (by simp) (by simp <;> rfl) ?_; refine w_go 4000 ?_; simp)
  refine goc (fun h => ?_) (fun h => ?_)
  · simp
    have h' := of_decide_eq_true h
    have hv : rAppend d b = ⟨⟨[], 0⟩, 4⟩ := by unfold rAppend; rw [if_pos h']
    rw [hv] at hR
    have hrn : rnOk [] := by simp [id_lt hid, id_own hid, id_own' hid, id_own0 hid, id_own0' hid]
    rw [hR]
    refine rt_end (by simp <;> rfl) [] hrn ⟨?_, ?_, ?_, ?_, ?_, ?_⟩ <;> (try simp [id_lt hid, id_own hid, id_own' hid, id_own0 hid, id_own0' hid])
  · simp
    have h' := of_decide_eq_false h
    (refine w_call hP rfl (hby _) (by simp) (by simp <;> rfl) ?_; refine w_go 4000 ?_; simp)
    by_cases hne : d.seg = []
    · have hv : rAppend d b = ⟨⟨d.seg ++ [fBytes b], 0⟩, 0⟩ := by unfold rAppend; rw [if_neg h', if_neg (by simp [hne]), if_neg (by simp [hne])]
      rw [hv] at hR
      simp [hne]
      have hrn : rnOk [] := by simp [hne, id_lt hid, id_own hid, id_own' hid, id_own0 hid, id_own0' hid]
      rw [hR]
      refine rt_endR (by simp <;> rfl) (by simp [hne, id_lt hid, id_own hid, id_own' hid, id_own0 hid, id_own0' hid] <;> exact ⟨rfl, rfl⟩) [] hrn ⟨?_, ?_, ?_, ?_, ?_, ?_⟩ <;> (try simp [hne, id_lt hid, id_own hid, id_own' hid, id_own0 hid, id_own0' hid])
      exact namesL_pure _ rfl
    · have hg := lastS_get hne
      have hp := List.length_pos_iff.2 hne
      have hw2 : IntKind.i64.wrap ((d.seg.length : Int) - 1) = ((d.seg.length - 1 : Nat) : Int) := by rw [wrap64 (by omega)]; omega
      simp [hw2, hg, hp]
      (repeat (refine And.intro (by first | assumption | omega | (simp; omega) | (simp_all; done)) ?_))
      refine goc (fun h1 => ?_) (fun h1 => ?_)
      · have h1' : (lastS d.seg).length + (fBytes b).length ≤ 400 := by simp at h1; omega
        have hv : rAppend d b = ⟨⟨setL d.seg (lastS d.seg ++ fBytes b), d.syn⟩, 0⟩ := by unfold rAppend; rw [if_neg h', if_pos ⟨hne, h1'⟩]
        rw [hv] at hR
        simp [hw2, hg, hp]
        (repeat (refine And.intro (by first | assumption | omega | (simp; omega) | (simp_all; done)) ?_))
        have hrn : rnOk [] := by simp [set_setL, id_lt hid, id_own hid, id_own' hid, id_own0 hid, id_own0' hid]
        rw [hR]
        refine rt_endR (by simp <;> rfl) (by simp [set_setL, id_lt hid, id_own hid, id_own' hid, id_own0 hid, id_own0' hid] <;> exact ⟨rfl, rfl⟩) [] hrn ⟨?_, ?_, ?_, ?_, ?_, ?_⟩ <;> (try simp [set_setL, id_lt hid, id_own hid, id_own' hid, id_own0 hid, id_own0' hid])
      · have h1' : ¬ (lastS d.seg).length + (fBytes b).length ≤ 400 := by simp at h1; omega
        simp [hw2, hg, hp]
        refine goc (fun h2 => ?_) (fun h2 => ?_)
        · have h2' : d.seg.length = 8 := by simp at h2; omega
          have hv : rAppend d b = ⟨⟨[], 0⟩, 2⟩ := by unfold rAppend; rw [if_neg h', if_neg (by simp [h1']), if_pos h2']
          rw [hv] at hR
          simp
          have hrn : rnOk [] := by simp [id_lt hid, id_own hid, id_own' hid, id_own0 hid, id_own0' hid]
          rw [hR]
          refine rt_end (by simp <;> rfl) [] hrn ⟨?_, ?_, ?_, ?_, ?_, ?_⟩ <;> (try simp [id_lt hid, id_own hid, id_own' hid, id_own0 hid, id_own0' hid])
        · have h2' : ¬ d.seg.length = 8 := by simp at h2; omega
          have hv : rAppend d b = ⟨⟨d.seg ++ [fBytes b], 0⟩, 0⟩ := by unfold rAppend; rw [if_neg h', if_neg (by simp [h1']), if_neg h2']
          rw [hv] at hR
          simp
          (repeat (refine And.intro (by first | assumption | omega | (simp; omega) | (simp_all; done)) ?_))
          have hrn : rnOk [] := by simp [id_lt hid, id_own hid, id_own' hid, id_own0 hid, id_own0' hid]
          rw [hR]
          refine rt_endR (by simp <;> rfl) (by simp [id_lt hid, id_own hid, id_own' hid, id_own0 hid, id_own0' hid] <;> exact ⟨rfl, rfl⟩) [] hrn ⟨?_, ?_, ?_, ?_, ?_, ?_⟩ <;> (try simp [id_lt hid, id_own hid, id_own' hid, id_own0 hid, id_own0' hid])
          exact ⟨List.take_of_length_le (by simp), by rw [List.take_of_length_le (by simp)]; exact namesL_pure _ (pureL_append (pure_strs _) rfl)⟩
def rCrash (d : Dk) (keep : Int) : Dk := if d.seg ≠ [] ∧ keep < (lastS d.seg).length - d.syn then ⟨setL d.seg ((lastS d.seg).take (d.syn + keep).toNat), d.syn⟩ else d
set_option maxHeartbeats 2000000 in
theorem CrashOf_ok (d : Dk) (keep : Int) (id : Nat) (hl8 : d.seg.length ≤ 8) (h4 : (lastS d.seg).length ≤ 400) (hs0 : 0 ≤ d.syn) (hs1 : d.syn ≤ (lastS d.seg).length) (hk : 0 ≤ keep) : FnOk Try.prog 39 [eDk d, .int .i64 keep] [] id (eDk (rCrash d keep)) [] := by
  simp only [eDk]
  refine fn_okc Try.func39 hcc39 (by decide) hcr39 (by simp [Try.ntmps39]) fun E hP hR hl hid => ?_
  simp only [cr39] at hR
  refine w_go 4000 ?_
  simp [cc39]
  by_cases hne : d.seg = []
  · have hv : rCrash d keep = d := by unfold rCrash; rw [if_neg (by simp [hne])]
    rw [hv] at hR
    have hneg : IntKind.i64.wrap (-1) = -1 := wrap64 (by omega)
    simp [hne, hneg]
    have hrn : rnOk [] := by simp [hne, id_lt hid, id_own hid, id_own' hid, id_own0 hid, id_own0' hid]
    rw [hR]
    refine rt_endR (by simp <;> rfl) (by simp [hne, id_lt hid, id_own hid, id_own' hid, id_own0 hid, id_own0' hid] <;> exact ⟨rfl, rfl⟩) [] hrn ⟨?_, ?_, ?_, ?_, ?_, ?_⟩ <;> (try simp [hne, id_lt hid, id_own hid, id_own' hid, id_own0 hid, id_own0' hid])
    exact namesL_pure _ rfl
  · have hg := lastS_get hne
    have hp := List.length_pos_iff.2 hne
    have hw2 : IntKind.i64.wrap ((d.seg.length : Int) - 1) = ((d.seg.length - 1 : Nat) : Int) := by rw [wrap64 (by omega)]; omega
    have hw3 : IntKind.i64.wrap (((lastS d.seg).length : Int) - d.syn) = (lastS d.seg).length - d.syn := wrap64 (by omega)
    simp [hw2, hg, hp, hw3]
    (repeat (refine And.intro (by first | assumption | omega | (simp; omega) | (simp_all; done)) ?_))
    refine goc (fun h1 => ?_) (fun h1 => ?_)
    · have h1' : keep < (lastS d.seg).length - d.syn := by simp at h1; omega
      have hv : rCrash d keep = ⟨setL d.seg ((lastS d.seg).take (d.syn + keep).toNat), d.syn⟩ := by unfold rCrash; rw [if_pos ⟨hne, h1'⟩]
      rw [hv] at hR
      have hw4 : IntKind.i64.wrap (d.syn + keep) = d.syn + keep := wrap64 (by omega)
      simp [hw2, hg, hp, hw3, hw4]
      (repeat (refine And.intro (by first | assumption | omega | (simp; omega) | (simp_all; done)) ?_))
      have hrn : rnOk [] := by simp [set_setL, id_lt hid, id_own hid, id_own' hid, id_own0 hid, id_own0' hid]
      rw [hR]
      refine rt_endR (by simp <;> rfl) (by simp [set_setL, id_lt hid, id_own hid, id_own' hid, id_own0 hid, id_own0' hid] <;> exact ⟨rfl, rfl⟩) [] hrn ⟨?_, ?_, ?_, ?_, ?_, ?_⟩ <;> (try simp [set_setL, id_lt hid, id_own hid, id_own' hid, id_own0 hid, id_own0' hid])
    · have h1' : ¬ keep < (lastS d.seg).length - d.syn := by simp at h1; omega
      have hv : rCrash d keep = d := by unfold rCrash; rw [if_neg (by simp [h1'])]
      rw [hv] at hR
      simp [hw2, hg, hp, hw3]
      have hrn : rnOk [] := by simp [id_lt hid, id_own hid, id_own' hid, id_own0 hid, id_own0' hid]
      rw [hR]
      refine rt_endR (by simp <;> rfl) (by simp [id_lt hid, id_own hid, id_own' hid, id_own0 hid, id_own0' hid] <;> exact ⟨rfl, rfl⟩) [] hrn ⟨?_, ?_, ?_, ?_, ?_, ?_⟩ <;> (try simp [id_lt hid, id_own hid, id_own' hid, id_own0 hid, id_own0' hid])
def isDk (d : Dk) (e w : Int) (want : Dk) : Bool := e == w && sameDk d (if w ≠ 0 then ⟨[], 0⟩ else want)
theorem diskIs_ok (d : Dk) (e w : Int) (want : Dk) (id : Nat) (hls : d.seg.length < 9223372036854775807) : FnOk Try.prog 42 [eDk d, .int .i64 e, .int .i64 w, eDk want] [] id (.bool (isDk d e w want)) [] := by
  have hs1 := SameDisk0_ok d
  have hs2 := SameDisk_ok d want
  simp only [eDk] at *
  refine fn_okc Try.func42 hcc42 (by decide) hcr42 (by simp [Try.ntmps42]) fun E hP hR hl hid => ?_
  simp only [cr42] at hR
  refine w_go 4000 ?_
  simp [cc42]
  refine goc (fun h => ?_) (fun h => ?_)
  · simp
    have h' : w ≠ 0 := by simpa using h
    have hv : isDk d e w want = (e == w && sameDk d ⟨[], 0⟩) := by unfold isDk; rw [if_pos h']
    rw [hv] at hR
    (refine w_callg hP (by simp) rfl (fun hc => ⟨hs1 _ hls, by revert hc; simp; try grind, by simp⟩) ?_; refine w_go 4000 ?_; simp)
    rw [hR]; exact rt_end (by simp <;> rfl) [] trivial (end_pure (by simp) (by simp) (by simp))
  · simp
    have h' : ¬ w ≠ 0 := by simpa using h
    have hv : isDk d e w want = (e == w && sameDk d want) := by unfold isDk; rw [if_neg h']
    rw [hv] at hR
    (refine w_callg hP (by simp) rfl (fun hc => ⟨hs2 _ hls, by revert hc; simp; try grind, by simp⟩) ?_; refine w_go 4000 ?_; simp)
    rw [hR]; exact rt_end (by simp <;> rfl) [] trivial (end_pure (by simp) (by simp) (by simp))
end Go.Am

namespace Go.Am
set_option linter.all false
set_option linter.all false
open Go Go.RowKit

theorem list_ends {l : List (List UInt8)} (h : l ≠ []) : l = l.dropLast ++ [lastS l] := by
  have h1 := List.dropLast_concat_getLast h
  have h2 : lastS l = l.getLast h := by unfold lastS; rw [List.getLast?_eq_some_getLast h]; rfl
  rw [h2, h1]
theorem setL_eq {l : List (List UInt8)} (h : l ≠ []) (s : List UInt8) : setL l s = l.dropLast ++ [s] := by
  have hp := List.length_pos_iff.2 h
  unfold setL
  conv => lhs; arg 1; rw [list_ends h]
  rw [List.set_append]
  simp
theorem setL_last (l : List (List UInt8)) : setL l (lastS l) = l := by
  by_cases h : l = []
  · subst h; rfl
  · rw [setL_eq h, ← list_ends h]
theorem lastS_setL {l : List (List UInt8)} (h : l ≠ []) (s : List UInt8) : lastS (setL l s) = s := by
  rw [setL_eq h]; simp [lastS]
theorem lastS_snoc (l : List (List UInt8)) (s : List UInt8) : lastS (l ++ [s]) = s := by simp [lastS]

theorem open_eq {d : Dk} (h : fCheckD d = 0) : d.seg.map cutT = (whole d.seg).seg := by
  obtain ⟨h1, h2, h3, h4⟩ := fCheckD_zero h
  obtain ⟨g1, g2, g3⟩ := fSegs_ok _ _ h1
  unfold whole trimS
  simp only
  by_cases hne : d.seg = []
  · rw [hne]; rfl
  · rw [setL_eq hne]
    conv => lhs; rw [list_ends hne]
    rw [List.map_append, List.map_cons, List.map_nil]
    congr 1
    · conv => rhs; rw [← List.map_id d.seg.dropLast]
      refine List.map_congr_left fun s hs => ?_
      obtain ⟨i, hi⟩ := List.getElem?_of_mem hs
      have hil := (List.getElem?_eq_some_iff.1 hi).1
      simp only [List.length_dropLast] at hil
      have hi' : d.seg[i]? = some s := by
        rw [← hi, List.getElem?_dropLast, if_pos hil]
      unfold cutT
      rw [g3 i s (by omega) hi', List.take_length]; rfl
theorem append_eq {d : Dk} {b : Bt} (h : fCheckD d = 0) (hb : fCheckB b = 0) : fAppend d b = rAppend d b := by
  unfold fAppend rAppend
  rw [if_neg (by simp [h]), if_neg (by simp [hb])]
theorem crash_eq {d : Dk} {keep : Int} (h : fCheckD d = 0) (hk : 0 ≤ keep) : fCrash d keep = ⟨rCrash d keep, 0⟩ := by
  obtain ⟨h1, h2, h3, h4⟩ := fCheckD_zero h
  unfold fCrash rCrash
  rw [if_neg (by simp [h]), if_neg (by omega)]
  by_cases hc : d.seg ≠ [] ∧ keep < (lastS d.seg).length - d.syn
  · rw [if_pos hc]
    unfold trimS
    rw [show d.syn + min keep ((lastS d.seg).length - d.syn) = d.syn + keep by omega]
  · rw [if_neg hc]
    by_cases hne : d.seg = []
    · obtain ⟨seg, syn⟩ := d
      simp only at hne
      subst hne
      rfl
    · have : ¬ keep < (lastS d.seg).length - d.syn := fun h0 => hc ⟨hne, h0⟩
      rw [show d.syn + min keep ((lastS d.seg).length - d.syn) = (lastS d.seg).length by omega]
      unfold trimS
      rw [Int.toNat_natCast, List.take_length, setL_last]

/-! ### The examples of diskBegun -/
theorem cut_one (b : Bt) (h : fCheckB b = 0) : cutA (fBytes b) 0 = ⟨[b], [0, (fBytes b).length], (fBytes b).length, 5⟩ := by
  have hd := decode_of b h []
  rw [List.append_nil] at hd
  have h0 : (fDecode ((fBytes b).drop 0)).e = 0 := by rw [List.drop_zero, hd]
  rw [cutA_ok h0, List.drop_zero, hd]
  simp only [Int.toNat_natCast, Nat.zero_add]
  have h5 : (fDecode ((fBytes b).drop (fBytes b).length)).e = 5 := by rw [List.drop_length]; decide
  rw [cutA_stop (by rw [h5]; decide), h5]
theorem check_nil : fCheckD ⟨[], 0⟩ = 0 := by decide
theorem lot17 : (fBytes lotB).length = 17 := by decide
theorem cut_lot : cutA (fBytes lotB) 0 = ⟨[lotB], [0, 17], 17, 5⟩ := by rw [cut_one lotB (by decide), lot17]
theorem cut_lot5 : cutA ((fBytes lotB).take 5) 0 = ⟨[], [0], 0, 5⟩ := by
  rw [cutA_stop (by decide)]
  have : (fDecode (List.drop 0 ((fBytes lotB).take 5))).e = 5 := by decide
  rw [this]
theorem begun1 : fAppend ⟨[], 0⟩ lotB = ⟨⟨[fBytes lotB], 0⟩, 0⟩ := by
  unfold fAppend
  rw [check_nil, if_neg (by decide), if_neg (by decide)]
  simp only [show lastS [] = [] from rfl, cut_nil]
  rw [if_neg (by decide), if_neg (by decide), if_neg (by decide)]
  rfl
theorem check1 (n : Int) (h : n = 0 ∨ n = 17) : fCheckD ⟨[fBytes lotB], n⟩ = 0 := by
  unfold fCheckD
  simp only [fSegs, cut_lot, List.length_singleton, List.any_cons, lot17]
  rcases h with rfl | rfl <;> simp
theorem check5 : fCheckD ⟨[(fBytes lotB).take 5], 0⟩ = 0 := by
  unfold fCheckD
  simp only [fSegs, cut_lot5, List.length_singleton, List.any_cons]
  simp [lot17]
theorem begun2 : fCrash ⟨[fBytes lotB], 0⟩ 5 = ⟨⟨[(fBytes lotB).take 5], 0⟩, 0⟩ := by
  unfold fCrash
  rw [check1 0 (.inl rfl), if_neg (by decide), if_neg (by decide)]
  simp only [show lastS [fBytes lotB] = fBytes lotB from rfl, lot17]
  rfl
theorem begun3 : fAppend ⟨[(fBytes lotB).take 5], 0⟩ lotB = ⟨⟨[], 0⟩, 4⟩ := by
  unfold fAppend
  rw [check5, if_neg (by decide), if_neg (by decide)]
  simp only [show lastS [(fBytes lotB).take 5] = (fBytes lotB).take 5 from rfl, cut_lot5]
  rw [if_pos (by decide)]
theorem begun4 : (whole [(fBytes lotB).take 5]).seg = [[]] ∧ (whole [(fBytes lotB).take 5]).syn = 0 ∧ allB [(fBytes lotB).take 5] = [] := by
  unfold whole
  simp only [show lastS [(fBytes lotB).take 5] = (fBytes lotB).take 5 from rfl, cut_lot5]
  refine ⟨rfl, trivial, ?_⟩
  simp [allB, cut_lot5]
theorem begun5 : fSync ⟨[fBytes lotB], 0⟩ = ⟨⟨[fBytes lotB], 17⟩, 0⟩ := by
  unfold fSync
  rw [check1 0 (.inl rfl), if_neg (by decide)]
  simp only [show lastS [fBytes lotB] = fBytes lotB from rfl, cut_lot, lot17]
  rw [if_neg (by decide)]
  rfl
theorem begun6 : fCrash ⟨[fBytes lotB], 17⟩ 0 = ⟨⟨[fBytes lotB], 17⟩, 0⟩ := by
  unfold fCrash
  rw [check1 17 (.inr rfl), if_neg (by decide), if_neg (by decide)]
  simp only [show lastS [fBytes lotB] = fBytes lotB from rfl, lot17]
  have : (fBytes lotB).take 17 = fBytes lotB := List.take_of_length_le (by rw [lot17]; omega)
  show (⟨⟨[(fBytes lotB).take 17], 17⟩, 0⟩ : ApS) = _
  rw [this]
end Go.Am

namespace Go.Am
set_option linter.all false
open Go Go.RowKit Go.Proofs
set_option maxRecDepth 100000
set_option linter.all false

theorem Append0_ok (b : Bt) (id : Nat) : FnOk Try.prog 32 [.agg [.nils, .int .i64 0], eBt b] [] id (.tup [eDk (fAppend ⟨[], 0⟩ b).d, .int .i64 (fAppend ⟨[], 0⟩ b).e]) [] := by
  refine (Append_ok ⟨[], 0⟩ b id).nil rfl fun i x y hx hy G w v h => ?_
  match i, hx, hy with
  | 0, hx, hy => simp at hx hy; subst hx hy; exact rv_dk0 0 G w v h
  | 1, hx, hy => simp at hx hy; subst hx hy; exact h
  | i + 2, hx, hy => simp at hx
theorem syn_in (d : Dk) (h : fCheckD d = 0) : 0 ≤ d.syn ∧ d.syn ≤ (lastS d.seg).length := ⟨(fCheckD_zero h).2.1, (fCheckD_zero h).2.2.1⟩
theorem Crash_okk (d : Dk) (keep : Int) (id : Nat) : FnOk Try.prog 34 [eDk d, .int .i64 keep] [] id (.tup [eDk (fCrash d keep).d, .int .i64 (fCrash d keep).e]) [] := Crash_ok d keep id (syn_in d)
set_option maxHeartbeats 4000000 in
theorem diskBegun_ok (id : Nat) : FnOk Try.prog 40 [] [] id (.bool true) [] := by
  have hlot := fun id => lot_ok id
  have h1 := Append0_ok lotB
  have h2 := Crash_okk ⟨[fBytes lotB], 0⟩ 5
  have h3 := Append_ok ⟨[(fBytes lotB).take 5], 0⟩ lotB
  have h4 := Open_ok ⟨[(fBytes lotB).take 5], 0⟩
  have h5 := Sync_ok ⟨[fBytes lotB], 0⟩
  have h6 := Crash_okk ⟨[fBytes lotB], 17⟩ 0
  have h7 := dCheck_ok ⟨[(fBytes lotB).take 5], 0⟩
  have h8 := SameDisk_ok ⟨[fBytes lotB], 17⟩ ⟨[fBytes lotB], 17⟩
  rw [begun1] at h1
  rw [begun2] at h2
  rw [begun3] at h3
  rw [check5, if_pos rfl, if_pos rfl, begun4.1, begun4.2.1, begun4.2.2] at h4
  rw [begun5] at h5
  rw [begun6] at h6
  rw [check5] at h7
  rw [(sameDk_iff _ _).2 rfl] at h8
  simp only [eDk, eBt, List.map_cons, List.map_nil] at *
  generalize fBytes lotB = L at *
  refine fn_okc Try.func40 hcc40 (by decide) hcr40 (by simp [Try.ntmps40]) fun E hP hR hl hid => ?_
  simp only [cr40] at hR
  refine w_go 4000 ?_
  simp [cc40]
  (refine w_call hP rfl (hlot _) (by simp) (by simp <;> rfl) ?_; refine w_go 4000 ?_; simp)
  (refine w_call hP rfl (h1 _) (by simp) (by simp <;> rfl) ?_; refine w_go 4000 ?_; simp)
  (refine w_call hP rfl (h2 _) (by simp) (by simp <;> rfl) ?_; refine w_go 4000 ?_; simp)
  (refine w_call hP rfl (hlot _) (by simp) (by simp <;> rfl) ?_; refine w_go 4000 ?_; simp)
  (refine w_call hP rfl (h3 _) (by simp) (by simp <;> rfl) ?_; refine w_go 4000 ?_; simp)
  (refine w_call hP rfl (h4 _) (by simp) (by simp <;> rfl) ?_; refine w_go 4000 ?_; simp)
  (refine w_call hP rfl (h5 _) (by simp) (by simp <;> rfl) ?_; refine w_go 4000 ?_; simp)
  (refine w_call hP rfl (h6 _) (by simp) (by simp <;> rfl) ?_; refine w_go 4000 ?_; simp)
  (refine w_callg hP (by simp) rfl (fun hc => ⟨h7 _, by revert hc; simp; try grind, by simp⟩) ?_; refine w_go 4000 ?_; simp)
  (refine w_callg hP (by simp) rfl (fun hc => ⟨h8 _ (by simp), by revert hc; simp; try grind, by simp⟩) ?_; refine w_go 4000 ?_; simp)
  rw [hR]; exact rt_end (by simp <;> rfl) [] trivial (end_pure (by simp) (by simp) (by simp))

theorem SameBatches0_ok (a : List Bt) (id : Nat) (hl : a.length < 9223372036854775807) (hl2 : ∀ x ∈ a, x.events.length < 9223372036854775807) : FnOk Try.prog 24 [.sl (a.map eBt), .nils] [] id (.bool (sameL sameBt a [])) [] := by
  refine (SameBatches_ok a [] id hl hl2).nil rfl fun i x y hx hy G w v h => ?_
  match i, hx, hy with
  | 0, hx, hy => simp at hx hy; subst hx hy; exact h
  | 1, hx, hy => simp at hx hy; subst hx hy; exact rv_nil h
  | i + 2, hx, hy => simp at hx
theorem diskIs0_ok (d : Dk) (e w : Int) (id : Nat) (hl : d.seg.length < 9223372036854775807) : FnOk Try.prog 42 [eDk d, .int .i64 e, .int .i64 w, .agg [.nils, .int .i64 0]] [] id (.bool (isDk d e w ⟨[], 0⟩)) [] := by
  refine (diskIs_ok d e w ⟨[], 0⟩ id hl).nil rfl fun i x y hx hy G w v h => ?_
  match i, hx, hy with
  | 0, hx, hy => simp at hx hy; subst hx hy; exact h
  | 1, hx, hy => simp at hx hy; subst hx hy; exact h
  | 2, hx, hy => simp at hx hy; subst hx hy; exact h
  | 3, hx, hy => simp at hx hy; subst hx hy; exact rv_dk0 0 G w v h
  | i + 4, hx, hy => simp at hx
theorem isDk_ok (d want : Dk) (e : Int) (h : e = 0 → d = want) (h' : e ≠ 0 → d = ⟨[], 0⟩) : isDk d e e want = true := by
  unfold isDk
  by_cases he : e = 0
  · rw [if_neg (by simp [he]), h he, (sameDk_iff _ _).2 rfl]; simp
  · rw [if_pos he, h' he, (sameDk_iff _ _).2 rfl]; simp
theorem allB_len {d : Dk} (h : fCheckD d = 0) : (allB d.seg).length ≤ 3200 ∧ ∀ x ∈ allB d.seg, x.events.length ≤ 8 := by
  obtain ⟨h8, h4⟩ := fCheckD_sz (by rw [h]; decide)
  have key : ∀ l : List (List UInt8), (∀ s ∈ l, s.length ≤ 400) → (allB l).length ≤ 400 * l.length := fun l => by
    induction l with
    | nil => intro _; simp [allB]
    | cons s l ih =>
      intro hl
      have h1 := cut_bs s
      have h2 := hl s (by simp)
      have h3 := ih fun x hx => hl x (by simp [hx])
      simp only [allB, List.flatMap_cons, List.length_append, List.length_cons] at *
      omega
  have := key _ h4
  refine ⟨by omega, fun x hx => ?_⟩
  unfold allB at hx
  obtain ⟨s, hs, hx⟩ := List.mem_flatMap.1 hx
  exact (fCheckB_zero ((cut_facts s 0 (by omega)).2.2.2.2.2.2 x hx)).2.2.1
end Go.Am
