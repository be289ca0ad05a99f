/- Parts of the proof: an abstract machine for Go functions, and what functions of the program give back (Dk12, Dk13). No condition. -/
import Derived.Test.YtgdanfbkhaoieaaXL
namespace Go.Am
set_option linter.all false
open Go Go.RowKit Go.Proofs
set_option maxRecDepth 100000
set_option linter.all false

/-! ### The plain law: what is open, what is behind, a crash -/
theorem cut_cutT (s : List UInt8) : cutA (cutT s) 0 = ⟨(cutA s 0).bs, (cutA s 0).ends, (cutA s 0).last, (cutA (cutT s) 0).e⟩ ∧ (cutA (cutT s) 0).e = 5 := by
  have hl := (cut_facts s 0 (by omega)).2.1
  have key := cut_ind (s := s) (p := fun a => a ≤ s.length → ∀ k, (cutA s a).last = k → cutA (s.take k) a = ⟨(cutA s a).bs, (cutA s a).ends, (cutA s a).last, (cutA (s.take k) a).e⟩ ∧ (cutA (s.take k) a).e = 5) (fun a hd ha k hk => ?_) (fun a hd hle ih ha k hk => ?_) (s.length + 1) 0 (by omega) (by omega) _ rfl
  · exact key
  · rw [cutA_stop hd] at hk ⊢
    simp only at hk ⊢
    subst hk
    have h5 : (fDecode ((s.take a).drop a)).e = 5 := by
      rw [List.drop_eq_nil_of_le (by simp; omega)]; decide
    rw [cutA_stop (by rw [h5]; decide)]
    exact ⟨rfl, h5⟩
  · rw [cutA_ok hd] at hk ⊢
    simp only at hk ⊢
    have hadv := decode_adv hd
    have hge := (cut_facts s (a + (fDecode (s.drop a)).n.toNat) hle).1
    have hle2 := (cut_facts s (a + (fDecode (s.drop a)).n.toNat) hle).2.1
    have e : fDecode ((s.take k).drop a) = fDecode (s.drop a) := by
      rw [List.drop_take]; exact decode_less hd (by omega)
    have hd' : (fDecode ((s.take k).drop a)).e = 0 := by rw [e]; exact hd
    obtain ⟨i1, i2⟩ := ih hle k hk
    rw [cutA_ok hd', e]
    simp only
    rw [i1]
    exact ⟨by simp only [i2], i2⟩
/-- A batch behind a whole end. -/
theorem cut_app (s : List UInt8) (b : Bt) (hb : fCheckB b = 0) (h : (cutA s 0).last = s.length) : (cutA (s ++ fBytes b) 0).bs = (cutA s 0).bs ++ [b] ∧ (cutA (s ++ fBytes b) 0).last = (s ++ fBytes b).length ∧ (cutA (s ++ fBytes b) 0).e = 5 := by
  have hdl : ∀ a, a ≤ s.length → (s ++ fBytes b).drop a = s.drop a ++ fBytes b := fun a ha => by rw [List.drop_append_of_le_length ha]
  have key := cut_ind (s := s) (p := fun a => a ≤ s.length → (cutA s a).last = s.length → (cutA (s ++ fBytes b) a).bs = (cutA s a).bs ++ [b] ∧ (cutA (s ++ fBytes b) a).last = (s ++ fBytes b).length ∧ (cutA (s ++ fBytes b) a).e = 5) (fun a hd ha hk => ?_) (fun a hd hle ih ha hk => ?_) (s.length + 1) 0 (by omega) (by omega) h
  · exact key
  · rw [cutA_stop hd] at hk ⊢
    simp only at hk ⊢
    subst hk
    have hdd : (s ++ fBytes b).drop s.length = fBytes b := by rw [List.drop_left]
    have hdc := decode_of b hb []
    rw [List.append_nil] at hdc
    have h0 : (fDecode ((s ++ fBytes b).drop s.length)).e = 0 := by rw [hdd, hdc]
    rw [cutA_ok h0, hdd, hdc]
    simp only [Int.toNat_natCast]
    have h5 : (fDecode ((s ++ fBytes b).drop (s.length + (fBytes b).length))).e = 5 := by
      rw [List.drop_eq_nil_of_le (by simp)]; decide
    rw [cutA_stop (by rw [h5]; decide)]
    simp only [List.length_append]
    exact ⟨rfl, trivial, h5⟩
  · rw [cutA_ok hd] at hk ⊢
    simp only at hk ⊢
    have e : fDecode ((s ++ fBytes b).drop a) = fDecode (s.drop a) := by rw [hdl a ha]; exact decode_more hd _
    have h0 : (fDecode ((s ++ fBytes b).drop a)).e = 0 := by rw [e]; exact hd
    rw [cutA_ok h0, e]
    simp only
    obtain ⟨i1, i2, i3⟩ := ih hle hk
    rw [i1, i2, i3]
    exact ⟨rfl, rfl, rfl⟩

theorem whole_nil {l : List (List UInt8)} (h : l = []) : whole l = ⟨[], 0⟩ := by
  subst h
  unfold whole
  simp only [show lastS [] = [] from rfl, cut_nil]
  rfl
theorem whole_last {l : List (List UInt8)} (h : l ≠ []) : lastS (whole l).seg = cutT (lastS l) := lastS_setL h _
theorem fSegs_of : ∀ (l : List (List UInt8)) (e0 : List Nat), (∀ s ∈ l, (cutA s 0).e = 5) → (∀ (i : Nat) s, i + 1 < l.length → l[i]? = some s → (cutA s 0).last = s.length) → (fSegs l e0).e = 0
  | [], e0, _, _ => rfl
  | s :: r, e0, h1, h2 => by
    simp only [fSegs]
    rw [if_neg (by rw [h1 s (by simp)]; simp), if_neg]
    · exact fSegs_of r _ (fun x hx => h1 x (by simp [hx])) fun i x hi hx => h2 (i + 1) x (by simpa using hi) (by simpa using hx)
    · rintro ⟨hr, hlt⟩
      have := h2 0 s (by have := List.length_pos_iff.2 hr; simp; omega) rfl
      omega
theorem check_of {d : Dk} (h8 : d.seg.length ≤ 8) (h4 : ∀ s ∈ d.seg, s.length ≤ 400) (h1 : ∀ s ∈ d.seg, (cutA s 0).e = 5) (h2 : ∀ (i : Nat) s, i + 1 < d.seg.length → d.seg[i]? = some s → (cutA s 0).last = s.length) (n : Nat) (hn : d.syn = n) (h3 : n ∈ (cutA (lastS d.seg) 0).ends) : fCheckD d = 0 := by
  have h0 := fSegs_of d.seg [0] h1 h2
  unfold fCheckD
  rw [if_neg, if_neg (by rw [h0]; simp), if_pos]
  · rw [ends_last _ h0, List.any_eq_true]
    exact ⟨n, h3, by simp [hn]⟩
  · rintro (h | h)
    · omega
    · rw [List.any_eq_true] at h
      obtain ⟨s, hs, h⟩ := h
      have := h4 s hs
      simp at h
      omega
theorem last_mem (s : List UInt8) : (cutA s 0).last ∈ (cutA s 0).ends := by
  have := (last_get s).1
  exact List.mem_of_getElem? this
/-- What a right disk is made of. -/
structure Good (l : List (List UInt8)) : Prop where
  h8 : l.length ≤ 8
  h4 : ∀ s ∈ l, s.length ≤ 400
  h5 : ∀ s ∈ l, (cutA s 0).e = 5
  hf : ∀ (i : Nat) s, i + 1 < l.length → l[i]? = some s → (cutA s 0).last = s.length
theorem good_of {d : Dk} (h : fCheckD d = 0) : Good d.seg := by
  obtain ⟨h8, h4⟩ := fCheckD_sz (by rw [h]; decide)
  obtain ⟨g1, g2, g3⟩ := fSegs_ok _ _ (fCheckD_zero h).1
  exact ⟨h8, h4, g1, g3⟩
theorem Good.check {l : List (List UInt8)} (g : Good l) (n : Nat) (h : n ∈ (cutA (lastS l) 0).ends) : fCheckD ⟨l, n⟩ = 0 := check_of g.h8 g.h4 g.h5 g.hf n rfl h
theorem setL_get {l : List (List UInt8)} {s : List UInt8} {i : Nat} {x : List UInt8} (h : (setL l s)[i]? = some x) : (i + 1 < l.length ∧ l[i]? = some x) ∨ (i + 1 = l.length ∧ x = s) := by
  unfold setL at h
  rw [List.getElem?_set] at h
  split at h
  · rename_i e
    split at h
    · injection h with h; exact .inr ⟨by omega, h.symm⟩
    · cases h
  · have hi := (List.getElem?_eq_some_iff.1 h).1
    exact .inl ⟨by omega, h⟩
theorem Good.set {l : List (List UInt8)} (g : Good l) {s : List UInt8} (h1 : s.length ≤ 400) (h2 : (cutA s 0).e = 5) : Good (setL l s) := by
  refine ⟨by simpa using g.h8, fun x hx => ?_, fun x hx => ?_, fun i x hi hx => ?_⟩
  · obtain ⟨i, hi⟩ := List.getElem?_of_mem hx
    rcases setL_get hi with ⟨_, h⟩ | ⟨_, rfl⟩
    · exact g.h4 x (List.mem_of_getElem? h)
    · exact h1
  · obtain ⟨i, hi⟩ := List.getElem?_of_mem hx
    rcases setL_get hi with ⟨_, h⟩ | ⟨_, rfl⟩
    · exact g.h5 x (List.mem_of_getElem? h)
    · exact h2
  · simp at hi
    rcases setL_get hx with ⟨_, h⟩ | ⟨h, _⟩
    · exact g.hf i x hi h
    · omega
theorem Good.snoc {l : List (List UInt8)} (g : Good l) {s : List UInt8} (h8 : l.length < 8) (h1 : s.length ≤ 400) (h2 : (cutA s 0).e = 5) (h3 : l ≠ [] → (cutA (lastS l) 0).last = (lastS l).length) : Good (l ++ [s]) := by
  refine ⟨by simp; omega, fun x hx => ?_, fun x hx => ?_, fun i x hi hx => ?_⟩
  · rcases List.mem_append.1 hx with hx | hx
    · exact g.h4 x hx
    · simp at hx; subst hx; exact h1
  · rcases List.mem_append.1 hx with hx | hx
    · exact g.h5 x hx
    · simp at hx; subst hx; exact h2
  · simp at hi
    rw [List.getElem?_append_left (by omega)] at hx
    by_cases hl : i + 1 < l.length
    · exact g.hf i x hl hx
    · have hne : l ≠ [] := by intro h0; subst h0; simp at hi
      have := lastS_get hne
      rw [show l.length - 1 = i by omega, hx] at this
      injection this with this
      subst this
      exact h3 hne
theorem Good.last5 {l : List (List UInt8)} (g : Good l) : (cutA (lastS l) 0).e = 5 := by
  by_cases h : l = []
  · subst h; rw [show lastS [] = [] from rfl, cut_nil]
  · exact g.h5 _ (lastS_mem h)
theorem Good.last4 {l : List (List UInt8)} (g : Good l) : (lastS l).length ≤ 400 := lastS_le g.h4
theorem allB_set {l : List (List UInt8)} (h : l ≠ []) (s : List UInt8) : allB (setL l s) = allB l.dropLast ++ (cutA s 0).bs := by
  rw [setL_eq h]; simp [allB]
theorem allB_ends {l : List (List UInt8)} (h : l ≠ []) : allB l = allB l.dropLast ++ (cutA (lastS l) 0).bs := by
  conv => lhs; rw [list_ends h]
  simp [allB]
/-- What is open stays. -/
theorem whole_good {l : List (List UInt8)} (g : Good l) : Good (whole l).seg ∧ fCheckD ⟨(whole l).seg, (whole l).syn⟩ = 0 ∧ allB (whole l).seg = allB l ∧ whole (whole l).seg = whole l ∧ (cutA (lastS (whole l).seg) 0).last = (lastS (whole l).seg).length ∧ (whole l).syn = (lastS (whole l).seg).length := by
  by_cases h : l = []
  · rw [whole_nil h]
    subst h
    have hg : Good [] := ⟨by simp, by simp, by simp, by simp⟩
    refine ⟨hg, hg.check 0 (by rw [show lastS [] = [] from rfl, cut_nil]; simp), rfl, whole_nil rfl, ?_, rfl⟩
    rw [show lastS [] = [] from rfl, cut_nil]; rfl
  · have hl := whole_last h
    have h4 := g.last4
    have hll := (cut_facts (lastS l) 0 (by omega)).2.1
    obtain ⟨c1, c2⟩ := cut_cutT (lastS l)
    have hlen : (cutT (lastS l)).length = (cutA (lastS l) 0).last := by simp [cutT]; omega
    have g' : Good (whole l).seg := g.set (by rw [← cutT] at *; omega) c2
    have hlast : (cutA (lastS (whole l).seg) 0).last = (lastS (whole l).seg).length := by rw [hl, c1, hlen]
    have hsyn : (whole l).syn = (lastS (whole l).seg).length := by rw [hl, hlen]; rfl
    refine ⟨g', g'.check _ ?_, ?_, ?_, hlast, hsyn⟩
    · rw [hsyn, ← hlast]; exact last_mem _
    · show allB (setL l _) = _
      rw [allB_set h, allB_ends h]
      show _ ++ (cutA (cutT (lastS l)) 0).bs = _
      rw [c1]
    · show (⟨trimS (whole l).seg _, _⟩ : WhS) = _
      rw [hlast]
      unfold trimS
      rw [List.take_length, setL_last, ← hsyn]
end Go.Am

namespace Go.Am
set_option linter.all false
open Go Go.RowKit Go.Proofs
set_option maxRecDepth 100000
set_option linter.all false

theorem append_good {l : List (List UInt8)} {syn : Int} {b : Bt} (g : Good l) (hc : fCheckD ⟨l, syn⟩ = 0) (he : (fAppend ⟨l, syn⟩ b).e = 0) :
    Good (fAppend ⟨l, syn⟩ b).d.seg ∧ fCheckD (fAppend ⟨l, syn⟩ b).d = 0 ∧ allB (fAppend ⟨l, syn⟩ b).d.seg = allB l ++ [b] ∧ (cutA (lastS (fAppend ⟨l, syn⟩ b).d.seg) 0).last = (lastS (fAppend ⟨l, syn⟩ b).d.seg).length ∧ fCheckB b = 0 ∧ (cutA (lastS l) 0).last = (lastS l).length ∧
    ((fAppend ⟨l, syn⟩ b).d = ⟨setL l (lastS l ++ fBytes b), syn⟩ ∧ l ≠ [] ∨ (fAppend ⟨l, syn⟩ b).d = ⟨l ++ [fBytes b], 0⟩) := by
  obtain ⟨z1, z2, z3, z4⟩ := fCheckD_zero hc
  simp only at z2 z3 z4
  unfold fAppend at he ⊢
  simp only at he ⊢
  rw [hc] at he ⊢
  rw [if_neg (by decide)] at he ⊢
  split at he
  · rename_i h; exact (h he).elim
  · rename_i hb
    rw [if_neg hb]
    have hb : fCheckB b = 0 := Classical.byContradiction hb
    split at he
    · simp at he
    · rename_i hw
      rw [if_neg hw]
      have hwl : (cutA (lastS l) 0).last = (lastS l).length := by
        have := (cut_facts (lastS l) 0 (by omega)).2.1
        omega
      split at he
      · rename_i hp
        rw [if_pos hp]
        obtain ⟨c1, c2, c3⟩ := cut_app (lastS l) b hb hwl
        have g' : Good (setL l (lastS l ++ fBytes b)) := g.set (by simp; omega) c3
        have hls := lastS_setL hp.1 (lastS l ++ fBytes b)
        refine ⟨g', ?_, ?_, by simp only [hls]; exact c2, hb, hwl, .inl ⟨rfl, hp.1⟩⟩
        · have e : syn = (syn.toNat : Int) := by omega
          rw [e]
          refine g'.check syn.toNat ?_
          rw [hls]
          have h1 := cut_take (lastS l ++ fBytes b) syn.toNat (by simp; omega) 0 (by omega)
          rw [List.take_append_of_le_length (by omega)] at h1
          rw [← h1, cut_take (lastS l) syn.toNat (by omega) 0 (by omega)]
          exact z4
        · simp only
          rw [allB_set hp.1, c1, allB_ends hp.1, List.append_assoc]
      · rename_i hp
        rw [if_neg hp]
        split at he
        · simp at he
        · rename_i h8
          rw [if_neg h8]
          have hbl : (fBytes b).length ≤ 400 := by have := btBytes_len b hb; simp [fBytes]; omega
          have hone := cut_one b hb
          have hl8 := g.h8
          have g' : Good (l ++ [fBytes b]) := g.snoc (by omega) hbl (by rw [hone]) fun _ => hwl
          refine ⟨g', ?_, ?_, ?_, hb, hwl, .inr rfl⟩
          · refine g'.check 0 ?_
            rw [lastS_snoc, hone]; simp
          · simp [allB, hone]
          · simp only [lastS_snoc, hone]
theorem take_snoc1 {α : Type} (f : α → AV) (l : List α) (x : AV) : List.take (l.length + 1) (l.map f ++ [x]) = l.map f ++ [x] := List.take_of_length_le (by simp)
theorem cells_bt (a : Bt) : (eBt a).cells.length = 2 ∧ ∀ y ∈ (eBt a).cells, y.one = true := by
  refine ⟨rfl, fun y hy => ?_⟩
  simp only [eBt, AV.cells, List.mem_cons, List.not_mem_nil, or_false] at hy
  rcases hy with rfl | rfl <;> rfl
def oDk (l : List (List UInt8)) : Dk := ⟨(whole l).seg, (whole l).syn⟩
theorem oDk_seg (l : List (List UInt8)) : (oDk l).seg = (whole l).seg := rfl
set_option maxHeartbeats 4000000 in
theorem DiskOpens_ok (d : Dk) (b : Bt) (id : Nat) : FnOk Try.prog 9 [eDk d, eBt b] [] id (.bool true) [] := by
  have hO := Open_ok d
  by_cases hB : fCheckD d = 0
  · have g := good_of hB
    obtain ⟨w1, w2, w3, w4, w5, w6⟩ := whole_good g
    obtain ⟨hab1, hab2⟩ := allB_len hB
    have hO2 := Open_ok (oDk d.seg)
    have hck := dCheck_ok (oDk d.seg)
    have hsb := SameBatches_ok (allB d.seg) (allB d.seg)
    have hsd := SameDisk_ok (oDk d.seg) (oDk d.seg)
    have hA := Append_ok (oDk d.seg) b
    have hw8 := w1.h8
    have hcd : fCheckD (oDk d.seg) = 0 := w2
    rw [(sameL_iff sameBt_iff).2 rfl] at hsb
    rw [(sameDk_iff _ _).2 rfl] at hsd
    rw [hB, if_pos rfl, if_pos rfl, show (⟨(whole d.seg).seg, (whole d.seg).syn⟩ : Dk) = oDk d.seg from rfl] at hO
    rw [hcd, if_pos rfl, if_pos rfl, oDk_seg, w3, w4, show (⟨(whole d.seg).seg, (whole d.seg).syn⟩ : Dk) = oDk d.seg from rfl] at hO2
    rw [hcd] at hck
    have hos : (oDk d.seg).seg.length ≤ 8 := hw8
    by_cases he : (fAppend (oDk d.seg) b).e = 0
    · obtain ⟨p1, p2, p3, p4, p5, p6, p7⟩ := append_good (syn := (oDk d.seg).syn) w1 w2 he
      have hO3 := Open_ok (fAppend (oDk d.seg) b).d
      have p2' : fCheckD (fAppend (oDk d.seg) b).d = 0 := p2
      have p3' : allB (fAppend (oDk d.seg) b).d.seg = allB d.seg ++ [b] := by rw [← w3]; exact p3
      rw [p2', if_pos rfl, if_pos rfl, p3'] at hO3
      rw [he] at hA
      have hsb2 := SameBatches_ok (allB d.seg ++ [b]) (allB d.seg ++ [b])
      rw [(sameL_iff sameBt_iff).2 rfl] at hsb2
      have hb8 := (fCheckB_zero p5).2.2.1
      have hev2 : ∀ x ∈ allB d.seg ++ [b], x.events.length < 9223372036854775807 := fun x hx => by
        rcases List.mem_append.1 hx with hx | hx
        · have := hab2 x hx; omega
        · simp at hx; subst hx; omega
      simp only [eDk, eBt, List.map_nil, List.map_append, List.map_cons] at *
      refine fn_okc Try.func9 hcc9 (by decide) hcr9 (by simp [Try.ntmps9]) fun E hP hR hl hid => ?_
      simp only [cr9] at hR
      refine w_go 4000 ?_
      simp [cc9]
      (refine w_call hP rfl (hO _) (by simp) (by simp <;> rfl) ?_; refine w_go 4000 ?_; simp)
      (refine w_call hP rfl (diskBegun_ok _) (by simp) (by simp <;> rfl) ?_; refine w_go 4000 ?_; simp)
      (refine w_call hP rfl (hO2 _) (by simp) (by simp <;> rfl) ?_; refine w_go 4000 ?_; simp)
      (refine w_callg hP (by simp) rfl (fun hc => ⟨hsb _ (by omega) (fun x hx => by have := hab2 x hx; omega), by revert hc; simp; try grind, by simp⟩) ?_; refine w_go 4000 ?_; simp)
      (refine w_callg hP (by simp) rfl (fun hc => ⟨hsd _ (by omega), by revert hc; simp; try grind, by simp⟩) ?_; refine w_go 4000 ?_; simp)
      (refine w_callg hP (by simp) rfl (fun hc => ⟨hck _, by revert hc; simp; try grind, by simp⟩) ?_; refine w_go 4000 ?_; simp)
      (refine w_call hP rfl (hA _) (by simp) (by simp <;> rfl) ?_; refine w_go 4000 ?_; simp)
      (refine w_call hP rfl (hO3 _) (by simp) (by simp <;> rfl) ?_; refine w_go 4000 ?_; simp)
      refine ⟨⟨fun a _ => cells_bt a, by omega, by omega⟩, ⟨by omega, by omega⟩, ?_⟩
      refine w_split (.bool true) (by simp) (fun _ => ?_) (fun hg => by simp at hg)
      (refine w_callR hP rfl (hsb2 _ (by simp; omega) hev2) (by simp [take_snoc1] <;> rfl) (by simp [take_snoc1]) (by simp [take_snoc1] <;> rfl) (by simp [take_snoc1]) ?_; refine w_go 4000 ?_; simp [take_snoc1])
      rw [hR]; exact rt_end (by simp <;> rfl) [] trivial (end_pure (by simp) (by simp) (by simp))
    · simp only [eDk, eBt, List.map_nil] at *
      refine fn_okc Try.func9 hcc9 (by decide) hcr9 (by simp [Try.ntmps9]) fun E hP hR hl hid => ?_
      simp only [cr9] at hR
      refine w_go 4000 ?_
      simp [cc9]
      (refine w_call hP rfl (hO _) (by simp) (by simp <;> rfl) ?_; refine w_go 4000 ?_; simp)
      (refine w_call hP rfl (diskBegun_ok _) (by simp) (by simp <;> rfl) ?_; refine w_go 4000 ?_; simp)
      (refine w_call hP rfl (hO2 _) (by simp) (by simp <;> rfl) ?_; refine w_go 4000 ?_; simp)
      (refine w_callg hP (by simp) rfl (fun hc => ⟨hsb _ (by omega) (fun x hx => by have := hab2 x hx; omega), by revert hc; simp; try grind, by simp⟩) ?_; refine w_go 4000 ?_; simp)
      (refine w_callg hP (by simp) rfl (fun hc => ⟨hsd _ (by omega), by revert hc; simp; try grind, by simp⟩) ?_; refine w_go 4000 ?_; simp)
      (refine w_callg hP (by simp) rfl (fun hc => ⟨hck _, by revert hc; simp; try grind, by simp⟩) ?_; refine w_go 4000 ?_; simp)
      (refine w_call hP rfl (hA _) (by simp) (by simp <;> rfl) ?_; refine w_go 4000 ?_; simp)
      refine goc_true (by simpa using he) ?_
      simp
      rw [hR]; exact rt_end (by simp <;> rfl) [] trivial (end_pure (by simp) (by simp) (by simp))
  · rw [if_neg hB, if_neg hB] at hO
    simp only [eDk, eBt, List.map_nil] at *
    refine fn_okc Try.func9 hcc9 (by decide) hcr9 (by simp [Try.ntmps9]) fun E hP hR hl hid => ?_
    simp only [cr9] at hR
    refine w_go 4000 ?_
    simp [cc9]
    (refine w_call hP rfl (hO _) (by simp) (by simp <;> rfl) ?_; refine w_go 4000 ?_; simp)
    (refine w_call hP rfl (diskBegun_ok _) (by simp) (by simp <;> rfl) ?_; refine w_go 4000 ?_; simp)
    refine goc_true (by simpa using hB) ?_
    simp
    rw [hR]; exact rt_end (by simp <;> rfl) [] trivial (end_pure (by simp) (by simp) (by simp))
end Go.Am
