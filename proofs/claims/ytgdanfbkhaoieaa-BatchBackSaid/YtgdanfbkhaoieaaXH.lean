/- Parts of the proof: an abstract machine for Go functions, and what functions of the program give back (Bl2). No condition. -/
import Derived.Test.YtgdanfbkhaoieaaXF
namespace Go.Am
set_option linter.all false
open Go Go.RowKit Go.Proofs
set_option maxRecDepth 100000


theorem encode_pre {a b : Bt} (ha : fCheckB a = 0) (hb : fCheckB b = 0) (h : (fBytes b).take (fBytes a).length = fBytes a) : a = b := by
  have h1 := decode_of a ha ((fBytes b).drop (fBytes a).length)
  have h2 := decode_of b hb []
  have e : fBytes a ++ (fBytes b).drop (fBytes a).length = fBytes b := by
    conv => lhs; arg 1; rw [← h]
    exact List.take_append_drop _ _
  rw [e] at h1
  rw [List.append_nil, h1] at h2
  injection h2
def encB (b : Bt) : List UInt8 := if fCheckB b = 0 then fBytes b else []
theorem encB_len (b : Bt) : (encB b).length ≤ 400 := by
  unfold encB
  split
  · rename_i h
    have := btBytes_len b h
    simp [fBytes]; omega
  · simp
theorem pre_of {x y s : List UInt8} (h : x ++ y = s) : x.length ≤ s.length ∧ s.take x.length = x := by subst h; simp
theorem dec_err (s : List UInt8) (h : (fDecode s).e ≠ 0) : (fDecode s).n = 0 ∧ (fDecode s).b.events = [] := by
  unfold fDecode at h ⊢
  split
  · exact ⟨rfl, rfl⟩
  · split
    · exact ⟨rfl, rfl⟩
    · split
      · exact ⟨rfl, rfl⟩
      · rename_i h1 h2 h3
        rw [if_neg h1, if_neg h2, if_neg h3] at h
        exact (h rfl).elim
set_option maxHeartbeats 4000000 in
theorem BatchBack_ok (a b : Bt) (s : List UInt8) (id : Nat) (hs : s.length ≤ 1000000000000000) : FnOk Try.prog 4 [eBt a, eBt b, .str s] [] id (.bool true) [] := by
  have hea := Encode_ok a
  have heb := Encode_ok b
  have hds := Decode_ok s
  have hdt := fun (id : Nat) (h : fCheckB a = 0) (hl : (encB a ++ s).length ≤ 9223372036854775807) => Decode_ok (encB a ++ s) id hl
  have hla := encB_len a
  have hlb := encB_len b
  have hxa := SameBatches_ok [a] [a]
  have hab := SameBatches_ok [a] [b]
  have hss : sameL sameBt [a] [a] = true := by rw [sameL_iff sameBt_iff]
  rw [hss] at hxa
  have hde := Encode_ok (fDecode s).b
  have hbk := decode_back s
  have hlen := dec_len s
  rw [show (if fCheckB a = 0 then fBytes a else []) = encB a from rfl] at hea
  rw [show (if fCheckB b = 0 then fBytes b else []) = encB b from rfl] at heb
  rw [show (if fCheckB (fDecode s).b = 0 then fBytes (fDecode s).b else []) = encB (fDecode s).b from rfl] at hde
  have hld := encB_len (fDecode s).b
  have hda : fCheckB a = 0 → fDecode (encB a ++ s) = ⟨a, (encB a).length, 0⟩ := fun h => by unfold encB; rw [if_pos h]; exact decode_of a h s
  have hpre : fCheckB a = 0 → fCheckB b = 0 → (encB b).take (encB a).length = encB a → a = b := fun h h' h2 => by
    unfold encB at h2; rw [if_pos h, if_pos h'] at h2; exact encode_pre h h' h2
  simp only [eBt, List.map_cons, List.map_nil] at hea heb hds hdt hde hxa hab ⊢
  refine fn_okc Try.func4 hcc4 (by decide) hcr4 (by simp [Try.ntmps4]) fun E hP hR hl hid => ?_
  simp only [cr4] at hR
  refine w_go 4000 ?_
  simp [cc4]
  (refine w_call hP rfl (batchBegun_ok _) (by simp) (by simp <;> rfl) ?_; refine w_go 4000 ?_; simp)
  (refine w_call hP rfl (hea _) (by simp) (by simp <;> rfl) ?_; refine w_go 4000 ?_; simp)
  (refine w_call hP rfl (heb _) (by simp) (by simp <;> rfl) ?_; refine w_go 4000 ?_; simp)
  refine goc (fun h => ?_) (fun h => ?_)
  · have h' : fCheckB a = 0 := by simpa using h
    simp
    refine ⟨by omega, ?_⟩
    have hD := fun id => Decode_ok (encB a ++ s) id (by simp; omega)
    rw [hda h'] at hD
    simp only [eBt] at hD
    (refine w_call hP rfl (hD _) (by simp) (by simp <;> rfl) ?_; refine w_go 4000 ?_; simp)
    refine w_split (.bool true) (by simp) (fun _ => ?_) (fun hg => by simp [h'] at hg)
    have ha8 := (fCheckB_zero h').2.2.1
    (refine w_callR hP rfl (hxa _ (by simp) (by simp; omega)) (by simp [h'] <;> rfl) (by simp [h']) (by simp [h'] <;> rfl) (by simp [h']) ?_; refine w_go 4000 ?_; simp [h'])
    by_cases hq : fCheckB b = 0 ∧ (encB a).length ≤ (encB b).length ∧ (encB b).take (encB a).length = encB a
    · obtain ⟨q1, q2, q3⟩ := hq
      have hsb : sameL sameBt [a] [b] = true := by rw [sameL_iff sameBt_iff, hpre h' q1 q3]
      rw [hsb] at hab
      simp [q1, q2, q3]
      refine w_split (.bool true) (by simp) (fun _ => ?_) (fun hg => by simp at hg)
      (refine w_callR hP rfl (hab _ (by simp) (by simp; omega)) (by simp [h'] <;> rfl) (by simp [h']) (by simp [h'] <;> rfl) (by simp [h']) ?_; refine w_go 4000 ?_; simp [h'])
      (refine w_call hP rfl (hds _ (by omega)) (by simp) (by simp <;> rfl) ?_; refine w_go 4000 ?_; simp)
      refine goc (fun h1 => ?_) (fun h1 => ?_)
      · simp
        have h1' : (fDecode s).e ≠ 0 := by simpa using h1
        obtain ⟨z1, z2⟩ := dec_err s h1'
        rw [hR]; exact rt_end (by simp <;> rfl) [] trivial (end_pure (by simp; simp [z1, z2]) (by simp) (by simp))
      · simp
        have h1' : (fDecode s).e = 0 := by simpa using h1
        obtain ⟨z1, z2, z3⟩ := hbk h1'
        have z4 : encB (fDecode s).b = fBytes (fDecode s).b := by unfold encB; rw [if_pos z1]
        obtain ⟨z5, z6⟩ := pre_of z3
        (refine w_call hP rfl (hde _) (by simp) (by simp <;> rfl) ?_; refine w_go 4000 ?_; simp)
        refine ⟨fun _ _ => ⟨⟨z1, by omega⟩, by omega, by omega⟩, ?_⟩
        rw [hR]; exact rt_end (by simp <;> rfl) [] trivial (end_pure (by simp; simp [z1, z2, z4, z5, z6]) (by simp) (by simp))
    · have hqf : (fCheckB b == 0 && decide ((encB a).length ≤ (encB b).length) && List.take (encB a).length (encB b) == encB a) = false := by
        simp; intro x y z; exact hq ⟨x, y, z⟩
      simp [hqf]
      refine w_split (.bool true) (by simp) (fun hg => by simp at hg) (fun _ => ?_)
      refine w_go 4000 ?_
      simp
      (refine w_call hP rfl (hds _ (by omega)) (by simp) (by simp <;> rfl) ?_; refine w_go 4000 ?_; simp)
      refine goc (fun h1 => ?_) (fun h1 => ?_)
      · simp
        have h1' : (fDecode s).e ≠ 0 := by simpa using h1
        obtain ⟨z1, z2⟩ := dec_err s h1'
        rw [hR]; exact rt_end (by simp <;> rfl) [] trivial (end_pure (by simp; simp [z1, z2]) (by simp) (by simp))
      · simp
        have h1' : (fDecode s).e = 0 := by simpa using h1
        obtain ⟨z1, z2, z3⟩ := hbk h1'
        have z4 : encB (fDecode s).b = fBytes (fDecode s).b := by unfold encB; rw [if_pos z1]
        obtain ⟨z5, z6⟩ := pre_of z3
        (refine w_call hP rfl (hde _) (by simp) (by simp <;> rfl) ?_; refine w_go 4000 ?_; simp)
        refine ⟨fun _ _ => ⟨⟨z1, by omega⟩, by omega, by omega⟩, ?_⟩
        rw [hR]; exact rt_end (by simp <;> rfl) [] trivial (end_pure (by simp; simp [z1, z2, z4, z5, z6]) (by simp) (by simp))
  · simp
    (refine w_call hP rfl (hds _ (by omega)) (by simp) (by simp <;> rfl) ?_; refine w_go 4000 ?_; simp)
    refine goc (fun h1 => ?_) (fun h1 => ?_)
    · simp
      have h1' : (fDecode s).e ≠ 0 := by simpa using h1
      obtain ⟨z1, z2⟩ := dec_err s h1'
      rw [hR]; exact rt_end (by simp <;> rfl) [] trivial (end_pure (by simp; simp [z1, z2]) (by simp) (by simp))
    · simp
      have h1' : (fDecode s).e = 0 := by simpa using h1
      obtain ⟨z1, z2, z3⟩ := hbk h1'
      have z4 : encB (fDecode s).b = fBytes (fDecode s).b := by unfold encB; rw [if_pos z1]
      obtain ⟨z5, z6⟩ := pre_of z3
      (refine w_call hP rfl (hde _) (by simp) (by simp <;> rfl) ?_; refine w_go 4000 ?_; simp)
      refine ⟨fun _ _ => ⟨⟨z1, by omega⟩, by omega, by omega⟩, ?_⟩
      rw [hR]; exact rt_end (by simp <;> rfl) [] trivial (end_pure (by simp; simp [z1, z2, z4, z5, z6]) (by simp) (by simp))
end Go.Am
