/- Parts of the proof: an abstract machine for Go functions, and what functions of the program give back (Am44, Am45, Am46). No condition. -/
import Derived.Test.YtgdanfbkhaoieaaXC
import Derived.Lib.LazyBuf
namespace Go.Am
set_option linter.all false
open Go Go.RowKit
set_option linter.all false

section
variable {E : Env} {σ : St} {k : List Itm}

/-- A slot's own slice stays from here on. -/
theorem Conv.frz (n : Nat) {x x' : AV} {fz : List (Nat × Bx)} (hx : lk σ.fr n = some (true, x)) (hp : (rsvs (bk σ.bx) [x]).1) (h1 : (rsvs (bk σ.bx) [x]).2.1 = [x']) (h2 : (rsvs (bk σ.bx) [x]).2.2 = fz) : Conv E σ ⟨(n, true, x') :: σ.fr, addW σ.bx (wrF fz), σ.k⟩ := fun G a w hD => by
  obtain ⟨g1, g2⟩ := rsvs_local (bx' := ov E.β σ.bx) hp
  have ge := g2 (g1.ov E.β)
  obtain ⟨G1, q1, q2, q3, q4⟩ := freezeAll (rsvs (bk σ.bx) [x]).2.2 hD.rs fun q hq => let ⟨z1, z2⟩ := rsvs_mem hp q hq; ⟨.inl (ov_bk E.β z1), z2⟩
  have h1' : (rsvs (ov E.β σ.bx) [x]).1 := by rw [ge]; exact hp
  have q4' : Stays G G1 w (rsvs (ov E.β σ.bx) [x]).2.2 := by rw [ge]; exact q4
  obtain ⟨m1, m2⟩ := rsvs_rv q2 h1' q4'
  rw [ge] at m1 m2
  have hxr := (hD.fr n true x hx).1 rfl
  have hxr' : RV G1 w x' (a.tmps.getD n undef) := m2 (fun _ => a.tmps.getD n undef) (fun i y hy => by
    cases i with
    | zero => simp at hy; subst hy; exact hxr
    | succ i => simp at hy) 0 x' (by rw [h1]; rfl)
  subst h2
  refine ⟨G1, hD.ev.trans q2, ?_, fun id h => hD.used id (q3 id h), fun id hi h => hD.old id hi (q3 id h), fun m c v hm => ?_, hD.size, hD.defers⟩
  · show RS E.C G1 (ov E.β (addW σ.bx (wrF (rsvs (bk σ.bx) [x]).2.2))) w
    rw [ov_addW]; exact q1
  · simp only [lk] at hm
    split at hm
    · rename_i he
      subst he
      simp only [Option.some.injEq, Prod.mk.injEq] at hm
      obtain ⟨rfl, rfl⟩ := hm
      exact ⟨fun _ => hxr', fun h => by cases h⟩
    · exact ⟨fun hc => ((hD.fr m c v hm).1 hc).mono q2, (hD.fr m c v hm).2⟩

theorem DescF.setSlot {C : Cx} {N n0 : Nat} {G0 : Gh} {w0 : World} {F : Fr} {B : Nat → Option Bx} {U : Nat → Prop} {G : Gh} {a : Act} {w : World} (h : DescF C N n0 G0 w0 F B U G a w) (n : Nat) (v : AV) (hv : RV G w v (a.tmps.getD n undef)) :
    DescF C N n0 G0 w0 (upd F n (some (true, v))) B U G a w :=
  ⟨h.ev, h.rs, h.used, h.old, fun m c v' hm => by
    by_cases e : m = n
    · subst e
      rw [upd_eq] at hm
      simp only [Option.some.injEq, Prod.mk.injEq] at hm
      obtain ⟨rfl, rfl⟩ := hm
      exact ⟨fun _ => hv, fun h => by cases h⟩
    · rw [upd_ne _ _ _ e] at hm
      exact h.fr m c v' hm, h.size, h.defers⟩

theorem opd_t {X : Operand} {d : Nat} (h : opd X = some (.t d)) : X = .tmp d := by
  cases X <;> simp [opd] at h
  subst h; rfl
theorem opd_nils {X : Operand} (w : World) (h : opd X = some (.c .nils)) : X = .const (.slice none 0 0) := by
  cases X with
  | const v =>
    simp only [opd, Option.map_eq_some_iff] at h
    obtain ⟨x, h1, h2⟩ := h
    injection h2 with h2
    subst h2
    have := rv_ofV (G := ⟨fun _ _ => False, fun _ => False, fun _ => none, fun _ => False⟩) (w := w) h1
    cases this
    rfl
  | _ => simp [opd] at h
theorem comp_nil {P : Program} {op : Op} {d : Nat} (w : World) (h : comp P op = some (.bin .eql (some [8]) (.t d) (.c .nils))) : ∃ t e t', op = .binOp .eql t (.tmp d) (.const (.slice none 0 0)) t' ∧ P.underlying t = some (.slice e) := by
  have hop : ∃ o t x y t', op = .binOp o t x y t' := by
    unfold comp at h
    split at h
    all_goals first | exact ⟨_, _, _, _, _, rfl⟩ | skip
    all_goals exfalso
    all_goals try simp only [compCall, compLen, compApp, compMM, compBuild] at h
    all_goals repeat' split at h
    all_goals first | cases h; done | (refine (map_ne h ?_).elim; intro a h; cases h; done)
  obtain ⟨o, t, x, y, t', rfl⟩ := hop
  simp only [comp] at h
  split at h
  · rename_i x' y' hx hy
    split at h
    · cases h
    · split at h
      · rename_i ks hk
        split at h
        · injection h with h
          injection h with h1 h2 h3 h4
          injection h2 with h2
          have := plainFields_le hk 8 (by rw [h2]; simp)
          omega
        · cases h
      · cases h
    · rename_i e ht
      injection h with h
      injection h with h1 h2 h3 h4
      subst h1 h3 h4
      rw [opd_t hx, opd_nils w hy]
      exact ⟨t, e, t', rfl, ht⟩
    · cases h
  · cases h

/-- A slice that stays is nil, or it isn't: a comparison with nil, at the end of a region of two operations. -/
theorem w_nil {s d e : Nat} {xs : List AV} (hs : lk σ.fr s = some (true, .sl xs)) (hd : d ≠ e)
    (h1 : xs = [] → Wk E k ⟨(e, true, .bool true) :: (d, true, .sl xs) :: σ.fr, σ.bx, σ.k + 8⟩) (h2 : Wk E k ⟨(e, true, .bool false) :: (d, true, .sl xs) :: σ.fr, σ.bx, σ.k + 8⟩) :
    Wk E (.code (.reg false [⟨some d, none, [s], .mv (.t s)⟩, ⟨some e, none, [d], .bin .eql (some [8]) (.t d) (.c .nils)⟩] []) :: k) σ := fun c hc G a w hD => by
  obtain ⟨id, ops, rfl, hg⟩ := comp_reg hc
  unfold compG at hg
  split at hg
  · cases hg
  · rename_i cs hcs
    simp only [CC.reg.injEq, true_and, and_true] at hg
    subst hg
    obtain ⟨hlen, hget⟩ := compL_get hcs
    have hsz : ops.size = 2 := by simpa using hlen.symm
    obtain ⟨o0, ho0⟩ : ∃ o, ops[0]? = some o := ⟨_, Array.getElem?_eq_getElem (by omega)⟩
    obtain ⟨o1, ho1⟩ : ∃ o, ops[1]? = some o := ⟨_, Array.getElem?_eq_getElem (by omega)⟩
    obtain ⟨c0, hc0, hr0⟩ := hget 0 o0 (by simpa using ho0)
    obtain ⟨c1, hc1, hr1⟩ := hget 1 o1 (by simpa using ho1)
    simp only [List.getElem?_cons_zero, Option.some.injEq] at hc0
    simp only [List.getElem?_cons_succ, List.getElem?_cons_zero, Option.some.injEq] at hc1
    subst hc0 hc1
    refine wp_region ?_
    rw [hsz, show List.range 2 = [0, 1] from rfl, wpOps_cons]
    refine op_ok (id := E.n0 + σ.k) (nb := E.n0 + σ.k) (r := ⟨true, .sl xs, [], []⟩) hD ho0 hr0 ⟨trivial, rfl, fun _ => ?_, fun h => by cases h⟩ (fun x hx _ h => absurd (hD.used _ h) (by omega)) (by omega) (fun x hx h => absurd (hD.used _ h) (by omega)) fun G1 u1 w1 hD1 => ?_
    · refine .sem true (.mv (.t s)) True (.sl xs) [] [] (by simp [ceF, hs]) ?_ trivial
      simp [sem, veF, hs]
    · rw [wpOps_cons]
      have hcr := hr1
      unfold compR at hr1
      split at hr1
      · rename_i cc g hcomp hgd
        split at hr1
        · rename_i hdst
          injection hr1 with hr1
          injection hr1 with e1 e2 e3 e4
          subst e2 e4
          obtain ⟨t, el, t', hop, ht⟩ := comp_nil w hcomp
          have hval := DescF.opd hD1 (X := .tmp d) (x := .t d) rfl fun n hn => by
            injection hn with hn
            subst hn
            simp [ceF, updF, upd_eq]
          have hv2 : veF (updF (lk σ.fr) (some d) ⟨true, .sl xs, [], []⟩) (.t d) = .sl xs := by simp [veF, updF, upd_eq]
          rw [hv2] at hval
          have hwant := guard_eq hD1 (o := o1) (g := none) hgd trivial
          refine wpOp_run ho1 hwant ?_
          have fin : ∀ b : Bool, (b = true → xs = []) → (execOp (a.put o0.dst u1).eval o1).run E.P w1 = .ok (.value (.bool b)) w1 → o1.wp E.P (a.put o0.dst u1) w1 (fun a w => wpOps E.P ops (Post E (WW E k).1 (WW E k).2) [] a w) (Post E (WW E k).1 (WW E k).2) := fun b hb hrun => by
            unfold Oper.wp
            rw [hrun, Oper.upon_value]
            show Post E (WW E k).1 (WW E k).2 .normal _ _
            have hdN : ∀ q, o1.dst = some q → q < E.N := fun q hq => by
              simp only [Bool.and_eq_true] at hdst
              have := hdst.1
              rw [hq] at this
              simpa using this
            have hD2 := DescF.put hD1 (dst := o1.dst) (r := ⟨true, .bool b, [], []⟩) (u := .bool b) hdN (fun _ => .bool b) (fun h => by cases h)
            rw [e1] at hD2
            have hF : updF (updF (lk σ.fr) (some d) ⟨true, .sl xs, [], []⟩) (some e) ⟨true, .bool b, [], []⟩ = lk ((e, true, .bool b) :: (d, true, .sl xs) :: σ.fr) := by
              funext n; simp only [updF, upd, lk]
            rw [hF] at hD2
            have hD3 : Desc E ⟨(e, true, .bool b) :: (d, true, .sl xs) :: σ.fr, σ.bx, σ.k + 8⟩ G1 ((a.put o0.dst u1).put o1.dst (.bool b)) w1 := by
              rw [e1]
              exact hD2.weak fun i hi => hi.elim (fun h => by have := hD.used _ h; show i < E.n0 + (σ.k + 8); omega) fun h => by show i < E.n0 + (σ.k + 8); omega
            cases b with
            | true => exact ⟨_, G1, hD3, h1 (hb rfl)⟩
            | false => exact ⟨_, G1, hD3, h2⟩
          have hex : execOp (a.put o0.dst u1).eval o1 = (do pure (.value (← (do eqGuard .eql t (.tmp d) (.const (.slice none 0 0)) ((a.put o0.dst u1).eval (.tmp d)) (.slice none 0 0); binOp .eql t ((a.put o0.dst u1).eval (.tmp d)) (.slice none 0 0) : Sem Value)))) := by
            unfold execOp; simp only [hop, Act.eval]
          generalize (a.put o0.dst u1).eval (.tmp d) = v at *
          cases hval with
          | sl _ A cp sz u q1 q2 q3 q4 q5 q6 q7 =>
            refine fin A.isNone (fun h => ?_) ?_
            · cases A with
              | none => exact (q3 rfl).1
              | some _ => cases h
            · rw [hex]
              simp only [eqGuard, Sem.run_bind, Sem.run_pure, Result.andThen_ok, run_eql_slice_nil _ t el A _ _ ht]
              rfl
        · cases hr1
      · cases hr1
end
end Go.Am

namespace Go.Am
set_option linter.all false
open Go Go.RowKit
set_option linter.all false

section
variable {E : Env} {σ : St} {k : List Itm}

theorem wk_mono (i : Itm) {k1 k2 : List Itm} (h1 : ∀ σ, Wk E k1 σ → Wk E k2 σ) (h2 : ∀ id σ, Wx E id k1 σ → Wx E id k2 σ) (h : Wk E (i :: k1) σ) : Wk E (i :: k2) σ := by
  cases i with
  | blk id => exact h1 σ h
  | post p => exact h
  | code cc =>
    intro c hc G a w hD
    refine wp_mono (h c hc G a w hD) fun e a' w' hq => ?_
    cases e with
    | normal => obtain ⟨σ', G', q1, q2⟩ := hq; exact ⟨σ', G', q1, h1 _ q2⟩
    | exit id => obtain ⟨σ', G', q1, q2⟩ := hq; exact ⟨σ', G', q1, h2 _ _ q2⟩
    | _ => exact hq
  | ops crs j acc ps =>
    obtain ⟨rs, q1, q2, q3⟩ := h
    exact ⟨rs, q1, q2, h1 _ q3⟩
/-- A piece of code behind another thing, and what holds wherever it ends. -/
theorem w_cutS {i : Itm} {y z : CC} {X : Type} (inv : X → St) (ok : X → Prop) (h : ∀ p : St → Prop, (∀ σ' x, ok x → Conv E σ' (inv x) → p σ') → Wk E (i :: .code y :: .post p :: k) σ)
    (hk : ∀ x, ok x → Wk E (.code z :: k) (inv x)) : Wk E (i :: .code (.seq y z) :: k) σ := by
  refine wk_mono i (k1 := .code y :: .post (fun σ' => ∃ x, ok x ∧ Conv E σ' (inv x)) :: k) (fun σ1 q => ?_) (fun id σ1 q => q) (h (fun σ' => ∃ x, ok x ∧ Conv E σ' (inv x)) (fun σ' x h1 h2 => ⟨x, h1, h2⟩))
  refine w_seq (fun c hc G a w hD => ?_)
  refine wp_mono (q c hc G a w hD) fun e a' w' hq => ?_
  cases e with
  | normal =>
    obtain ⟨σ', G', h1, x, h2, h3⟩ := hq
    obtain ⟨G2, h4⟩ := h3 G' a' w' h1
    exact ⟨inv x, G2, h4, hk x h2⟩
  | _ => exact hq
end
end Go.Am

namespace Go.Am
set_option linter.all false
open Go Go.RowKit
set_option linter.all false

mutual
def AV.nrm : AV → AV
  | .nils => .sl []
  | .sl xs => .sl (nrmL xs)
  | .agg cs => .agg (nrmL cs)
  | .tup cs => .tup (nrmL cs)
  | .int k n => .int k n
  | .bool b => .bool b
  | .str s => .str s
  | .nilp => .nilp
  | .ptr a b c => .ptr a b c
  | .cptr cs => .cptr cs
  | .bsl a b c => .bsl a b c
  | .fn f cs => .fn f cs
  | .nilf => .nilf
  | .iface t v => .iface t v
  | .nili => .nili
def nrmL : List AV → List AV
  | [] => []
  | x :: l => x.nrm :: nrmL l
end
theorem nrmL_map : ∀ l : List AV, nrmL l = l.map AV.nrm
  | [] => rfl
  | x :: l => by simp [nrmL, nrmL_map l]
theorem nrm_cells (x : AV) : x.nrm.cells = x.cells.map AV.nrm := by
  cases x <;> simp [AV.nrm, AV.cells, nrmL_map]
theorem nil_sl {G : Gh} {w : World} : RV G w (.sl []) (.slice none 0 0) :=
  .sl [] none 0 0 (fun _ _ => undef) (Nat.le_refl _) (by simp [maxLen]) (fun _ => ⟨rfl, rfl⟩) (fun i x hi => by simp at hi) (fun a i x j y _ hi => by simp at hi) (fun a i x j y _ hi => by simp at hi) (fun i x j y hi => by simp at hi)
theorem map_get {l : List AV} {i : Nat} {y : AV} (h : (l.map AV.nrm)[i]? = some y) : ∃ x, l[i]? = some x ∧ y = x.nrm := by
  rw [List.getElem?_map] at h
  cases hx : l[i]? with
  | none => rw [hx] at h; cases h
  | some x => rw [hx] at h; exact ⟨x, rfl, (Option.some.inj h).symm⟩
theorem RV.nrm {G : Gh} {w : World} {x : AV} {v : Value} (h : RV G w x v) : RV G w x.nrm v := by
  induction h with
  | int k n => exact .int k n
  | bool b => exact .bool b
  | str s => exact .str s
  | nilp => exact .nilp
  | ptr id i off v ho hu hb => exact .ptr id i off v ho hu hb
  | cptr cs a u h1 h2 h3 ih => exact .cptr cs a u h1 h2 h3
  | nils => exact nil_sl
  | sl xs A c s u hc hm hn hs h1 h2 h3 ih =>
    have e : xs.length = (xs.map AV.nrm).length := by simp
    simp only [AV.nrm, nrmL_map]
    rw [e]
    refine .sl (xs.map AV.nrm) A c s u (by rw [← e]; exact hc) hm (fun ha => by rw [(hn ha).1]; exact ⟨rfl, (hn ha).2⟩) (fun i x hx => ?_) (fun a i x j y ha hx hy => ?_) (fun a i x j y ha hx hy => ?_) (fun i x j y hx hy => ?_)
    · obtain ⟨x0, hx0, rfl⟩ := map_get hx
      rw [nrm_cells, List.length_map]; exact hs i x0 hx0
    · obtain ⟨x0, hx0, rfl⟩ := map_get hx
      rw [nrm_cells] at hy
      obtain ⟨y0, hy0, rfl⟩ := map_get hy
      exact h1 a i x0 j y0 ha hx0 hy0
    · obtain ⟨x0, hx0, rfl⟩ := map_get hx
      rw [nrm_cells] at hy
      obtain ⟨y0, hy0, rfl⟩ := map_get hy
      exact h2 a i x0 j y0 ha hx0 hy0
    · obtain ⟨x0, hx0, rfl⟩ := map_get hx
      rw [nrm_cells] at hy
      obtain ⟨y0, hy0, rfl⟩ := map_get hy
      exact ih i x0 j y0 hx0 hy0
  | bsl id off len v ho hu hb hn => exact .bsl id off len v ho hu hb hn
  | fn f caps vs hl h ih => exact .fn f caps vs hl h
  | nilf => exact .nilf
  | iface t x v h ih => exact .iface t x v h
  | nili => exact .nili
  | agg cs vs hl h ih =>
    simp only [AV.nrm, nrmL_map]
    refine .agg _ vs (by rw [List.length_map]; exact hl) fun i y hy => ?_
    obtain ⟨x0, hx0, rfl⟩ := map_get hy
    exact ih i x0 hx0
  | tup cs vs hl h ih =>
    simp only [AV.nrm, nrmL_map]
    refine .tup _ vs (by rw [List.length_map]; exact hl) fun i y hy => ?_
    obtain ⟨x0, hx0, rfl⟩ := map_get hy
    exact ih i x0 hx0
/-- What comes: slices that are nil told as ones that are empty. -/
theorem FnOk.nrm {P : Program} {f : Nat} {args : List AV} {rd : List (Nat × Bx)} {id : Nat} {res : AV} {wr : List (Nat × Option Bx)} (h : FnOk P f args rd id res wr) : FnOk P f args rd id res.nrm wr :=
  ⟨h.1, fun C G bx w vs nb hs hv hh hnb hid => (h.2 C G bx w vs nb hs hv hh hnb hid).mono fun e w' ⟨v, G', h1, h2, h3, h4, h5⟩ => ⟨v, G', h1, h2, h3, h4.nrm, h5⟩⟩
/-- What is handed over: the same. -/
theorem FnOk.nrmA {P : Program} {f : Nat} {args : List AV} {rd : List (Nat × Bx)} {id : Nat} {res : AV} {wr : List (Nat × Option Bx)} (h : FnOk P f (nrmL args) rd id res wr) : FnOk P f args rd id res wr := by
  refine ⟨h.1, fun C G bx w vs nb hs hv hh hnb hid => h.2 C G bx w vs nb hs ⟨by rw [nrmL_map, List.length_map]; exact hv.1, fun i y hy => ?_⟩ hh hnb hid⟩
  rw [nrmL_map] at hy
  obtain ⟨x0, hx0, rfl⟩ := map_get hy
  exact (hv.2 i x0 hx0).nrm
end Go.Am
