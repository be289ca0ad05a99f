/- What is told of arguments that are batches, events and texts. No condition. -/
import Derived.Test.YtgdanfbkhaoieaaXT
import Derived.Test.YtgdanfbkhaoieaaXC
import Derived.Test.YtgdanfbkhaoieaaRows
namespace Go.Proofs.Ytgdanfbkhaoieaa
open Go Go.RowKit Go.Am
set_option maxRecDepth 100000

theorem Try.own : ownKnob Try.prog.godebug = none := by kernel_rfl
theorem Try.laidOut : laidOutB Try.prog = true := by kernel_rfl

theorem fits_ev {n : Nat} {x : AV} (h : Fits Try.prog n 69 x) : ∃ e : Ev, x = eEv e := by
  obtain ⟨m, ys, rfl, rfl, h0⟩ := fits_st Try.underlying69 h
  obtain ⟨a, ys, rfl, ha, h0⟩ := fitsL_cons h0
  obtain ⟨b, ys, rfl, hb, h0⟩ := fitsL_cons h0
  obtain ⟨c, ys, rfl, hc, h0⟩ := fitsL_cons h0
  obtain ⟨d, ys, rfl, hd, h0⟩ := fitsL_cons h0
  obtain ⟨e, ys, rfl, he, h0⟩ := fitsL_cons h0
  obtain ⟨f, ys, rfl, hf, h0⟩ := fitsL_cons h0
  obtain rfl := fitsL_nil h0
  obtain ⟨a, rfl, _⟩ := fits_int Try.underlying3 ha
  obtain ⟨b, rfl, _⟩ := fits_int Try.underlying3 hb
  obtain ⟨c, rfl, _⟩ := fits_int Try.underlying3 hc
  obtain ⟨d, rfl, _⟩ := fits_int Try.underlying3 hd
  obtain ⟨e, rfl, _⟩ := fits_int Try.underlying3 he
  obtain ⟨f, rfl, _⟩ := fits_str Try.underlying9 hf
  exact ⟨⟨a, b, c, d, e, f⟩, rfl⟩
theorem fits_bt {n : Nat} {x : AV} (h : Fits Try.prog n 24 x) : ∃ b : Bt, x = eBt b ∧ b.events.length ≤ reachBytes := by
  obtain ⟨m, ys, rfl, rfl, h0⟩ := fits_st Try.underlying24 h
  obtain ⟨a, ys, rfl, ha, h0⟩ := fitsL_cons h0
  obtain ⟨b, ys, rfl, hb, h0⟩ := fitsL_cons h0
  obtain rfl := fitsL_nil h0
  obtain ⟨a, rfl, _⟩ := fits_int Try.underlying3 ha
  obtain ⟨k, xs, rfl, rfl, hl, hx⟩ := fits_sl Try.underlying22 hb
  obtain ⟨l, rfl⟩ := exists_map fun y hy => fits_ev (hx y hy)
  exact ⟨⟨a, l⟩, rfl, by simpa using hl⟩

noncomputable def tys (fn : Func) : List TypeId := closeT Try.prog 8 fn.params.toList
end Go.Proofs.Ytgdanfbkhaoieaa
