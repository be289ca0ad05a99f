/- What is told of arguments that are disks. No condition. -/
import Derived.Test.YtgdanfbkhaoieaaXG
import Derived.Test.YtgdanfbkhaoieaaXK
namespace Go.Proofs.Ytgdanfbkhaoieaa
open Go Go.RowKit Go.Am
set_option maxRecDepth 100000

theorem fits_dk {n : Nat} {x : AV} (h : Fits Try.prog n 47 x) : ∃ d : Dk, x = eDk d ∧ d.seg.length ≤ reachBytes := by
  obtain ⟨m, ys, rfl, rfl, h0⟩ := fits_st Try.underlying47 h
  obtain ⟨a, ys, rfl, ha, h0⟩ := fitsL_cons h0
  obtain ⟨b, ys, rfl, hb, h0⟩ := fitsL_cons h0
  obtain rfl := fitsL_nil h0
  obtain ⟨k, xs, rfl, rfl, hl, hx⟩ := fits_sl Try.underlying39 ha
  obtain ⟨b, rfl, _⟩ := fits_int Try.underlying3 hb
  obtain ⟨l, rfl⟩ := exists_map (f := AV.str) fun y hy => let ⟨s, h, _⟩ := fits_str Try.underlying9 (hx y hy); ⟨s, h⟩
  exact ⟨⟨l, b⟩, rfl, by simpa using hl⟩
end Go.Proofs.Ytgdanfbkhaoieaa
