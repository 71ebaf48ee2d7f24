/-
  step.Shape is what the reference's Shape is.
-/
import Derived.Test.YtkeeipfglmpgjaaStepShape
namespace Go.Proofs.Ytkeeipfglmpgjaa
set_option linter.unusedSimpArgs false
set_option linter.unusedVariables false
open Go.RowKit

theorem shape_1 (v : St) (hk : v.k = 1) : (decide (0 ≤ v.f) && decide (v.f ≤ v.t) && decide (v.t ≤ 1073741824) && (decide (v = ⟨v.k, v.f, v.t, 0, 0, 0, 0, 0, v.sl, []⟩) && decide ((v.sl.length : Int) ≤ 20000))) = v.shape := by
  obtain ⟨k, f, t, gf, gt, ins, mark, vl, sl, sets⟩ := v
  simp only at hk
  subst hk
  rw [Bool.eq_iff_iff]
  simp [St.shape, St.bad, St.gap, St.mkd, ← List.length_eq_zero_iff]
  omega
theorem shape_2 (v : St) (hk : v.k = 2) : (decide (0 ≤ v.f) && decide (v.f ≤ v.t) && decide (v.t ≤ 1073741824) && (decide (v.f ≤ v.gf) && decide (v.gf ≤ v.gt) && decide (v.gt ≤ v.t) && decide (0 ≤ v.ins) && decide (v.ins ≤ (v.sl.length : Int)) && decide ((v.sl.length : Int) ≤ 20000) && (v.mark == 0) && (v.vl == 0) && ((v.sets.length : Int) == 0))) = v.shape := by
  obtain ⟨k, f, t, gf, gt, ins, mark, vl, sl, sets⟩ := v
  simp only at hk
  subst hk
  rw [Bool.eq_iff_iff]
  simp [St.shape, St.bad, St.gap, St.mkd, St.inGap, ← List.length_eq_zero_iff]
  omega
theorem shape_34 (v : St) (hk : v.k = 3 ∨ v.k = 4) : (decide (0 ≤ v.f) && decide (v.f ≤ v.t) && decide (v.t ≤ 1073741824) && (decide (v = ⟨v.k, v.f, v.t, 0, 0, 0, v.mark, v.vl, [], []⟩))) = v.shape := by
  obtain ⟨k, f, t, gf, gt, ins, mark, vl, sl, sets⟩ := v
  simp only at hk
  rw [Bool.eq_iff_iff]
  rcases hk with rfl | rfl <;> simp [St.shape, St.bad, St.gap, St.mkd, ← List.length_eq_zero_iff] <;> omega
theorem shape_5 (v : St) (hk : v.k = 5) : (decide (0 ≤ v.f) && decide (v.f ≤ v.t) && decide (v.t ≤ 1073741824) && (decide (v = ⟨v.k, v.f, v.t, 0, 0, 0, 0, 0, [], v.sets⟩) && ((v.sets.length : Int) == v.t - v.f) && decide ((v.sets.length : Int) ≤ 20000))) = v.shape := by
  obtain ⟨k, f, t, gf, gt, ins, mark, vl, sl, sets⟩ := v
  simp only at hk
  subst hk
  rw [Bool.eq_iff_iff]
  simp [St.shape, St.bad, St.gap, St.mkd, ← List.length_eq_zero_iff]
  omega
theorem shape_0 (v : St) (h1 : (v.k == 1) = false) (h2 : (v.k == 2) = false) (h3 : (v.k == 3) = false) (h4 : (v.k == 4) = false) (h5 : (v.k == 5) = false) : false = v.shape := by
  simp [St.shape, h1, h2, h3, h4, h5]

theorem StepShape_any (x : Stp) (B : Nat) (w : World) (hx : x.Ok w B) (hB : B ≤ w.heap.size) (b1 : x.n1 ≤ 1000000) (b2 : x.n2 ≤ 1000000) :
    Calls Try.prog 47 #[.agg x.cells.toArray] w fun e w' => e = .returned (.bool x.v.shape) ∧ Below w.heap.size w w' := by
  have e1 := hx.1
  have e2 := hx.2.1
  cases h1 : (x.v.k == 1)
  case true =>
    have hk : x.v.k = 1 := by simpa using h1
    have := StepShape1 x B w hx hB b1 b2 hk
    rw [← e1, shape_1 x.v hk] at this
    exact this
  cases h2 : (x.v.k == 2)
  case true =>
    have hk : x.v.k = 2 := by simpa using h2
    have := StepShape2 x B w hx hB b1 b2 hk
    rw [← e1, ← e2, shape_2 x.v hk] at this
    exact this
  cases h3 : (x.v.k == 3)
  case true =>
    have hk : x.v.k = 3 := by simpa using h3
    have := StepShape3 x B w hx hB b1 b2 hk
    rw [shape_34 x.v (.inl hk)] at this
    exact this
  cases h4 : (x.v.k == 4)
  case true =>
    have hk : x.v.k = 4 := by simpa using h4
    have := StepShape4 x B w hx hB b1 b2 hk
    rw [shape_34 x.v (.inr hk)] at this
    exact this
  cases h5 : (x.v.k == 5)
  case true =>
    have hk : x.v.k = 5 := by simpa using h5
    have := StepShape5 x B w hx hB b1 b2 hk
    rw [← e2, shape_5 x.v hk] at this
    exact this
  have := StepShape0 x B w hx hB b1 b2 h1 h2 h3 h4 h5
  rw [shape_0 x.v h1 h2 h3 h4 h5] at this
  exact this
theorem Shape25_ok (x : Stp) (B : Nat) (w : World) (hx : x.Ok w B) (b1 : x.n1 ≤ 1000000) (b2 : x.n2 ≤ 1000000) :
    Calls Try.prog 49 #[.agg x.cells.toArray] w fun e w' => e = .returned (.bool x.v.shape) ∧ Below w.heap.size w w' := Shape25_any x w hx.1 hx.2.1 b1 b2
end Go.Proofs.Ytkeeipfglmpgjaa
