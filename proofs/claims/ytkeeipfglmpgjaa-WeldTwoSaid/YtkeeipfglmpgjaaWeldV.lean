/-
  What two steps weld to, and a row of steps: plain Lean.
-/
import Derived.Test.YtkeeipfglmpgjaaShapeLaw
namespace Go.Proofs.Ytkeeipfglmpgjaa
set_option linter.unusedSimpArgs false
set_option linter.unusedVariables false
open Go.RowKit

def St.ahead (a b : St) : St := ⟨1, a.f, a.t + b.t - b.f, 0, 0, 0, 0, 0, a.sl ++ b.sl, []⟩
def St.behind (a b : St) : St := ⟨1, b.f, a.t, 0, 0, 0, 0, 0, b.sl ++ a.sl, []⟩
def St.same (a b : St) : Bool := !((a.mark != b.mark) || (a.vl != b.vl) || decide (b.t < a.f) || decide (a.t < b.f))
def St.marked (a b : St) : St := ⟨a.k, if b.f < a.f then b.f else a.f, if a.t < b.t then b.t else a.t, 0, 0, 0, a.mark, a.vl, [], []⟩
def St.weld (a b : St) : Option St :=
  if a.k = 1 then (if a.f + a.sl.length = b.f then some (a.ahead b) else if b.t = a.f then some (a.behind b) else Option.none)
  else if a.k = 3 ∨ a.k = 4 then (if a.same b = true then some (a.marked b) else Option.none)
  else Option.none
def St.two (a b : St) : Option St := if a.k = b.k ∧ a.shape = true ∧ b.shape = true then (match a.weld b with | some x => if x.shape = true then some x else Option.none | Option.none => Option.none) else Option.none
/-- What is said of all steps, behind those that are laid. -/
def stAll : List St → List St → List St
  | out, [] => out
  | out, x :: r => match out.getLast? with
    | some y => (match y.two x with | some z => stAll (out.dropLast ++ [z]) r | none => stAll (out ++ [x]) r)
    | none => stAll (out ++ [x]) r

theorem shape_in {v : St} (h : v.shape = true) : 0 ≤ v.f ∧ v.f ≤ v.t ∧ v.t ≤ 1073741824 ∧ v.sl.length ≤ 20000 ∧ v.sets.length ≤ 20000 := by
  unfold St.shape at h
  rw [Bool.and_eq_true, Bool.not_eq_true'] at h
  have h := h.1
  simp only [St.bad, Bool.or_eq_false_iff, decide_eq_false_iff_not] at h
  omega
theorem shape_mark {v : St} (h : v.shape = true) (hk : v.k = 3 ∨ v.k = 4) : v.gf = 0 ∧ v.gt = 0 ∧ v.ins = 0 ∧ v.sl = [] ∧ v.sets = [] := by
  unfold St.shape at h
  rw [Bool.and_eq_true, Bool.not_eq_true'] at h
  have h := h.2
  rcases hk with hk | hk <;> simp [hk, St.gap, ← List.length_eq_zero_iff] at h ⊢ <;> omega
theorem two_len {a b c : St} (h : a.two b = some c) : c.shape = true ∧ c.sl.length ≤ 20000 ∧ c.sets.length ≤ 20000 := by
  unfold St.two at h
  split at h
  · split at h
    · split at h
      · rename_i hs
        injection h with h
        subst h
        have := shape_in hs
        exact ⟨hs, this.2.2.2.1, this.2.2.2.2⟩
      · cases h
    · cases h
  · cases h
end Go.Proofs.Ytkeeipfglmpgjaa
