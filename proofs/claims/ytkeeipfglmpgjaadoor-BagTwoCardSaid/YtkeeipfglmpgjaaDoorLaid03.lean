/-
  What the rows' condition on math/bits' table gives the walks.
-/
import Derived.Test.YtkeeipfglmpgjaaDoorBits
import Derived.Test.YtkeeipfglmpgjaaDoorRows
import Derived.Lib.LaidTab
import Derived.LaidMore
import Derived.Stop.Joined
namespace Go.Proofs.YtkeeipfglmpgjaaDoor
set_option linter.unusedSimpArgs false
set_option linter.unusedVariables false
open Go.RowKit

theorem tabNamed : Tryd.prog.globalNamed "math/bits.deBruijn64tab" = some 0 := by kernel_rfl
theorem tabType : (Tryd.prog.globals[0]?).map (·.type) = some 49 := by kernel_rfl
theorem tabAt_of {W : World} (h : laidMetH Tryd.prog [("math/bits.deBruijn64tab", Rows.laid_math_bits_deBruijn64tab)] W) : TabAt W ∧ 0 < W.heap.size := by
  rw [MakeChecks.laidMetH_plain _ _ _ (by kernel_rfl)] at h
  have h2 := Lib.tabIs_of_head (zs := Lib.deBruijn64tab.map (fun n : Nat => (n : Int))) (k := .u8) tabNamed tabType Tryd.underlying49 Tryd.underlying5 (by kernel_rfl) (by kernel_rfl) h
  have hT : TabAt W := fun j hj => by
    have := h2.cell tabNamed j (by simpa [Lib.deBruijn64tab] using hj)
    rw [this]
    simp only [List.getD_eq_getElem?_getD, List.getElem?_map]
    cases Lib.deBruijn64tab[j]? <;> rfl
  refine ⟨hT, ?_⟩
  rcases Nat.lt_or_ge 0 W.heap.size with h3 | h3
  · exact h3
  · have := hT 0 (by omega)
    simp [World.cell?, Array.getElem?_eq_none h3] at this
end Go.Proofs.YtkeeipfglmpgjaaDoor
