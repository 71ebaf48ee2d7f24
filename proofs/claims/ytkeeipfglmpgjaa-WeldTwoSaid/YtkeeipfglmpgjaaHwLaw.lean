/-
  The law WeldTwo: what any two steps weld to, and any row of steps, is as the document says.
-/
import Derived.Test.YtkeeipfglmpgjaaHw6
import Derived.Test.YtkeeipfglmpgjaaLibN
namespace Go.Proofs.Ytkeeipfglmpgjaa
set_option linter.unusedSimpArgs false
set_option linter.unusedVariables false
open Go.RowKit
theorem WeldTwo_walk (w : World) (a0 : Option Addr) (n0 c0 : Nat) (l0 : List Stp) (hn0 : l0.length = n0) (sl0 : Sl w w.heap.size 10 Stp.cells a0 l0) (hc0 : n0 ≤ c0) (hm0 : c0 ≤ 9223372036854775807) (ok0 : ∀ x ∈ l0, x.inOk w) :
    Calls Try.prog 7 #[.slice a0 n0 c0] w fun e w' => e = .returned (.bool true) ∧ Below w.heap.size w w' := by
  subst hn0
  exact law_walk (WeldTwo_h (l0.map (·.v))) w [.slice a0 l0.length c0] ⟨rep_sts sl0 hc0 (by unfold maxLen; omega) ok0, trivial⟩ (libW_none w)
end Go.Proofs.Ytkeeipfglmpgjaa
