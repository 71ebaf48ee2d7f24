/-
  WordsSplit and WordsLong: the walks, at what comes in.
-/
import Derived.Test.YtijpdbjcmnpobaaDoorWd5
import Derived.Test.YtijpdbjcmnpobaaDoorArgsB
namespace Go.Proofs.YtijpdbjcmnpobaaDoor
set_option linter.unusedSimpArgs false
set_option linter.unusedVariables false
open Go.RowKit
theorem Split_walk (W : World) (hL : LibW W) (s : ByteArray) (hs : s.size ≤ maxLen) :
    Calls Tryd.prog 11 #[.string s] W fun e w' => e = .returned (.bool true) ∧ Below W.heap.size W w' :=
  law_walk (splitLaw_h s.data.toList) W [.string s] ⟨.imm _, trivial⟩ hL
theorem Long_walk (W : World) (hL : LibW W) (a : Int) (hw : (Lit.int .u32 a).wf = true) :
    Calls Tryd.prog 8 #[.int .u32 a] W fun e w' => e = .returned (.bool true) ∧ Below W.heap.size W w' := by
  have h0 : 0 ≤ a := by
    simp [Lit.wf] at hw
    exact hw.1
  have e : ((a.toNat : Nat) : Int) = a := Int.toNat_of_nonneg h0
  have := law_walk (longLaw_h a.toNat) W [.int .u32 (a.toNat : Int)] ⟨.imm _, trivial⟩ hL
  rw [e] at this
  exact this
end Go.Proofs.YtijpdbjcmnpobaaDoor
