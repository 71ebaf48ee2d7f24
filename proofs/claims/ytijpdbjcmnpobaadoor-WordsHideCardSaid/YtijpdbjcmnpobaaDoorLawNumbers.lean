/-
  WordsNumbers: the walk, at what comes in.
-/
import Derived.Test.YtijpdbjcmnpobaaDoorWd1
import Derived.Test.YtijpdbjcmnpobaaDoorArgsB
namespace Go.Proofs.YtijpdbjcmnpobaaDoor
set_option linter.unusedSimpArgs false
set_option linter.unusedVariables false
open Go.RowKit
theorem i64_bounds {a : Int} (h : (Lit.int .i64 a).wf = true) : -9223372036854775808 ≤ a ∧ a ≤ 9223372036854775807 := by
  simp [Lit.wf] at h
  exact h
theorem Numbers_walk (W : World) (hL : LibW W) (a : Int) (hw : (Lit.int .i64 a).wf = true) (s : ByteArray) (hs : s.size ≤ maxLen) :
    Calls Tryd.prog 3 #[.int .i64 a, .string s] W fun e w' => e = .returned (.bool true) ∧ Below W.heap.size W w' :=
  law_walk (numbers_h a s.data.toList (i64_bounds hw).1 (i64_bounds hw).2) W [.int .i64 a, .string s] ⟨.imm _, .imm _, trivial⟩ hL
end Go.Proofs.YtijpdbjcmnpobaaDoor
