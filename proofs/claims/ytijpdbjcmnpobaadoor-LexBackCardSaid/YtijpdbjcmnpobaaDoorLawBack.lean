/-
  LexBack: the walk, at what comes in.
-/
import Derived.Test.YtijpdbjcmnpobaaDoorLx13
import Derived.Test.YtijpdbjcmnpobaaDoorArgsB
namespace Go.Proofs.YtijpdbjcmnpobaaDoor
set_option linter.unusedSimpArgs false
set_option linter.unusedVariables false
open Go.RowKit
theorem LexBack_walk (W : World) (hL : LibW W) (s : ByteArray) (hs : s.size ≤ maxLen) :
    Calls Tryd.prog 7 #[.string s] W fun e w' => e = .returned (.bool true) ∧ Below W.heap.size W w' :=
  law_walk (lexBack_h s.data.toList) W [.string s] ⟨.imm _, trivial⟩ hL
end Go.Proofs.YtijpdbjcmnpobaaDoor
