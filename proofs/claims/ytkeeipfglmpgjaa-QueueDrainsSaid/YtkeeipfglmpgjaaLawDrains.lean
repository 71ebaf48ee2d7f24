/-
  QueueDrains: the two ways together.
-/
import Derived.Test.YtkeeipfglmpgjaaDrains
import Derived.ShutString
namespace Go.Proofs.Ytkeeipfglmpgjaa
set_option linter.unusedVariables false
open Go.RowKit

set_option maxHeartbeats 1000000 in
theorem Drains_long (A : Option Addr) (n c most : Nat) (w : World) (hn : 200 < n) (hn2 : n ≤ 9223372036854775807) :
    Calls Try.prog 6 #[.slice A n c, .int .u8 most] w fun e w' => e = .returned (.bool true) ∧ Below w.heap.size w w' := by
  have hd200 : decide (200 < (n : Int)) = true := by simp; omega
  have hb0 : Hid (Below w.heap.size w ((w.alloc (.cells #[.slice A n c] 64)).alloc (.cells #[.int .u8 most] 5))) := (((Below.refl _ w).alloc (Nat.le_refl _) _).alloc (by simp) _)
  go_enter Try.func6, Try.ntmps6
  go_wp2_with (go_at_call 20; refine (live04 _).mono ?_; rintro e w1 ⟨rfl, hb1⟩)
  go_ret
  exact ⟨rfl, hb0.out.trans (hb1.mono hb0.out.size)⟩

theorem QueueDrains_walk (W : World) (a : Option Addr) (n c : Nat) (l : List Int) (hn : l.length = n) (sl : Sl W W.heap.size 1 intC a l) (_ : n ≤ c) (hm : c ≤ 9223372036854775807) (_ : ∀ x ∈ l, okInt x) (m : Int) (hw : (Lit.int .u8 m).wf = true) :
    Calls Try.prog 6 #[.slice a n c, .int .u8 m] W fun e w' => e = .returned (.bool true) ∧ Below W.heap.size W w' := by
  have hb := bounds_u8 hw
  obtain ⟨most, rfl⟩ : ∃ k : Nat, m = (k : Int) := ⟨m.toNat, by omega⟩
  by_cases h : n ≤ 200
  · exact Drains_main a n c _ most l W hn sl (Nat.le_refl _) h (by omega)
  · exact Drains_long a n c most W (by omega) (by omega)
end Go.Proofs.Ytkeeipfglmpgjaa
