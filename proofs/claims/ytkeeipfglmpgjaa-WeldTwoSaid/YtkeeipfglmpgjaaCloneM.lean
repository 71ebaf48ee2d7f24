/-
  slices.Clone at sets.
-/
import Derived.Test.YtkeeipfglmpgjaaText
import Derived.Test.YtkeeipfglmpgjaaStp
namespace Go.Proofs.Ytkeeipfglmpgjaa
set_option linter.unusedSimpArgs false
set_option linter.unusedVariables false
open Go.RowKit
set_option maxHeartbeats 400000 in
/-- slices.Clone: nil of nil, else a new row. -/
theorem Clone_mks (A : Option Addr) (n c B : Nat) (l : List Mks) (w : World) (hn : l.length = n) (h : Sl w B 8 Mks.cells A l) (hB : B ≤ w.heap.size) (hl : n ≤ 1000000000) :
    Calls Try.prog 52 #[.slice A n c] w (GivesSl 41 8 Mks.cells w l) := by
  have hq := Lib.run_eql_slice_nil (P := Try.prog) w 75 41 A n c 0 0 Try.underlying75
  cases A with
  | none =>
    have hl0 : l = [] := by
      rcases Nat.eq_zero_or_pos l.length with h0 | h0
      · exact List.eq_nil_of_length_eq_zero h0
      · obtain ⟨b, o, e, _⟩ := h.addr h0 (by omega); cases e
    subst hl0
    obtain rfl : 0 = n := hn
    go_enter Try.func52, Try.ntmps52
    go_wp2
    go_ret
    exact GivesSl.of rfl rfl (Own.nil _ _ _ Mks.cells_length) (Below.refl _ _)
  | some a =>
    have HN := Lib.hid hn; clear hn
    go_enter Try.func52, Try.ntmps52
    go_wp2_with (at_builtin; refine wpList_append_sl rfl _ _ _ rfl mksElem w.heap.size Mks.cells mks_one _ [] 0 rfl rfl (Own.empty _ _ Mks.cells_length (Nat.le_refl _)) B _ n _ l rfl HN.out (h.alloc hB _) (by omega) (le_alloc (Nat.le_refl _) _) ?_; intro A2 c2 w2 hown2 hg2 hat2)
    go_ret
    exact GivesSl.of HN.out rfl (by simpa using hown2) ((Own.empty _ _ Mks.cells_length (Nat.le_refl _)).below_grown ((Below.refl _ _).alloc (Nat.le_refl _) _) hg2 (Nat.le_refl _) (le_alloc (Nat.le_refl _) _))
end Go.Proofs.Ytkeeipfglmpgjaa
