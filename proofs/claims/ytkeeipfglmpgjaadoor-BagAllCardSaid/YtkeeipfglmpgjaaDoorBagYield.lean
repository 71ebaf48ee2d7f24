/-
  BagAll's own function, and All's closure calling it.
-/
import Derived.Test.YtkeeipfglmpgjaaDoorLaw03
namespace Go.Proofs.YtkeeipfglmpgjaaDoor
set_option linter.unusedSimpArgs false
set_option linter.unusedVariables false
open Go.RowKit

set_option maxHeartbeats 1000000 in
theorem yield_any (W : World) (n₀ b7 b3 n : Nat) (A : Option Addr) (c : Nat) (pre : List Int) (v : Int) (most : Nat) (hn : pre.length = n) (hbox : Boxed W b7 22 (.slice A n c)) (hown : Own W n₀ 3 1 intC (.slice A n c) pre)
    (h3 : Boxed W b3 5 (.int .u8 most)) (hne : b7 ≠ b3) (hle : n₀ ≤ b7) (hsz : n₀ ≤ W.heap.size) (hlen : n ≤ 1000) (hm : most < 256) :
    Calls Tryd.prog 10 #[.int .i64 v, .pointer (some ⟨b7, 0, none⟩), .pointer (some ⟨b3, 0, none⟩)] W fun e W' => e = .returned (.bool (decide (n + 1 < most) && decide (n + 1 < 300))) ∧
      ∃ A' c', Boxed W' b7 22 (.slice A' (n + 1) c') ∧ Own W' n₀ 3 1 intC (.slice A' (n + 1) c') (pre ++ [v]) ∧ Boxed W' b3 5 (.int .u8 most) ∧ Below n₀ W W' := by
  have hc := hbox.cell
  have hc3 := h3.cell
  have HO := Lib.hid hown
  have HX := Lib.hid (And.intro hbox h3)
  have HN := Lib.hid hn
  clear hn hbox h3 hown
  have key : ∀ A' c' w', Own w' n₀ 3 1 intC (.slice A' (n + 1) c') (pre ++ [v]) → (W.alloc (.cells #[.int .i64 v] 3)).grownBy w' (Value.slice A n c).ownBlock →
      Hid (Boxed w' b7 22 (.slice A n c) ∧ Boxed (w'.setCell ⟨b7, 0, none⟩ (.slice A' (n + 1) c')) b7 22 (.slice A' (n + 1) c') ∧ Own (w'.setCell ⟨b7, 0, none⟩ (.slice A' (n + 1) c')) n₀ 3 1 intC (.slice A' (n + 1) c') (pre ++ [v]) ∧
        Boxed w' b3 5 (.int .u8 most) ∧ Below n₀ W (w'.setCell ⟨b7, 0, none⟩ (.slice A' (n + 1) c'))) := by
    intro A' c' w' ho hg
    have hrow := HO.out.2
    obtain ⟨k1, k2, k3, k4, k5⟩ := HX.out.1.appended (by decide) hrow hsz hle ho.2 hg
    exact ⟨k1, k2, ⟨int_len, k3⟩, (HX.out.2.alloc _).kept hg (HX.out.2.not_row (by decide) hrow), k5⟩
  have fin : ∀ A2 c2 w2, Hid (Boxed w2 b7 22 (.slice A n c) ∧ Boxed (w2.setCell ⟨b7, 0, none⟩ (.slice A2 (n + 1) c2)) b7 22 (.slice A2 (n + 1) c2) ∧ Own (w2.setCell ⟨b7, 0, none⟩ (.slice A2 (n + 1) c2)) n₀ 3 1 intC (.slice A2 (n + 1) c2) (pre ++ [v]) ∧
        Boxed w2 b3 5 (.int .u8 most) ∧ Below n₀ W (w2.setCell ⟨b7, 0, none⟩ (.slice A2 (n + 1) c2))) →
      ∃ A' c', Boxed (w2.setCell ⟨b7, 0, none⟩ (.slice A2 (n + 1) c2)) b7 22 (.slice A' (n + 1) c') ∧ Own (w2.setCell ⟨b7, 0, none⟩ (.slice A2 (n + 1) c2)) n₀ 3 1 intC (.slice A' (n + 1) c') (pre ++ [v]) ∧ Boxed (w2.setCell ⟨b7, 0, none⟩ (.slice A2 (n + 1) c2)) b3 5 (.int .u8 most) ∧ Below n₀ W (w2.setCell ⟨b7, 0, none⟩ (.slice A2 (n + 1) c2)) :=
    fun A2 c2 w2 K => ⟨A2, c2, K.out.2.1, K.out.2.2.1, K.out.2.2.2.1.kept (grownBy_setCell' w2 b7 _) (fun e => hne (by cases e; rfl)), K.out.2.2.2.2⟩
  go_enter Tryd.func10, Tryd.ntmps10
  by_cases hA : n + 1 < most
  · by_cases hB : n + 1 < 300
    · have d1 : decide ((n : Int) + 1 < (most : Int)) = true := by simp; omega
      have d2 : decide ((n : Int) + 1 < 300) = true := by simp; omega
      have e1 : (decide (n + 1 < most) && decide (n + 1 < 300)) = true := by simp [hA, hB]
      clear hA hB
      go_wp2_with (at_builtin; refine wpList_append_sl rfl (.tmp 5) (.tmp 7) 22 rfl intElem n₀ intC int_one (.slice A n c) pre n HN.out rfl (HO.out.alloc _) (W.heap.size + 1) (some ⟨W.heap.size, 0, none⟩) 1 1 [v] rfl rfl (Sl.new W intC 1 int_len 3 v) (by omega) (by simp; omega) ?_; intro A2 c2 w2 ho2 hg2 _; have K := key A2 c2 w2 ho2 hg2; have q1 := K.out.1.cell; have q2 := K.out.1.frozen; have q3 := K.out.2.2.2.1.cell; clear ho2 hg2)
      go_ret
      exact ⟨ret_bool e1.symm, fin _ _ _ K⟩
    · have d1 : decide ((n : Int) + 1 < (most : Int)) = true := by simp; omega
      have d2 : decide ((n : Int) + 1 < 300) = false := by simp; omega
      have e1 : (decide (n + 1 < most) && decide (n + 1 < 300)) = false := by simp [hA, hB]
      clear hA hB
      go_wp2_with (at_builtin; refine wpList_append_sl rfl (.tmp 5) (.tmp 7) 22 rfl intElem n₀ intC int_one (.slice A n c) pre n HN.out rfl (HO.out.alloc _) (W.heap.size + 1) (some ⟨W.heap.size, 0, none⟩) 1 1 [v] rfl rfl (Sl.new W intC 1 int_len 3 v) (by omega) (by simp; omega) ?_; intro A2 c2 w2 ho2 hg2 _; have K := key A2 c2 w2 ho2 hg2; have q1 := K.out.1.cell; have q2 := K.out.1.frozen; have q3 := K.out.2.2.2.1.cell; clear ho2 hg2)
      go_ret
      exact ⟨ret_bool e1.symm, fin _ _ _ K⟩
  · have d1 : decide ((n : Int) + 1 < (most : Int)) = false := by simp; omega
    have e1 : (decide (n + 1 < most) && decide (n + 1 < 300)) = false := by simp [hA]
    clear hA
    go_wp2_with (at_builtin; refine wpList_append_sl rfl (.tmp 5) (.tmp 7) 22 rfl intElem n₀ intC int_one (.slice A n c) pre n HN.out rfl (HO.out.alloc _) (W.heap.size + 1) (some ⟨W.heap.size, 0, none⟩) 1 1 [v] rfl rfl (Sl.new W intC 1 int_len 3 v) (by omega) (by simp; omega) ?_; intro A2 c2 w2 ho2 hg2 _; have K := key A2 c2 w2 ho2 hg2; have q1 := K.out.1.cell; have q2 := K.out.1.frozen; have q3 := K.out.2.2.2.1.cell; clear ho2 hg2)
    go_ret
    exact ⟨ret_bool e1.symm, fin _ _ _ K⟩
end Go.Proofs.YtkeeipfglmpgjaaDoor
