/-
  token.Text, token.Same, slices.Clone at tokens: what they answer.
-/
import Derived.Test.YtkeeipfglmpgjaaEq
namespace Go.Proofs.Ytkeeipfglmpgjaa
set_option linter.unusedSimpArgs false
set_option linter.unusedVariables false
open Go.RowKit

def runeC (x : Int) : List Value := [.int .i32 x]
def chr (x : Int) : Tok := ⟨4, 0, 0, x, 0, 0, 0, 0, 0, 0, 0, 0⟩

set_option maxHeartbeats 400000 in
theorem Text_any (A : Option Addr) (c B : Nat) (l : List Int) (w : World) (h : Sl w B 1 runeC A l) (hB : B ≤ w.heap.size) (hl : l.length ≤ 1000000) :
    Calls Try.prog 37 #[.slice A l.length c] w (GivesSl 43 12 Tok.cells w (l.map chr)) := by
  go_enter Try.func37, Try.ntmps37
  go_wp2_with (at_make; refine wpList_make_sl rfl _ _ _ rfl tokElem w.heap.size Tok.cells Tok.cells_length _ _ _ l.length rfl rfl rfl (by omega) (Nat.le_refl _) ?_; intro w1 hown1 hg1; have hb1 := (Below.refl w.heap.size w).grown hg1 (Nat.le_refl _) (by simp))
  go_loopw [3, 5, 11] (fun v _ i wr => ∃ k : Nat, k ≤ l.length ∧ i = .int .i64 k ∧ ∃ A' c', v = .slice A' k c' ∧ Own wr w.heap.size 43 12 Tok.cells (.slice A' k c') ((l.take k).map chr) ∧ Below w.heap.size w wr) (fun _ _ i _ => l.length - (intOf i).toNat)
  case atStart => exact ⟨0, Nat.zero_le _, rfl, _, _, rfl, hown1, hb1⟩
  case round =>
    obtain ⟨k, hk, rfl, A', c', rfl, hown, hb⟩ := hrel
    by_cases hlt : k < l.length
    · obtain ⟨b, o, rfl, hbB⟩ := h.addr (by omega) (by omega)
      have r : wr.cell? ⟨b, o + k, none⟩ = some (.int .i32 l[k]) := (h.below (hb.mono hB)).cell1 hlt
      have hle : ((l.take k).map chr).length = k := by simp; omega
      have HL := Lib.hid hle; clear hle
      have hts : (l.take (k + 1)).map chr = (l.take k).map chr ++ [chr l[k]] := by rw [List.take_succ_eq_append_getElem hlt, List.map_append]; rfl
      have HT := Lib.hid hts; clear hts
      go_wp2_with (at_builtin; refine wpList_append_sl rfl _ _ _ rfl tokElem w.heap.size Tok.cells tok_one _ ((l.take k).map chr) k HL.out rfl (hown.alloc _) _ _ 1 _ [chr l[k]] rfl rfl (Sl.new _ _ _ Tok.cells_length _ _) (by omega) (le_alloc hb.size _) ?_; intro A2 c2 w2 hown2 hg2 hat2)
      go_roundw
      case rel => exact ⟨k + 1, by omega, by go_num, _, _, rfl, by rw [HT.out]; exact hown2, (hown.alloc _).below_grown (hb.alloc hb.size _) hg2 (Nat.le_refl _) (le_alloc hb.size _)⟩
      case measure => simp [intOf]; omega
    · have hts : l.take k = l := List.take_of_length_le (by omega)
      obtain rfl : k = l.length := by omega
      rw [hts] at hown
      clear hts
      go_wp2
      go_ret
      exact GivesSl.of (by simp) rfl hown hb

theorem Same_any (A1 A2 : Option Addr) (c1 c2 B1 B2 : Nat) (l1 l2 : List Tok) (w : World) (h1 : Sl w B1 12 Tok.cells A1 l1) (h2 : Sl w B2 12 Tok.cells A2 l2) (hb1 : l1.length ≤ 1000000000) (hb2 : l2.length ≤ 1000000000) :
    Calls Try.prog 53 #[.slice A1 l1.length c1, .slice A2 l2.length c2] w fun e w' => e = .returned (.bool (decide (l1 = l2))) ∧ ∃ n, w' = w.drewN n := by
  go_enter Try.func53, Try.ntmps53
  go_wp2_with (go_at_call 63; refine (Equal_tok A1 A2 c1 c2 B1 B2 l1 l2 _ h1 h2 hb1 hb2).mono ?_; rintro e w' ⟨rfl, n, rfl⟩)
  go_ret
  exact ⟨rfl, n, rfl⟩

set_option maxHeartbeats 400000 in
/-- slices.Clone: nil of nil, else a new row. -/
theorem Clone_tok (A : Option Addr) (n c B : Nat) (l : List Tok) (w : World) (hn : l.length = n) (h : Sl w B 12 Tok.cells A l) (hB : B ≤ w.heap.size) (hl : n ≤ 1000000000) :
    Calls Try.prog 51 #[.slice A n c] w (GivesSl 43 12 Tok.cells w l) := by
  have hq := Lib.run_eql_slice_nil (P := Try.prog) w 26 43 A n c 0 0 Try.underlying26
  cases A with
  | none =>
    have hl0 : l = [] := by
      rcases Nat.eq_zero_or_pos l.length with h0 | h0
      · exact List.eq_nil_of_length_eq_zero h0
      · obtain ⟨b, o, e, _⟩ := h.addr h0 (by omega); cases e
    subst hl0
    obtain rfl : 0 = n := hn
    go_enter Try.func51, Try.ntmps51
    go_wp2
    go_ret
    exact GivesSl.of rfl rfl (Own.nil _ _ _ Tok.cells_length) (Below.refl _ _)
  | some a =>
    have HN := Lib.hid hn; clear hn
    go_enter Try.func51, Try.ntmps51
    go_wp2_with (at_builtin; refine wpList_append_sl rfl _ _ _ rfl tokElem w.heap.size Tok.cells tok_one _ [] 0 rfl rfl (Own.empty _ _ Tok.cells_length (Nat.le_refl _)) B _ n _ l rfl HN.out (h.alloc hB _) (by omega) (le_alloc (Nat.le_refl _) _) ?_; intro A2 c2 w2 hown2 hg2 hat2)
    go_ret
    exact GivesSl.of HN.out rfl (by simpa using hown2) ((Own.empty _ _ Tok.cells_length (Nat.le_refl _)).below_grown ((Below.refl _ _).alloc (Nat.le_refl _) _) hg2 (Nat.le_refl _) (le_alloc (Nat.le_refl _) _))
end Go.Proofs.Ytkeeipfglmpgjaa
