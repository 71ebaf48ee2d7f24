/-
  Rows of sets: slices.Equal, the reference's Sets; and token.Same.
-/
import Derived.Test.YtkeeipfglmpgjaaStp
import Derived.Test.YtkeeipfglmpgjaaEq
import Derived.Test.YtkeeipfglmpgjaaSame13
namespace Go.Proofs.Ytkeeipfglmpgjaa
set_option linter.unusedSimpArgs false
set_option linter.unusedVariables false
open Go.RowKit
section
attribute [local go_sem ↓] run_load_mks run_eql_mks run_neq_mks
attribute [local go_sem] rd_drewN rd_drew aggLoad_ptr aggRes_some

set_option maxHeartbeats 400000 in
theorem Equal_mks (A1 A2 : Option Addr) (c1 c2 B1 B2 : Nat) (l1 l2 : List Mks) (w : World) (h1 : Sl w B1 8 Mks.cells A1 l1) (h2 : Sl w B2 8 Mks.cells A2 l2) (hb1 : l1.length ≤ 1000000000) (hb2 : l2.length ≤ 1000000000) :
    Calls Try.prog 91 #[.slice A1 l1.length c1, .slice A2 l2.length c2] w fun e w' => e = .returned (.bool (decide (l1 = l2))) ∧ ∃ n, w' = w.drewN n := by
  by_cases hl : l1.length = l2.length
  · have hne : ((l1.length : Int) != (l2.length : Int)) = false := by simp [hl]
    have HL := Lib.hid hl; clear hl
    go_enter Try.func91, Try.ntmps91
    go_wp2
    go_loopw [5, 13] (fun v i wr => ∃ k n : Nat, k ≤ l1.length ∧ i = .int .i64 k ∧ wr = w.drewN n ∧ Hid (∀ j (a : j < l1.length) (b : j < l2.length), j < k → l1[j] = l2[j])) (fun _ i _ => l1.length - (intOf i).toNat)
    case atStart => exact ⟨0, 0, Nat.zero_le _, rfl, rfl, fun j a b h => absurd h (by omega)⟩
    case round =>
      obtain ⟨k, n, hk, rfl, rfl, HE⟩ := hrel
      by_cases hlt : k < l1.length
      · have hlt2 : k < l2.length := by have := HL.out; omega
        obtain ⟨b1, o1, rfl, _⟩ := h1.addr (by omega) (by omega)
        obtain ⟨b2, o2, rfl, _⟩ := h2.addr (by omega) (by omega)
        have r1 := h1.rd_ hlt
        have r2 := h2.rd_ hlt2
        by_cases he : l1[k] = l2[k]
        · have hd : decide (l1[k] = l2[k]) = true := by simp [he]
          have HE' := Lib.hid he; clear he
          go_wp2
          go_quiet (fail)
          go_wp2
          go_roundw
          case rel =>
            refine ⟨k + 1, _, by omega, by go_num, rfl, fun j a b hj => ?_⟩
            rcases Nat.lt_or_ge j k with h | h
            · exact HE.out j a b h
            · obtain rfl : j = k := by omega
              exact HE'.out
          case measure => simp [intOf]; omega
        · have hd : decide (l1[k] = l2[k]) = false := by simp [he]
          have hne2 : decide (l1 = l2) = false := by
            simp only [decide_eq_false_iff_not]
            intro e; subst e; exact he rfl
          clear he
          go_wp2
          go_quiet (fail)
          go_wp2
          go_ret
          exact ⟨ret_bool hne2.symm, n + nq, by rw [World.drewN_drewN]⟩
      · have he2 : decide (l1 = l2) = true := by
          simp only [decide_eq_true_eq]
          exact List.ext_getElem HL.out fun j a b => HE.out j a b (by omega)
        go_wp2
        go_ret
        exact ⟨ret_bool he2.symm, _, rfl⟩
  · have hne : ((l1.length : Int) != (l2.length : Int)) = true := by simp; omega
    have he2 : decide (l1 = l2) = false := by
      simp only [decide_eq_false_iff_not]
      intro e; exact hl (by rw [e])
    clear hl
    go_enter Try.func91, Try.ntmps91
    go_wp2
    go_ret
    exact ⟨ret_bool he2.symm, 0, rfl⟩
set_option maxHeartbeats 400000 in
theorem Sets_any (A1 A2 : Option Addr) (n1 n2 c1 c2 B1 B2 : Nat) (l1 l2 : List Mks) (w : World) (hn1 : l1.length = n1) (hn2 : l2.length = n2) (h1 : Sl w B1 8 Mks.cells A1 l1) (h2 : Sl w B2 8 Mks.cells A2 l2) (hb1 : n1 ≤ 1000000000) (hb2 : n2 ≤ 1000000000) :
    Calls Try.prog 50 #[.slice A1 n1 c1, .slice A2 n2 c2] w fun e w' => e = .returned (.bool (decide (l1 = l2))) ∧ ∃ n, w' = w.drewN n := by
  subst hn1; subst hn2
  by_cases hl : l1.length = l2.length
  · have hne : ((l1.length : Int) != (l2.length : Int)) = false := by simp [hl]
    have HL := Lib.hid hl; clear hl
    go_enter Try.func50, Try.ntmps50
    go_wp2
    go_loopw [5] (fun i wr => ∃ k n : Nat, k ≤ l1.length ∧ i = .int .i64 k ∧ wr = w.drewN n ∧ Hid (∀ j (a : j < l1.length) (b : j < l2.length), j < k → l1[j] = l2[j])) (fun i _ => l1.length - (intOf i).toNat)
    case atStart => exact ⟨0, 0, Nat.zero_le _, rfl, rfl, fun j a b h => absurd h (by omega)⟩
    case round =>
      obtain ⟨k, n, hk, rfl, rfl, HE⟩ := hrel
      by_cases hlt : k < l1.length
      · have hlt2 : k < l2.length := by have := HL.out; omega
        obtain ⟨b1, o1, rfl, _⟩ := h1.addr (by omega) (by omega)
        obtain ⟨b2, o2, rfl, _⟩ := h2.addr (by omega) (by omega)
        have r1 := h1.rd_ hlt
        have r2 := h2.rd_ hlt2
        by_cases he : l1[k] = l2[k]
        · have hd : decide (l1[k] = l2[k]) = true := by simp [he]
          have HE' := Lib.hid he; clear he
          go_wp2
          go_quiet (fail)
          go_wp2
          go_roundw
          case rel =>
            refine ⟨k + 1, _, by omega, by go_num, rfl, fun j a b hj => ?_⟩
            rcases Nat.lt_or_ge j k with h | h
            · exact HE.out j a b h
            · obtain rfl : j = k := by omega
              exact HE'.out
          case measure => simp [intOf]; omega
        · have hd : decide (l1[k] = l2[k]) = false := by simp [he]
          have hne2 : decide (l1 = l2) = false := by
            simp only [decide_eq_false_iff_not]
            intro e; subst e; exact he rfl
          clear he
          go_wp2
          go_quiet (fail)
          go_wp2
          go_ret
          exact ⟨ret_bool hne2.symm, n + nq, by rw [World.drewN_drewN]⟩
      · have he2 : decide (l1 = l2) = true := by
          simp only [decide_eq_true_eq]
          exact List.ext_getElem HL.out fun j a b => HE.out j a b (by omega)
        go_wp2
        go_ret
        exact ⟨ret_bool he2.symm, _, rfl⟩
  · have hne : ((l1.length : Int) != (l2.length : Int)) = true := by simp; omega
    have he2 : decide (l1 = l2) = false := by
      simp only [decide_eq_false_iff_not]
      intro e; exact hl (by rw [e])
    clear hl
    go_enter Try.func50, Try.ntmps50
    go_wp2
    go_ret
    exact ⟨ret_bool he2.symm, 0, rfl⟩
end
theorem TokSame_any (A1 A2 : Option Addr) (n1 n2 c1 c2 B1 B2 : Nat) (l1 l2 : List Tok) (w : World) (hn1 : l1.length = n1) (hn2 : l2.length = n2) (h1 : Sl w B1 12 Tok.cells A1 l1) (h2 : Sl w B2 12 Tok.cells A2 l2) (hb1 : n1 ≤ 1000000000) (hb2 : n2 ≤ 1000000000) :
    Calls Try.prog 53 #[.slice A1 n1 c1, .slice A2 n2 c2] w fun e w' => e = .returned (.bool (decide (l1 = l2))) ∧ ∃ n, w' = w.drewN n := by
  subst hn1; subst hn2
  have HC := Lib.hid (Equal_tok A1 A2 c1 c2 B1 B2 l1 l2 w h1 h2 hb1 hb2)
  clear h1 h2
  go_enter Try.func53, Try.ntmps53
  go_wp2_with (go_at_call 63; refine HC.out.mono ?_; rintro e w1 ⟨rfl, k, hk⟩)
  go_ret
  exact ⟨rfl, k, by subst hk; rfl⟩
theorem EqMks_any (A1 A2 : Option Addr) (n1 n2 c1 c2 B1 B2 : Nat) (l1 l2 : List Mks) (w : World) (hn1 : l1.length = n1) (hn2 : l2.length = n2) (h1 : Sl w B1 8 Mks.cells A1 l1) (h2 : Sl w B2 8 Mks.cells A2 l2) (hb1 : n1 ≤ 1000000000) (hb2 : n2 ≤ 1000000000) :
    Calls Try.prog 91 #[.slice A1 n1 c1, .slice A2 n2 c2] w fun e w' => e = .returned (.bool (decide (l1 = l2))) ∧ ∃ n, w' = w.drewN n := by
  subst hn1; subst hn2
  exact Equal_mks A1 A2 c1 c2 B1 B2 l1 l2 w h1 h2 hb1 hb2
theorem st_ne {x y : St} (h : ¬ (x.k = y.k ∧ x.f = y.f ∧ x.t = y.t ∧ x.gf = y.gf ∧ x.gt = y.gt ∧ x.ins = y.ins ∧ x.mark = y.mark ∧ x.vl = y.vl ∧ x.sl = y.sl ∧ x.sets = y.sets)) : decide (x = y) = false := by
  simp only [decide_eq_false_iff_not]
  exact fun e => h ((St.eq_iff x y).2 e)
end Go.Proofs.Ytkeeipfglmpgjaa
