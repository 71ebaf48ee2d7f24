/-
  The reference's Two: what is in one of two lists, in both, in the first one alone.
-/
import Derived.Test.YtkeeipfglmpgjaaDoorRef03
namespace Go.Proofs.YtkeeipfglmpgjaaDoor
set_option linter.unusedSimpArgs false
set_option linter.unusedVariables false
open Go.RowKit

def twoL (p : Bool → Bool → Bool) (l k : List Int) (n : Nat) : List Int := ((List.range n).filter (fun j : Nat => p (decide ((j : Int) ∈ l)) (decide ((j : Int) ∈ k)))).map (fun j : Nat => (j : Int))
theorem twoL_succ (p : Bool → Bool → Bool) (l k : List Int) (n : Nat) : twoL p l k (n + 1) = if p (decide ((n : Int) ∈ l)) (decide ((n : Int) ∈ k)) then twoL p l k n ++ [(n : Int)] else twoL p l k n := by
  unfold twoL
  rw [List.range_succ, List.filter_append, List.map_append]
  by_cases h : p (decide ((n : Int) ∈ l)) (decide ((n : Int) ∈ k)) = true <;> simp [List.filter_cons, h]
theorem twoL_le (p : Bool → Bool → Bool) (l k : List Int) (n : Nat) : (twoL p l k n).length ≤ n := by
  unfold twoL
  rw [List.length_map]
  exact Nat.le_trans (List.length_filter_le _ _) (by simp)
theorem twoL_zero (p : Bool → Bool → Bool) (l k : List Int) : twoL p l k 0 = [] := rfl
def por (a b : Bool) : Bool := a || b
def pand (a b : Bool) : Bool := a && b
def pnot (a b : Bool) : Bool := a && !b
attribute [irreducible] twoL

set_option maxHeartbeats 2000000 in
set_option maxRecDepth 100000 in
theorem Two0_any (A1 A2 : Option Addr) (n1 n2 c1 c2 B : Nat) (l1 l2 : List Int) (w : World) (hn1 : l1.length = n1) (hn2 : l2.length = n2) (h1 : Sl w B 1 intC A1 l1) (h2 : Sl w B 1 intC A2 l2) (hB : B ≤ w.heap.size) (hl1 : n1 ≤ 1000000) (hl2 : n2 ≤ 1000000) :
    Calls Tryd.prog 19 #[.slice A1 n1 c1, .slice A2 n2 c2, .int .i64 0] w (GivesSl 3 1 intC w (twoL por l1 l2 256)) := by
  subst hn1; subst hn2
  go_enter Tryd.func19, Tryd.ntmps19
  go_wp2
  go_loopw [7, 8] (fun v i wr => ∃ k m : Nat, ∃ A' c', k ≤ 256 ∧ i = .int .i64 k ∧ v = .slice A' m c' ∧ m = (twoL por l1 l2 k).length ∧ Own wr w.heap.size 3 1 intC (.slice A' m c') (twoL por l1 l2 k) ∧ Below w.heap.size w wr) (fun _ i _ => 256 - (intOf i).toNat)
  case atStart => exact ⟨0, 0, none, 0, by omega, rfl, rfl, by rw [twoL_zero]; rfl, by rw [twoL_zero]; exact Own.nil _ _ _ int_len, Below.refl _ _⟩
  case round =>
    obtain ⟨k, m, A', c', hk, rfl, rfl, hm, ho, hb⟩ := hrel
    have hmk := twoL_le por l1 l2 k
    rw [← hm] at hmk
    have HM := Lib.hid hm
    have HO := Lib.hid ho
    have HB := Lib.hid hb
    have HS1 := Lib.hid (h1.below (hb.mono hB))
    have HS2 := Lib.hid (h2.below (hb.mono hB))
    have hsz := hb.size
    clear hm ho hb
    by_cases hlt : k < 256
    · have HC1 := fun W hW => Has03_any A1 l1.length c1 B l1 k W rfl hW hl1
      have HC2 := fun W hW => Has03_any A2 l2.length c2 B l2 k W rfl hW hl2
      have HQ := Lib.hid (twoL_succ por l1 l2 k)
      obtain ⟨a, ha⟩ : ∃ a, decide ((k : Int) ∈ l1) = a := ⟨_, rfl⟩
      obtain ⟨b, hb⟩ : ∃ b, decide ((k : Int) ∈ l2) = b := ⟨_, rfl⟩
      have HQ2 : Hid (twoL por l1 l2 (k + 1) = if por a b then twoL por l1 l2 k ++ [(k : Int)] else twoL por l1 l2 k) := by rw [← ha, ← hb]; exact HQ
      simp only [ha] at HC1
      simp only [hb] at HC2
      clear ha hb HQ
      cases a <;> cases b
      · have HL : Hid (twoL por l1 l2 (k + 1) = twoL por l1 l2 k) := HQ2.out
        clear HQ2
        go_wp2_with (first
          | (go_at_call 15; (with_reducible refine (HC1 _ HS1.out).mono ?_); rintro e w1 ⟨rfl, rfl⟩)
          | (go_at_call 15; (with_reducible refine (HC2 _ HS2.out).mono ?_); rintro e w1 ⟨rfl, rfl⟩))
        go_roundw
        case rel => exact ⟨k + 1, m, A', c', by omega, by go_num, rfl, by rw [HL.out]; exact HM.out, by rw [HL.out]; exact HO.out, HB.out⟩
        case measure => simp [intOf]; omega
      · have HL : Hid (twoL por l1 l2 (k + 1) = twoL por l1 l2 k ++ [(k : Int)]) := HQ2.out
        clear HQ2
        go_wp2_with (first
          | (go_at_call 15; (with_reducible refine (HC1 _ HS1.out).mono ?_); rintro e w1 ⟨rfl, rfl⟩)
          | (go_at_call 15; (with_reducible refine (HC2 _ HS2.out).mono ?_); rintro e w1 ⟨rfl, rfl⟩)
          | (at_builtin; refine wpList_append_sl rfl (.tmp 50) (.tmp 52) 22 rfl intElem w.heap.size intC int_one (.slice A' m c') (twoL por l1 l2 k) m HM.out.symm rfl (HO.out.alloc _) (wr.heap.size + 1) (some ⟨wr.heap.size, 0, none⟩) 1 1 [(k : Int)] rfl rfl (Sl.new wr intC 1 int_len 3 (k : Int)) (by omega) (by simp; omega) ?_; intro A2' c2' w2 ho2 hg2 _; have HO2 := Lib.hid ho2; have HG2 := Lib.hid hg2; clear ho2 hg2))
        go_roundw
        case rel =>
          refine ⟨k + 1, m + 1, A2', c2', by omega, by go_num, rfl, by rw [HL.out, List.length_append, ← HM.out]; rfl, by rw [HL.out]; exact HO2.out, ?_⟩
          exact (HO.out.alloc _).below_grown (HB.out.alloc (by omega) _) HG2.out (Nat.le_refl _) (by simp; omega)
        case measure => simp [intOf]; omega
      · have HL : Hid (twoL por l1 l2 (k + 1) = twoL por l1 l2 k ++ [(k : Int)]) := HQ2.out
        clear HQ2
        go_wp2_with (first
          | (go_at_call 15; (with_reducible refine (HC1 _ HS1.out).mono ?_); rintro e w1 ⟨rfl, rfl⟩)
          | (go_at_call 15; (with_reducible refine (HC2 _ HS2.out).mono ?_); rintro e w1 ⟨rfl, rfl⟩)
          | (at_builtin; refine wpList_append_sl rfl (.tmp 50) (.tmp 52) 22 rfl intElem w.heap.size intC int_one (.slice A' m c') (twoL por l1 l2 k) m HM.out.symm rfl (HO.out.alloc _) (wr.heap.size + 1) (some ⟨wr.heap.size, 0, none⟩) 1 1 [(k : Int)] rfl rfl (Sl.new wr intC 1 int_len 3 (k : Int)) (by omega) (by simp; omega) ?_; intro A2' c2' w2 ho2 hg2 _; have HO2 := Lib.hid ho2; have HG2 := Lib.hid hg2; clear ho2 hg2))
        go_roundw
        case rel =>
          refine ⟨k + 1, m + 1, A2', c2', by omega, by go_num, rfl, by rw [HL.out, List.length_append, ← HM.out]; rfl, by rw [HL.out]; exact HO2.out, ?_⟩
          exact (HO.out.alloc _).below_grown (HB.out.alloc (by omega) _) HG2.out (Nat.le_refl _) (by simp; omega)
        case measure => simp [intOf]; omega
      · have HL : Hid (twoL por l1 l2 (k + 1) = twoL por l1 l2 k ++ [(k : Int)]) := HQ2.out
        clear HQ2
        go_wp2_with (first
          | (go_at_call 15; (with_reducible refine (HC1 _ HS1.out).mono ?_); rintro e w1 ⟨rfl, rfl⟩)
          | (go_at_call 15; (with_reducible refine (HC2 _ HS2.out).mono ?_); rintro e w1 ⟨rfl, rfl⟩)
          | (at_builtin; refine wpList_append_sl rfl (.tmp 50) (.tmp 52) 22 rfl intElem w.heap.size intC int_one (.slice A' m c') (twoL por l1 l2 k) m HM.out.symm rfl (HO.out.alloc _) (wr.heap.size + 1) (some ⟨wr.heap.size, 0, none⟩) 1 1 [(k : Int)] rfl rfl (Sl.new wr intC 1 int_len 3 (k : Int)) (by omega) (by simp; omega) ?_; intro A2' c2' w2 ho2 hg2 _; have HO2 := Lib.hid ho2; have HG2 := Lib.hid hg2; clear ho2 hg2))
        go_roundw
        case rel =>
          refine ⟨k + 1, m + 1, A2', c2', by omega, by go_num, rfl, by rw [HL.out, List.length_append, ← HM.out]; rfl, by rw [HL.out]; exact HO2.out, ?_⟩
          exact (HO.out.alloc _).below_grown (HB.out.alloc (by omega) _) HG2.out (Nat.le_refl _) (by simp; omega)
        case measure => simp [intOf]; omega
    · have hk2 : k = 256 := by omega
      subst hk2
      go_wp2
      go_ret
      exact GivesSl.of HM.out.symm rfl HO.out HB.out

set_option maxHeartbeats 2000000 in
set_option maxRecDepth 100000 in
theorem Two1_any (A1 A2 : Option Addr) (n1 n2 c1 c2 B : Nat) (l1 l2 : List Int) (w : World) (hn1 : l1.length = n1) (hn2 : l2.length = n2) (h1 : Sl w B 1 intC A1 l1) (h2 : Sl w B 1 intC A2 l2) (hB : B ≤ w.heap.size) (hl1 : n1 ≤ 1000000) (hl2 : n2 ≤ 1000000) :
    Calls Tryd.prog 19 #[.slice A1 n1 c1, .slice A2 n2 c2, .int .i64 1] w (GivesSl 3 1 intC w (twoL pand l1 l2 256)) := by
  subst hn1; subst hn2
  go_enter Tryd.func19, Tryd.ntmps19
  go_wp2
  go_loopw [7, 8] (fun v i wr => ∃ k m : Nat, ∃ A' c', k ≤ 256 ∧ i = .int .i64 k ∧ v = .slice A' m c' ∧ m = (twoL pand l1 l2 k).length ∧ Own wr w.heap.size 3 1 intC (.slice A' m c') (twoL pand l1 l2 k) ∧ Below w.heap.size w wr) (fun _ i _ => 256 - (intOf i).toNat)
  case atStart => exact ⟨0, 0, none, 0, by omega, rfl, rfl, by rw [twoL_zero]; rfl, by rw [twoL_zero]; exact Own.nil _ _ _ int_len, Below.refl _ _⟩
  case round =>
    obtain ⟨k, m, A', c', hk, rfl, rfl, hm, ho, hb⟩ := hrel
    have hmk := twoL_le pand l1 l2 k
    rw [← hm] at hmk
    have HM := Lib.hid hm
    have HO := Lib.hid ho
    have HB := Lib.hid hb
    have HS1 := Lib.hid (h1.below (hb.mono hB))
    have HS2 := Lib.hid (h2.below (hb.mono hB))
    have hsz := hb.size
    clear hm ho hb
    by_cases hlt : k < 256
    · have HC1 := fun W hW => Has03_any A1 l1.length c1 B l1 k W rfl hW hl1
      have HC2 := fun W hW => Has03_any A2 l2.length c2 B l2 k W rfl hW hl2
      have HQ := Lib.hid (twoL_succ pand l1 l2 k)
      obtain ⟨a, ha⟩ : ∃ a, decide ((k : Int) ∈ l1) = a := ⟨_, rfl⟩
      obtain ⟨b, hb⟩ : ∃ b, decide ((k : Int) ∈ l2) = b := ⟨_, rfl⟩
      have HQ2 : Hid (twoL pand l1 l2 (k + 1) = if pand a b then twoL pand l1 l2 k ++ [(k : Int)] else twoL pand l1 l2 k) := by rw [← ha, ← hb]; exact HQ
      simp only [ha] at HC1
      simp only [hb] at HC2
      clear ha hb HQ
      cases a <;> cases b
      · have HL : Hid (twoL pand l1 l2 (k + 1) = twoL pand l1 l2 k) := HQ2.out
        clear HQ2
        go_wp2_with (first
          | (go_at_call 15; (with_reducible refine (HC1 _ HS1.out).mono ?_); rintro e w1 ⟨rfl, rfl⟩)
          | (go_at_call 15; (with_reducible refine (HC2 _ HS2.out).mono ?_); rintro e w1 ⟨rfl, rfl⟩))
        go_roundw
        case rel => exact ⟨k + 1, m, A', c', by omega, by go_num, rfl, by rw [HL.out]; exact HM.out, by rw [HL.out]; exact HO.out, HB.out⟩
        case measure => simp [intOf]; omega
      · have HL : Hid (twoL pand l1 l2 (k + 1) = twoL pand l1 l2 k) := HQ2.out
        clear HQ2
        go_wp2_with (first
          | (go_at_call 15; (with_reducible refine (HC1 _ HS1.out).mono ?_); rintro e w1 ⟨rfl, rfl⟩)
          | (go_at_call 15; (with_reducible refine (HC2 _ HS2.out).mono ?_); rintro e w1 ⟨rfl, rfl⟩))
        go_roundw
        case rel => exact ⟨k + 1, m, A', c', by omega, by go_num, rfl, by rw [HL.out]; exact HM.out, by rw [HL.out]; exact HO.out, HB.out⟩
        case measure => simp [intOf]; omega
      · have HL : Hid (twoL pand l1 l2 (k + 1) = twoL pand l1 l2 k) := HQ2.out
        clear HQ2
        go_wp2_with (first
          | (go_at_call 15; (with_reducible refine (HC1 _ HS1.out).mono ?_); rintro e w1 ⟨rfl, rfl⟩)
          | (go_at_call 15; (with_reducible refine (HC2 _ HS2.out).mono ?_); rintro e w1 ⟨rfl, rfl⟩))
        go_roundw
        case rel => exact ⟨k + 1, m, A', c', by omega, by go_num, rfl, by rw [HL.out]; exact HM.out, by rw [HL.out]; exact HO.out, HB.out⟩
        case measure => simp [intOf]; omega
      · have HL : Hid (twoL pand l1 l2 (k + 1) = twoL pand l1 l2 k ++ [(k : Int)]) := HQ2.out
        clear HQ2
        go_wp2_with (first
          | (go_at_call 15; (with_reducible refine (HC1 _ HS1.out).mono ?_); rintro e w1 ⟨rfl, rfl⟩)
          | (go_at_call 15; (with_reducible refine (HC2 _ HS2.out).mono ?_); rintro e w1 ⟨rfl, rfl⟩)
          | (at_builtin; refine wpList_append_sl rfl (.tmp 50) (.tmp 52) 22 rfl intElem w.heap.size intC int_one (.slice A' m c') (twoL pand l1 l2 k) m HM.out.symm rfl (HO.out.alloc _) (wr.heap.size + 1) (some ⟨wr.heap.size, 0, none⟩) 1 1 [(k : Int)] rfl rfl (Sl.new wr intC 1 int_len 3 (k : Int)) (by omega) (by simp; omega) ?_; intro A2' c2' w2 ho2 hg2 _; have HO2 := Lib.hid ho2; have HG2 := Lib.hid hg2; clear ho2 hg2))
        go_roundw
        case rel =>
          refine ⟨k + 1, m + 1, A2', c2', by omega, by go_num, rfl, by rw [HL.out, List.length_append, ← HM.out]; rfl, by rw [HL.out]; exact HO2.out, ?_⟩
          exact (HO.out.alloc _).below_grown (HB.out.alloc (by omega) _) HG2.out (Nat.le_refl _) (by simp; omega)
        case measure => simp [intOf]; omega
    · have hk2 : k = 256 := by omega
      subst hk2
      go_wp2
      go_ret
      exact GivesSl.of HM.out.symm rfl HO.out HB.out

set_option maxHeartbeats 2000000 in
set_option maxRecDepth 100000 in
theorem Two2_any (A1 A2 : Option Addr) (n1 n2 c1 c2 B : Nat) (l1 l2 : List Int) (w : World) (hn1 : l1.length = n1) (hn2 : l2.length = n2) (h1 : Sl w B 1 intC A1 l1) (h2 : Sl w B 1 intC A2 l2) (hB : B ≤ w.heap.size) (hl1 : n1 ≤ 1000000) (hl2 : n2 ≤ 1000000) :
    Calls Tryd.prog 19 #[.slice A1 n1 c1, .slice A2 n2 c2, .int .i64 2] w (GivesSl 3 1 intC w (twoL pnot l1 l2 256)) := by
  subst hn1; subst hn2
  go_enter Tryd.func19, Tryd.ntmps19
  go_wp2
  go_loopw [7, 8] (fun v i wr => ∃ k m : Nat, ∃ A' c', k ≤ 256 ∧ i = .int .i64 k ∧ v = .slice A' m c' ∧ m = (twoL pnot l1 l2 k).length ∧ Own wr w.heap.size 3 1 intC (.slice A' m c') (twoL pnot l1 l2 k) ∧ Below w.heap.size w wr) (fun _ i _ => 256 - (intOf i).toNat)
  case atStart => exact ⟨0, 0, none, 0, by omega, rfl, rfl, by rw [twoL_zero]; rfl, by rw [twoL_zero]; exact Own.nil _ _ _ int_len, Below.refl _ _⟩
  case round =>
    obtain ⟨k, m, A', c', hk, rfl, rfl, hm, ho, hb⟩ := hrel
    have hmk := twoL_le pnot l1 l2 k
    rw [← hm] at hmk
    have HM := Lib.hid hm
    have HO := Lib.hid ho
    have HB := Lib.hid hb
    have HS1 := Lib.hid (h1.below (hb.mono hB))
    have HS2 := Lib.hid (h2.below (hb.mono hB))
    have hsz := hb.size
    clear hm ho hb
    by_cases hlt : k < 256
    · have HC1 := fun W hW => Has03_any A1 l1.length c1 B l1 k W rfl hW hl1
      have HC2 := fun W hW => Has03_any A2 l2.length c2 B l2 k W rfl hW hl2
      have HQ := Lib.hid (twoL_succ pnot l1 l2 k)
      obtain ⟨a, ha⟩ : ∃ a, decide ((k : Int) ∈ l1) = a := ⟨_, rfl⟩
      obtain ⟨b, hb⟩ : ∃ b, decide ((k : Int) ∈ l2) = b := ⟨_, rfl⟩
      have HQ2 : Hid (twoL pnot l1 l2 (k + 1) = if pnot a b then twoL pnot l1 l2 k ++ [(k : Int)] else twoL pnot l1 l2 k) := by rw [← ha, ← hb]; exact HQ
      simp only [ha] at HC1
      simp only [hb] at HC2
      clear ha hb HQ
      cases a <;> cases b
      · have HL : Hid (twoL pnot l1 l2 (k + 1) = twoL pnot l1 l2 k) := HQ2.out
        clear HQ2
        go_wp2_with (first
          | (go_at_call 15; (with_reducible refine (HC1 _ HS1.out).mono ?_); rintro e w1 ⟨rfl, rfl⟩)
          | (go_at_call 15; (with_reducible refine (HC2 _ HS2.out).mono ?_); rintro e w1 ⟨rfl, rfl⟩))
        go_roundw
        case rel => exact ⟨k + 1, m, A', c', by omega, by go_num, rfl, by rw [HL.out]; exact HM.out, by rw [HL.out]; exact HO.out, HB.out⟩
        case measure => simp [intOf]; omega
      · have HL : Hid (twoL pnot l1 l2 (k + 1) = twoL pnot l1 l2 k) := HQ2.out
        clear HQ2
        go_wp2_with (first
          | (go_at_call 15; (with_reducible refine (HC1 _ HS1.out).mono ?_); rintro e w1 ⟨rfl, rfl⟩)
          | (go_at_call 15; (with_reducible refine (HC2 _ HS2.out).mono ?_); rintro e w1 ⟨rfl, rfl⟩))
        go_roundw
        case rel => exact ⟨k + 1, m, A', c', by omega, by go_num, rfl, by rw [HL.out]; exact HM.out, by rw [HL.out]; exact HO.out, HB.out⟩
        case measure => simp [intOf]; omega
      · have HL : Hid (twoL pnot l1 l2 (k + 1) = twoL pnot l1 l2 k ++ [(k : Int)]) := HQ2.out
        clear HQ2
        go_wp2_with (first
          | (go_at_call 15; (with_reducible refine (HC1 _ HS1.out).mono ?_); rintro e w1 ⟨rfl, rfl⟩)
          | (go_at_call 15; (with_reducible refine (HC2 _ HS2.out).mono ?_); rintro e w1 ⟨rfl, rfl⟩)
          | (at_builtin; refine wpList_append_sl rfl (.tmp 50) (.tmp 52) 22 rfl intElem w.heap.size intC int_one (.slice A' m c') (twoL pnot l1 l2 k) m HM.out.symm rfl (HO.out.alloc _) (wr.heap.size + 1) (some ⟨wr.heap.size, 0, none⟩) 1 1 [(k : Int)] rfl rfl (Sl.new wr intC 1 int_len 3 (k : Int)) (by omega) (by simp; omega) ?_; intro A2' c2' w2 ho2 hg2 _; have HO2 := Lib.hid ho2; have HG2 := Lib.hid hg2; clear ho2 hg2))
        go_roundw
        case rel =>
          refine ⟨k + 1, m + 1, A2', c2', by omega, by go_num, rfl, by rw [HL.out, List.length_append, ← HM.out]; rfl, by rw [HL.out]; exact HO2.out, ?_⟩
          exact (HO.out.alloc _).below_grown (HB.out.alloc (by omega) _) HG2.out (Nat.le_refl _) (by simp; omega)
        case measure => simp [intOf]; omega
      · have HL : Hid (twoL pnot l1 l2 (k + 1) = twoL pnot l1 l2 k) := HQ2.out
        clear HQ2
        go_wp2_with (first
          | (go_at_call 15; (with_reducible refine (HC1 _ HS1.out).mono ?_); rintro e w1 ⟨rfl, rfl⟩)
          | (go_at_call 15; (with_reducible refine (HC2 _ HS2.out).mono ?_); rintro e w1 ⟨rfl, rfl⟩))
        go_roundw
        case rel => exact ⟨k + 1, m, A', c', by omega, by go_num, rfl, by rw [HL.out]; exact HM.out, by rw [HL.out]; exact HO.out, HB.out⟩
        case measure => simp [intOf]; omega
    · have hk2 : k = 256 := by omega
      subst hk2
      go_wp2
      go_ret
      exact GivesSl.of HM.out.symm rfl HO.out HB.out
end Go.Proofs.YtkeeipfglmpgjaaDoor
