/-
  The reference's bags: Has, List, Same over lists of numbers.
-/
import Derived.Test.YtkeeipfglmpgjaaDoorBagOf
namespace Go.Proofs.YtkeeipfglmpgjaaDoor
set_option linter.unusedSimpArgs false
set_option linter.unusedVariables false
open Go.RowKit

theorem intElem : Elem Tryd.prog 22 3 1 8 :=
  ⟨Tryd.underlying22, info_some (z := .int .i64 0) (by kernel_rfl) rfl, by omega, by omega⟩
theorem int_one (x : Int) : ∀ u ∈ intC x, u.oneCell' = true := by intro u hu; simp [intC] at hu; subst hu; rfl

set_option maxHeartbeats 400000 in
theorem Has03_any (A : Option Addr) (n c B : Nat) (l : List Int) (x : Int) (w : World) (hn : l.length = n) (h : Sl w B 1 intC A l) (hl : l.length ≤ 1000000) :
    Calls Tryd.prog 15 #[.slice A n c, .int .i64 x] w fun e w' => e = .returned (.bool (decide (x ∈ l))) ∧ w = w' := by
  subst hn
  go_enter Tryd.func15, Tryd.ntmps15
  go_wp2
  go_loop [5] (fun i => ∃ k : Nat, k ≤ l.length ∧ i = .int .i64 k ∧ Hid (¬ x ∈ l.take k)) (fun i => l.length - (intOf i).toNat)
  case atStart => exact ⟨0, Nat.zero_le _, rfl, by show ¬ _; simp⟩
  case round =>
    obtain ⟨k, hk, rfl, HE⟩ := hrel
    by_cases hlt : k < l.length
    · obtain ⟨b, o, rfl, _⟩ := h.addr (by omega) (by omega)
      have r : w.cell? ⟨b, o + k, none⟩ = some (.int .i64 l[k]) := h.cell1 hlt
      by_cases he : l[k] = x
      · have hd : decide (x ∈ l) = true := by
          simp only [decide_eq_true_eq]; rw [← he]; exact List.getElem_mem _
        go_wp2
        go_ret
        exact ⟨rfl, rfl⟩
      · have HN := Lib.hid he
        go_wp2
        go_round
        case rel =>
          refine ⟨k + 1, by omega, by go_num, ?_⟩
          show ¬ _
          rw [List.take_succ_eq_append_getElem hlt]
          have h1 := HE.out
          have h2 := HN.out
          simp only [List.mem_append, List.mem_singleton, not_or]
          exact ⟨h1, fun e => h2 e.symm⟩
        case measure => simp [intOf]; omega
    · have hd : decide (x ∈ l) = false := by
        have h1 := HE.out
        rw [List.take_of_length_le (by omega)] at h1
        simpa using h1
      go_wp2
      go_ret
      exact ⟨rfl, rfl⟩

/-- The numbers below k that a list has, rising, each once. -/
def inList (l : List Int) (k : Nat) : List Int := ((List.range k).filter (fun j : Nat => decide ((j : Int) ∈ l))).map (fun j : Nat => (j : Int))
theorem inList_succ (l : List Int) (k : Nat) : inList l (k + 1) = if (k : Int) ∈ l then inList l k ++ [(k : Int)] else inList l k := by
  unfold inList
  rw [List.range_succ, List.filter_append, List.map_append]
  by_cases h : (k : Int) ∈ l <;> simp [List.filter_cons, h]
theorem inList_le (l : List Int) (k : Nat) : (inList l k).length ≤ k := by
  unfold inList
  rw [List.length_map]
  exact Nat.le_trans (List.length_filter_le _ _) (by simp)

theorem inList_zero (l : List Int) : inList l 0 = [] := rfl
attribute [irreducible] inList

set_option maxHeartbeats 1000000 in
set_option maxRecDepth 100000 in
theorem List03_any (A : Option Addr) (n c B : Nat) (l : List Int) (w : World) (hn : l.length = n) (h : Sl w B 1 intC A l) (hB : B ≤ w.heap.size) (hl : l.length ≤ 1000000) :
    Calls Tryd.prog 9 #[.slice A n c] w (GivesSl 3 1 intC w (inList l 256)) := by
  subst hn
  go_enter Tryd.func9, Tryd.ntmps9
  go_wp2
  go_loopw [3, 4] (fun v i wr => ∃ k m : Nat, ∃ A' c', k ≤ 256 ∧ i = .int .i64 k ∧ v = .slice A' m c' ∧ m = (inList l k).length ∧ Own wr w.heap.size 3 1 intC (.slice A' m c') (inList l k) ∧ Below w.heap.size w wr) (fun _ i _ => 256 - (intOf i).toNat)
  case atStart => exact ⟨0, 0, none, 0, by omega, rfl, rfl, by rw [inList_zero]; rfl, by rw [inList_zero]; exact Own.nil _ _ _ int_len, Below.refl _ _⟩
  case round =>
    obtain ⟨k, m, A', c', hk, rfl, rfl, hm, ho, hb⟩ := hrel
    have hmk := inList_le l k
    rw [← hm] at hmk
    have HM := Lib.hid hm
    have HO := Lib.hid ho
    have HB := Lib.hid hb
    have HS := h.below (hb.mono hB)
    have hsz := hb.size
    clear hm ho hb
    by_cases hlt : k < 256
    · have HC := fun W hW => Has03_any A l.length c B l k W rfl hW hl
      by_cases he : (k : Int) ∈ l
      · have hd : decide ((k : Int) ∈ l) = true := by simpa using he
        rw [hd] at HC
        have HL : Hid (inList l (k + 1) = inList l k ++ [(k : Int)]) := by show _ = _; rw [inList_succ, if_pos he]
        clear he hd
        go_wp2_with (first
          | (go_at_call 15; refine (HC _ HS).mono ?_; rintro e w1 ⟨rfl, rfl⟩)
          | (at_builtin; refine wpList_append_sl rfl (.tmp 12) (.tmp 14) 22 rfl intElem w.heap.size intC int_one (.slice A' m c') (inList l k) m HM.out.symm rfl (HO.out.alloc _) (wr.heap.size + 1) (some ⟨wr.heap.size, 0, none⟩) 1 1 [(k : Int)] rfl rfl (Sl.new wr intC 1 int_len 3 (k : Int)) (by omega) (by simp; omega) ?_; intro A2 c2 w2 ho2 hg2 _; have HO2 := Lib.hid ho2; have HG2 := Lib.hid hg2; clear ho2 hg2))
        go_roundw
        case rel =>
          refine ⟨k + 1, m + 1, A2, c2, by omega, by go_num, rfl, by rw [HL.out, List.length_append, ← HM.out]; rfl, by rw [HL.out]; exact HO2.out, ?_⟩
          exact (HO.out.alloc _).below_grown (HB.out.alloc (by omega) _) HG2.out (Nat.le_refl _) (by simp; omega)
        case measure => simp [intOf]; omega
      · have hd : decide ((k : Int) ∈ l) = false := by simpa using he
        rw [hd] at HC
        have HL : Hid (inList l (k + 1) = inList l k) := by show _ = _; rw [inList_succ, if_neg he]
        clear he hd
        go_wp2_with (go_at_call 15; refine (HC _ HS).mono ?_; rintro e w1 ⟨rfl, rfl⟩)
        go_roundw
        case rel => exact ⟨k + 1, m, A', c', by omega, by go_num, rfl, by rw [HL.out]; exact HM.out, by rw [HL.out]; exact HO.out, HB.out⟩
        case measure => simp [intOf]; omega
    · have hk2 : k = 256 := by omega
      subst hk2
      go_wp2
      go_ret
      exact GivesSl.of HM.out.symm rfl HO.out HB.out
end Go.Proofs.YtkeeipfglmpgjaaDoor
