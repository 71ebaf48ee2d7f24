/-
  What the list of a bag is, and that it tells the bag.
-/
import Derived.Test.YtkeeipfglmpgjaaDoorBagList
namespace Go.Proofs.YtkeeipfglmpgjaaDoor
set_option linter.unusedSimpArgs false
set_option linter.unusedVariables false

theorem Bag.part_eq (x : Bag) : ∀ k, x.part k = ((List.range (64 * k)).filter x.has).map (fun j : Nat => (j : Int)) := by
  intro k
  induction k with
  | zero => rfl
  | succ k ih =>
    show x.part k ++ nums k (ones (x.word k)) = _
    rw [ih, Nat.mul_succ, List.range_add, List.filter_append, List.map_append, List.filter_map, List.map_map]
    congr 1
    unfold nums ones
    have : List.filter (x.has ∘ fun j => 64 * k + j) (List.range 64) = List.filter (fun j => (x.word k).testBit j) (List.range 64) := by
      apply List.filter_congr
      intro j hj
      simp only [List.mem_range] at hj
      exact x.has_at k j hj
    rw [this]
    rfl
theorem Bag.list_eq (x : Bag) : x.list = ((List.range 256).filter x.has).map (fun j : Nat => (j : Int)) := by
  unfold Bag.list; exact x.part_eq 4
theorem list_bagOf (l : List Int) : (bagOf l).list = inList l 256 := by
  rw [Bag.list_eq]
  unfold inList
  congr 1
  apply List.filter_congr
  intro k hk
  exact (bagOf_ok_has l).2 k (List.mem_range.1 hk)
theorem Bag.len_eq (x : Bag) : x.len = x.list.length := by
  have key : ∀ k, k ≤ 4 → x.upto k = (x.part k).length := by
    intro k
    induction k with
    | zero => intro _; rfl
    | succ k ih =>
      intro hk
      rw [x.upto_succ k (by omega), ih (by omega)]
      show _ = (x.part k ++ nums k (ones (x.word k))).length
      rw [List.length_append]
      unfold nums
      rw [List.length_map, ones_length]
  have := key 4 (by omega)
  unfold Bag.list
  exact this
theorem Bag.mem_list (x : Bag) (k : Nat) (hk : k < 256) : ((k : Int) ∈ x.list) ↔ x.has k = true := by
  rw [Bag.list_eq, List.mem_map]
  constructor
  · rintro ⟨j, hj, e⟩
    have : j = k := by omega
    subst this
    exact (List.mem_filter.1 hj).2
  · intro h
    exact ⟨k, List.mem_filter.2 ⟨List.mem_range.2 hk, h⟩, rfl⟩
theorem word_ext (a b : Nat) (ha : a < 18446744073709551616) (hb : b < 18446744073709551616) (h : ∀ j, j < 64 → a.testBit j = b.testBit j) : a = b := by
  apply Nat.eq_of_testBit_eq
  intro j
  by_cases hj : j < 64
  · exact h j hj
  · have h2 : (2 : Nat) ^ 64 ≤ 2 ^ j := Nat.pow_le_pow_right (by omega) (by omega)
    rw [Nat.testBit_lt_two_pow (Nat.lt_of_lt_of_le (by simpa using ha) h2), Nat.testBit_lt_two_pow (Nat.lt_of_lt_of_le (by simpa using hb) h2)]
theorem Bag.ext_has (x y : Bag) (hx : x.ok) (hy : y.ok) (h : ∀ k, k < 256 → x.has k = y.has k) : x = y := by
  have key : ∀ q, q < 4 → x.word q = y.word q := fun q hq => word_ext _ _ (x.word_lt hx q) (y.word_lt hy q) fun j hj => by
    have := h (64 * q + j) (by omega)
    rwa [x.has_at q j hj, y.has_at q j hj] at this
  have h0 := key 0 (by omega); have h1 := key 1 (by omega); have h2 := key 2 (by omega); have h3 := key 3 (by omega)
  cases x; cases y
  simp only [Bag.word] at h0 h1 h2 h3
  simp only [Bag.mk.injEq]
  exact ⟨h0, h1, h2, h3⟩
theorem Bag.ext_list (x y : Bag) (hx : x.ok) (hy : y.ok) (h : x.list = y.list) : x = y :=
  x.ext_has y hx hy fun k hk => by
    have h1 := x.mem_list k hk
    have h2 := y.mem_list k hk
    rw [h] at h1
    exact Bool.eq_iff_iff.2 (h1.symm.trans h2)
theorem inList_mem (l : List Int) (k : Int) : k ∈ inList l 256 ↔ (0 ≤ k ∧ k < 256 ∧ k ∈ l) := by
  unfold inList
  rw [List.mem_map]
  constructor
  · rintro ⟨j, hj, rfl⟩
    rw [List.mem_filter] at hj
    have h1 := List.mem_range.1 hj.1
    have h2 := hj.2
    simp only [decide_eq_true_eq] at h2
    exact ⟨by omega, by omega, h2⟩
  · rintro ⟨h1, h2, h3⟩
    refine ⟨k.toNat, List.mem_filter.2 ⟨List.mem_range.2 (by omega), ?_⟩, by omega⟩
    rw [show ((k.toNat : Nat) : Int) = k from by omega]
    simpa using h3
theorem list_inList (l : List Int) : inList l 256 = (bagOf l).list := (list_bagOf l).symm
/-- The list of a bag, bagged, is the bag. -/
theorem Bag.of_list (x : Bag) (hx : x.ok) : bagOf x.list = x :=
  Bag.ext_has _ _ (bagOf_ok_has _).1 hx fun k hk => by
    rw [(bagOf_ok_has x.list).2 k hk]
    have := x.mem_list k hk
    by_cases h : x.has k = true
    · rw [h]; simpa using this.2 h
    · have h2 : ¬ ((k : Int) ∈ x.list) := fun e => h (this.1 e)
      simp only [Bool.not_eq_true] at h
      rw [h]; simpa using h2
theorem bagOf_cast (l : List Int) : bagOf (inList l 256) = bagOf l := by rw [list_inList]; exact Bag.of_list _ (bagOf_ok_has l).1
end Go.Proofs.YtkeeipfglmpgjaaDoor
