/-
  Numerals: what is shown is read as it was; the document's reading of a word and the library's are one. Plain lemmas, no program in sight.
-/
import Derived.Lib.ItoaNum
import Derived.Lib.AtoiAll
import Derived.Test.YtijpdbjcmnpobaaDoorMid
namespace Go.Proofs.YtijpdbjcmnpobaaDoor
set_option linter.unusedSimpArgs false
set_option linter.unusedVariables false
open Go.Lib Go.RowKit

theorem dec_step (u : Nat) (h : ¬ u < 10) : decDigits u = decDigits (u / 10) ++ [UInt8.ofNat (48 + u % 10)] := by rw [decDigits, dif_neg h]
theorem dec_small (u : Nat) (h : u < 10) : decDigits u = [UInt8.ofNat (48 + u)] := by rw [decDigits, dif_pos h]
theorem dig_toNat (d : Nat) (h : d < 10) : (UInt8.ofNat (48 + d)).toNat = 48 + d := by
  rw [UInt8.toNat_ofNat']; omega
theorem dec_digit (u : Nat) : ∀ c ∈ decDigits u, 48 ≤ c.toNat ∧ c.toNat ≤ 57 := by
  induction u using Nat.strongRecOn with
  | _ u ih =>
    intro c hc
    by_cases h : u < 10
    · rw [dec_small u h, List.mem_singleton] at hc
      subst hc
      rw [dig_toNat u h]; omega
    · rw [dec_step u h, List.mem_append, List.mem_singleton] at hc
      rcases hc with hc | rfl
      · exact ih (u / 10) (by omega) c hc
      · rw [dig_toNat _ (by omega)]; omega
theorem dec_ne (u : Nat) : decDigits u ≠ [] := by
  by_cases h : u < 10
  · rw [dec_small u h]; simp
  · rw [dec_step u h]; simp
theorem dec_len (k : Nat) : ∀ u, u < 10 ^ (k + 1) → (decDigits u).length ≤ k + 1 := by
  induction k with
  | zero => intro u h; rw [dec_small u (by simpa using h)]; simp
  | succ k ih =>
    intro u h
    by_cases h0 : u < 10
    · rw [dec_small u h0]; simp
    · rw [dec_step u h0, List.length_append]
      have := ih (u / 10) (by rw [Nat.pow_succ] at h; omega)
      simp only [List.length_singleton]; omega

theorem parse_append (a b : List UInt8) : ∀ acc v, parseUint10 acc a = .ok v → parseUint10 acc (a ++ b) = parseUint10 v b := by
  induction a with
  | nil => intro acc v h; simp only [parseUint10] at h; injection h with h; rw [h]; rfl
  | cons c r ih =>
    intro acc v h
    simp only [List.cons_append, parseUint10] at h ⊢
    split at h
    · rename_i h1
      rw [if_pos h1]
      split at h
      · cases h
      · rename_i h2
        rw [if_neg h2]
        split at h
        · cases h
        · rename_i h3
          rw [if_neg h3]
          exact ih _ _ h
    · cases h
theorem parse_dec (u : Nat) (hu : u ≤ 9223372036854775809) : parseUint10 0 (decDigits u) = .ok u := by
  induction u using Nat.strongRecOn with
  | _ u ih =>
    by_cases h : u < 10
    · rw [dec_small u h]
      simp only [parseUint10, dig_toNat u h]
      rw [if_pos (by omega), if_neg (by omega), if_neg (by omega)]
      congr 1; omega
    · rw [dec_step u h, parse_append _ _ 0 (u / 10) (ih (u / 10) (by omega) (by omega))]
      simp only [parseUint10, dig_toNat _ (Nat.mod_lt u (by omega : 0 < 10))]
      rw [if_pos (by omega), if_neg (by omega), if_neg (by omega)]
      congr 1; omega
theorem atoi_neg (u : Nat) (h : u ≤ 9223372036854775808) : atoiAll (45 :: decDigits u) = .ok (-(u : Int)) := by
  have h45 : (45 : UInt8).toNat = 45 := rfl
  have hm : parseMag (decDigits u) = .ok u := by unfold parseMag; rw [if_neg (dec_ne u), parse_dec u (by omega)]
  simp only [atoiAll, h45, or_true, if_true, hm]
  rw [if_neg (by simp), if_neg (by omega)]
theorem atoi_pos (u : Nat) (h : u < 9223372036854775808) : atoiAll (decDigits u) = .ok (u : Int) := by
  obtain ⟨c, r, e⟩ : ∃ c r, decDigits u = c :: r := by
    cases hd : decDigits u with
    | nil => exact absurd hd (dec_ne u)
    | cons c r => exact ⟨c, r, rfl⟩
  have hc := dec_digit u c (by rw [e]; simp)
  have hp := parse_dec u (by omega)
  rw [e] at hp
  rw [e]
  simp only [atoiAll, parseMag]
  rw [if_neg (show ¬(c.toNat = 43 ∨ c.toNat = 45) by omega), if_neg (by simp), hp]
  simp only
  rw [if_neg (by omega), if_neg (by omega)]
  simp [show ¬ c.toNat = 45 by omega]
/-- WHAT IS SHOWN IS READ AS IT WAS. -/
theorem atoi_itoa (n : Int) (h0 : -9223372036854775808 ≤ n) (h1 : n ≤ 9223372036854775807) : atoiAll (itoa n) = .ok n := by
  unfold itoa
  split
  · rw [atoi_neg n.natAbs (by omega)]; congr 1; omega
  · rw [atoi_pos n.toNat (by omega)]; congr 1; omega

/-- The number of a word. -/
def numV (l : List UInt8) : Option Int :=
  match atoiAll l with
  | .ok v => if itoa v = l then some v else none
  | _ => none

/-- The document's way through the digits. -/
def refGo : Nat → List UInt8 → Option Nat
  | acc, [] => some acc
  | acc, c :: r => if c.toNat < 48 ∨ 57 < c.toNat ∨ 922337203685477580 < acc then none else refGo (10 * acc + (c.toNat - 48)) r
theorem refGo_append (a b : List UInt8) : ∀ acc v, refGo acc a = some v → refGo acc (a ++ b) = refGo v b := by
  induction a with
  | nil => intro acc v h; simp only [refGo] at h; injection h with h; rw [h]; rfl
  | cons c r ih =>
    intro acc v h
    simp only [List.cons_append, refGo] at h ⊢
    split at h
    · cases h
    · rename_i h1
      rw [if_neg h1]
      exact ih _ _ h
theorem refGo_dec (u : Nat) (hu : u ≤ 9223372036854775809) : refGo 0 (decDigits u) = some u := by
  induction u using Nat.strongRecOn with
  | _ u ih =>
    by_cases h : u < 10
    · rw [dec_small u h]
      simp only [refGo, dig_toNat u h]
      rw [if_neg (by omega)]
      congr 1; omega
    · rw [dec_step u h, refGo_append _ _ 0 (u / 10) (ih (u / 10) (by omega) (by omega))]
      simp only [refGo, dig_toNat _ (Nat.mod_lt u (by omega : 0 < 10))]
      rw [if_neg (by omega)]
      congr 1; omega
theorem refGo_lt (l : List UInt8) : ∀ acc v, acc ≤ 9223372036854775809 → refGo acc l = some v → v ≤ 9223372036854775809 := by
  induction l with
  | nil => intro acc v h h1; simp only [refGo] at h1; injection h1 with h1; omega
  | cons c r ih =>
    intro acc v h h1
    simp only [refGo] at h1
    split at h1
    · cases h1
    · rename_i h2
      exact ih _ _ (by omega) h1
/-- The document's number of a word: whatever int n its digits make, if n is shown so. -/
def refBody (l : List UInt8) : List UInt8 := if l.head?.map (·.toNat) = some 45 then l.tail else l
def refInt (l : List UInt8) (x : Nat) : Int := if l.head?.map (·.toNat) = some 45 then wrap64 (0 - (x : Int)) else wrap64 (x : Int)
def refV (l : List UInt8) : Option Int :=
  if l.length = 0 ∨ 20 < l.length then none else
  match refGo 0 (refBody l) with
  | none => none
  | some x => if itoa (refInt l x) = l then some (refInt l x) else none
theorem ref_itoa (n : Int) (h0 : -9223372036854775808 ≤ n) (h1 : n ≤ 9223372036854775807) : refV (itoa n) = some n := by
  have hl : (itoa n).length ≠ 0 ∧ (itoa n).length ≤ 20 := by
    unfold itoa
    split
    · have := dec_len 18 n.natAbs (by omega)
      simp only [List.length_cons]; omega
    · have := dec_len 18 n.toNat (by omega)
      have := dec_ne n.toNat
      have : (decDigits n.toNat).length ≠ 0 := fun h => this (List.eq_nil_of_length_eq_zero h)
      omega
  unfold refV
  rw [if_neg (by omega)]
  by_cases hn : n < 0
  · have e : itoa n = 45 :: decDigits n.natAbs := by unfold itoa; rw [if_pos hn]
    have hb : refBody (itoa n) = decDigits n.natAbs := by rw [e]; simp [refBody]
    have hi : refInt (itoa n) n.natAbs = n := by
      have hh : (itoa n).head?.map (·.toNat) = some 45 := by rw [e]; rfl
      unfold refInt; rw [if_pos hh]; unfold wrap64; omega
    rw [hb, refGo_dec _ (by omega)]
    simp only [hi, if_true]
  · have e : itoa n = decDigits n.toNat := by unfold itoa; rw [if_neg hn]
    obtain ⟨c, r, e2⟩ : ∃ c r, decDigits n.toNat = c :: r := by
      cases hd : decDigits n.toNat with
      | nil => exact absurd hd (dec_ne _)
      | cons c r => exact ⟨c, r, rfl⟩
    have hc := dec_digit n.toNat c (by rw [e2]; simp)
    have hh : ¬ ((itoa n).head?.map (·.toNat) = some 45) := by rw [e, e2]; simp; omega
    have hb : refBody (itoa n) = decDigits n.toNat := by unfold refBody; rw [if_neg hh, e]
    have hi : refInt (itoa n) n.toNat = n := by unfold refInt; rw [if_neg hh]; unfold wrap64; omega
    rw [hb, refGo_dec _ (by omega)]
    simp only [hi, if_true]
theorem numV_itoa (n : Int) (h0 : -9223372036854775808 ≤ n) (h1 : n ≤ 9223372036854775807) : numV (itoa n) = some n := by
  unfold numV; rw [atoi_itoa n h0 h1]; simp
theorem refInt_bounds (l : List UInt8) (x : Nat) : -9223372036854775808 ≤ refInt l x ∧ refInt l x ≤ 9223372036854775807 := by
  unfold refInt; split <;> (unfold wrap64; omega)
theorem atoiAll_bounds {l : List UInt8} {u : Int} (ha : atoiAll l = .ok u) : -9223372036854775808 ≤ u ∧ u ≤ 9223372036854775807 := by
  unfold atoiAll at ha
  split at ha
  · cases ha
  · simp only at ha
    split at ha
    · cases ha
    · cases ha
    · rename_i hm
      have := parseMag_lt hm
      split at ha
      · cases ha
      · split at ha
        · cases ha
        · injection ha with ha
          subst ha
          split <;> omega
theorem numV_bounds {l : List UInt8} {v : Int} (h : numV l = some v) : itoa v = l ∧ -9223372036854775808 ≤ v ∧ v ≤ 9223372036854775807 := by
  unfold numV at h
  cases ha : atoiAll l with
  | ok u =>
    rw [ha] at h
    simp only at h
    split at h
    · rename_i h1
      injection h with h
      subst h
      have hb := atoiAll_bounds ha
      exact ⟨h1, hb⟩
    · cases h
  | range => rw [ha] at h; cases h
  | _ => rw [ha] at h; cases h
theorem refV_eq (l : List UInt8) : refV l = numV l := by
  cases h : numV l with
  | some v =>
    obtain ⟨h1, h2, h3⟩ := numV_bounds h
    rw [← h1]
    exact ref_itoa v h2 h3
  | none =>
    cases h' : refV l with
    | none => rfl
    | some v =>
      unfold refV at h'
      split at h'
      · cases h'
      · split at h'
        · cases h'
        · rename_i x _
          split at h'
          · rename_i he
            have hb := refInt_bounds l x
            have := numV_itoa (refInt l x) hb.1 hb.2
            rw [he, h] at this
            cases this
          · cases h'
/-- How far the document's digits are. -/
def digInv (x0 x k : Nat) (l : List UInt8) : Prop := (k = 0 ∧ x = x0 ∧ l = []) ∨ (0 < k ∧ x = 0 ∧ l = decDigits x0) ∨ (0 < k ∧ 0 < x ∧ decDigits x ++ l = decDigits x0)
def digLeft (x : Nat) : Nat := if x = 0 then 0 else (decDigits x).length
theorem digLeft_step (x : Nat) (h : 0 < x) : digLeft (x / 10) + 1 = digLeft x := by
  unfold digLeft
  by_cases h1 : x < 10
  · rw [if_pos (by omega), if_neg (by omega), dec_small x h1]; rfl
  · rw [if_neg (by omega), if_neg (by omega), dec_step x h1, List.length_append]; rfl
theorem digInv_step {x0 x k : Nat} {l : List UInt8} (h : digInv x0 x k l) (hk : k = 0 ∨ 0 < x) : digInv x0 (x / 10) (k + 1) (UInt8.ofNat (48 + x % 10) :: l) := by
  have key : decDigits x ++ l = decDigits x0 → digInv x0 (x / 10) (k + 1) (UInt8.ofNat (48 + x % 10) :: l) := by
    intro e
    by_cases h1 : x < 10
    · rw [dec_small x h1] at e
      refine .inr (.inl ⟨by omega, by omega, ?_⟩)
      rw [Nat.mod_eq_of_lt h1]; exact e
    · rw [dec_step x h1] at e
      refine .inr (.inr ⟨by omega, by omega, ?_⟩)
      rw [← e]; simp
  rcases h with ⟨_, h1, h2⟩ | ⟨h1, h2, h3⟩ | ⟨h1, h2, h3⟩
  · subst h1; subst h2; exact key (by simp)
  · omega
  · exact key h3
theorem digInv_end {x0 x k : Nat} {l : List UInt8} (h : digInv x0 x k l) (hk : ¬ (k = 0 ∨ 0 < x)) : l = decDigits x0 := by
  rcases h with ⟨h1, _, _⟩ | ⟨_, _, h3⟩ | ⟨_, h2, _⟩
  · omega
  · exact h3
  · omega
theorem digLeft_le {x : Nat} (h : x < 18446744073709551616) : digLeft x ≤ 20 := by
  unfold digLeft; split
  · omega
  · exact dec_len 19 x (by omega)
end Go.Proofs.YtijpdbjcmnpobaaDoor
