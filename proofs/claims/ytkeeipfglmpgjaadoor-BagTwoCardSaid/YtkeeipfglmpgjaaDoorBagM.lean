/-
  Bags of small numbers as plain maths: the ones of a word, how many there are, what is in a bag.
-/
import Derived.Laws.Bits64b
import Derived.Laws.BitsAll
import Derived.Lib.TrailingZeros
namespace Go.Proofs.YtkeeipfglmpgjaaDoor
set_option linter.unusedSimpArgs false
set_option linter.unusedVariables false

/-! The ones of a word. -/
def ones (x : Nat) : List Nat := (List.range 64).filter fun j => x.testBit j

theorem ones_zero : ones 0 = [] := by simp [ones]

theorem filter_first (p : Nat → Bool) (k : Nat) (hk : p k = true) (hlo : ∀ j, j < k → p j = false) : ∀ n, k < n →
    (List.range n).filter p = k :: (List.range n).filter (fun j => p j && decide (j ≠ k)) := by
  intro n
  induction n with
  | zero => intro h; omega
  | succ n ih =>
    intro h
    rw [List.range_succ, List.filter_append, List.filter_append]
    by_cases hkn : k < n
    · rw [ih hkn]
      have : n ≠ k := by omega
      simp [List.filter_cons, this]
    · obtain rfl : k = n := by omega
      have h1 : (List.range k).filter p = [] := by
        rw [List.filter_eq_nil_iff]
        intro a ha
        simp [hlo a (by simpa using ha)]
      have h2 : (List.range k).filter (fun j => p j && decide (j ≠ k)) = [] := by
        rw [List.filter_eq_nil_iff]
        intro a ha
        simp [hlo a (by simpa using ha)]
      rw [h1, h2]
      simp [List.filter_cons, hk]

theorem testBit_odd_pow (k m j : Nat) : (2 ^ k * (2 * m + 1)).testBit j = (decide (k ≤ j) && (2 * m + 1).testBit (j - k)) := Nat.testBit_two_pow_mul

theorem pred_bits (k m j : Nat) : (2 ^ k * (2 * m + 1) &&& (2 ^ k * (2 * m + 1) - 1)).testBit j = ((2 ^ k * (2 * m + 1)).testBit j && decide (j ≠ k)) := by
  have hp : 0 < 2 ^ k := Nat.two_pow_pos k
  have e : 2 ^ k * (2 * m + 1) - 1 = 2 ^ k * (2 * m) + (2 ^ k - 1) := by rw [Nat.mul_add]; omega
  rw [Nat.testBit_and, e, Nat.testBit_two_pow_mul_add _ (by omega), testBit_odd_pow]
  by_cases h : j < k
  · simp [h, Nat.not_le.2 h]
  · have hk : k ≤ j := by omega
    simp only [hk, h, decide_true, Bool.true_and, if_false]
    by_cases hj : j = k
    · subst hj; simp [Nat.testBit_zero]
    · obtain ⟨i, rfl⟩ : ∃ i, j = k + (i + 1) := ⟨j - k - 1, by omega⟩
      have : k + (i + 1) - k = i + 1 := by omega
      rw [this, Nat.testBit_succ, Nat.testBit_succ]
      have d1 : (2 * m + 1) / 2 = m := by omega
      have d2 : 2 * m / 2 = m := by omega
      rw [d1, d2]
      simp

theorem ones_step (x : Nat) (h0 : x ≠ 0) (h : x < 2 ^ 64) : Lib.ctz 64 x < 64 ∧ ones x = Lib.ctz 64 x :: ones (x &&& (x - 1)) := by
  obtain ⟨m, hm, hk⟩ := Lib.ctzFrom_spec 64 x (by omega) h
  have e : Lib.ctz 64 x = Lib.ctzFrom 64 x := by simp [Lib.ctz, h0]
  rw [e]
  refine ⟨hk, ?_⟩
  obtain ⟨k, hkk⟩ : ∃ k, Lib.ctzFrom 64 x = k := ⟨_, rfl⟩
  rw [hkk] at hm hk ⊢
  have hb : ∀ j, x.testBit j = (decide (k ≤ j) && (2 * m + 1).testBit (j - k)) := fun j => by rw [hm]; exact testBit_odd_pow k m j
  have h1 : x.testBit k = true := by rw [hb]; simp [Nat.testBit_zero]
  have h2 : ∀ j, j < k → x.testBit j = false := fun j hj => by rw [hb]; simp [Nat.not_le.2 hj]
  unfold ones
  rw [filter_first (fun j => x.testBit j) k h1 h2 64 hk]
  have : (fun j => x.testBit j && decide (j ≠ k)) = (fun j => (x &&& (x - 1)).testBit j) := by
    funext j
    rw [hm]
    exact (pred_bits k m j).symm
  rw [this]

theorem and_pred_lt (x : Nat) (h0 : x ≠ 0) : x &&& (x - 1) < x := by
  have := @Nat.and_le_right x (x - 1)
  omega

/-! How many ones. -/
def pc : Nat → Nat → Nat
  | 0, _ => 0
  | n + 1, x => x % 2 + pc n (x / 2)
theorem range_filter_succ (p : Nat → Bool) (n : Nat) : ((List.range (n + 1)).filter p).length = (if p 0 then 1 else 0) + ((List.range n).filter (fun j => p (j + 1))).length := by
  rw [List.range_succ_eq_map, List.filter_cons]
  have h : (List.filter p (List.map Nat.succ (List.range n))).length = (List.filter (fun j => p (j + 1)) (List.range n)).length := by
    rw [List.filter_map, List.length_map]; rfl
  split <;> simp [h, Nat.add_comm]
theorem pc_eq : ∀ (n x : Nat), ((List.range n).filter (fun j => x.testBit j)).length = pc n x := by
  intro n
  induction n with
  | zero => intro x; simp [pc]
  | succ n ih =>
    intro x
    rw [range_filter_succ, pc, ← ih (x / 2)]
    congr 1
    · rw [Nat.testBit_zero]
      rcases Nat.mod_two_eq_zero_or_one x with h | h <;> simp [h]
    · congr 1
      apply List.filter_congr
      intro j _
      rw [Nat.testBit_succ]
theorem ones_length (x : Nat) : (ones x).length = pc 64 x := pc_eq 64 x
theorem pc_add : ∀ (k n q r : Nat), r < 2 ^ k → pc (k + n) (2 ^ k * q + r) = pc k r + pc n q := by
  intro k
  induction k with
  | zero => intro n q r h; simp [pc]; have : r = 0 := by simp at h; exact h
            subst this; simp
  | succ k ih =>
    intro n q r h
    have hr : r / 2 < 2 ^ k := by rw [Nat.pow_succ] at h; omega
    have e1 : (2 ^ (k + 1) * q + r) % 2 = r % 2 := by rw [Nat.pow_succ, Nat.mul_comm (2 ^ k) 2, Nat.mul_assoc]; omega
    have e2 : (2 ^ (k + 1) * q + r) / 2 = 2 ^ k * q + r / 2 := by rw [Nat.pow_succ, Nat.mul_comm (2 ^ k) 2, Nat.mul_assoc]; omega
    rw [show k + 1 + n = (k + n) + 1 from by omega, pc, pc, e1, e2, ih n q (r / 2) hr, Nat.add_assoc]

/-! The sums of bits side by side. -/
def m0 : Nat → Nat | 0 => 0 | n + 1 => 256 * m0 n + 0x55
def m1 : Nat → Nat | 0 => 0 | n + 1 => 256 * m1 n + 0x33
def m2 : Nat → Nat | 0 => 0 | n + 1 => 256 * m2 n + 0x0f
theorem and_byte (q r m s : Nat) (hr : r < 256) (hs : s < 256) : (256 * q + r) &&& (256 * m + s) = 256 * (q &&& m) + (r &&& s) := by
  have h1 : r &&& s < 256 := Nat.lt_of_le_of_lt Nat.and_le_left hr
  apply Nat.eq_of_testBit_eq
  intro j
  have e : (256 : Nat) = 2 ^ 8 := rfl
  rw [Nat.testBit_and, e, Nat.testBit_two_pow_mul_add _ (by omega), Nat.testBit_two_pow_mul_add _ (by omega), Nat.testBit_two_pow_mul_add _ (by omega)]
  split <;> rw [Nat.testBit_and]

/-- One step of the sum, over n bytes. -/
def st0 (n x : Nat) : Nat := (x / 2 &&& m0 n) + (x &&& m0 n)
def st1 (n x : Nat) : Nat := (x / 4 &&& m1 n) + (x &&& m1 n)
def st2 (n x : Nat) : Nat := (x / 16 + x) &&& m2 n
def b0 (r : Nat) : Nat := (r / 2 &&& 0x55) + (r &&& 0x55)
def b1 (r : Nat) : Nat := (r / 4 &&& 0x33) + (r &&& 0x33)
def b2 (r : Nat) : Nat := (r / 16 + r) &&& 0x0f
theorem half_and0 : ∀ c, c < 2 → ∀ r, r < 256 → ((128 * c + r / 2) &&& 0x55) = (r / 2 &&& 0x55) := by decide +kernel
theorem half_and1 : ∀ c, c < 4 → ∀ r, r < 256 → ((64 * c + r / 4) &&& 0x33) = (r / 4 &&& 0x33) := by decide +kernel
theorem b0_lt : ∀ r, r < 256 → b0 r < 256 ∧ b1 (b0 r) < 256 ∧ b1 (b0 r) / 16 + b1 (b0 r) % 16 < 16 ∧ b2 (b1 (b0 r)) = pc 8 r ∧ pc 8 r ≤ 8 := by decide +kernel
theorem st0_byte (n q r : Nat) (hr : r < 256) : st0 (n + 1) (256 * q + r) = 256 * st0 n q + b0 r := by
  unfold st0 b0
  have e : (256 * q + r) / 2 = 256 * (q / 2) + (128 * (q % 2) + r / 2) := by omega
  rw [e]
  show ((256 * (q / 2) + (128 * (q % 2) + r / 2)) &&& (256 * m0 n + 0x55)) + ((256 * q + r) &&& (256 * m0 n + 0x55)) = _
  rw [and_byte _ _ _ _ (by omega) (by omega), and_byte _ _ _ _ hr (by omega), half_and0 _ (by omega) r hr]
  omega
theorem st1_byte (n q r : Nat) (hr : r < 256) : st1 (n + 1) (256 * q + r) = 256 * st1 n q + b1 r := by
  unfold st1 b1
  have e : (256 * q + r) / 4 = 256 * (q / 4) + (64 * (q % 4) + r / 4) := by omega
  rw [e]
  show ((256 * (q / 4) + (64 * (q % 4) + r / 4)) &&& (256 * m1 n + 0x33)) + ((256 * q + r) &&& (256 * m1 n + 0x33)) = _
  rw [and_byte _ _ _ _ (by omega) (by omega), and_byte _ _ _ _ hr (by omega), half_and1 _ (by omega) r hr]
  omega
theorem half_and2 : ∀ c, c < 5 → ∀ r, r < 256 → r / 16 ≤ 4 → r % 16 ≤ 4 → ((16 * c + r / 16 + r) &&& 0x0f) = b2 r ∧ 16 * c + r / 16 + r < 256 := by decide +kernel
theorem bytes_ok : ∀ r, r < 256 → b0 r < 256 ∧ b1 (b0 r) ≤ 68 ∧ b1 (b0 r) / 16 ≤ 4 ∧ b1 (b0 r) % 16 ≤ 4 ∧ b2 (b1 (b0 r)) = pc 8 r ∧ pc 8 r ≤ 8 := by decide +kernel
def bs : Nat → Nat → Nat | 0, _ => 0 | n + 1, x => 256 * bs n (x / 256) + pc 8 (x % 256)
def ps : Nat → Nat → Nat | 0, _ => 0 | n + 1, x => ps n (x / 256) + pc 8 (x % 256)
def r1 : Nat → Nat | 0 => 0 | n + 1 => 256 * r1 n + 1
theorem swar : ∀ n x, x < 256 ^ n → st0 n x < 256 ^ n ∧ st1 n (st0 n x) ≤ 68 * r1 n ∧ st1 n (st0 n x) % 16 ≤ 4 ∧ st2 n (st1 n (st0 n x)) = bs n x := by
  intro n
  induction n with
  | zero => intro x h; simp at h; subst h; decide
  | succ n ih =>
    intro x hx
    have hq : x / 256 < 256 ^ n := by rw [Nat.pow_succ] at hx; omega
    have hr : x % 256 < 256 := Nat.mod_lt _ (by omega)
    obtain ⟨i1, i2, i3, i4⟩ := ih (x / 256) hq
    obtain ⟨c1, c2, c3, c4, c5, c6⟩ := bytes_ok (x % 256) hr
    have e : x = 256 * (x / 256) + x % 256 := by omega
    have e0 : st0 (n + 1) x = 256 * st0 n (x / 256) + b0 (x % 256) := by
      have h := st0_byte n (x / 256) (x % 256) hr
      rw [← e] at h
      exact h
    have e1 : st1 (n + 1) (st0 (n + 1) x) = 256 * st1 n (st0 n (x / 256)) + b1 (b0 (x % 256)) := by rw [e0]; exact st1_byte n _ _ c1
    obtain ⟨Q, hQ⟩ : ∃ Q, st1 n (st0 n (x / 256)) = Q := ⟨_, rfl⟩
    rw [hQ] at e1 i2 i3 i4
    obtain ⟨R, hR⟩ : ∃ R, b1 (b0 (x % 256)) = R := ⟨_, rfl⟩
    rw [hR] at e1 c2 c3 c4 c5
    obtain ⟨d1, d2⟩ := half_and2 (Q % 16) (by omega) R (by omega) c3 c4
    have e2 : st2 (n + 1) (256 * Q + R) = 256 * st2 n Q + b2 R := by
      unfold st2
      have e3 : (256 * Q + R) / 16 + (256 * Q + R) = 256 * (Q / 16 + Q) + (16 * (Q % 16) + R / 16 + R) := by omega
      rw [e3]
      show (256 * (Q / 16 + Q) + (16 * (Q % 16) + R / 16 + R)) &&& (256 * m2 n + 0x0f) = _
      rw [and_byte _ _ _ _ d2 (by omega), d1]
    refine ⟨?_, ?_, ?_, ?_⟩
    · rw [e0, Nat.pow_succ]; omega
    · rw [e1]; simp only [r1]; omega
    · rw [e1]; omega
    · rw [e1, e2, i4, c5]; rfl
theorem pc_ps : ∀ n x, pc (8 * n) x = ps n x := by
  intro n
  induction n with
  | zero => intro x; rfl
  | succ n ih =>
    intro x
    have e : x = 2 ^ 8 * (x / 256) + x % 256 := by simp; omega
    rw [show 8 * (n + 1) = 8 + 8 * n from by omega]
    conv => lhs; rw [e]
    rw [pc_add 8 (8 * n) _ _ (by simp; omega), ih, ps, Nat.add_comm]
theorem pc8_le (x : Nat) : pc 8 (x % 256) ≤ 8 := (bytes_ok (x % 256) (by omega)).2.2.2.2.2
theorem div_of {a b c r : Nat} (h : a = b * c + r) (hr : r < b) : a / b = c := by
  subst h
  rw [Nat.mul_add_div (by omega), Nat.div_eq_of_lt hr, Nat.add_zero]
theorem fold8 (p0 p1 p2 p3 p4 p5 p6 p7 : Nat) (a0 : p0 ≤ 8) (a1 : p1 ≤ 8) (a2 : p2 ≤ 8) (a3 : p3 ≤ 8) (a4 : p4 ≤ 8) (a5 : p5 ≤ 8) (a6 : p6 ≤ 8) (a7 : p7 ≤ 8) :
    let y := 256 * (256 * (256 * (256 * (256 * (256 * (256 * (256 * 0 + p7) + p6) + p5) + p4) + p3) + p2) + p1) + p0
    y < 9223372036854775808 ∧ (y + y / 256) < 9223372036854775808 ∧ (y + y / 256) + (y + y / 256) / 65536 < 9223372036854775808 ∧
    ((y + y / 256) + (y + y / 256) / 65536) + ((y + y / 256) + (y + y / 256) / 65536) / 4294967296 < 9223372036854775808 ∧
    (((y + y / 256) + (y + y / 256) / 65536) + ((y + y / 256) + (y + y / 256) / 65536) / 4294967296) % 128 = 0 + p7 + p6 + p5 + p4 + p3 + p2 + p1 + p0 := by
  obtain ⟨Y7, h7⟩ : ∃ Y, Y = 256 * 0 + p7 := ⟨_, rfl⟩
  obtain ⟨Y6, h6⟩ : ∃ Y, Y = 256 * Y7 + p6 := ⟨_, rfl⟩
  obtain ⟨Y5, h5⟩ : ∃ Y, Y = 256 * Y6 + p5 := ⟨_, rfl⟩
  obtain ⟨Y4, h4⟩ : ∃ Y, Y = 256 * Y5 + p4 := ⟨_, rfl⟩
  obtain ⟨Y3, h3⟩ : ∃ Y, Y = 256 * Y4 + p3 := ⟨_, rfl⟩
  obtain ⟨Y2, h2⟩ : ∃ Y, Y = 256 * Y3 + p2 := ⟨_, rfl⟩
  obtain ⟨Y1, h1⟩ : ∃ Y, Y = 256 * Y2 + p1 := ⟨_, rfl⟩
  obtain ⟨Y0, h0⟩ : ∃ Y, Y = 256 * Y1 + p0 := ⟨_, rfl⟩
  intro y
  have hy : y = Y0 := by simp only [y, h0, h1, h2, h3, h4, h5, h6, h7]
  rw [hy]
  clear hy y
  have d1 : Y0 / 256 = Y1 := div_of h0 (by omega)
  have b7 : Y7 ≤ 8 := by omega
  have b6 : Y6 ≤ 2056 := by omega
  have b5 : Y5 ≤ 526344 := by omega
  have b4 : Y4 ≤ 134744072 := by omega
  have b3 : Y3 ≤ 34494482440 := by omega
  have b2 : Y2 ≤ 8830587504648 := by omega
  have b1 : Y1 ≤ 2260630401189896 := by omega
  have b0 : Y0 ≤ 578721382704613384 := by omega
  rw [d1]
  have e2 : Y0 + Y1 = 65536 * (Y2 + Y3) + (256 * (p1 + p2) + (p0 + p1)) := by rw [h0, h1, h2]; omega
  have d2 : (Y0 + Y1) / 65536 = Y2 + Y3 := div_of e2 (by omega)
  rw [d2]
  have f0 : Y0 = 4294967296 * Y4 + (16777216 * p3 + 65536 * p2 + 256 * p1 + p0) := by rw [h0, h1, h2, h3]; omega
  have f1 : Y1 = 4294967296 * Y5 + (16777216 * p4 + 65536 * p3 + 256 * p2 + p1) := by rw [h1, h2, h3, h4]; omega
  have f2 : Y2 = 4294967296 * Y6 + (16777216 * p5 + 65536 * p4 + 256 * p3 + p2) := by rw [h2, h3, h4, h5]; omega
  have f3 : Y3 = 4294967296 * Y7 + (16777216 * p6 + 65536 * p5 + 256 * p4 + p3) := by rw [h3, h4, h5, h6]; omega
  have e3 : Y0 + Y1 + (Y2 + Y3) = 4294967296 * (Y4 + Y5 + Y6 + Y7) + ((16777216 * p3 + 65536 * p2 + 256 * p1 + p0) + (16777216 * p4 + 65536 * p3 + 256 * p2 + p1) + (16777216 * p5 + 65536 * p4 + 256 * p3 + p2) + (16777216 * p6 + 65536 * p5 + 256 * p4 + p3)) := by
    conv => lhs; rw [f0, f1, f2, f3]
    omega
  have d3 : (Y0 + Y1 + (Y2 + Y3)) / 4294967296 = Y4 + Y5 + Y6 + Y7 := div_of e3 (by omega)
  rw [d3]
  have e4 : Y0 + Y1 + (Y2 + Y3) + (Y4 + Y5 + Y6 + Y7) = 128 * (2 * (Y1 + Y2 + Y3 + Y4 + Y5 + Y6 + Y7)) + (0 + p7 + p6 + p5 + p4 + p3 + p2 + p1 + p0) := by
    clear f0 f1 f2 f3 e2 e3 d1 d2 d3 b0 b1 b2 b3 b4 b5 b6 b7
    omega
  refine ⟨?_, ?_, ?_, ?_, ?_⟩
  · clear f0 f1 f2 f3 e2 e3 d1 d2 d3 h0 h1 h2 h3 h4 h5 h6 h7 e4; omega
  · clear f0 f1 f2 f3 e2 e3 d1 d2 d3 h0 h1 h2 h3 h4 h5 h6 h7 e4; omega
  · clear f0 f1 f2 f3 e2 e3 d1 d2 d3 h0 h1 h2 h3 h4 h5 h6 h7 e4; omega
  · clear f0 f1 f2 f3 e2 e3 d1 d2 d3 h0 h1 h2 h3 h4 h5 h6 h7 e4; omega
  · rw [e4, Nat.mul_add_mod]
    exact Nat.mod_eq_of_lt (by omega)
theorem fold_bytes (x : Nat) : bs 8 x < 9223372036854775808 ∧ (bs 8 x + bs 8 x / 256) < 9223372036854775808 ∧
    (bs 8 x + bs 8 x / 256) + (bs 8 x + bs 8 x / 256) / 65536 < 9223372036854775808 ∧
    ((bs 8 x + bs 8 x / 256) + (bs 8 x + bs 8 x / 256) / 65536) + ((bs 8 x + bs 8 x / 256) + (bs 8 x + bs 8 x / 256) / 65536) / 4294967296 < 9223372036854775808 ∧
    (((bs 8 x + bs 8 x / 256) + (bs 8 x + bs 8 x / 256) / 65536) + ((bs 8 x + bs 8 x / 256) + (bs 8 x + bs 8 x / 256) / 65536) / 4294967296) % 128 = pc 64 x := by
  have h := pc_ps 8 x
  rw [show 8 * 8 = 64 from rfl] at h
  rw [h]
  simp only [bs, ps]
  have a0 := pc8_le x
  have a1 := pc8_le (x / 256)
  have a2 := pc8_le (x / 256 / 256)
  have a3 := pc8_le (x / 256 / 256 / 256)
  have a4 := pc8_le (x / 256 / 256 / 256 / 256)
  have a5 := pc8_le (x / 256 / 256 / 256 / 256 / 256)
  have a6 := pc8_le (x / 256 / 256 / 256 / 256 / 256 / 256)
  have a7 := pc8_le (x / 256 / 256 / 256 / 256 / 256 / 256 / 256)
  generalize pc 8 (x % 256) = p0 at *
  generalize pc 8 (x / 256 % 256) = p1 at *
  generalize pc 8 (x / 256 / 256 % 256) = p2 at *
  generalize pc 8 (x / 256 / 256 / 256 % 256) = p3 at *
  generalize pc 8 (x / 256 / 256 / 256 / 256 % 256) = p4 at *
  generalize pc 8 (x / 256 / 256 / 256 / 256 / 256 % 256) = p5 at *
  generalize pc 8 (x / 256 / 256 / 256 / 256 / 256 / 256 % 256) = p6 at *
  generalize pc 8 (x / 256 / 256 / 256 / 256 / 256 / 256 / 256 % 256) = p7 at *
  exact fold8 p0 p1 p2 p3 p4 p5 p6 p7 a0 a1 a2 a3 a4 a5 a6 a7
theorem onesCount (x : Nat) (hx : x < 18446744073709551616) : st0 8 x < 18446744073709551616 ∧ st1 8 (st0 8 x) < 9223372036854775808 ∧ st2 8 (st1 8 (st0 8 x)) = bs 8 x := by
  obtain ⟨h1, h2, _, h4⟩ := swar 8 x (by simpa using hx)
  refine ⟨by simpa using h1, ?_, h4⟩
  simp only [r1] at h2
  omega

end Go.Proofs.YtkeeipfglmpgjaaDoor
