/-
  The signs of a text: plain lemmas, no program in sight.
-/
import Derived.Test.YtijpdbjcmnpobaaDoorNumLaw
import Derived.Test.YtijpdbjcmnpobaaDoorHstr
import Derived.Lib.Bytealg
namespace Go.Proofs.YtijpdbjcmnpobaaDoor
set_option linter.unusedSimpArgs false
set_option linter.unusedVariables false

/-- The byte at a place; 0: there is none. -/
def bz (s : List UInt8) (i : Nat) : Int := if i < s.length then ((s.getD i 0).toNat : Int) else 0
def smallZ (x : Int) : Bool := decide (97 ≤ x) && decide (x ≤ 122)
def digitZ (x : Int) : Bool := decide (48 ≤ x) && decide (x ≤ 57)
theorem bz_in {s : List UInt8} {i : Nat} (h : i < s.length) : bz s i = ((s.getD i 0).toNat : Int) := by unfold bz; rw [if_pos h]
theorem bz_out {s : List UInt8} {i : Nat} (h : s.length ≤ i) : bz s i = 0 := by unfold bz; rw [if_neg (by omega)]
theorem bz_range (s : List UInt8) (i : Nat) : 0 ≤ bz s i ∧ bz s i ≤ 255 := by
  unfold bz
  split
  · have := (s.getD i 0).toNat_lt; omega
  · omega
theorem bz_lt {s : List UInt8} {i : Nat} (h : bz s i ≠ 0) : i < s.length := by
  rcases Nat.lt_or_ge i s.length with h1 | h1
  · exact h1
  · exact absurd (bz_out h1) h
theorem digit_iff {x : Int} : digitZ x = true ↔ 48 ≤ x ∧ x ≤ 57 := by simp [digitZ]
theorem small_iff {x : Int} : smallZ x = true ↔ 97 ≤ x ∧ x ≤ 122 := by simp [smallZ]
theorem digit_lt {s : List UInt8} {i : Nat} (h : digitZ (bz s i) = true) : i < s.length := bz_lt (by have := digit_iff.1 h; omega)
theorem small_lt {s : List UInt8} {i : Nat} (h : smallZ (bz s i) = true) : i < s.length := bz_lt (by have := small_iff.1 h; omega)

/-- A number at a place, and the place behind it; or the place of what is wrong. -/
def numL (s : List UInt8) (i : Nat) : Option Int × Nat :=
  if digitZ (bz s i) = true then
    if digitZ (bz s (i + 1)) = true then
      if bz s i = 48 then (none, i + 1)
      else if digitZ (bz s (i + 2)) = true then (none, i + 2)
      else (some (10 * (bz s i - 48) + (bz s (i + 1) - 48)), i + 2)
    else (some (bz s i - 48), i + 1)
  else (none, i)
/-- What is wrong at a place. -/
def wrongV (s : List UInt8) (p : Nat) : Int × Int := if s.length ≤ p then ((s.length : Int), 5) else ((p : Int), 2)
theorem wrong_in {s : List UInt8} {p : Nat} (h : p < s.length) : wrongV s p = ((p : Int), 2) := by unfold wrongV; rw [if_neg (by omega)]
def numR (s : List UInt8) (i : Nat) (low : Int) : Except (Int × Int) (Int × Nat) :=
  match numL s i with
  | (none, p) => .error (wrongV s p)
  | (some n, q) => if n < low ∨ 20 < n then .error ((i : Int), 3) else .ok (n, q)
structure Sg where
  kind : Int
  at_ : Int
  low : Int
  high : Int
  name : List UInt8
  deriving DecidableEq
def countR (s : List UInt8) (i : Nat) : Except (Int × Int) (Sg × Nat) :=
  match numR s (i + 1) 0 with
  | .error e => .error e
  | .ok (n, p) =>
    if bz s p = 44 then
      if bz s (p + 1) = 125 then .ok (⟨5, i, n, -1, []⟩, p + 2)
      else match numR s (p + 1) (if 1 > n then 1 else n) with
        | .error e => .error e
        | .ok (m, q) => if bz s q = 125 then .ok (⟨5, i, n, m, []⟩, q + 1) else .error (wrongV s q)
    else if bz s p = 125 then (if n = 0 then .error (((i + 1 : Nat) : Int), 3) else .ok (⟨5, i, n, n, []⟩, p + 1))
    else .error (wrongV s p)
def alnumZ (x : Int) : Bool := smallZ x || digitZ x
/-- How many letters and digits stand at a place: up to f. -/
def runL (s : List UInt8) (i : Nat) : Nat → Nat
  | 0 => 0
  | f + 1 => if alnumZ (bz s i) = true then runL s (i + 1) f + 1 else 0
def nameR (s : List UInt8) (i : Nat) : Except (Int × Int) (Sg × Nat) :=
  if runL s i 13 = 13 then .error (((i + 12 : Nat) : Int), 2) else .ok (⟨1, i, 0, 0, (s.drop i).take (runL s i 13)⟩, i + runL s i 13)
def oneR (s : List UInt8) (i : Nat) : Except (Int × Int) (Sg × Nat) :=
  if smallZ (bz s i) = true then nameR s i
  else if bz s i = 123 then countR s i
  else if bz s i = 40 then .ok (⟨2, i, 0, 0, []⟩, i + 1)
  else if bz s i = 41 then .ok (⟨3, i, 0, 0, []⟩, i + 1)
  else if bz s i = 124 then .ok (⟨4, i, 0, 0, []⟩, i + 1)
  else if bz s i = 42 then .ok (⟨5, i, 0, -1, []⟩, i + 1)
  else if bz s i = 43 then .ok (⟨5, i, 1, -1, []⟩, i + 1)
  else if bz s i = 63 then .ok (⟨5, i, 0, 1, []⟩, i + 1)
  else .error (wrongV s i)
def beginZ (x : Int) : Bool := smallZ x || decide (x = 40) || decide (x = 41) || decide (x = 124) || decide (x = 42) || decide (x = 43) || decide (x = 63) || decide (x = 123)
/-- The signs, from a place on, behind those that have been read. -/
def lexR (s : List UInt8) : Nat → Nat → List Sg → Except (Int × Int) (List Sg)
  | 0, _, out => .ok out
  | f + 1, i, out =>
    if s.length ≤ i then .ok out
    else if bz s i = 32 then lexR s f (i + 1) out
    else if out.length = 200 then (if beginZ (bz s i) = true then .error ((i : Int), 4) else .error (wrongV s i))
    else match oneR s i with
      | .error e => .error e
      | .ok (x, q) => lexR s f q (out ++ [x])
def lexV (s : List UInt8) : Except (Int × Int) (List Sg) := lexR s s.length 0 []

theorem atoi1 : ∀ n : Fin 10, (match Go.Lib.atoiAll [UInt8.ofNat (48 + n.val)] with | .ok v => v == (n.val : Int) | _ => false) = true := by decide +kernel
theorem atoi2 : ∀ n m : Fin 10, (match Go.Lib.atoiAll [UInt8.ofNat (48 + n.val), UInt8.ofNat (48 + m.val)] with | .ok v => v == (10 * n.val + m.val : Int) | _ => false) = true := by decide +kernel
theorem atoi_one {a : UInt8} (h : digitZ (a.toNat : Int) = true) : Go.Lib.atoiAll [a] = .ok ((a.toNat : Int) - 48) := by
  have hd := digit_iff.1 h
  have e : a = UInt8.ofNat (48 + (a.toNat - 48)) := by
    rw [show 48 + (a.toNat - 48) = a.toNat by omega]; simp
  have := atoi1 ⟨a.toNat - 48, by omega⟩
  simp only [← e] at this
  split at this
  · rename_i v hv
    rw [hv]; simp at this; rw [this]; congr 1; omega
  · cases this
theorem atoi_two {a b : UInt8} (h : digitZ (a.toNat : Int) = true) (h' : digitZ (b.toNat : Int) = true) : Go.Lib.atoiAll [a, b] = .ok (10 * ((a.toNat : Int) - 48) + ((b.toNat : Int) - 48)) := by
  have hd := digit_iff.1 h
  have hd' := digit_iff.1 h'
  have e : a = UInt8.ofNat (48 + (a.toNat - 48)) := by
    rw [show 48 + (a.toNat - 48) = a.toNat by omega]; simp
  have e' : b = UInt8.ofNat (48 + (b.toNat - 48)) := by
    rw [show 48 + (b.toNat - 48) = b.toNat by omega]; simp
  have := atoi2 ⟨a.toNat - 48, by omega⟩ ⟨b.toNat - 48, by omega⟩
  simp only [← e, ← e'] at this
  split at this
  · rename_i v hv
    rw [hv]; simp at this; rw [this]; congr 1; omega
  · cases this
theorem cut_one {s : List UInt8} {i : Nat} (h : i < s.length) : (s.drop i).take 1 = [s.getD i 0] := by
  rw [List.getD_eq_getElem?_getD, List.getElem?_eq_getElem h, List.drop_eq_getElem_cons h]
  rfl
theorem cut_two {s : List UInt8} {i : Nat} (h : i + 1 < s.length) : (s.drop i).take 2 = [s.getD i 0, s.getD (i + 1) 0] := by
  rw [List.getD_eq_getElem?_getD, List.getD_eq_getElem?_getD, List.getElem?_eq_getElem h, List.getElem?_eq_getElem (by omega : i < s.length), List.drop_eq_getElem_cons (by omega : i < s.length), List.drop_eq_getElem_cons h]
  rfl

theorem num_stop {s : List UInt8} {i k : Nat} (hk : k ≤ 2) (h0 : 0 < k → digitZ (bz s i) = true) (h1 : 1 < k → digitZ (bz s (i + 1)) = true ∧ bz s i ≠ 48) (hd : digitZ (bz s (i + k)) = true) (hc : k = 2 ∨ (0 < k ∧ bz s i = 48)) : numL s i = (none, i + k) := by
  unfold numL
  match k, hk, h0, h1, hd, hc with
  | 0, _, _, _, _, hc => omega
  | 1, _, h0, _, hd, hc =>
    rw [if_pos (h0 (by omega)), if_pos hd, if_pos (by omega)]
  | 2, _, h0, h1, hd, hc =>
    rw [if_pos (h0 (by omega)), if_pos (h1 (by omega)).1, if_neg (h1 (by omega)).2, if_pos hd]
theorem num_zero {s : List UInt8} {i : Nat} (hd : digitZ (bz s i) = false) : numL s i = (none, i) := by
  unfold numL
  rw [if_neg (by rw [hd]; decide)]
theorem num_val {s : List UInt8} {i k : Nat} (hk : k ≤ 2) (hk0 : k ≠ 0) (h0 : 0 < k → digitZ (bz s i) = true) (h1 : 1 < k → digitZ (bz s (i + 1)) = true ∧ bz s i ≠ 48) (hd : digitZ (bz s (i + k)) = false) :
    ∃ v, Go.Lib.atoiAll ((s.drop i).take (i + k - i)) = .ok v ∧ numL s i = (some v, i + k) ∧ 0 ≤ v ∧ v ≤ 99 := by
  have hd' : ¬ digitZ (bz s (i + k)) = true := by rw [hd]; decide
  match k, hk, hk0, h0, h1, hd' with
  | 1, _, _, h0, _, hd' =>
    have h := h0 (by omega)
    have hlt := digit_lt h
    have hdi := digit_iff.1 h
    refine ⟨bz s i - 48, ?_, ?_, by omega, by omega⟩
    · rw [show i + 1 - i = 1 by omega, cut_one hlt]
      rw [bz_in hlt] at h ⊢
      exact atoi_one h
    · unfold numL
      rw [if_pos h, if_neg hd']
  | 2, _, _, h0, h1, hd' =>
    have h := h0 (by omega)
    have h2 := h1 (by omega)
    have hlt := digit_lt h2.1
    have hdi := digit_iff.1 h
    have hdj := digit_iff.1 h2.1
    refine ⟨10 * (bz s i - 48) + (bz s (i + 1) - 48), ?_, ?_, by omega, by omega⟩
    · rw [show i + 2 - i = 2 by omega, cut_two hlt]
      rw [bz_in (by omega)] at h ⊢
      have h3 := h2.1
      rw [bz_in hlt] at h3 ⊢
      exact atoi_two h h3
    · unfold numL
      rw [if_pos h, if_pos h2.1, if_neg h2.2, if_neg hd']
theorem numR_err {s : List UInt8} {i p : Nat} {low : Int} (h : numL s i = (none, p)) : numR s i low = .error (wrongV s p) := by unfold numR; rw [h]
theorem numR_range {s : List UInt8} {i q : Nat} {low v : Int} (h : numL s i = (some v, q)) (hv : v < low ∨ 20 < v) : numR s i low = .error ((i : Int), 3) := by unfold numR; rw [h]; simp only; rw [if_pos hv]
theorem numR_ok {s : List UInt8} {i q : Nat} {low v : Int} (h : numL s i = (some v, q)) (hv : ¬ (v < low ∨ 20 < v)) : numR s i low = .ok (v, q) := by unfold numR; rw [h]; simp only; rw [if_neg hv]
theorem numL_le {s : List UInt8} {i q : Nat} {o : Option Int} (hi : i ≤ s.length) (h : numL s i = (o, q)) : q ≤ s.length ∧ i ≤ q ∧ (∀ v, o = some v → i < q ∧ 0 ≤ v) := by
  unfold numL at h
  split at h
  · rename_i h1
    have := digit_lt h1
    have d1 := digit_iff.1 h1
    split at h
    · rename_i h2
      have := digit_lt h2
      have d2 := digit_iff.1 h2
      split at h
      · injection h with h h'; subst h; subst h'; exact ⟨by omega, by omega, fun v hv => by cases hv⟩
      · split at h
        · rename_i h3
          have := digit_lt h3
          injection h with h h'; subst h; subst h'; exact ⟨by omega, by omega, fun v hv => by cases hv⟩
        · injection h with h h'; subst h; subst h'; exact ⟨by omega, by omega, fun v hv => by injection hv with hv; omega⟩
    · injection h with h h'; subst h; subst h'; exact ⟨by omega, by omega, fun v hv => by injection hv with hv; omega⟩
  · injection h with h h'; subst h; subst h'; exact ⟨by omega, by omega, fun v hv => by cases hv⟩
theorem numR_le {s : List UInt8} {i q : Nat} {low v : Int} (hi : i ≤ s.length) (h : numR s i low = .ok (v, q)) : q ≤ s.length ∧ i < q ∧ low ≤ v ∧ v ≤ 20 := by
  unfold numR at h
  split at h
  · cases h
  · rename_i n q' hn
    split at h
    · cases h
    · rename_i hv
      injection h with h; injection h with h1 h2; subst h1; subst h2
      have := numL_le hi hn
      have h3 := this.2.2 _ rfl
      refine ⟨this.1, h3.1, ?_, ?_⟩ <;> omega
theorem num_next {s : List UInt8} {i k : Nat} (hk : k ≤ 2) (h0 : 0 < k → digitZ (bz s i) = true) (h1 : 1 < k → digitZ (bz s (i + 1)) = true ∧ bz s i ≠ 48) (hd : digitZ (bz s (i + k)) = true) (hc : ¬ (k = 2 ∨ (0 < k ∧ bz s i = 48))) :
    k + 1 ≤ 2 ∧ i + (k + 1) ≤ s.length ∧ (0 < k + 1 → digitZ (bz s i) = true) ∧ (1 < k + 1 → digitZ (bz s (i + 1)) = true ∧ bz s i ≠ 48) := by
  have := digit_lt hd
  have hk2 : k < 2 := by omega
  match k, hk2, h0, h1, hd, hc with
  | 0, _, h0, h1, hd, hc => exact ⟨by omega, by omega, fun _ => hd, fun h => absurd h (by omega)⟩
  | 1, _, h0, h1, hd, hc => exact ⟨by omega, by omega, fun _ => h0 (by omega), fun _ => ⟨hd, fun h => hc (.inr ⟨by omega, h⟩)⟩⟩
theorem run_eq {s : List UInt8} : ∀ {f i k : Nat}, k ≤ f → (∀ j, j < k → alnumZ (bz s (i + j)) = true) → (k < f → alnumZ (bz s (i + k)) = false) → runL s i f = k
  | 0, i, k, hk, _, _ => by simp [runL]; omega
  | f + 1, i, 0, _, _, h2 => by
    have := h2 (by omega)
    rw [Nat.add_zero] at this
    simp [runL, this]
  | f + 1, i, k + 1, hk, h1, h2 => by
    have h0 := h1 0 (by omega)
    rw [Nat.add_zero] at h0
    have := run_eq (s := s) (f := f) (i := i + 1) (k := k) (by omega) (fun j hj => by rw [show i + 1 + j = i + (j + 1) by omega]; exact h1 (j + 1) (by omega)) (fun hkf => by rw [show i + 1 + k = i + (k + 1) by omega]; exact h2 (by omega))
    simp [runL, h0, this]
theorem name_long {s : List UInt8} {i : Nat} (h : ∀ j, j < 13 → alnumZ (bz s (i + j)) = true) : nameR s i = .error (((i + 12 : Nat) : Int), 2) := by
  unfold nameR
  rw [if_pos (run_eq (Nat.le_refl _) h (fun h => absurd h (by omega)))]
theorem name_ok {s : List UInt8} {i k : Nat} (hk : k ≤ 12) (h : ∀ j, j < k → alnumZ (bz s (i + j)) = true) (h2 : alnumZ (bz s (i + k)) = false) : nameR s i = .ok (⟨1, i, 0, 0, (s.drop i).take (i + k - i)⟩, i + k) := by
  unfold nameR
  have := run_eq (f := 13) (by omega) h (fun _ => h2)
  rw [this, if_neg (by omega), show i + k - i = k by omega]
def chrZ (k : Nat) : Int := match k with | 0 => 40 | 1 => 41 | 2 => 124 | 3 => 42 | 4 => 43 | _ => 63
theorem chr_range (k : Nat) : 40 ≤ chrZ k ∧ chrZ k ≤ 124 := by
  unfold chrZ; split <;> omega
theorem one_none {s : List UInt8} {i : Nat} (h0 : smallZ (bz s i) = false) (h1 : bz s i ≠ 123) (h : ∀ j, j < 6 → bz s i ≠ chrZ j) : oneR s i = .error (wrongV s i) := by
  unfold oneR
  rw [if_neg (by rw [h0]; decide), if_neg h1, if_neg (show ¬ bz s i = 40 from h 0 (by omega)), if_neg (show ¬ bz s i = 41 from h 1 (by omega)), if_neg (show ¬ bz s i = 124 from h 2 (by omega)), if_neg (show ¬ bz s i = 42 from h 3 (by omega)), if_neg (show ¬ bz s i = 43 from h 4 (by omega)), if_neg (show ¬ bz s i = 63 from h 5 (by omega))]
theorem one_42 {s : List UInt8} {i : Nat} (h : bz s i = 42) : oneR s i = .ok (⟨5, i, 0, -1, []⟩, i + 1) := by
  unfold oneR; rw [h]; rfl
theorem one_43 {s : List UInt8} {i : Nat} (h : bz s i = 43) : oneR s i = .ok (⟨5, i, 1, -1, []⟩, i + 1) := by
  unfold oneR; rw [h]; rfl
theorem one_63 {s : List UInt8} {i : Nat} (h : bz s i = 63) : oneR s i = .ok (⟨5, i, 0, 1, []⟩, i + 1) := by
  unfold oneR; rw [h]; rfl
theorem one_par {s : List UInt8} {i k : Nat} (hk : k < 6) (h : bz s i = chrZ k) (h1 : chrZ k ≠ 42) (h2 : chrZ k ≠ 43) (h3 : chrZ k ≠ 63) : oneR s i = .ok (⟨2 + k, i, 0, 0, []⟩, i + 1) := by
  match k, hk, h, h1, h2, h3 with
  | 0, _, h, _, _, _ => unfold oneR; rw [h]; rfl
  | 1, _, h, _, _, _ => unfold oneR; rw [h]; rfl
  | 2, _, h, _, _, _ => unfold oneR; rw [h]; rfl
  | 3, _, _, h, _, _ => exact absurd rfl h
  | 4, _, _, _, h, _ => exact absurd rfl h
  | 5, _, _, _, _, h => exact absurd rfl h
theorem name_le {s : List UInt8} : ∀ {f i : Nat}, i ≤ s.length → i + runL s i f ≤ s.length
  | 0, i, h => by simp [runL]; exact h
  | f + 1, i, h => by
    unfold runL
    split
    · rename_i ha
      have hlt : i < s.length := bz_lt (fun h0 => by rw [h0] at ha; exact absurd ha (by decide))
      have := name_le (s := s) (f := f) (i := i + 1) hlt
      omega
    · omega
theorem oneR_le {s : List UInt8} {i q : Nat} {x : Sg} (h : oneR s i = .ok (x, q)) : i < q ∧ q ≤ s.length := by
  have key : ∀ {c : Int} {y : Sg}, bz s i = c → c ≠ 0 → (Except.ok (y, i + 1) : Except (Int × Int) (Sg × Nat)) = .ok (x, q) → i < q ∧ q ≤ s.length := by
    intro c y h1 h2 h3
    injection h3 with h3; injection h3 with _ h3
    have := bz_lt (s := s) (i := i) (by rw [h1]; exact h2)
    omega
  unfold oneR at h
  split at h
  · rename_i hs
    have hlt := small_lt hs
    unfold nameR at h
    split at h
    · cases h
    · injection h with h; injection h with _ h
      have h1 : 0 < runL s i 13 := by
        have : alnumZ (bz s i) = true := by unfold alnumZ; rw [hs]; rfl
        unfold runL; rw [if_pos this]; omega
      have := name_le (s := s) (f := 13) (i := i) (by omega)
      omega
  split at h
  · rename_i hc
    have hlt := bz_lt (s := s) (i := i) (by omega)
    unfold countR at h
    split at h
    · cases h
    · rename_i n p hn
      have hp := numR_le (by omega) hn
      split at h
      · rename_i h44
        have hl2 := bz_lt (s := s) (i := p) (by omega)
        split at h
        · rename_i h125
          have := bz_lt (s := s) (i := p + 1) (by omega)
          injection h with h; injection h with _ h; omega
        · split at h
          · cases h
          · rename_i m q' hm
            have hq := numR_le (by omega) hm
            split at h
            · rename_i h125
              have := bz_lt (s := s) (i := q') (by omega)
              injection h with h; injection h with _ h; omega
            · cases h
      · split at h
        · rename_i h125
          have := bz_lt (s := s) (i := p) (by omega)
          split at h
          · cases h
          · injection h with h; injection h with _ h; omega
        · cases h
  split at h
  · rename_i hc; exact key hc (by decide) h
  split at h
  · rename_i hc; exact key hc (by decide) h
  split at h
  · rename_i hc; exact key hc (by decide) h
  split at h
  · rename_i hc; exact key hc (by decide) h
  split at h
  · rename_i hc; exact key hc (by decide) h
  split at h
  · rename_i hc; exact key hc (by decide) h
  cases h
theorem lexR_fuel {s : List UInt8} : ∀ {f f' i : Nat} {out : List Sg}, s.length - i ≤ f → s.length - i ≤ f' → lexR s f i out = lexR s f' i out
  | 0, 0, _, _, _, _ => rfl
  | 0, f' + 1, i, out, h, h' => by simp only [lexR]; rw [if_pos (by omega)]
  | f + 1, 0, i, out, h, h' => by simp only [lexR]; rw [if_pos (by omega)]
  | f + 1, f' + 1, i, out, h, h' => by
    simp only [lexR]
    by_cases h1 : s.length ≤ i
    · rw [if_pos h1, if_pos h1]
    · rw [if_neg h1, if_neg h1]
      by_cases h2 : bz s i = 32
      · rw [if_pos h2, if_pos h2]; exact lexR_fuel (by omega) (by omega)
      · rw [if_neg h2, if_neg h2]
        by_cases h3 : out.length = 200
        · rw [if_pos h3, if_pos h3]
        · rw [if_neg h3, if_neg h3]
          cases hx : oneR s i with
          | error e => rfl
          | ok y =>
            obtain ⟨x, q⟩ := y
            have := oneR_le hx
            exact lexR_fuel (by omega) (by omega)
/-- The signs, from a place on. -/
def lexAt (s : List UInt8) (i : Nat) (out : List Sg) : Except (Int × Int) (List Sg) := lexR s (s.length - i) i out
theorem lexV_at (s : List UInt8) : lexAt s 0 [] = lexV s := rfl
theorem lexAt_end {s : List UInt8} {i : Nat} {out : List Sg} (h : s.length ≤ i) : lexAt s i out = .ok out := by
  unfold lexAt; rw [show s.length - i = 0 by omega]; rfl
theorem lexAt_step {s : List UInt8} {i : Nat} {out : List Sg} (h : i < s.length) : lexAt s i out = if bz s i = 32 then lexAt s (i + 1) out
    else if out.length = 200 then (if beginZ (bz s i) = true then .error ((i : Int), 4) else .error (wrongV s i))
    else match oneR s i with
      | .error e => .error e
      | .ok (x, q) => lexAt s q (out ++ [x]) := by
  unfold lexAt
  rw [show s.length - i = (s.length - i - 1) + 1 by omega]
  simp only [lexR]
  rw [if_neg (by omega)]
  by_cases h2 : bz s i = 32
  · rw [if_pos h2, if_pos h2]; exact lexR_fuel (by omega) (by omega)
  · rw [if_neg h2, if_neg h2]
    by_cases h3 : out.length = 200
    · rw [if_pos h3, if_pos h3]
    · rw [if_neg h3, if_neg h3]
      cases hx : oneR s i with
      | error e => rfl
      | ok y =>
        obtain ⟨x, q⟩ := y
        have := oneR_le hx
        exact lexR_fuel (by omega) (by omega)
theorem begin_idx : ∀ n : Fin 256, (decide (Go.Lib.indexByte [40, 41, 124, 42, 43, 63, 123] (UInt8.ofNat n.val) < 0)) = !(decide ((n.val : Int) = 40) || decide ((n.val : Int) = 41) || decide ((n.val : Int) = 124) || decide ((n.val : Int) = 42) || decide ((n.val : Int) = 43) || decide ((n.val : Int) = 63) || decide ((n.val : Int) = 123)) := by decide +kernel
theorem begin_iff (c : UInt8) : (!smallZ (c.toNat : Int) && decide (Go.Lib.indexByte [40, 41, 124, 42, 43, 63, 123] c < 0)) = !beginZ (c.toNat : Int) := by
  have := begin_idx ⟨c.toNat, c.toNat_lt⟩
  simp only [UInt8.ofNat_toNat] at this
  rw [this]
  unfold beginZ
  simp only [Bool.not_or, Bool.and_assoc]
theorem lexAt_sp {s : List UInt8} {i : Nat} {out : List Sg} (h : i < s.length) (h0 : bz s i = 32) : lexAt s i out = lexAt s (i + 1) out := by
  rw [lexAt_step h, if_pos h0]
theorem lexAt_odd {s : List UInt8} {i : Nat} {out : List Sg} (h : i < s.length) (h0 : ¬ bz s i = 32) (h1 : out.length = 200) (h2 : beginZ (bz s i) = false) : lexAt s i out = .error (wrongV s i) := by
  rw [lexAt_step h, if_neg h0, if_pos h1, if_neg (by rw [h2]; decide)]
theorem lexAt_long {s : List UInt8} {i : Nat} {out : List Sg} (h : i < s.length) (h0 : ¬ bz s i = 32) (h1 : out.length = 200) (h2 : beginZ (bz s i) = true) : lexAt s i out = .error ((i : Int), 4) := by
  rw [lexAt_step h, if_neg h0, if_pos h1, if_pos h2]
theorem lexAt_err {s : List UInt8} {i : Nat} {out : List Sg} {e : Int × Int} (h : i < s.length) (h0 : ¬ bz s i = 32) (h1 : ¬ out.length = 200) (h2 : oneR s i = .error e) : lexAt s i out = .error e := by
  rw [lexAt_step h, if_neg h0, if_neg h1, h2]
theorem lexAt_go {s : List UInt8} {i q : Nat} {x : Sg} {out : List Sg} (h : i < s.length) (h0 : ¬ bz s i = 32) (h1 : ¬ out.length = 200) (h2 : oneR s i = .ok (x, q)) : lexAt s i out = lexAt s q (out ++ [x]) := by
  rw [lexAt_step h, if_neg h0, if_neg h1, h2]
theorem bz_dig (s : List UInt8) (i : Nat) : digitZ (bz s i) = (decide ((i : Int) < s.length) && digitZ ((s.getD i 0).toNat : Int)) := by
  rcases Nat.lt_or_ge i s.length with h | h
  · rw [bz_in h, show decide ((i : Int) < s.length) = true from decide_eq_true (by omega), Bool.true_and]
  · rw [bz_out h, show decide ((i : Int) < s.length) = false from decide_eq_false (by omega), Bool.false_and]; decide
theorem bz_small (s : List UInt8) (i : Nat) : smallZ (bz s i) = (decide ((i : Int) < s.length) && smallZ ((s.getD i 0).toNat : Int)) := by
  rcases Nat.lt_or_ge i s.length with h | h
  · rw [bz_in h, show decide ((i : Int) < s.length) = true from decide_eq_true (by omega), Bool.true_and]
  · rw [bz_out h, show decide ((i : Int) < s.length) = false from decide_eq_false (by omega), Bool.false_and]; decide
theorem bz_ndig (s : List UInt8) (i : Nat) : (decide ((s.length : Int) ≤ i) || !digitZ ((s.getD i 0).toNat : Int)) = !digitZ (bz s i) := by
  rcases Nat.lt_or_ge i s.length with h | h
  · rw [bz_in h, show decide ((s.length : Int) ≤ i) = false from decide_eq_false (by omega), Bool.false_or]
  · rw [bz_out h, show decide ((s.length : Int) ≤ i) = true from decide_eq_true (by omega), Bool.true_or]; decide
theorem bz_eqb (s : List UInt8) (i : Nat) {c : Int} (hc : c ≠ 0) : (decide ((i : Int) < s.length) && ((s.getD i 0).toNat : Int) == c) = decide (bz s i = c) := by
  rcases Nat.lt_or_ge i s.length with h | h
  · rw [bz_in h, show decide ((i : Int) < s.length) = true from decide_eq_true (by omega), Bool.true_and]; rfl
  · rw [bz_out h, show decide ((i : Int) < s.length) = false from decide_eq_false (by omega), Bool.false_and]
    exact (decide_eq_false (fun h => hc h.symm)).symm
theorem bz_neb (s : List UInt8) (i : Nat) {c : Int} (hc : c ≠ 0) : (decide ((s.length : Int) ≤ i) || ((s.getD i 0).toNat : Int) != c) = !decide (bz s i = c) := by
  rcases Nat.lt_or_ge i s.length with h | h
  · rw [bz_in h, show decide ((s.length : Int) ≤ i) = false from decide_eq_false (by omega), Bool.false_or]; rfl
  · rw [bz_out h, show decide ((s.length : Int) ≤ i) = true from decide_eq_true (by omega), Bool.true_or]
    rw [decide_eq_false (fun h => hc h.symm)]; rfl
theorem toNat_succ (i : Nat) : ((i : Int) + 1).toNat = i + 1 := by omega
/-- A count, as the document has it: the sign, a place, what is wrong. -/
def countF (s : List UInt8) (i : Nat) : Sg × Int × Int :=
  match numL s (i + 1) with
  | (none, p) => (⟨5, i, 0, 0, []⟩, wrongV s p)
  | (some n, p) =>
    if 20 < n ∨ (n = 0 ∧ bz s p = 125) then (⟨5, i, 0, 0, []⟩, ((i + 1 : Nat) : Int), 3)
    else if bz s p = 44 then
      if bz s (p + 1) = 125 then (⟨5, i, n, -1, []⟩, ((p + 2 : Nat) : Int), 0)
      else match numL s (p + 1) with
        | (none, q) => (⟨5, i, n, -1, []⟩, wrongV s q)
        | (some m, q) => if m < 1 ∨ 20 < m ∨ m < n then (⟨5, i, n, -1, []⟩, ((p + 1 : Nat) : Int), 3)
          else if bz s q = 125 then (⟨5, i, n, m, []⟩, ((q + 1 : Nat) : Int), 0) else (⟨5, i, n, m, []⟩, wrongV s q)
    else if bz s p = 125 then (⟨5, i, n, n, []⟩, ((p + 1 : Nat) : Int), 0)
    else (⟨5, i, n, n, []⟩, wrongV s p)
def sgZ : Sg := ⟨0, 0, 0, 0, []⟩
def nameF (s : List UInt8) (i : Nat) : Sg × Int × Int :=
  if runL s i 13 = 13 then (sgZ, ((i + 12 : Nat) : Int), 2) else (⟨1, i, 0, 0, (s.drop i).take (runL s i 13)⟩, ((i + runL s i 13 : Nat) : Int), 0)
def oneF (s : List UInt8) (i : Nat) : Sg × Int × Int :=
  if smallZ (bz s i) = true then nameF s i
  else if bz s i = 40 then (⟨2, i, 0, 0, []⟩, ((i + 1 : Nat) : Int), 0)
  else if bz s i = 41 then (⟨3, i, 0, 0, []⟩, ((i + 1 : Nat) : Int), 0)
  else if bz s i = 124 then (⟨4, i, 0, 0, []⟩, ((i + 1 : Nat) : Int), 0)
  else if bz s i = 42 then (⟨5, i, 0, -1, []⟩, ((i + 1 : Nat) : Int), 0)
  else if bz s i = 43 then (⟨5, i, 1, -1, []⟩, ((i + 1 : Nat) : Int), 0)
  else if bz s i = 63 then (⟨5, i, 0, 1, []⟩, ((i + 1 : Nat) : Int), 0)
  else if bz s i = 123 then countF s i
  else (sgZ, (i : Int), 2)
def SameF (r : Except (Int × Int) (Sg × Nat)) (f : Sg × Int × Int) : Prop := match r with
  | .ok (x, q) => f = (x, (q : Int), 0)
  | .error e => f.2 = e ∧ e.2 ≠ 0
theorem wrong_ne (s : List UInt8) (p : Nat) : (wrongV s p).2 ≠ 0 := by unfold wrongV; split <;> simp
theorem count_same (s : List UInt8) (i : Nat) (hi : i < s.length) : SameF (countR s i) (countF s i) := by
  unfold countR countF
  cases hn : numL s (i + 1) with
  | mk o p =>
    cases o with
    | none => rw [numR_err hn]; exact ⟨rfl, wrong_ne s p⟩
    | some n =>
      have h0 := (numL_le (by omega) hn).2.2 n rfl
      by_cases h20 : 20 < n
      · rw [numR_range hn (.inr h20)]
        simp only
        rw [if_pos (.inl h20)]
        exact ⟨rfl, by simp⟩
      · rw [numR_ok hn (by omega)]
        simp only
        by_cases h44 : bz s p = 44
        · rw [if_pos h44, if_neg (show ¬ (20 < n ∨ n = 0 ∧ bz s p = 125) by omega), if_pos h44]
          by_cases h125 : bz s (p + 1) = 125
          · rw [if_pos h125, if_pos h125]; rfl
          · rw [if_neg h125, if_neg h125]
            have hlt := bz_lt (s := s) (i := p) (by omega)
            cases hm : numL s (p + 1) with
            | mk o2 q =>
              cases o2 with
              | none => rw [numR_err hm]; exact ⟨rfl, wrong_ne s q⟩
              | some m =>
                simp only
                by_cases hr : m < (if 1 > n then 1 else n) ∨ 20 < m
                · rw [numR_range hm hr]
                  rw [if_pos (show m < 1 ∨ 20 < m ∨ m < n by split at hr <;> omega)]
                  exact ⟨rfl, by simp⟩
                · rw [numR_ok hm hr]
                  rw [if_neg (show ¬ (m < 1 ∨ 20 < m ∨ m < n) by split at hr <;> omega)]
                  simp only
                  by_cases h5 : bz s q = 125
                  · rw [if_pos h5, if_pos h5]; rfl
                  · rw [if_neg h5, if_neg h5]; exact ⟨rfl, wrong_ne s q⟩
        · rw [if_neg h44]
          by_cases h125 : bz s p = 125
          · by_cases hz : n = 0
            · rw [if_pos h125, if_pos hz, if_pos (.inr ⟨hz, h125⟩)]; exact ⟨rfl, by simp⟩
            · rw [if_pos h125, if_neg hz, if_neg (show ¬ (20 < n ∨ n = 0 ∧ bz s p = 125) by omega), if_neg h44, if_pos h125]; rfl
          · rw [if_neg h125, if_neg (show ¬ (20 < n ∨ n = 0 ∧ bz s p = 125) by omega), if_neg h44, if_neg h125]; exact ⟨rfl, wrong_ne s p⟩
theorem one_same (s : List UInt8) (i : Nat) (hi : i < s.length) : SameF (oneR s i) (oneF s i) := by
  unfold oneR oneF
  by_cases h : smallZ (bz s i) = true
  · rw [if_pos h, if_pos h]
    unfold nameR nameF
    split
    · exact ⟨rfl, by simp⟩
    · rfl
  rw [if_neg h, if_neg h]
  by_cases h1 : bz s i = 123
  · rw [if_pos h1, if_neg (show ¬ bz s i = 40 by omega), if_neg (show ¬ bz s i = 41 by omega), if_neg (show ¬ bz s i = 124 by omega), if_neg (show ¬ bz s i = 42 by omega), if_neg (show ¬ bz s i = 43 by omega), if_neg (show ¬ bz s i = 63 by omega), if_pos h1]
    exact count_same s i hi
  rw [if_neg h1]
  by_cases h2 : bz s i = 40
  · rw [if_pos h2, if_pos h2]; rfl
  rw [if_neg h2, if_neg h2]
  by_cases h3 : bz s i = 41
  · rw [if_pos h3, if_pos h3]; rfl
  rw [if_neg h3, if_neg h3]
  by_cases h4 : bz s i = 124
  · rw [if_pos h4, if_pos h4]; rfl
  rw [if_neg h4, if_neg h4]
  by_cases h5 : bz s i = 42
  · rw [if_pos h5, if_pos h5]; rfl
  rw [if_neg h5, if_neg h5]
  by_cases h6 : bz s i = 43
  · rw [if_pos h6, if_pos h6]; rfl
  rw [if_neg h6, if_neg h6]
  by_cases h7 : bz s i = 63
  · rw [if_pos h7, if_pos h7]; rfl
  rw [if_neg h7, if_neg h7, if_neg h1]
  rw [wrong_in hi]
  exact ⟨rfl, by simp⟩
theorem cnt_bad (s : List UInt8) (p : Nat) (n : Int) : (decide (20 < n) || ((n == 0 && decide ((p : Int) < s.length)) && ((s.getD p 0).toNat : Int) == 125)) = decide (20 < n ∨ (n = 0 ∧ bz s p = 125)) := by
  rw [Bool.and_assoc, bz_eqb s p (by decide), Bool.decide_or, Bool.decide_and]
  rfl
theorem bz_alnum (s : List UInt8) (i : Nat) : (decide ((i : Int) < s.length) && (smallZ ((s.getD i 0).toNat : Int) || digitZ ((s.getD i 0).toNat : Int))) = alnumZ (bz s i) := by
  unfold alnumZ
  rw [bz_small, bz_dig, Bool.and_or_distrib_left]
theorem one_nobegin {s : List UInt8} {i : Nat} (h : beginZ (bz s i) = false) : oneR s i = .error (wrongV s i) := by
  unfold beginZ at h
  simp only [Bool.or_eq_false_iff, decide_eq_false_iff_not] at h
  obtain ⟨⟨⟨⟨⟨⟨⟨h0, h1⟩, h2⟩, h3⟩, h4⟩, h5⟩, h6⟩, h7⟩ := h
  unfold oneR
  rw [if_neg (by rw [h0]; decide), if_neg h7, if_neg h1, if_neg h2, if_neg h3, if_neg h4, if_neg h5, if_neg h6]
end Go.Proofs.YtijpdbjcmnpobaaDoor
