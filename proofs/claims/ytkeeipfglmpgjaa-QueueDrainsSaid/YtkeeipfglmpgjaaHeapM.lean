/-
  Heaps as plain maths: what up and down keep, and that the root stands ahead of all.
-/
import Derived.Test.YtkeeipfglmpgjaaBase
namespace Go.Proofs.Ytkeeipfglmpgjaa
set_option linter.unusedSimpArgs false
set_option linter.unusedVariables false

/-- A thing that waits. -/
structure One where
  key : Int
  came : Int
  thing : Int
/-- Does one stand ahead of another one? -/
def lessB (a b : One) : Bool := if a.key = b.key then decide (a.came < b.came) else decide (a.key < b.key)
theorem lessB_iff (a b : One) : lessB a b = true ↔ a.key < b.key ∨ (a.key = b.key ∧ a.came < b.came) := by
  unfold lessB
  by_cases h : a.key = b.key
  · rw [if_pos h]; simp [h]
  · rw [if_neg h]; simp [h]
theorem lessB_false (a b : One) : lessB a b = false ↔ b.key < a.key ∨ (a.key = b.key ∧ b.came ≤ a.came) := by
  rw [← Bool.not_eq_true, lessB_iff]; omega
theorem less_asym {a b : One} (h : lessB a b = true) : lessB b a = false := by rw [lessB_iff] at h; rw [lessB_false]; omega
theorem less_tf {a b c : One} (h : lessB a b = false) (k : lessB c b = true) : lessB a c = false := by rw [lessB_false] at h ⊢; rw [lessB_iff] at k; omega
theorem less_ff {a b c : One} (h : lessB a b = false) (k : lessB b c = false) : lessB a c = false := by rw [lessB_false] at h k ⊢; omega
theorem less_self (a : One) : lessB a a = false := by rw [lessB_false]; omega

def swapF (g : Nat → One) (i j : Nat) (k : Nat) : One := if k = i then g j else if k = j then g i else g k
theorem swapF_i (g : Nat → One) (i j : Nat) : swapF g i j i = g j := by simp [swapF]
theorem swapF_j (g : Nat → One) (i j : Nat) : swapF g i j j = g i := by unfold swapF; split; rename_i h; rw [h]; simp
theorem swapF_o (g : Nat → One) (i j k : Nat) (h1 : k ≠ i) (h2 : k ≠ j) : swapF g i j k = g k := by simp [swapF, h1, h2]

def HeapN (g : Nat → One) (n : Nat) : Prop := ∀ k, 0 < k → k < n → lessB (g k) (g ((k - 1) / 2)) = false
def UpInv (g : Nat → One) (n j : Nat) : Prop := (∀ k, 0 < k → k < n → k ≠ j → lessB (g k) (g ((k - 1) / 2)) = false) ∧ (0 < j → ∀ k, 0 < k → k < n → (k - 1) / 2 = j → lessB (g k) (g ((j - 1) / 2)) = false)
def DownInv (g : Nat → One) (n i : Nat) : Prop := (∀ k, 0 < k → k < n → (k - 1) / 2 ≠ i → lessB (g k) (g ((k - 1) / 2)) = false) ∧ (0 < i → ∀ k, 0 < k → k < n → (k - 1) / 2 = i → lessB (g k) (g ((i - 1) / 2)) = false)

theorem HeapN.congr {g g' : Nat → One} {n : Nat} (h : HeapN g n) (e : ∀ k, k < n → g' k = g k) : HeapN g' n := fun k h0 hk => by
  rw [e k hk, e _ (by omega)]; exact h k h0 hk
theorem HeapN.congr_len {g g' : Nat → One} {n m : Nat} (h : HeapN g n) (hm : n = m) (e : ∀ k, k < m → g' k = g k) : HeapN g' m := by subst hm; exact h.congr e
theorem up_start {g : Nat → One} {n : Nat} (h : HeapN g n) : UpInv g (n + 1) n :=
  ⟨fun k h0 hk hne => h k h0 (by omega), fun _ k _ _ e => by omega⟩
theorem up_root {g : Nat → One} {n : Nat} (h : UpInv g n 0) : HeapN g n := fun k h0 hk => h.1 k h0 hk (by omega)
theorem up_stop {g : Nat → One} {n j : Nat} (h : UpInv g n j) (hl : lessB (g j) (g ((j - 1) / 2)) = false) : HeapN g n := fun k h0 hk => by
  by_cases e : k = j
  · subst e; exact hl
  · exact h.1 k h0 hk e
theorem up_step {g : Nat → One} {n j : Nat} (h : UpInv g n j) (hj : 0 < j) (hn : j < n) (hl : lessB (g j) (g ((j - 1) / 2)) = true) : UpInv (swapF g ((j - 1) / 2) j) n ((j - 1) / 2) := by
  obtain ⟨i, hi⟩ : ∃ i, (j - 1) / 2 = i := ⟨_, rfl⟩
  rw [hi] at hl ⊢
  have hij : i < j := by omega
  refine ⟨fun k h0 hk hne => ?_, fun hi0 k h0 hk hp => ?_⟩
  · by_cases e1 : k = j
    · subst e1
      rw [swapF_j, hi, swapF_i]
      exact less_asym hl
    · rw [swapF_o g i j k hne e1]
      have hk1 := h.1 k h0 hk e1
      by_cases e2 : (k - 1) / 2 = i
      · rw [e2] at hk1 ⊢
        rw [swapF_i]
        exact less_tf hk1 hl
      · by_cases e3 : (k - 1) / 2 = j
        · rw [e3, swapF_j]
          have := h.2 hj k h0 hk e3
          rwa [hi] at this
        · rw [swapF_o _ _ _ _ e2 e3]; exact hk1
  · have hpi := h.1 i hi0 (by omega) (by omega)
    rw [swapF_o g i j ((i - 1) / 2) (by omega) (by omega)]
    by_cases e1 : k = j
    · subst e1
      rw [swapF_j]; exact hpi
    · rw [swapF_o g i j k (by omega) e1]
      have := h.1 k h0 hk e1
      rw [hp] at this
      exact less_ff this hpi
theorem down_start {g : Nat → One} {n m : Nat} (h : HeapN g m) (hm : n ≤ m) : DownInv (swapF g 0 n) n 0 :=
  ⟨fun k h0 hk hne => by
    rw [swapF_o _ _ _ _ (by omega) (by omega), swapF_o _ _ _ _ hne (by omega)]
    exact h k h0 (by omega), fun h0 => by omega⟩
theorem down_leaf {g : Nat → One} {n i : Nat} (h : DownInv g n i) (hl : n ≤ 2 * i + 1) : HeapN g n := fun k h0 hk => h.1 k h0 hk (by omega)
theorem down_stop {g : Nat → One} {n i j : Nat} (h : DownInv g n i) (hj : lessB (g j) (g i) = false) (hm : ∀ c, 0 < c → c < n → (c - 1) / 2 = i → lessB (g c) (g j) = false) : HeapN g n := fun k h0 hk => by
  by_cases e : (k - 1) / 2 = i
  · rw [e]; exact less_ff (hm k h0 hk e) hj
  · exact h.1 k h0 hk e
theorem down_step {g : Nat → One} {n i j : Nat} (h : DownInv g n i) (hj0 : 0 < j) (hjn : j < n) (hji : (j - 1) / 2 = i) (hl : lessB (g j) (g i) = true) (hm : ∀ c, 0 < c → c < n → (c - 1) / 2 = i → lessB (g c) (g j) = false) :
    DownInv (swapF g i j) n j := by
  refine ⟨fun k h0 hk hne => ?_, fun _ k h0 hk hp => ?_⟩
  · by_cases e2 : (k - 1) / 2 = i
    · rw [e2, swapF_i]
      by_cases e1 : k = j
      · subst e1; rw [swapF_j]; exact less_asym hl
      · rw [swapF_o _ _ _ _ (by omega) e1]; exact hm k h0 hk e2
    · rw [swapF_o g i j ((k - 1) / 2) e2 hne]
      by_cases e1 : k = i
      · subst e1
        rw [swapF_i]
        exact h.2 h0 j hj0 hjn hji
      · rw [swapF_o _ _ _ _ e1 (by omega)]; exact h.1 k h0 hk e2
  · rw [swapF_o g i j k (by omega) (by omega), hji, swapF_i]
    have := h.1 k h0 hk (by omega)
    rwa [hp] at this
theorem heap_root {g : Nat → One} {n : Nat} (h : HeapN g n) : ∀ k, k < n → lessB (g k) (g 0) = false := by
  intro k
  induction k using Nat.strongRecOn with
  | ind k ih =>
    intro hk
    by_cases h0 : k = 0
    · subst h0; exact less_self _
    · exact less_ff (h k (by omega) hk) (ih _ (by omega) (by omega))

/-! Over lists. -/
def at_ (l : List One) (k : Nat) : One := l.getD k ⟨0, 0, 0⟩
theorem at_get {l : List One} {k : Nat} (h : k < l.length) : at_ l k = l[k] := by simp [at_, h]
def swapL (l : List One) (i j : Nat) : List One := (l.set i (at_ l j)).set j (at_ l i)
theorem swapL_length (l : List One) (i j : Nat) : (swapL l i j).length = l.length := by simp [swapL]
theorem swapL_at (l : List One) (i j : Nat) (hi : i < l.length) (hj : j < l.length) : at_ (swapL l i j) = swapF (at_ l) i j := by
  funext k
  unfold swapF
  by_cases h1 : k = i
  · subst h1
    rw [if_pos rfl]
    by_cases h2 : j = k
    · subst h2; simp [at_, swapL, hi]
    · simp [at_, swapL, hi, List.getElem_set_ne h2]
  · rw [if_neg h1]
    by_cases h2 : k = j
    · subst h2; rw [if_pos rfl]; simp [at_, swapL, hj]
    · rw [if_neg h2]
      simp [at_, swapL, List.getElem?_set_ne (Ne.symm h2), List.getElem?_set_ne (Ne.symm h1)]
theorem swapL_perm (l : List One) (i j : Nat) (hi : i < l.length) (hj : j < l.length) : (swapL l i j).Perm l := by
  have h := Array.swap_perm (xs := l.toArray) (i := i) (j := j) (by simpa using hi) (by simpa using hj)
  have e : (l.toArray.swap i j (by simpa using hi) (by simpa using hj)) = (swapL l i j).toArray := by
    simp [Array.swap, swapL, at_, hi, hj]
  rw [e] at h
  simpa [Array.perm_iff_toList_perm] using h
end Go.Proofs.Ytkeeipfglmpgjaa
