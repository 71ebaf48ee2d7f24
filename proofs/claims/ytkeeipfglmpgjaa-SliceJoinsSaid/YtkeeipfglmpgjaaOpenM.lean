/-
  How open a row of tokens is: by a scan, and by partners. Plain lists, no program.
-/
import Derived.Test.YtkeeipfglmpgjaaTok
namespace Go.Proofs.Ytkeeipfglmpgjaa
set_option linter.unusedSimpArgs false
set_option linter.unusedVariables false

theorem snoc_ind {α : Type} {p : List α → Prop} (h0 : p []) (h1 : ∀ l x, p l → p (l ++ [x])) : ∀ l, p l := by
  have h : ∀ r : List α, p r.reverse := by
    intro r
    induction r with
    | nil => exact h0
    | cons x r ih => rw [List.reverse_cons]; exact h1 _ _ ih
  intro l
  have := h l.reverse
  rwa [List.reverse_reverse] at this

def Tok.delta (t : Tok) : Int := if t.kind = 1 then 1 else if t.kind = 2 then -1 else 0

/-- The scan: closes that shut nothing, opens that aren't shut. -/
def scStep (s : Nat × Nat) (t : Tok) : Nat × Nat := if t.kind = 2 then (if s.2 = 0 then (s.1 + 1, 0) else (s.1, s.2 - 1)) else if t.kind = 1 then (s.1, s.2 + 1) else s
def sc (l : List Tok) : Nat × Nat := l.foldl scStep (0, 0)
def joinP (a b : Nat × Nat) : Nat × Nat := (a.1 + b.1 - min a.2 b.1, b.2 + a.2 - min a.2 b.1)

theorem sc_snoc (l : List Tok) (t : Tok) : sc (l ++ [t]) = scStep (sc l) t := by simp [sc]
theorem sc_from (b : List Tok) : ∀ s, b.foldl scStep s = joinP s (sc b) := by
  refine snoc_ind (p := fun b => ∀ s, b.foldl scStep s = joinP s (sc b)) ?_ ?_ b
  · intro s; simp [sc, joinP]
  · intro c t ih s
    rw [sc_snoc, List.foldl_append, ih s]
    obtain ⟨s1, s2⟩ := s
    obtain ⟨c1, c2⟩ := sc c
    simp only [List.foldl_cons, List.foldl_nil]
    have fin : ∀ (a b a' b' : Nat), a = a' → b = b' → (a, b) = (a', b') := fun a b a' b' h1 h2 => by rw [h1, h2]
    by_cases hk : t.kind = 2
    · unfold joinP scStep
      dsimp only
      rw [if_pos hk, if_pos hk]
      by_cases hc0 : c2 = 0
      · rw [if_pos hc0]
        by_cases hs : c2 + s2 - min s2 c1 = 0
        · rw [if_pos hs]; dsimp only; refine fin _ _ _ _ ?_ ?_ <;> omega
        · rw [if_neg hs]; dsimp only; refine fin _ _ _ _ ?_ ?_ <;> omega
      · rw [if_neg hc0, if_neg (by omega)]
        dsimp only; refine fin _ _ _ _ ?_ ?_ <;> omega
    · unfold joinP scStep
      dsimp only
      rw [if_neg hk, if_neg hk]
      by_cases h1 : t.kind = 1
      · rw [if_pos h1, if_pos h1]; dsimp only; refine fin _ _ _ _ ?_ ?_ <;> omega
      · rw [if_neg h1, if_neg h1]
theorem sc_append (a b : List Tok) : sc (a ++ b) = joinP (sc a) (sc b) := by
  show (a ++ b).foldl scStep (0, 0) = _
  rw [List.foldl_append]
  exact sc_from b _
theorem sc_cons (t : Tok) (l : List Tok) : sc (t :: l) = joinP (scStep (0, 0) t) (sc l) := by
  show (t :: l).foldl scStep (0, 0) = _
  rw [List.foldl_cons]
  exact sc_from l _

/-- The partner, by going right, or left. -/
def partR (d : Int) (i : Nat) : List Tok → Int
  | [] => -1
  | t :: r => if d + t.delta = 0 then i else partR (d + t.delta) (i + 1) r
/-- To the left: the tokens from i downwards. -/
def partL (d : Int) (i : Nat) : List Tok → Int
  | [] => -1
  | t :: r => if d + t.delta = 0 then i else partL (d + t.delta) (i - 1) r
def partner (l : List Tok) (i : Nat) : Int := if (l[i]?.map Tok.kind) = some 2 then partL 0 i (l.take (i + 1)).reverse else partR 0 i (l.drop i)

def free (d : Int) : List Tok → Bool
  | [] => true
  | t :: r => if d + t.delta = 0 then false else free (d + t.delta) r
theorem partR_free (r : List Tok) : ∀ (d : Int) (i : Nat), (partR d i r < 0) ↔ free d r = true := by
  induction r with
  | nil => intro d i; simp [partR, free]
  | cons t r ih =>
    intro d i
    simp only [partR, free]
    split
    · simp only [Int.not_lt, reduceCtorEq, iff_false, Bool.false_eq_true]; omega
    · exact ih _ _
theorem partL_free (r : List Tok) : ∀ (d : Int) (i : Nat), (partL d i r < 0) ↔ free d r = true := by
  induction r with
  | nil => intro d i; simp [partL, free]
  | cons t r ih =>
    intro d i
    simp only [partL, free]
    split
    · simp only [Int.not_lt, reduceCtorEq, iff_false, Bool.false_eq_true]; omega
    · exact ih _ _

/-- From an open depth on, nothing shuts it just if fewer closes are free. -/
theorem free_right (r : List Tok) : ∀ (d : Nat), 0 < d → (free (d : Int) r = true ↔ (sc r).1 < d) := by
  induction r with
  | nil => intro d hd; simp [free, sc, hd]
  | cons t r ih =>
    intro d hd
    rw [sc_cons]
    simp only [free, Tok.delta, joinP, scStep]
    by_cases h1 : t.kind = 1
    · have h2 : ¬ t.kind = 2 := by omega
      simp only [h1, if_true, h2, if_false]
      rw [if_neg (by omega)]
      have := ih (d + 1) (by omega)
      rw [show ((d + 1 : Nat) : Int) = (d : Int) + 1 from by omega] at this
      simp only [show ¬ ((1 : Int) = 2) from by omega, if_false]
      rw [this]
      omega
    · by_cases h2 : t.kind = 2
      · simp only [h1, if_false, h2, if_true]
        simp only [show ¬ ((2 : Int) = 1) from by omega, if_false, if_true]
        by_cases hd1 : d = 1
        · subst hd1; simp
        · rw [if_neg (by omega)]
          have := ih (d - 1) (by omega)
          rw [show ((d - 1 : Nat) : Int) = (d : Int) + -1 from by omega] at this
          rw [this]
          simp; omega
      · simp only [h1, if_false, h2]
        rw [if_neg (by omega)]
        have := ih d hd
        rw [Int.add_zero, this]
        simp
theorem free_left (r : List Tok) : ∀ (d : Nat), 0 < d → (free (-(d : Int)) r = true ↔ (sc r.reverse).2 < d) := by
  induction r with
  | nil => intro d hd; simp [free, sc, hd]
  | cons t r ih =>
    intro d hd
    rw [List.reverse_cons, sc_snoc]
    simp only [free, Tok.delta, scStep]
    by_cases h1 : t.kind = 1
    · have h2 : ¬ t.kind = 2 := by omega
      simp only [h1, if_true, show ¬ ((1 : Int) = 2) from by omega, if_false]
      by_cases hd1 : d = 1
      · subst hd1; simp
      · rw [if_neg (by omega)]
        have := ih (d - 1) (by omega)
        rw [show (-((d - 1 : Nat) : Int)) = -(d : Int) + 1 from by omega] at this
        rw [this]; omega
    · by_cases h2 : t.kind = 2
      · simp only [h2, show ¬ ((2 : Int) = 1) from by omega, if_false, if_true]
        rw [if_neg (by omega)]
        have := ih (d + 1) (by omega)
        rw [show (-((d + 1 : Nat) : Int)) = -(d : Int) + -1 from by omega] at this
        rw [this]
        split <;> simp only [] <;> omega
      · simp only [h1, if_false, h2]
        rw [if_neg (by omega)]
        have := ih d hd
        rw [Int.add_zero, this]

/-- Is token i one of a kind without a partner? -/
def loose (l : List Tok) (kind : Int) (i : Nat) : Bool := decide ((l[i]?.map Tok.kind) = some kind ∧ partner l i < 0)
def openN (l : List Tok) (kind : Int) : Nat := ((List.range l.length).filter (loose l kind)).length

theorem openN_close (l : List Tok) : openN l 2 = (sc l).1 := by
  refine snoc_ind (p := fun l => openN l 2 = (sc l).1) rfl ?_ l
  intro c t ih
  · unfold openN at ih ⊢
    rw [List.length_append, List.length_singleton, List.range_succ, List.filter_append, List.length_append, sc_snoc]
    have hold : (List.range c.length).filter (loose (c ++ [t]) 2) = (List.range c.length).filter (loose c 2) := by
      apply List.filter_congr
      intro i hi
      have hi' : i < c.length := List.mem_range.1 hi
      have e1 : (c ++ [t])[i]? = c[i]? := List.getElem?_append_left hi'
      unfold loose partner
      rw [e1]
      by_cases h2 : Option.map Tok.kind c[i]? = some 2
      · simp only [h2, if_true]
        rw [List.take_append_of_le_length (by omega)]
      · simp [h2]
    rw [hold, ih]
    have hlast : loose (c ++ [t]) 2 c.length = decide (t.kind = 2 ∧ (sc c).2 = 0) := by
      unfold loose partner
      have e1 : (c ++ [t])[c.length]? = some t := by simp
      rw [e1]
      by_cases h2 : t.kind = 2
      · simp only [Option.map_some, h2, if_true, true_and]
        have e2 : ((c ++ [t]).take (c.length + 1)).reverse = t :: c.reverse := by rw [List.take_of_length_le (by simp)]; simp
        rw [e2]
        have hp := partL_free (t :: c.reverse) 0 c.length
        have : free 0 (t :: c.reverse) = free (-((1 : Nat) : Int)) c.reverse := by simp [free, Tok.delta, h2]
        rw [this] at hp
        have h3 := free_left c.reverse 1 (by omega)
        rw [List.reverse_reverse] at h3
        congr 1
        refine propext (hp.trans (h3.trans ?_))
        omega
      · simp [h2]
    simp only [List.filter_cons, List.filter_nil, hlast]
    simp only [scStep]
    by_cases h2 : t.kind = 2
    · by_cases h0 : (sc c).2 = 0 <;> simp [h2, h0]
    · simp only [h2, false_and, decide_false, if_false, Bool.false_eq_true]
      split <;> simp
theorem openN_open (l : List Tok) : openN l 1 = (sc l).2 := by
  induction l with
  | nil => rfl
  | cons t l ih =>
    unfold openN at ih ⊢
    rw [List.length_cons, List.range_succ_eq_map, List.filter_cons, List.filter_map, sc_cons]
    have hold : (List.range l.length).filter (loose (t :: l) 1 ∘ Nat.succ) = (List.range l.length).filter (loose l 1) := by
      apply List.filter_congr
      intro i hi
      unfold loose partner
      simp only [Function.comp, List.getElem?_cons_succ, Nat.succ_eq_add_one, List.drop_succ_cons]
      by_cases h1 : Option.map Tok.kind l[i]? = some 1
      · simp only [h1, true_and, show ¬ (some (1 : Int) = some 2) from by simp, if_false]
        have a := partR_free (l.drop i) 0 (i + 1)
        have b := partR_free (l.drop i) 0 i
        congr 1
        exact propext (a.trans b.symm)
      · simp [h1]
    have hfirst : loose (t :: l) 1 0 = decide (t.kind = 1 ∧ (sc l).1 = 0) := by
      unfold loose partner
      simp only [List.getElem?_cons_zero, Option.map_some, List.drop_zero]
      by_cases h1 : t.kind = 1
      · simp only [h1, true_and, show ¬ (some (1 : Int) = some 2) from by simp, if_false]
        have a := partR_free (t :: l) 0 0
        have : free 0 (t :: l) = free ((1 : Nat) : Int) l := by simp [free, Tok.delta, h1]
        rw [this] at a
        have b := free_right l 1 (by omega)
        congr 1
        refine propext (a.trans (b.trans ?_))
        omega
      · simp [h1]
    rw [hold]
    simp only [hfirst, joinP, scStep]
    by_cases h1 : t.kind = 1
    · have h2 : ¬ t.kind = 2 := by omega
      by_cases h0 : (sc l).1 = 0
      · simp [h1, h0, ih]
      · simp [h1, h0, ih]; omega
    · by_cases h2 : t.kind = 2
      · simp [h2, ih]
      · simp [h1, h2, ih]
end Go.Proofs.Ytkeeipfglmpgjaa
