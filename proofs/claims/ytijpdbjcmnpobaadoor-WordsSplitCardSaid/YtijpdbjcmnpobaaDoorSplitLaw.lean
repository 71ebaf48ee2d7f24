/-
  A line's words, a text's lines: plain lemmas.
-/
import Derived.Test.YtijpdbjcmnpobaaDoorHide
import Derived.Lib.Split
import Derived.Lib.SplitLaws
import Derived.Lib.IndexBytes
import Derived.Lib.Join
namespace Go.Proofs.YtijpdbjcmnpobaaDoor
set_option linter.unusedSimpArgs false
set_option linter.unusedVariables false
open Go.Lib (index count splitK indexByte)

def splitL (c : UInt8) : List UInt8 → List (List UInt8)
  | [] => [[]]
  | b :: l => if b = c then [] :: splitL c l else (b :: (splitL c l).headD []) :: (splitL c l).tail
theorem splitL_ne (c : UInt8) (l : List UInt8) : splitL c l ≠ [] := by cases l with
  | nil => simp [splitL]
  | cons b l => simp only [splitL]; split <;> simp
theorem splitL_cons (c : UInt8) (l : List UInt8) : splitL c l = (splitL c l).headD [] :: (splitL c l).tail := by
  cases h : splitL c l with
  | nil => exact absurd h (splitL_ne c l)
  | cons a t => rfl
theorem index1_cons (b : UInt8) (l : List UInt8) (c : UInt8) : index (b :: l) [c] = if b = c then 0 else if index l [c] = -1 then -1 else index l [c] + 1 := by
  rw [Lib.index_one, Lib.index_one]
  simp only [indexByte]
  by_cases h : b = c
  · rw [if_pos h, if_pos (by simp [h])]
  · rw [if_neg h, if_neg (by simp [h])]
    by_cases h2 : indexByte l c = -1
    · rw [if_pos h2, if_pos (by simp [h2])]
    · rw [if_neg h2, if_neg (by simp [h2])]
theorem count1_cons (b : UInt8) (l : List UInt8) (c : UInt8) : count (b :: l) [c] = if b = c then count l [c] + 1 else count l [c] := by
  rw [Lib.count_one, Lib.count_one, List.count_cons]
  by_cases h : b = c
  · simp [h]
  · simp [h]
theorem splitK_eq (c : UInt8) (l : List UInt8) : splitK [c] 0 (count l [c]) l = splitL c l := by
  induction l with
  | nil => rfl
  | cons b l ih =>
    rw [count1_cons]
    simp only [splitL]
    by_cases h : b = c
    · rw [if_pos h, if_pos h]
      unfold splitK
      have hi : index (b :: l) [c] = 0 := by rw [index1_cons, if_pos h]
      rw [if_neg (by rw [hi]; decide), hi]
      simp only [Int.toNat_zero, Nat.zero_add, List.length_cons, List.length_nil, List.drop_succ_cons, List.drop_zero, List.take_zero, Nat.add_zero]
      rw [ih]
    · rw [if_neg h, if_neg h]
      rw [← ih]
      by_cases h2 : index l [c] = -1
      · have hc : count l [c] = 0 := Lib.count_miss h2
        rw [hc]; rfl
      · have hn := Lib.index_one l c
        have hge := Lib.indexByte_ge l c
        obtain ⟨i, hi⟩ : ∃ i : Nat, index l [c] = i := ⟨(index l [c]).toNat, by omega⟩
        have hc : count l [c] = 1 + count (l.drop (i + 1)) [c] := Lib.count_hit (by simp) hi
        rw [hc, Nat.add_comm 1]
        unfold splitK
        rw [index1_cons, if_neg h, if_neg h2, hi, if_neg (by simp <;> omega), if_neg (by simp <;> omega)]
        simp only [Int.toNat_natCast, List.length_cons, List.length_nil, Nat.zero_add, Nat.add_zero, List.headD_cons, List.tail_cons]
        have e : ((i : Int) + 1).toNat = i + 1 := by omega
        rw [e]
        simp [List.take_succ_cons, List.drop_succ_cons]
def strsSize (ls : List (List UInt8)) : Nat := (ls.map List.length).sum
theorem splitL_size (c : UInt8) (l : List UInt8) : strsSize (splitL c l) + (splitL c l).length = l.length + 1 := by
  induction l with
  | nil => rfl
  | cons b l ih =>
    simp only [splitL]
    obtain ⟨a, t, h'⟩ : ∃ a t, splitL c l = a :: t := ⟨_, _, splitL_cons c l⟩
    rw [h'] at ih ⊢
    by_cases h : b = c
    · rw [if_pos h]; simp only [strsSize, List.map_cons, List.sum_cons, List.length_cons, List.length_nil] at *
      omega
    · rw [if_neg h]; simp only [strsSize, List.map_cons, List.sum_cons, List.length_cons, List.headD_cons, List.tail_cons] at *
      omega
theorem splitL_len (c : UInt8) (l : List UInt8) : (splitL c l).length ≤ l.length + 1 := by have := splitL_size c l; omega
theorem piece_size {ls : List (List UInt8)} {w : List UInt8} (h : w ∈ ls) : w.length ≤ strsSize ls := by
  induction ls with
  | nil => cases h
  | cons a t ih =>
    simp only [strsSize, List.map_cons, List.sum_cons] at *
    rcases List.mem_cons.1 h with h | h
    · subst h; omega
    · have := ih h; omega
theorem piece_len {c : UInt8} {l w : List UInt8} (h : w ∈ splitL c l) : w.length ≤ l.length := by
  have h1 := piece_size h
  have h2 := splitL_size c l
  have h3 : 0 < (splitL c l).length := List.length_pos_iff.2 (splitL_ne c l)
  omega
/-- What stands ahead of the first piece. -/
def onto (w : List UInt8) (ls : List (List UInt8)) : List (List UInt8) := (w ++ ls.headD []) :: ls.tail
theorem onto_nil (c : UInt8) (l : List UInt8) : onto [] (splitL c l) = splitL c l := (splitL_cons c l).symm
theorem onto_step (c b : UInt8) (w l : List UInt8) (h : ¬ b = c) : onto w (splitL c (b :: l)) = onto (w ++ [b]) (splitL c l) := by
  simp [onto, splitL, h]
theorem onto_hit (c : UInt8) (w l : List UInt8) : onto w (splitL c (c :: l)) = w :: splitL c l := by
  simp [onto, splitL]
theorem onto_end (c : UInt8) (w : List UInt8) : onto w (splitL c []) = [w] := by simp [onto, splitL]
theorem splitL_none (c : UInt8) (l : List UInt8) (h : ∀ b ∈ l, b ≠ c) : splitL c l = [l] := by
  induction l with
  | nil => rfl
  | cons b l ih =>
    simp only [splitL]
    rw [if_neg (h b (by simp)), ih (fun x hx => h x (by simp [hx]))]
    rfl
/-- A line's words; none: it is none. -/
def wordOk (w : List UInt8) : Bool := !w.isEmpty && w.all plainB
def wordsV (l : List UInt8) : Option (List (List UInt8)) := if l = [] then some [] else if (splitL 32 l).all wordOk = true then some (splitL 32 l) else none
/-- A text's lines, the number of the line that is wrong, and the error. -/
def linesV (l : List UInt8) : List (List UInt8) × Nat × Int :=
  if 65536 < l.length then ([], 0, 4) else if l = [] then ([], 0, 0) else if (splitL 10 l).getLast (splitL_ne 10 l) = [] then ((splitL 10 l).dropLast, 0, 0) else ([], (splitL 10 l).length, 2)
/-- Words with blanks between. -/
def joinL : List (List UInt8) → List UInt8
  | [] => []
  | [w] => w
  | w :: v :: r => w ++ 32 :: joinL (v :: r)
theorem join_onto (w : List UInt8) (ls : List (List UInt8)) (h : ls ≠ []) : joinL (onto w ls) = w ++ joinL ls := by
  match ls, h with
  | [a], _ => simp [onto, joinL]
  | a :: b :: r, _ => simp [onto, joinL]
theorem join_cons (w : List UInt8) (ls : List (List UInt8)) (h : ls ≠ []) : joinL (w :: ls) = w ++ 32 :: joinL ls := by
  cases ls with
  | nil => exact absurd rfl h
  | cons a t => rfl
theorem join_split (l : List UInt8) : joinL (splitL 32 l) = l := by
  induction l with
  | nil => rfl
  | cons b l ih =>
    by_cases h : b = 32
    · subst h
      have e : splitL 32 (32 :: l) = [] :: splitL 32 l := by simp [splitL]
      rw [e, join_cons _ _ (splitL_ne _ _), ih]; rfl
    · have e : splitL 32 (b :: l) = onto [b] (splitL 32 l) := by simp [splitL, h, onto]
      rw [e, join_onto _ _ (splitL_ne _ _), ih]; rfl
theorem lib_join (ls : List (List UInt8)) : Go.Lib.join ls [32] = joinL ls := by
  match ls with
  | [] => rfl
  | [w] => exact Go.Lib.join_one w [32]
  | w :: v :: r =>
    have := lib_join (v :: r)
    simp only [joinL]
    rw [← this, Go.Lib.join_cons, Go.Lib.join_cons]
    simp [Go.Lib.joinTail]
theorem words_bad {l : List UInt8} (hl : l ≠ []) {w : List UInt8} (hw : w ∈ splitL 32 l) (h : wordOk w = false) : wordsV l = none := by
  unfold wordsV
  rw [if_neg hl, if_neg (fun ha => by rw [List.all_eq_true.1 ha w hw] at h; cases h)]
theorem words_good {l : List UInt8} (hl : l ≠ []) (h : ∀ w ∈ splitL 32 l, wordOk w = true) : wordsV l = some (splitL 32 l) := by
  unfold wordsV
  rw [if_neg hl, if_pos (List.all_eq_true.2 h)]
theorem wordOk_bad (w r : List UInt8) (b : UInt8) (h : plainB b = false) : wordOk (w ++ b :: r) = false := by
  unfold wordOk
  simp [h]
theorem wordOk_at {w : List UInt8} {j : Nat} (hj : j < w.length) (h : plainB (w.getD j 0) = false) : wordOk w = false := by
  have e : w = w.take j ++ w.getD j 0 :: w.drop (j + 1) := by
    have h1 : w.getD j 0 = w[j] := by simp [List.getD_eq_getElem?_getD, hj]
    rw [h1, ← List.drop_eq_getElem_cons hj, List.take_append_drop]
  rw [e]; exact wordOk_bad _ _ _ h
theorem wordOk_good {w : List UInt8} (h0 : w ≠ []) (h : ∀ j, j < w.length → plainB (w.getD j 0) = true) : wordOk w = true := by
  unfold wordOk
  rw [Bool.and_eq_true]
  refine ⟨by cases w with | nil => exact absurd rfl h0 | cons a t => rfl, List.all_eq_true.2 fun b hb => ?_⟩
  obtain ⟨j, hj, rfl⟩ := List.getElem_of_mem hb
  have := h j hj
  simpa [List.getD_eq_getElem?_getD, hj] using this
theorem splitL_pre (c : UInt8) : ∀ (w r : List UInt8), (∀ b ∈ w, b ≠ c) → splitL c (w ++ r) = onto w (splitL c r)
  | [], r, _ => (onto_nil c r).symm
  | b :: w, r, h => by
    have ih := splitL_pre c w r (fun x hx => h x (by simp [hx]))
    simp only [List.cons_append, splitL]
    rw [if_neg (h b (by simp)), ih]
    simp [onto]
theorem splitL_at (c : UInt8) (w r : List UInt8) (h : ∀ b ∈ w, b ≠ c) : splitL c (w ++ c :: r) = w :: splitL c r := by
  rw [splitL_pre c w _ h, onto_hit]
theorem drop_at {l : List UInt8} {p : Nat} (hp : p < l.length) : l.drop p = l.getD p 0 :: l.drop (p + 1) := by
  have h1 : l.getD p 0 = l[p] := by simp [List.getD_eq_getElem?_getD, hp]
  rw [h1, ← List.drop_eq_getElem_cons hp]
/-- The loop of the document's lines. -/
theorem lines_step {l : List UInt8} {f p : Nat} (hf : f ≤ p) (hp : p < l.length) (h : ∀ b ∈ (l.drop f).take (p - f), b ≠ 10) (hb : l.getD p 0 = 10) : splitL 10 (l.drop f) = (l.drop f).take (p - f) :: splitL 10 (l.drop (p + 1)) := by
  have e : l.drop f = (l.drop f).take (p - f) ++ 10 :: l.drop (p + 1) := by
    have h1 : (l.drop f).drop (p - f) = l.drop p := by rw [List.drop_drop]; congr 1; omega
    have := List.take_append_drop (p - f) (l.drop f)
    rw [h1, drop_at hp, hb] at this
    exact this.symm
  have := splitL_at 10 ((l.drop f).take (p - f)) (l.drop (p + 1)) h
  rw [← e] at this
  exact this
theorem lines_next {l : List UInt8} {f p : Nat} (hf : f ≤ p) (hp : p < l.length) (h : ∀ b ∈ (l.drop f).take (p - f), b ≠ 10) (hb : l.getD p 0 ≠ 10) : ∀ b ∈ (l.drop f).take (p + 1 - f), b ≠ 10 := by
  intro b hm
  have e : p + 1 - f = p - f + 1 := by omega
  have hlt : p - f < (l.drop f).length := by rw [List.length_drop]; omega
  rw [e, List.take_succ_eq_append_getElem hlt] at hm
  rcases List.mem_append.1 hm with hm | hm
  · exact h b hm
  · simp only [List.mem_singleton] at hm
    subst hm
    have : (l.drop f)[p - f] = l.getD p 0 := by
      rw [List.getElem_drop]
      simp [List.getD_eq_getElem?_getD, hp, show f + (p - f) = p from by omega]
    rw [this]; exact hb
theorem lines_end {l : List UInt8} {f : Nat} {out : List (List UInt8)} (h1 : splitL 10 l = out ++ splitL 10 (l.drop f)) (h : ∀ b ∈ l.drop f, b ≠ 10) : splitL 10 l = out ++ [l.drop f] := by
  rw [splitL_none 10 _ h] at h1; exact h1
theorem linesV_of {l : List UInt8} (h0 : ¬ 65536 < l.length) (h1 : l ≠ []) {out : List (List UInt8)} {w : List UInt8} (h : splitL 10 l = out ++ [w]) : linesV l = if w = [] then (out, 0, 0) else ([], out.length + 1, 2) := by
  unfold linesV
  rw [if_neg h0, if_neg h1]
  have e : (splitL 10 l).getLast (splitL_ne 10 l) = w := by simp [h]
  rw [e]
  by_cases hw : w = []
  · rw [if_pos hw, if_pos hw, h]; simp
  · rw [if_neg hw, if_neg hw, h]; simp
end Go.Proofs.YtijpdbjcmnpobaaDoor
