/-
  Words for rows and structs that all texts use: what is frozen as it is, what an append leaves. No program in sight.
-/
import Derived.Test.YtijpdbjcmnpobaaDoorHty
namespace Go.Proofs.YtijpdbjcmnpobaaDoor
set_option linter.unusedSimpArgs false
set_option linter.unusedVariables false
set_option maxRecDepth 100000
open Go.RowKit
@[reducible] def intV (x : Int) : HV := .imm (.int .i64 x)
@[reducible] def boolV (b : Bool) : HV := .imm (.bool b)
/-- A value that is frozen as it is. -/
class Frz (x : HV) : Prop where
  fz : ∀ {sh : List (Nat × HObj)}, Fz sh x x
instance (v : Value) : Frz (.imm v) := ⟨.imm v⟩
instance (sz n : Nat) (f : Nat → Nat → HV) [h : ∀ i j, Frz (f i j)] : Frz (.sl sz n f) := ⟨.sl _ _ _ _ fun i j _ _ => (h i j).fz⟩
instance (n : Nat) (f : Nat → HV) [h : ∀ i, Frz (f i)] : Frz (.agg n f) := ⟨.agg _ _ _ fun i _ => (h i).fz⟩
instance (n : Nat) (f : Nat → HV) [h : ∀ i, Frz (f i)] : Frz (.tup n f) := ⟨.tup _ _ _ fun i _ => (h i).fz⟩
instance (n : Nat) (f : Nat → HV) [h : ∀ i, Frz (f i)] : Frz (.fp n f) := ⟨.fp _ _ (Nat.le_refl _) _ _ fun i _ => (h i).fz⟩
theorem Fz.eq {sh : List (Nat × HObj)} {x y : HV} [h : Frz y] (e : x = y) : Fz sh x y := by subst e; exact h.fz
theorem fz_bool {sh : List (Nat × HObj)} {a b : Bool} (h : a = b) : Fz sh (boolV a) (boolV b) := by subst h; exact .imm _

theorem fz_agg10 {sh : List (Nat × HObj)} {f f' : Nat → HV} (h0 : Fz sh (f 0) (f' 0)) (h1 : Fz sh (f 1) (f' 1)) (h2 : Fz sh (f 2) (f' 2)) (h3 : Fz sh (f 3) (f' 3)) (h4 : Fz sh (f 4) (f' 4)) (h5 : Fz sh (f 5) (f' 5)) (h6 : Fz sh (f 6) (f' 6)) (h7 : Fz sh (f 7) (f' 7)) (h8 : Fz sh (f 8) (f' 8)) (h9 : Fz sh (f 9) (f' 9)) : Fz sh (.agg 10 f) (.agg 10 f') := .agg _ _ _ fun i hi => by
  match i, hi with
  | 0, _ => exact h0
  | 1, _ => exact h1
  | 2, _ => exact h2
  | 3, _ => exact h3
  | 4, _ => exact h4
  | 5, _ => exact h5
  | 6, _ => exact h6
  | 7, _ => exact h7
  | 8, _ => exact h8
  | 9, _ => exact h9

/-- What an append leaves, read as one list. -/
theorem fz_cat {α : Type} {sh : List (Nat × HObj)} {enc : α → Nat → HV} {d : α} {l k : List α} {m sz : Nat} {f g : Nat → Nat → HV} (hm : m = l.length) (hf : ∀ i j, i < l.length → j < sz → Fz sh (f i j) (enc (l.getD i d) j)) (hg : ∀ i j, i < k.length → j < sz → Fz sh (g i j) (enc (k.getD i d) j)) :
    ∀ i j, i < (l ++ k).length → j < sz → Fz sh (cat m f g i j) (enc ((l ++ k).getD i d) j) := by
  intro i j hi hj
  subst hm
  rw [List.length_append] at hi
  by_cases h : i < l.length
  · rw [cat_lt h]
    have e : (l ++ k).getD i d = l.getD i d := by rw [List.getD_eq_getElem?_getD, List.getD_eq_getElem?_getD, List.getElem?_append_left h]
    rw [e]; exact hf i j h hj
  · rw [cat_ge (by omega)]
    have e : (l ++ k).getD i d = k.getD (i - l.length) d := by rw [List.getD_eq_getElem?_getD, List.getD_eq_getElem?_getD, List.getElem?_append_right (by omega)]
    rw [e]; exact hg _ j (by omega) hj
theorem fz_none {α : Type} {sh : List (Nat × HObj)} {enc : α → Nat → HV} {d : α} {sz : Nat} {f : Nat → Nat → HV} : ∀ i j, i < ([] : List α).length → j < sz → Fz sh (f i j) (enc (([] : List α).getD i d) j) := fun i j hi => absurd hi (Nat.not_lt_zero _)
/-- A row of one's own, read as a list. -/
theorem fz_row {α : Type} {sh : List (Nat × HObj)} {enc : α → Nat → HV} {d : α} {l : List α} {id g n : Nat} {o : HObj} (ho : (id, o) ∈ sh) (hg : o.g = g) (hn : n = l.length) (hon : n ≤ o.n) (h : ∀ i j, i < l.length → j < o.sz → Fz sh (o.f i j) (enc (l.getD i d) j)) :
    Fz sh (.os id g 0 n) (.sl o.sz l.length (fun i => enc (l.getD i d))) := by
  subst hn
  exact Fz.os id g 0 l.length o _ ho hg (by omega) (fun i j hi hj => by rw [Nat.zero_add]; exact h i j hi hj)
theorem sb_cat {α : Type} {enc : α → Nat → HV} {d : α} {l k : List α} {m sz : Nat} {f g : Nat → Nat → HV} (hm : m = l.length) (hf : ∀ i j, i < l.length → j < sz → Sb (f i j) (enc (l.getD i d) j)) (hg : ∀ i j, i < k.length → j < sz → Sb (g i j) (enc (k.getD i d) j)) :
    ∀ i j, i < (l ++ k).length → j < sz → Sb (cat m f g i j) (enc ((l ++ k).getD i d) j) := by
  intro i j hi hj
  subst hm
  rw [List.length_append] at hi
  by_cases h : i < l.length
  · rw [cat_lt h]
    have e : (l ++ k).getD i d = l.getD i d := by rw [List.getD_eq_getElem?_getD, List.getD_eq_getElem?_getD, List.getElem?_append_left h]
    rw [e]; exact hf i j h hj
  · rw [cat_ge (by omega)]
    have e : (l ++ k).getD i d = k.getD (i - l.length) d := by rw [List.getD_eq_getElem?_getD, List.getD_eq_getElem?_getD, List.getElem?_append_right (by omega)]
    rw [e]; exact hg _ j (by omega) hj
theorem sb_one {α : Type} {enc : α → Nat → HV} {d x : α} {sz : Nat} {f : Nat → Nat → HV} (h : ∀ j, j < sz → Sb (f 0 j) (enc x j)) : ∀ i j, i < [x].length → j < sz → Sb (f i j) (enc ([x].getD i d) j) := fun i j hi hj => by
  have : i = 0 := by simpa using hi
  subst this
  exact h j hj
theorem sb_none {α : Type} {enc : α → Nat → HV} {d : α} {sz : Nat} {f : Nat → Nat → HV} : ∀ i j, i < ([] : List α).length → j < sz → Sb (f i j) (enc (([] : List α).getD i d) j) := fun i j hi => absurd hi (Nat.not_lt_zero _)
/-- An element put anew. -/
theorem sb_upd {α : Type} {enc : α → Nat → HV} {d x : α} {l : List α} {k sz : Nat} {f : Nat → Nat → HV} {g : Nat → HV} (hf : ∀ i j, i < l.length → j < sz → Sb (f i j) (enc (l.getD i d) j)) (hg : ∀ j, j < sz → Sb (g j) (enc x j)) :
    ∀ i j, i < (l.set k x).length → j < sz → Sb (upd f k 0 sz g i j) (enc ((l.set k x).getD i d) j) := by
  intro i j hi hj
  rw [List.length_set] at hi
  by_cases h : i = k
  · subst h
    rw [upd_in ⟨rfl, Nat.zero_le _, by omega⟩]
    have e : (l.set i x).getD i d = x := by rw [List.getD_eq_getElem?_getD, List.getElem?_set_self hi]; rfl
    rw [e]; exact hg j hj
  · rw [upd_out (by omega)]
    have e : (l.set k x).getD i d = l.getD i d := by rw [List.getD_eq_getElem?_getD, List.getD_eq_getElem?_getD, List.getElem?_set_ne (by omega)]
    rw [e]; exact hf i j hi hj

theorem sb10 {f f' : Nat → HV} (h0 : Sb (f 0) (f' 0)) (h1 : Sb (f 1) (f' 1)) (h2 : Sb (f 2) (f' 2)) (h3 : Sb (f 3) (f' 3)) (h4 : Sb (f 4) (f' 4)) (h5 : Sb (f 5) (f' 5)) (h6 : Sb (f 6) (f' 6)) (h7 : Sb (f 7) (f' 7)) (h8 : Sb (f 8) (f' 8)) (h9 : Sb (f 9) (f' 9)) : ∀ j, j < 10 → Sb (f j) (f' j) := fun i hi => by
  match i, hi with
  | 0, _ => exact h0
  | 1, _ => exact h1
  | 2, _ => exact h2
  | 3, _ => exact h3
  | 4, _ => exact h4
  | 5, _ => exact h5
  | 6, _ => exact h6
  | 7, _ => exact h7
  | 8, _ => exact h8
  | 9, _ => exact h9
end Go.Proofs.YtijpdbjcmnpobaaDoor
