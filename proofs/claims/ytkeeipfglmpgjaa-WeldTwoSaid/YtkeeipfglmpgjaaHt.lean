/-
  Encodings: tokens, sets of marks, steps.
-/
import Derived.Test.YtkeeipfglmpgjaaHty
import Derived.Test.YtkeeipfglmpgjaaStp
namespace Go.Proofs.Ytkeeipfglmpgjaa
set_option linter.unusedSimpArgs false
set_option linter.unusedVariables false
set_option maxRecDepth 100000
open Go.RowKit
@[reducible] def intV (x : Int) : HV := .imm (.int .i64 x)
@[reducible] def boolV (b : Bool) : HV := .imm (.bool b)
def tok0 : Tok := ⟨0, 0, 0, 0, 0, 0, 0, 0, 0, 0, 0, 0⟩
def mks0 : Mks := ⟨0, 0, 0, 0, 0, 0, 0, 0⟩
def tokF (t : Tok) : Nat → HV
  | 0 => .imm (.int .i64 t.kind) | 1 => .imm (.int .i64 t.typ) | 2 => .imm (.int .i64 t.attr) | 3 => .imm (.int .i32 t.rune)
  | 4 => .imm (.int .u16 t.m0) | 5 => .imm (.int .u16 t.m1) | 6 => .imm (.int .u16 t.m2) | 7 => .imm (.int .u16 t.m3)
  | 8 => .imm (.int .u16 t.m4) | 9 => .imm (.int .u16 t.m5) | 10 => .imm (.int .u16 t.m6) | _ => .imm (.int .u16 t.m7)
def mksF (t : Mks) : Nat → HV
  | 0 => .imm (.int .u16 t.m0) | 1 => .imm (.int .u16 t.m1) | 2 => .imm (.int .u16 t.m2) | 3 => .imm (.int .u16 t.m3)
  | 4 => .imm (.int .u16 t.m4) | 5 => .imm (.int .u16 t.m5) | 6 => .imm (.int .u16 t.m6) | _ => .imm (.int .u16 t.m7)
@[reducible] def toksV (l : List Tok) : HV := .sl 12 l.length (fun i => tokF (l.getD i tok0))
@[reducible] def mkssV (l : List Mks) : HV := .sl 8 l.length (fun i => mksF (l.getD i mks0))
def stF (s : St) : Nat → HV
  | 0 => .imm (.int .i64 s.k) | 1 => .imm (.int .i64 s.f) | 2 => .imm (.int .i64 s.t) | 3 => .imm (.int .i64 s.gf) | 4 => .imm (.int .i64 s.gt)
  | 5 => .imm (.int .i64 s.ins) | 6 => .imm (.int .i64 s.mark) | 7 => .imm (.int .i64 s.vl) | 8 => toksV s.sl | _ => mkssV s.sets
@[reducible] def stV (s : St) : HV := .agg 10 (stF s)
@[reducible] def stsV (l : List St) : HV := .sl 10 l.length (fun i => stF (l.getD i St.none))
/-- A value that is frozen as it is. -/
class Frz (x : HV) : Prop where
  fz : ∀ {sh : List (Nat × HObj)}, Fz sh x x
instance (v : Value) : Frz (.imm v) := ⟨.imm v⟩
theorem fz_tokF {sh : List (Nat × HObj)} (t : Tok) (j : Nat) : Fz sh (tokF t j) (tokF t j) := by unfold tokF; split <;> exact .imm _
theorem fz_mksF {sh : List (Nat × HObj)} (t : Mks) (j : Nat) : Fz sh (mksF t j) (mksF t j) := by unfold mksF; split <;> exact .imm _
theorem fz_toks {sh : List (Nat × HObj)} (l : List Tok) : Fz sh (toksV l) (toksV l) := .sl _ _ _ _ fun i j _ _ => fz_tokF _ _
theorem fz_mkss {sh : List (Nat × HObj)} (l : List Mks) : Fz sh (mkssV l) (mkssV l) := .sl _ _ _ _ fun i j _ _ => fz_mksF _ _
theorem fz_stF {sh : List (Nat × HObj)} (t : St) (j : Nat) : Fz sh (stF t j) (stF t j) := by unfold stF; split <;> first | exact .imm _ | exact fz_toks _ | exact fz_mkss _
instance (t : Tok) (j : Nat) : Frz (tokF t j) := ⟨fz_tokF t j⟩
instance (t : Mks) (j : Nat) : Frz (mksF t j) := ⟨fz_mksF t j⟩
instance (t : St) (j : Nat) : Frz (stF t j) := ⟨fz_stF t j⟩
instance (sz n : Nat) (f : Nat → Nat → HV) [h : ∀ i j, Frz (f i j)] : Frz (.sl sz n f) := ⟨.sl _ _ _ _ fun i j _ _ => (h i j).fz⟩
instance (n : Nat) (f : Nat → HV) [h : ∀ i, Frz (f i)] : Frz (.agg n f) := ⟨.agg _ _ _ fun i _ => (h i).fz⟩
instance (n : Nat) (f : Nat → HV) [h : ∀ i, Frz (f i)] : Frz (.tup n f) := ⟨.tup _ _ _ fun i _ => (h i).fz⟩
instance (n : Nat) (f : Nat → HV) [h : ∀ i, Frz (f i)] : Frz (.fp n f) := ⟨.fp _ _ (Nat.le_refl _) _ _ fun i _ => (h i).fz⟩
theorem Fz.eq {sh : List (Nat × HObj)} {x y : HV} [h : Frz y] (e : x = y) : Fz sh x y := by subst e; exact h.fz
theorem fz_bool {sh : List (Nat × HObj)} {a b : Bool} (h : a = b) : Fz sh (boolV a) (boolV b) := by subst h; exact .imm _

theorem fz_agg10 {sh : List (Nat × HObj)} {f f' : Nat → HV} (h0 : Fz sh (f 0) (f' 0)) (h1 : Fz sh (f 1) (f' 1)) (h2 : Fz sh (f 2) (f' 2)) (h3 : Fz sh (f 3) (f' 3)) (h4 : Fz sh (f 4) (f' 4)) (h5 : Fz sh (f 5) (f' 5)) (h6 : Fz sh (f 6) (f' 6)) (h7 : Fz sh (f 7) (f' 7)) (h8 : Fz sh (f 8) (f' 8)) (h9 : Fz sh (f 9) (f' 9)) : Fz sh (.agg 10 f) (.agg 10 f') := .agg _ _ _ fun i hi => by
  match i, hi with
  | 0, _ => exact h0
  | 1, _ => exact h1
  | 2, _ => exact h2
  | 3, _ => exact h3
  | 4, _ => exact h4
  | 5, _ => exact h5
  | 6, _ => exact h6
  | 7, _ => exact h7
  | 8, _ => exact h8
  | 9, _ => exact h9

/-- What an append leaves, read as one list. -/
theorem fz_cat {α : Type} {sh : List (Nat × HObj)} {enc : α → Nat → HV} {d : α} {l k : List α} {m sz : Nat} {f g : Nat → Nat → HV} (hm : m = l.length) (hf : ∀ i j, i < l.length → j < sz → Fz sh (f i j) (enc (l.getD i d) j)) (hg : ∀ i j, i < k.length → j < sz → Fz sh (g i j) (enc (k.getD i d) j)) :
    ∀ i j, i < (l ++ k).length → j < sz → Fz sh (cat m f g i j) (enc ((l ++ k).getD i d) j) := by
  intro i j hi hj
  subst hm
  rw [List.length_append] at hi
  by_cases h : i < l.length
  · rw [cat_lt h]
    have e : (l ++ k).getD i d = l.getD i d := by rw [List.getD_eq_getElem?_getD, List.getD_eq_getElem?_getD, List.getElem?_append_left h]
    rw [e]; exact hf i j h hj
  · rw [cat_ge (by omega)]
    have e : (l ++ k).getD i d = k.getD (i - l.length) d := by rw [List.getD_eq_getElem?_getD, List.getD_eq_getElem?_getD, List.getElem?_append_right (by omega)]
    rw [e]; exact hg _ j (by omega) hj
theorem fz_none {α : Type} {sh : List (Nat × HObj)} {enc : α → Nat → HV} {d : α} {sz : Nat} {f : Nat → Nat → HV} : ∀ i j, i < ([] : List α).length → j < sz → Fz sh (f i j) (enc (([] : List α).getD i d) j) := fun i j hi => absurd hi (Nat.not_lt_zero _)
/-- A row of one's own, read as a list. -/
theorem fz_row {α : Type} {sh : List (Nat × HObj)} {enc : α → Nat → HV} {d : α} {l : List α} {id g n : Nat} {o : HObj} (ho : (id, o) ∈ sh) (hg : o.g = g) (hn : n = l.length) (hon : n ≤ o.n) (h : ∀ i j, i < l.length → j < o.sz → Fz sh (o.f i j) (enc (l.getD i d) j)) :
    Fz sh (.os id g 0 n) (.sl o.sz l.length (fun i => enc (l.getD i d))) := by
  subst hn
  exact Fz.os id g 0 l.length o _ ho hg (by omega) (fun i j hi hj => by rw [Nat.zero_add]; exact h i j hi hj)
theorem sb_cat {α : Type} {enc : α → Nat → HV} {d : α} {l k : List α} {m sz : Nat} {f g : Nat → Nat → HV} (hm : m = l.length) (hf : ∀ i j, i < l.length → j < sz → Sb (f i j) (enc (l.getD i d) j)) (hg : ∀ i j, i < k.length → j < sz → Sb (g i j) (enc (k.getD i d) j)) :
    ∀ i j, i < (l ++ k).length → j < sz → Sb (cat m f g i j) (enc ((l ++ k).getD i d) j) := by
  intro i j hi hj
  subst hm
  rw [List.length_append] at hi
  by_cases h : i < l.length
  · rw [cat_lt h]
    have e : (l ++ k).getD i d = l.getD i d := by rw [List.getD_eq_getElem?_getD, List.getD_eq_getElem?_getD, List.getElem?_append_left h]
    rw [e]; exact hf i j h hj
  · rw [cat_ge (by omega)]
    have e : (l ++ k).getD i d = k.getD (i - l.length) d := by rw [List.getD_eq_getElem?_getD, List.getD_eq_getElem?_getD, List.getElem?_append_right (by omega)]
    rw [e]; exact hg _ j (by omega) hj
theorem sb_one {α : Type} {enc : α → Nat → HV} {d x : α} {sz : Nat} {f : Nat → Nat → HV} (h : ∀ j, j < sz → Sb (f 0 j) (enc x j)) : ∀ i j, i < [x].length → j < sz → Sb (f i j) (enc ([x].getD i d) j) := fun i j hi hj => by
  have : i = 0 := by simpa using hi
  subst this
  exact h j hj
theorem sb_none {α : Type} {enc : α → Nat → HV} {d : α} {sz : Nat} {f : Nat → Nat → HV} : ∀ i j, i < ([] : List α).length → j < sz → Sb (f i j) (enc (([] : List α).getD i d) j) := fun i j hi => absurd hi (Nat.not_lt_zero _)
/-- An element put anew. -/
theorem sb_upd {α : Type} {enc : α → Nat → HV} {d x : α} {l : List α} {k sz : Nat} {f : Nat → Nat → HV} {g : Nat → HV} (hf : ∀ i j, i < l.length → j < sz → Sb (f i j) (enc (l.getD i d) j)) (hg : ∀ j, j < sz → Sb (g j) (enc x j)) :
    ∀ i j, i < (l.set k x).length → j < sz → Sb (upd f k 0 sz g i j) (enc ((l.set k x).getD i d) j) := by
  intro i j hi hj
  rw [List.length_set] at hi
  by_cases h : i = k
  · subst h
    rw [upd_in ⟨rfl, Nat.zero_le _, by omega⟩]
    have e : (l.set i x).getD i d = x := by rw [List.getD_eq_getElem?_getD, List.getElem?_set_self hi]; rfl
    rw [e]; exact hg j hj
  · rw [upd_out (by omega)]
    have e : (l.set k x).getD i d = l.getD i d := by rw [List.getD_eq_getElem?_getD, List.getD_eq_getElem?_getD, List.getElem?_set_ne (by omega)]
    rw [e]; exact hf i j hi hj

theorem sb10 {f f' : Nat → HV} (h0 : Sb (f 0) (f' 0)) (h1 : Sb (f 1) (f' 1)) (h2 : Sb (f 2) (f' 2)) (h3 : Sb (f 3) (f' 3)) (h4 : Sb (f 4) (f' 4)) (h5 : Sb (f 5) (f' 5)) (h6 : Sb (f 6) (f' 6)) (h7 : Sb (f 7) (f' 7)) (h8 : Sb (f 8) (f' 8)) (h9 : Sb (f 9) (f' 9)) : ∀ j, j < 10 → Sb (f j) (f' j) := fun i hi => by
  match i, hi with
  | 0, _ => exact h0
  | 1, _ => exact h1
  | 2, _ => exact h2
  | 3, _ => exact h3
  | 4, _ => exact h4
  | 5, _ => exact h5
  | 6, _ => exact h6
  | 7, _ => exact h7
  | 8, _ => exact h8
  | 9, _ => exact h9

theorem Few25h (s : St) : HPure Try.prog 46 [stV s] (boolV (decide ((s.sl.length : Int) ≤ 60) && decide ((s.sets.length : Int) ≤ 150))) := by
  refine hpure_of Try.func46 rfl (by kernel_rfl) _ _ _ rfl 13 rfl rfl (fun w F => ?_)
  refine hw_seq (fun Nh1 h1 => ?_)
  refine hw_region ?_
  refine hm_1 1 (hop_box (id := 1) (sz := 10) rfl rfl rfl (by first | exact Nat.le_of_ble_eq_true rfl | omega | (dsimp only; omega) | (simp; omega)) (by first | exact Nat.le_of_ble_eq_true rfl | omega | (dsimp only; omega) | (simp; omega))) rfl rfl pre0 rfl rfl (c' := 1) rfl ?_
  refine hq_ 2 (hop_assign rfl) rfl rfl pre0 rfl rfl ?_
  refine hseq_nil ?_
  refine h1 _ ?_
  refine hw_seq (fun Nh2 h2 => ?_)
  refine hw_region ?_
  first
  | refine hq_ 3 (hop_fa fd_77_8 rfl) rfl rfl pre0 rfl rfl ?_
  | refine hq_ 3 (hop_fa_fp fd_77_8 rfl (by first | exact Nat.le_of_ble_eq_true rfl | omega | (dsimp only; omega) | (simp; omega))) rfl rfl pre0 rfl rfl ?_
  first
  | refine hq_ 4 (hol_load ty_26 rfl (by first | exact Nat.le_of_ble_eq_true rfl | omega | (dsimp only; omega) | (simp; omega)) (by first | exact Nat.le_of_ble_eq_true rfl | omega | (dsimp only; omega) | (simp; omega)) (fun h => by first | rfl | cases h)) rfl rfl (pre1 rfl) rfl rfl ?_
  | refine hq_ 4 (hop_load_fp ty_26 rfl (by first | exact Nat.le_of_ble_eq_true rfl | omega | (dsimp only; omega) | (simp; omega)) (fun h => by first | rfl | cases h)) rfl rfl pre0 rfl rfl ?_
  first
  | refine hq_ 5 (hop_len_sl (T := 26) rfl (elOf_spec el_26).1 rfl) rfl rfl pre0 rfl rfl ?_
  | refine hq_ 5 (hop_len_os (T := 26) rfl (elOf_spec el_26).1 rfl) rfl rfl pre0 rfl rfl ?_
  | refine hq_ 5 (hop_len_nil (T := 26) rfl (elOf_spec el_26).1 rfl) rfl rfl pre0 rfl rfl ?_
  refine hq_ 6 (hop_leq rfl rfl) rfl rfl pre0 rfl rfl ?_
  refine hq_ 7 (hop_move rfl) rfl rfl pre0 rfl rfl ?_
  first
  | refine hq_g 8 4 7 true _ (fun hb => hop_fa fd_77_9 rfl) rfl rfl rfl rfl pre0 rfl rfl rfl ?_
  | refine hq_g2 8 4 7 _ _ true _ (fun hb => hop_fa fd_77_9 rfl) rfl rfl rfl rfl pre0 rfl rfl rfl ?_
  | refine hq_g 8 4 7 true _ (fun hb => hop_fa_fp fd_77_9 rfl (by first | exact Nat.le_of_ble_eq_true rfl | (simp at hb; first | omega | (dsimp only; omega) | (simp; omega)))) rfl rfl rfl rfl pre0 rfl rfl rfl ?_
  | refine hq_g2 8 4 7 _ _ true _ (fun hb => hop_fa_fp fd_77_9 rfl (by first | exact Nat.le_of_ble_eq_true rfl | (simp at hb; first | omega | (dsimp only; omega) | (simp; omega)))) rfl rfl rfl rfl pre0 rfl rfl rfl ?_
  first
  | refine hq_g 9 4 7 true _ (fun hb => hol_load ty_75 rfl (by first | exact Nat.le_of_ble_eq_true rfl | (simp at hb; first | omega | (dsimp only; omega) | (simp; omega))) (by first | exact Nat.le_of_ble_eq_true rfl | (simp at hb; first | omega | (dsimp only; omega) | (simp; omega))) (fun h => by first | rfl | cases h)) rfl rfl rfl rfl (pre1 rfl) rfl rfl rfl ?_
  | refine hq_g2 9 4 7 _ _ true _ (fun hb => hol_load ty_75 rfl (by first | exact Nat.le_of_ble_eq_true rfl | (simp at hb; first | omega | (dsimp only; omega) | (simp; omega))) (by first | exact Nat.le_of_ble_eq_true rfl | (simp at hb; first | omega | (dsimp only; omega) | (simp; omega))) (fun h => by first | rfl | cases h)) rfl rfl rfl rfl (pre1 rfl) rfl rfl rfl ?_
  | refine hq_g 9 4 7 true _ (fun hb => hop_load_fp ty_75 rfl (by first | exact Nat.le_of_ble_eq_true rfl | (simp at hb; first | omega | (dsimp only; omega) | (simp; omega))) (fun h => by first | rfl | cases h)) rfl rfl rfl rfl pre0 rfl rfl rfl ?_
  | refine hq_g2 9 4 7 _ _ true _ (fun hb => hop_load_fp ty_75 rfl (by first | exact Nat.le_of_ble_eq_true rfl | (simp at hb; first | omega | (dsimp only; omega) | (simp; omega))) (fun h => by first | rfl | cases h)) rfl rfl rfl rfl pre0 rfl rfl rfl ?_
  first
  | refine hq_g 10 4 7 true _ (fun hb => hop_len_sl (T := 75) rfl (elOf_spec el_75).1 rfl) rfl rfl rfl rfl pre0 rfl rfl rfl ?_
  | refine hq_g2 10 4 7 _ _ true _ (fun hb => hop_len_sl (T := 75) rfl (elOf_spec el_75).1 rfl) rfl rfl rfl rfl pre0 rfl rfl rfl ?_
  | refine hq_g 10 4 7 true _ (fun hb => hop_len_os (T := 75) rfl (elOf_spec el_75).1 rfl) rfl rfl rfl rfl pre0 rfl rfl rfl ?_
  | refine hq_g2 10 4 7 _ _ true _ (fun hb => hop_len_os (T := 75) rfl (elOf_spec el_75).1 rfl) rfl rfl rfl rfl pre0 rfl rfl rfl ?_
  | refine hq_g 10 4 7 true _ (fun hb => hop_len_nil (T := 75) rfl (elOf_spec el_75).1 rfl) rfl rfl rfl rfl pre0 rfl rfl rfl ?_
  | refine hq_g2 10 4 7 _ _ true _ (fun hb => hop_len_nil (T := 75) rfl (elOf_spec el_75).1 rfl) rfl rfl rfl rfl pre0 rfl rfl rfl ?_
  first
  | refine hq_g 11 4 7 true _ (fun hb => hop_leq rfl rfl) rfl rfl rfl rfl pre0 rfl rfl rfl ?_
  | refine hq_g2 11 4 7 _ _ true _ (fun hb => hop_leq rfl rfl) rfl rfl rfl rfl pre0 rfl rfl rfl ?_
  first
  | refine hq_p 12 (hstep_and _ _ rfl rfl rfl) rfl rfl rfl ?_
  | refine hq_p 12 (hstep_or _ _ rfl rfl rfl) rfl rfl rfl ?_
  | refine hq_p 12 (hstep_ite _ _ _ rfl rfl rfl) rfl rfl rfl ?_
  | refine hq_p 12 (hstep_pick _ _ _ _ rfl rfl rfl (fun _ => .refl _) (fun _ => .refl _)) rfl rfl rfl ?_
  refine hq_ 2 (hop_assign rfl) rfl rfl pre0 rfl rfl ?_
  refine hseq_nilU (by rfl) (by simp only [dropUn, slots]; exact rfl) ?_
  refine h2 _ ?_
  refine hw_ret ?_
  refine hq_ret1 rfl (rval_tmp rfl) [] rfl pre0 ?_
  first | exact Frz.fz | (trace_state; sorry)
end Go.Proofs.Ytkeeipfglmpgjaa
