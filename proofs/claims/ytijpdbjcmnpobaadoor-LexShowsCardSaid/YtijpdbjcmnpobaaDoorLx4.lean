/-
  The signs of a text, by the program.
-/
import Derived.Test.YtijpdbjcmnpobaaDoorLx3
import Derived.Test.YtijpdbjcmnpobaaDoorWd2
namespace Go.Proofs.YtijpdbjcmnpobaaDoor
set_option linter.unusedSimpArgs false
set_option linter.unusedVariables false
set_option maxRecDepth 100000
open Go.RowKit

instance : Inhabited Sg := ⟨⟨0, 0, 0, 0, []⟩⟩
@[reducible] def sgsF (l : List Sg) : Nat → Nat → HV := fun i j => sgF (l.getD i default) j
@[reducible] def sgsV (l : List Sg) : HV := .sl 5 l.length (sgsF l)
def lexO (r : Except (Int × Int) (List Sg)) : List Sg × Int × Int := match r with | .ok l => (l, 0, 0) | .error e => ([], e.1, e.2)
@[reducible] def lexH (r : List Sg × Int × Int) : HV := t3 (sgsV r.1) (intV r.2.1) (intV r.2.2)
/-- The three results' cells. -/
@[reducible] def cell1 (g ty : Nat) (x : HV) : HObj := ⟨g, 1, 1, ty, 0, fun _ _ => x⟩
theorem okz_cell {kp sh : List (Nat × HObj)} {g ty : Nat} {f : Nat → Nat → HV} {y : HV} (h : Kz kp sh (f 0 0) y) : OKz kp sh ⟨g, 1, 1, ty, 0, f⟩ (cell1 g ty y) := okz1 h
theorem lex1_R (c ga gb gd gl n : Nat) (F : Nat → Nat → HV) (hF : ∀ i j, ∃ v, F i j = .imm v) (va ve : Int) : HDef Tryd.prog 51 modeR modeR c [.pt 2 ga 0 0, .pt 3 gb 0 0, .pt 4 gd 0 0] (.imm .nilIface)
    [(2, cell1 ga 33 (.os 54 gl 0 n)), (3, cell1 gb 3 (intV va)), (4, cell1 gd 29 (intV ve)), (54, ⟨gl, n, 5, 41, 0, F⟩)]
    (RetP (fun (_ : Unit) _ => True) (fun _ => .tup 0 fun _ => default) (fun _ => [(2, cell1 ga 33 (.os 54 gl 0 n)), (3, cell1 gb 3 (intV va)), (4, cell1 gd 29 (intV ve)), (54, ⟨gl, n, 5, 41, 0, F⟩)])) := by
  refine hdef_of _ _ _ recR Tryd.func51 rfl (by kernel_rfl) _ _ _ rfl 21 rfl rfl rfl rfl rfl rfl (by decide) (fun X ok hX => ?_)
  refine hw_seq (fun Nh1 h1 => ?_)
  refine hw_region ?_
  refine hq_ 7 (hop_move rfl) rfl rfl pre0 rfl rfl ?_
  first
  | refine hq_ 8 (hop_ifc_ne_nil (by kernel_rfl) rfl) rfl rfl pre0 rfl rfl ?_
  | refine hq_ 8 (hop_nil_ne_nil (by kernel_rfl) rfl) rfl rfl pre0 rfl rfl ?_
  refine hseq_nil ?_
  refine h1 _ ?_
  refine hw_cond _ rfl (fun hc0 => ?_) (fun hc0 => ?_)
  · have hr0 := hc0; (try simp only [decide_eq_true_eq, decide_eq_false_iff_not, Bool.and_eq_true, Bool.or_eq_true, Bool.not_eq_true', Bool.or_eq_false_iff, beq_iff_eq, bne_iff_ne, ne_eq, beq_eq_false_iff_ne, bne_eq_false_iff_eq, Bool.not_eq_true, Bool.not_eq_false, Bool.not_eq_false', Int.toNat_natCast, Int.reduceToNat] at hc0)
    exfalso; cases hr0
  · have hr0 := hc0; (try simp only [decide_eq_true_eq, decide_eq_false_iff_not, Bool.and_eq_true, Bool.or_eq_true, Bool.not_eq_true', Bool.or_eq_false_iff, beq_iff_eq, bne_iff_ne, ne_eq, beq_eq_false_iff_ne, bne_eq_false_iff_eq, Bool.not_eq_true, Bool.not_eq_false, Bool.not_eq_false', Int.toNat_natCast, Int.reduceToNat] at hc0)
    refine hw_skip ?_
    refine hq_fall ?_
    refine hf_retR0 ok hX RetS.one rfl  [] rfl pre0 (()) (trivial) (by rfl) (by rfl) ((by first | exact .fz _ _ (.imm _) | exact .os _ _ _ _ _ rfl rfl | exact .pt _ _ _ _ _ rfl rfl | exact .nps _ _ _ rfl rfl | (dsimp only; exact .fz _ _ Frz.fz) | exact .fz _ _ (.tup 0 _ _ (fun i hi => absurd hi (Nat.not_lt_zero _))))) ?_
    exact ⟨⟨_, rfl, okz_cell (by first | exact .fz _ _ (.imm _) | exact .os _ _ _ _ _ rfl rfl | exact .pt _ _ _ _ _ rfl rfl | exact .nps _ _ _ rfl rfl | (dsimp only; exact .fz _ _ Frz.fz) | exact .fz _ _ (.tup 0 _ _ (fun i hi => absurd hi (Nat.not_lt_zero _))))⟩, ⟨⟨_, rfl, okz_cell (by first | exact .fz _ _ (.imm _) | exact .os _ _ _ _ _ rfl rfl | exact .pt _ _ _ _ _ rfl rfl | exact .nps _ _ _ rfl rfl | (dsimp only; exact .fz _ _ Frz.fz) | exact .fz _ _ (.tup 0 _ _ (fun i hi => absurd hi (Nat.not_lt_zero _))))⟩, ⟨⟨_, rfl, okz_cell (by first | exact .fz _ _ (.imm _) | exact .os _ _ _ _ _ rfl rfl | exact .pt _ _ _ _ _ rfl rfl | exact .nps _ _ _ rfl rfl | (dsimp only; exact .fz _ _ Frz.fz) | exact .fz _ _ (.tup 0 _ _ (fun i hi => absurd hi (Nat.not_lt_zero _))))⟩, ⟨⟨_, rfl, .of (fun i j hi hj => by obtain ⟨v, hv⟩ := hF i j; rw [hv]; exact kz_imm)⟩, trivial⟩⟩⟩⟩
theorem lex1_P (c ga gb gd : Nat) (x : HV) (va ve : Int) (e : Int × Int) : HDef Tryd.prog 51 modeP modeP' c [.pt 2 ga 0 0, .pt 3 gb 0 0, .pt 4 gd 0 0] (faultV e)
    [(2, cell1 ga 33 x), (3, cell1 gb 3 (intV va)), (4, cell1 gd 29 (intV ve))]
    (RetP (fun (_ : Unit) _ => True) (fun _ => .tup 0 fun _ => default) (fun _ => [(2, cell1 ga 33 (.imm (.slice none 0 0))), (3, cell1 gb 3 (intV e.1)), (4, cell1 gd 29 (intV e.2))])) := by
  refine hdef_of _ _ _ (recP _) Tryd.func51 rfl (by kernel_rfl) _ _ _ rfl 21 rfl rfl rfl rfl rfl rfl (by decide) (fun X ok hX => ?_)
  refine hw_seq (fun Nh1 h1 => ?_)
  refine hw_region ?_
  refine hq_ 7 (hop_move rfl) rfl rfl pre0 rfl rfl ?_
  first
  | refine hq_ 8 (hop_ifc_ne_nil (by kernel_rfl) rfl) rfl rfl pre0 rfl rfl ?_
  | refine hq_ 8 (hop_nil_ne_nil (by kernel_rfl) rfl) rfl rfl pre0 rfl rfl ?_
  refine hseq_nil ?_
  refine h1 _ ?_
  refine hw_cond _ rfl (fun hc0 => ?_) (fun hc0 => ?_)
  · have hr0 := hc0; (try simp only [decide_eq_true_eq, decide_eq_false_iff_not, Bool.and_eq_true, Bool.or_eq_true, Bool.not_eq_true', Bool.or_eq_false_iff, beq_iff_eq, bne_iff_ne, ne_eq, beq_eq_false_iff_ne, bne_eq_false_iff_eq, Bool.not_eq_true, Bool.not_eq_false, Bool.not_eq_false', Int.toNat_natCast, Int.reduceToNat] at hc0)
    refine hw_seq (fun Nh2 h2 => ?_)
    refine hw_region ?_
    refine hq_ 10 (hop_move rfl) rfl rfl pre0 rfl rfl ?_
    refine hq_ 11 (hop_assert_ok (by kernel_rfl) rfl) rfl rfl pre0 rfl rfl ?_
    refine hq_ 9 (hop_move rfl) rfl rfl pre0 rfl rfl ?_
    refine hq_ 12 (hop_extract rfl rfl) rfl rfl pre0 rfl rfl ?_
    refine hq_ 13 (hop_extract rfl rfl) rfl rfl pre0 rfl rfl ?_
    refine hm_1 4 (hop_alloc (id := 104) (sz := 2) zc_85 rfl rfl (by first | exact Nat.le_of_ble_eq_true rfl | omega | (dsimp only; omega) | (simp <;> omega)) (by first | exact Nat.le_of_ble_eq_true rfl | omega | (dsimp only; omega) | (simp <;> omega))) rfl rfl pre0 rfl rfl (c' := c + 1) rfl ?_
    first
    | refine hm_s1 (hol_storeW ty_85 rfl rfl rfl rfl) rfl rfl (pre1 rfl) (c' := c + 2) rfl ?_
    | refine hm_s1 (hol_store ty_85 rfl rfl rfl rfl (by first | exact Nat.le_of_ble_eq_true rfl | omega | (dsimp only; omega) | (simp <;> omega)) (by first | exact Nat.le_of_ble_eq_true rfl | omega | (dsimp only; omega) | (simp <;> omega)) (by first | exact Nat.le_of_ble_eq_true rfl | omega | (dsimp only; omega) | (simp <;> omega))) rfl rfl (pre1 rfl) (c' := c + 2) rfl ?_
    refine hq_ 5 (hop_assign rfl) rfl rfl pre0 rfl rfl ?_
    refine hseq_nil ?_
    refine h2 _ ?_
    refine hw_seq (fun Nh3 h3 => ?_)
    refine hw_seq (fun Nh4 h4 => ?_)
    refine hw_region ?_
    refine hq_ 14 (hop_move rfl) rfl rfl pre0 rfl rfl ?_
    refine hq_ 15 (hop_not rfl) rfl rfl pre0 rfl rfl ?_
    refine hseq_nil ?_
    refine h4 _ ?_
    refine hw_cond _ rfl (fun hc1 => ?_) (fun hc1 => ?_)
    · have hr1 := hc1; (try simp only [decide_eq_true_eq, decide_eq_false_iff_not, Bool.and_eq_true, Bool.or_eq_true, Bool.not_eq_true', Bool.or_eq_false_iff, beq_iff_eq, bne_iff_ne, ne_eq, beq_eq_false_iff_ne, bne_eq_false_iff_eq, Bool.not_eq_true, Bool.not_eq_false, Bool.not_eq_false', Int.toNat_natCast, Int.reduceToNat] at hc1)
      exfalso; cases hr1
    · have hr1 := hc1; (try simp only [decide_eq_true_eq, decide_eq_false_iff_not, Bool.and_eq_true, Bool.or_eq_true, Bool.not_eq_true', Bool.or_eq_false_iff, beq_iff_eq, bne_iff_ne, ne_eq, beq_eq_false_iff_ne, bne_eq_false_iff_eq, Bool.not_eq_true, Bool.not_eq_false, Bool.not_eq_false', Int.toNat_natCast, Int.reduceToNat] at hc1)
      refine hw_skip ?_
      refine h3 _ ?_
      refine hd_start ?_
      first
      | refine hd_q 17 (hop_fa fd_85_0 rfl) rfl rfl pre0 rfl rfl (k' := 1) rfl ?_
      | refine hd_q 17 (hop_fa_fp fd_85_0 rfl (by first | exact Nat.le_of_ble_eq_true rfl | omega | (dsimp only; omega) | (simp <;> omega))) rfl rfl pre0 rfl rfl (k' := 1) rfl ?_
      first
      | refine hd_q 18 (hol_load ty_3 rfl (by first | exact Nat.le_of_ble_eq_true rfl | omega | (dsimp only; omega) | (simp <;> omega)) (by first | exact Nat.le_of_ble_eq_true rfl | omega | (dsimp only; omega) | (simp <;> omega)) (fun h => by first | rfl | cases h)) rfl rfl (pre1 rfl) rfl rfl (k' := 2) rfl ?_
      | refine hd_q 18 (hop_load_fp ty_3 rfl (by first | exact Nat.le_of_ble_eq_true rfl | omega | (dsimp only; omega) | (simp <;> omega)) (fun h => by first | rfl | cases h)) rfl rfl pre0 rfl rfl (k' := 2) rfl ?_
      first
      | refine hd_q 19 (hop_fa fd_85_1 rfl) rfl rfl pre0 rfl rfl (k' := 3) rfl ?_
      | refine hd_q 19 (hop_fa_fp fd_85_1 rfl (by first | exact Nat.le_of_ble_eq_true rfl | omega | (dsimp only; omega) | (simp <;> omega))) rfl rfl pre0 rfl rfl (k' := 3) rfl ?_
      first
      | refine hd_q 20 (hol_load ty_29 rfl (by first | exact Nat.le_of_ble_eq_true rfl | omega | (dsimp only; omega) | (simp <;> omega)) (by first | exact Nat.le_of_ble_eq_true rfl | omega | (dsimp only; omega) | (simp <;> omega)) (fun h => by first | rfl | cases h)) rfl rfl (pre1 rfl) rfl rfl (k' := 4) rfl ?_
      | refine hd_q 20 (hop_load_fp ty_29 rfl (by first | exact Nat.le_of_ble_eq_true rfl | omega | (dsimp only; omega) | (simp <;> omega)) (fun h => by first | rfl | cases h)) rfl rfl pre0 rfl rfl (k' := 4) rfl ?_
      first
      | refine hd_s1 (hol_storeW ty_33 rfl rfl rfl rfl) rfl rfl (pre1 rfl) (k' := 5) rfl ?_
      | refine hd_s1 (hol_store ty_33 rfl rfl rfl rfl (by first | exact Nat.le_of_ble_eq_true rfl | omega | (dsimp only; omega) | (simp <;> omega)) (by first | exact Nat.le_of_ble_eq_true rfl | omega | (dsimp only; omega) | (simp <;> omega)) (by first | exact Nat.le_of_ble_eq_true rfl | omega | (dsimp only; omega) | (simp <;> omega))) rfl rfl (pre1 rfl) (k' := 5) rfl ?_
      first
      | refine hd_s1 (hol_storeW ty_3 rfl rfl rfl rfl) rfl rfl (pre1 rfl) (k' := 6) rfl ?_
      | refine hd_s1 (hol_store ty_3 rfl rfl rfl rfl (by first | exact Nat.le_of_ble_eq_true rfl | omega | (dsimp only; omega) | (simp <;> omega)) (by first | exact Nat.le_of_ble_eq_true rfl | omega | (dsimp only; omega) | (simp <;> omega)) (by first | exact Nat.le_of_ble_eq_true rfl | omega | (dsimp only; omega) | (simp <;> omega))) rfl rfl (pre1 rfl) (k' := 6) rfl ?_
      first
      | refine hd_s1 (hol_storeW ty_29 rfl rfl rfl rfl) rfl rfl (pre1 rfl) (k' := 7) rfl ?_
      | refine hd_s1 (hol_store ty_29 rfl rfl rfl rfl (by first | exact Nat.le_of_ble_eq_true rfl | omega | (dsimp only; omega) | (simp <;> omega)) (by first | exact Nat.le_of_ble_eq_true rfl | omega | (dsimp only; omega) | (simp <;> omega)) (by first | exact Nat.le_of_ble_eq_true rfl | omega | (dsimp only; omega) | (simp <;> omega))) rfl rfl (pre1 rfl) (k' := 7) rfl ?_
      refine hd_nil (by kernel_rfl) (by kernel_rfl) (c' := c + 9) rfl ?_
      refine hq_fall ?_
      refine hf_retR0 ok hX RetS.one rfl  [] rfl pre0 (()) (trivial) (by rfl) (by rfl) ((by first | exact .fz _ _ (.imm _) | exact .os _ _ _ _ _ rfl rfl | exact .pt _ _ _ _ _ rfl rfl | exact .nps _ _ _ rfl rfl | (dsimp only; exact .fz _ _ Frz.fz) | exact .fz _ _ (.tup 0 _ _ (fun i hi => absurd hi (Nat.not_lt_zero _))))) ?_
      exact ⟨⟨_, rfl, okz_cell (by first | exact .fz _ _ (.imm _) | exact .os _ _ _ _ _ rfl rfl | exact .pt _ _ _ _ _ rfl rfl | exact .nps _ _ _ rfl rfl | (dsimp only; exact .fz _ _ Frz.fz) | exact .fz _ _ (.tup 0 _ _ (fun i hi => absurd hi (Nat.not_lt_zero _))))⟩, ⟨⟨_, rfl, okz_cell (by first | exact .fz _ _ (.imm _) | exact .os _ _ _ _ _ rfl rfl | exact .pt _ _ _ _ _ rfl rfl | exact .nps _ _ _ rfl rfl | (dsimp only; exact .fz _ _ Frz.fz) | exact .fz _ _ (.tup 0 _ _ (fun i hi => absurd hi (Nat.not_lt_zero _))))⟩, ⟨⟨_, rfl, okz_cell (by first | exact .fz _ _ (.imm _) | exact .os _ _ _ _ _ rfl rfl | exact .pt _ _ _ _ _ rfl rfl | exact .nps _ _ _ rfl rfl | (dsimp only; exact .fz _ _ Frz.fz) | exact .fz _ _ (.tup 0 _ _ (fun i hi => absurd hi (Nat.not_lt_zero _))))⟩, trivial⟩⟩⟩
  · have hr0 := hc0; (try simp only [decide_eq_true_eq, decide_eq_false_iff_not, Bool.and_eq_true, Bool.or_eq_true, Bool.not_eq_true', Bool.or_eq_false_iff, beq_iff_eq, bne_iff_ne, ne_eq, beq_eq_false_iff_ne, bne_eq_false_iff_eq, Bool.not_eq_true, Bool.not_eq_false, Bool.not_eq_false', Int.toNat_natCast, Int.reduceToNat] at hc0)
    exfalso; cases hr0
end Go.Proofs.YtijpdbjcmnpobaaDoor
