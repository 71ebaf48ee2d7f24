/-
  The signs of a text, by the document: numbers and counts.
-/
import Derived.Test.YtijpdbjcmnpobaaDoorLx3
namespace Go.Proofs.YtijpdbjcmnpobaaDoor
set_option linter.unusedSimpArgs false
set_option linter.unusedVariables false
set_option maxRecDepth 100000
open Go.RowKit

theorem fz_int {sh : List (Nat × HObj)} {a b : Int} (h : a = b) : Fz sh (intV a) (intV b) := by subst h; exact .imm _
theorem refSmall_h (x : Int) : HPure Tryd.prog 80 [.imm (.int .u8 x)] (boolV (smallZ x)) := by
  refine hpure_of Tryd.func80 rfl (by kernel_rfl) _ _ _ rfl 9 rfl rfl (fun w F => ?_)
  refine hw_seq (fun Nh1 h1 => ?_)
  refine hw_region ?_
  refine hq_ 2 (hop_assign rfl) rfl rfl pre0 rfl rfl ?_
  refine hseq_nil ?_
  refine h1 _ ?_
  refine hw_seq (fun Nh2 h2 => ?_)
  refine hw_region ?_
  refine hq_ 3 (hop_move rfl) rfl rfl pre0 rfl rfl ?_
  refine hq_ 4 (hop_geq rfl rfl) rfl rfl pre0 rfl rfl ?_
  refine hq_ 5 (hop_move rfl) rfl rfl pre0 rfl rfl ?_
  first
  | refine hq_g 6 2 5 true _ (fun hb => hop_move rfl) rfl rfl rfl rfl pre0 rfl rfl rfl ?_
  | refine hq_g2 6 2 5 _ _ true _ (fun hb => hop_move rfl) rfl rfl rfl rfl pre0 rfl rfl rfl ?_
  first
  | refine hq_g 7 2 5 true _ (fun hb => hop_leq rfl rfl) rfl rfl rfl rfl pre0 rfl rfl rfl ?_
  | refine hq_g2 7 2 5 _ _ true _ (fun hb => hop_leq rfl rfl) rfl rfl rfl rfl pre0 rfl rfl rfl ?_
  first
  | refine hq_p 8 (hstep_and _ _ rfl rfl rfl) rfl rfl rfl ?_
  | refine hq_p 8 (hstep_or _ _ rfl rfl rfl) rfl rfl rfl ?_
  | refine hq_p 8 (hstep_ite _ _ _ rfl rfl rfl) rfl rfl rfl ?_
  | refine hq_p 8 (hstep_pick _ _ _ _ rfl rfl rfl (fun _ => .refl _) (fun _ => .refl _)) rfl rfl rfl ?_
  refine hq_ 2 (hop_assign rfl) rfl rfl pre0 rfl rfl ?_
  refine hseq_nilU (by rfl) (by simp only [dropUn, slots]; exact rfl) ?_
  refine h2 _ ?_
  refine hw_ret ?_
  refine hq_ret1 rfl (rval_tmp rfl) [] rfl pre0 ?_
  exact Frz.fz
theorem refDigit_h (x : Int) : HPure Tryd.prog 81 [.imm (.int .u8 x)] (boolV (digitZ x)) := by
  refine hpure_of Tryd.func81 rfl (by kernel_rfl) _ _ _ rfl 9 rfl rfl (fun w F => ?_)
  refine hw_seq (fun Nh1 h1 => ?_)
  refine hw_region ?_
  refine hq_ 2 (hop_assign rfl) rfl rfl pre0 rfl rfl ?_
  refine hseq_nil ?_
  refine h1 _ ?_
  refine hw_seq (fun Nh2 h2 => ?_)
  refine hw_region ?_
  refine hq_ 3 (hop_move rfl) rfl rfl pre0 rfl rfl ?_
  refine hq_ 4 (hop_geq rfl rfl) rfl rfl pre0 rfl rfl ?_
  refine hq_ 5 (hop_move rfl) rfl rfl pre0 rfl rfl ?_
  first
  | refine hq_g 6 2 5 true _ (fun hb => hop_move rfl) rfl rfl rfl rfl pre0 rfl rfl rfl ?_
  | refine hq_g2 6 2 5 _ _ true _ (fun hb => hop_move rfl) rfl rfl rfl rfl pre0 rfl rfl rfl ?_
  first
  | refine hq_g 7 2 5 true _ (fun hb => hop_leq rfl rfl) rfl rfl rfl rfl pre0 rfl rfl rfl ?_
  | refine hq_g2 7 2 5 _ _ true _ (fun hb => hop_leq rfl rfl) rfl rfl rfl rfl pre0 rfl rfl rfl ?_
  first
  | refine hq_p 8 (hstep_and _ _ rfl rfl rfl) rfl rfl rfl ?_
  | refine hq_p 8 (hstep_or _ _ rfl rfl rfl) rfl rfl rfl ?_
  | refine hq_p 8 (hstep_ite _ _ _ rfl rfl rfl) rfl rfl rfl ?_
  | refine hq_p 8 (hstep_pick _ _ _ _ rfl rfl rfl (fun _ => .refl _) (fun _ => .refl _)) rfl rfl rfl ?_
  refine hq_ 2 (hop_assign rfl) rfl rfl pre0 rfl rfl ?_
  refine hseq_nilU (by rfl) (by simp only [dropUn, slots]; exact rfl) ?_
  refine h2 _ ?_
  refine hw_ret ?_
  refine hq_ret1 rfl (rval_tmp rfl) [] rfl pre0 ?_
  exact Frz.fz
theorem refWrong_h (s : List UInt8) (p : Nat) : HPure Tryd.prog 101 [strV s, intV p] (t2 (intV (wrongV s p).1) (intV (wrongV s p).2)) := by
  refine hpure_of Tryd.func101 rfl (by kernel_rfl) _ _ _ rfl 13 rfl rfl (fun w F => ?_)
  refine hw_seq (fun Nh1 h1 => ?_)
  refine hw_region ?_
  refine hq_ 4 (hop_assign rfl) rfl rfl pre0 rfl rfl ?_
  refine hq_ 5 (hop_assign rfl) rfl rfl pre0 rfl rfl ?_
  refine hseq_nil ?_
  refine h1 _ ?_
  refine hw_seq (fun Nh2 h2 => ?_)
  refine hw_seq (fun Nh3 h3 => ?_)
  refine hw_region ?_
  refine hq_ 6 (hop_move rfl) rfl rfl pre0 rfl rfl ?_
  refine hq_ 7 (hop_move rfl) rfl rfl pre0 rfl rfl ?_
  refine hq_ 8 (hop_len_strl (T := 9) rfl (by kernel_rfl) rfl) rfl rfl pre0 rfl rfl ?_
  refine hq_ 9 (hop_geq rfl rfl) rfl rfl pre0 rfl rfl ?_
  refine hseq_nil ?_
  refine h3 _ ?_
  refine hw_cond _ rfl (fun hc0 => ?_) (fun hc0 => ?_)
  · have hr0 := hc0; (try simp only [decide_eq_true_eq, decide_eq_false_iff_not, Bool.and_eq_true, Bool.or_eq_true, Bool.not_eq_true', Bool.or_eq_false_iff, beq_iff_eq, bne_iff_ne, ne_eq, beq_eq_false_iff_ne, bne_eq_false_iff_eq, Bool.not_eq_true, Bool.not_eq_false, Bool.not_eq_false', Int.toNat_natCast, Int.reduceToNat] at hc0)
    refine hw_seq (fun Nh4 h4 => ?_)
    refine hw_region ?_
    refine hq_ 10 (hop_move rfl) rfl rfl pre0 rfl rfl ?_
    refine hq_ 11 (hop_len_strl (T := 9) rfl (by kernel_rfl) rfl) rfl rfl pre0 rfl rfl ?_
    refine hq_ 4 (hop_assign rfl) rfl rfl pre0 rfl rfl ?_
    refine hq_ 5 (hop_assign rfl) rfl rfl pre0 rfl rfl ?_
    refine hseq_nil ?_
    refine h4 _ ?_
    refine hw_ret ?_
    refine hq_then_ret ?_
    refine hq_ret2 rfl (rval_tmp rfl) (rval_tmp rfl) [] rfl pre0 ?_
    have e : wrongV s p = ((s.length : Int), 5) := if_pos (by omega); rw [e]; exact fz_t2 (.imm _) (.imm _)
  · have hr0 := hc0; (try simp only [decide_eq_true_eq, decide_eq_false_iff_not, Bool.and_eq_true, Bool.or_eq_true, Bool.not_eq_true', Bool.or_eq_false_iff, beq_iff_eq, bne_iff_ne, ne_eq, beq_eq_false_iff_ne, bne_eq_false_iff_eq, Bool.not_eq_true, Bool.not_eq_false, Bool.not_eq_false', Int.toNat_natCast, Int.reduceToNat] at hc0)
    refine hw_skip ?_
    refine h2 _ ?_
    refine hw_seq (fun Nh5 h5 => ?_)
    refine hw_region ?_
    refine hq_ 12 (hop_move rfl) rfl rfl pre0 rfl rfl ?_
    refine hq_ 4 (hop_assign rfl) rfl rfl pre0 rfl rfl ?_
    refine hq_ 5 (hop_assign rfl) rfl rfl pre0 rfl rfl ?_
    refine hseq_nil ?_
    refine h5 _ ?_
    refine hw_ret ?_
    refine hq_ret2 rfl (rval_tmp rfl) (rval_tmp rfl) [] rfl pre0 ?_
    have e : wrongV s p = ((p : Int), 2) := if_neg (by omega); rw [e]; exact fz_t2 (.imm _) (.imm _)
@[reducible] def numLH (x : Option Int × Nat) : HV := t2 (intV (x.1.getD (-1))) (intV x.2)
theorem refNumber_h (s : List UInt8) (i : Nat) (hs : s.length ≤ 1000000) (hi : i ≤ s.length) : HPure Tryd.prog 100 [strV s, intV i] (numLH (numL s i)) := by
  refine hpure_of Tryd.func100 rfl (by kernel_rfl) _ _ _ rfl 62 rfl rfl (fun w F => ?_)
  refine hw_seq (fun Nh1 h1 => ?_)
  refine hw_region ?_
  refine hq_ 4 (hop_assign rfl) rfl rfl pre0 rfl rfl ?_
  refine hq_ 5 (hop_assign rfl) rfl rfl pre0 rfl rfl ?_
  refine hseq_nil ?_
  refine h1 _ ?_
  refine hw_seq (fun Nh2 h2 => ?_)
  refine hw_seq (fun Nh3 h3 => ?_)
  refine hw_region ?_
  refine hq_ 7 (hop_move rfl) rfl rfl pre0 rfl rfl ?_
  refine hq_ 8 (hop_move rfl) rfl rfl pre0 rfl rfl ?_
  refine hq_ 9 (hop_len_strl (T := 9) rfl (by kernel_rfl) rfl) rfl rfl pre0 rfl rfl ?_
  refine hq_ 10 (hop_geq rfl rfl) rfl rfl pre0 rfl rfl ?_
  refine hq_ 11 (hop_move rfl) rfl rfl pre0 rfl rfl ?_
  first
  | refine hq_g 12 4 11 false _ (fun hb => hop_move rfl) rfl rfl rfl rfl pre0 rfl rfl rfl ?_
  | refine hq_g2 12 4 11 _ _ false _ (fun hb => hop_move rfl) rfl rfl rfl rfl pre0 rfl rfl rfl ?_
  first
  | refine hq_g 13 4 11 false _ (fun hb => hop_move rfl) rfl rfl rfl rfl pre0 rfl rfl rfl ?_
  | refine hq_g2 13 4 11 _ _ false _ (fun hb => hop_move rfl) rfl rfl rfl rfl pre0 rfl rfl rfl ?_
  first
  | refine hq_g 14 4 11 false _ (fun hb => hop_ix_strl (by kernel_rfl) rfl rfl (by first | exact Nat.le_of_ble_eq_true rfl | (simp at hb; first | omega | (dsimp only; omega) | (simp <;> omega))) (by first | exact Nat.le_of_ble_eq_true rfl | (simp at hb; first | omega | (dsimp only; omega) | (simp <;> omega)))) rfl rfl rfl rfl pre0 rfl rfl rfl ?_
  | refine hq_g2 14 4 11 _ _ false _ (fun hb => hop_ix_strl (by kernel_rfl) rfl rfl (by first | exact Nat.le_of_ble_eq_true rfl | (simp at hb; first | omega | (dsimp only; omega) | (simp <;> omega))) (by first | exact Nat.le_of_ble_eq_true rfl | (simp at hb; first | omega | (dsimp only; omega) | (simp <;> omega)))) rfl rfl rfl rfl pre0 rfl rfl rfl ?_
  first
  | refine hq_g 15 4 11 false _ (fun hb => hop_call0 (xs := [_]) (refDigit_h _) ⟨rfl, trivial⟩ ⟨(Fz.eq rfl), trivial⟩) rfl rfl rfl rfl pre0 rfl rfl rfl ?_
  | refine hq_g2 15 4 11 _ _ false _ (fun hb => hop_call0 (xs := [_]) (refDigit_h _) ⟨rfl, trivial⟩ ⟨(Fz.eq rfl), trivial⟩) rfl rfl rfl rfl pre0 rfl rfl rfl ?_
  first
  | refine hq_g 16 4 11 false _ (fun hb => hop_not rfl) rfl rfl rfl rfl pre0 rfl rfl rfl ?_
  | refine hq_g2 16 4 11 _ _ false _ (fun hb => hop_not rfl) rfl rfl rfl rfl pre0 rfl rfl rfl ?_
  first
  | refine hq_p 17 (hstep_and _ _ rfl rfl rfl) rfl rfl rfl ?_
  | refine hq_p 17 (hstep_or _ _ rfl rfl rfl) rfl rfl rfl ?_
  | refine hq_p 17 (hstep_ite _ _ _ rfl rfl rfl) rfl rfl rfl ?_
  | refine hq_p 17 (hstep_pick _ _ _ _ rfl rfl rfl (fun _ => .refl _) (fun _ => .refl _)) rfl rfl rfl ?_
  refine hseq_nilU (by rfl) (by simp only [dropUn, slots]; exact rfl) ?_
  refine h3 _ ?_
  refine hw_cond _ rfl (fun hc0 => ?_) (fun hc0 => ?_)
  · have hr0 := hc0; (try simp only [decide_eq_true_eq, decide_eq_false_iff_not, Bool.and_eq_true, Bool.or_eq_true, Bool.not_eq_true', Bool.or_eq_false_iff, beq_iff_eq, bne_iff_ne, ne_eq, beq_eq_false_iff_ne, bne_eq_false_iff_eq, Bool.not_eq_true, Bool.not_eq_false, Bool.not_eq_false', Int.toNat_natCast, Int.reduceToNat] at hc0)
    have d0 : digitZ (bz s i) = false := (by have h := hr0; rw [Int.toNat_natCast, bz_ndig] at h; simpa using h)
    refine hw_seq (fun Nh4 h4 => ?_)
    refine hw_region ?_
    refine hq_ 18 (hop_move rfl) rfl rfl pre0 rfl rfl ?_
    refine hq_ 4 (hop_assign rfl) rfl rfl pre0 rfl rfl ?_
    refine hq_ 5 (hop_assign rfl) rfl rfl pre0 rfl rfl ?_
    refine hseq_nil ?_
    refine h4 _ ?_
    refine hw_ret ?_
    refine hq_then_ret ?_
    refine hq_ret2 rfl (rval_tmp rfl) (rval_tmp rfl) [] rfl pre0 ?_
    rw [num_zero d0]; exact fz_t2 (.imm _) (.imm _)
  · have hr0 := hc0; (try simp only [decide_eq_true_eq, decide_eq_false_iff_not, Bool.and_eq_true, Bool.or_eq_true, Bool.not_eq_true', Bool.or_eq_false_iff, beq_iff_eq, bne_iff_ne, ne_eq, beq_eq_false_iff_ne, bne_eq_false_iff_eq, Bool.not_eq_true, Bool.not_eq_false, Bool.not_eq_false', Int.toNat_natCast, Int.reduceToNat] at hc0)
    have d0 : digitZ (bz s i) = true := (by have h := hr0; rw [Int.toNat_natCast, bz_ndig] at h; simpa using h); have hil := digit_lt d0; have dz := digit_iff.1 d0
    refine hw_skip ?_
    refine h2 _ ?_
    refine hw_seq (fun Nh5 h5 => ?_)
    refine hw_region ?_
    refine hq_ 19 (hop_move rfl) rfl rfl pre0 rfl rfl ?_
    refine hq_ 20 (hop_move rfl) rfl rfl pre0 rfl rfl ?_
    refine hq_ 21 (HOp.val (v' := .imm (.int .u8 (bz s i))) (hop_ix_strl (by kernel_rfl) rfl rfl (by first | exact Nat.le_of_ble_eq_true rfl | omega | (dsimp only; omega) | (simp <;> omega)) (by first | exact Nat.le_of_ble_eq_true rfl | omega | (dsimp only; omega) | (simp <;> omega))) (by rw [bz_in hil, Int.toNat_natCast])) rfl rfl pre0 rfl rfl ?_
    first
    | refine hq_ 22 (hop_subk wok_u8 rfl rfl rfl (by first | exact Nat.le_of_ble_eq_true rfl | omega | (dsimp only; omega) | (simp <;> omega)) (by first | exact Nat.le_of_ble_eq_true rfl | omega | (dsimp only; omega) | (simp <;> omega))) rfl rfl pre0 rfl rfl ?_
    | refine hq_ 22 (hop_sub rfl rfl) rfl rfl pre0 rfl rfl ?_
    first
    | refine hq_ 23 (hop_convk wok_i64 (by kernel_rfl) (by kernel_rfl) rfl (by first | exact Nat.le_of_ble_eq_true rfl | omega | (dsimp only; omega) | (simp <;> omega)) (by first | exact Nat.le_of_ble_eq_true rfl | omega | (dsimp only; omega) | (simp <;> omega))) rfl rfl pre0 rfl rfl ?_
    | refine hq_ 23 (hop_conv (k' := .i64) (by kernel_rfl) (by kernel_rfl) rfl) rfl rfl pre0 rfl rfl ?_
    refine hq_ 6 (hop_assign rfl) rfl rfl pre0 rfl rfl ?_
    refine hseq_nil ?_
    refine h5 _ ?_
    refine hw_seq (fun Nh6 h6 => ?_)
    refine hw_region ?_
    refine hq_ 24 (hop_move rfl) rfl rfl pre0 rfl rfl ?_
    first
    | refine hq_ 25 (HOp.val (v' := intV ((i + 1 : Nat) : Int)) (hop_addi rfl rfl rfl (by first | exact Nat.le_of_ble_eq_true rfl | omega | (dsimp only; omega) | (simp <;> omega)) (by first | exact Nat.le_of_ble_eq_true rfl | omega | (dsimp only; omega) | (simp <;> omega))) (rfl)) rfl rfl pre0 rfl rfl ?_
    | refine hq_ 25 (HOp.val (v' := intV ((i + 1 : Nat) : Int)) (hop_add rfl rfl) (rfl)) rfl rfl pre0 rfl rfl ?_
    refine hq_ 1 (hop_assign rfl) rfl rfl pre0 rfl rfl ?_
    refine hseq_nil ?_
    refine h6 _ ?_
    refine hw_seq (fun Nh7 h7 => ?_)
    refine hw_seq (fun Nh8 h8 => ?_)
    refine hw_region ?_
    refine hq_ 26 (hop_move rfl) rfl rfl pre0 rfl rfl ?_
    refine hq_ 27 (hop_move rfl) rfl rfl pre0 rfl rfl ?_
    refine hq_ 28 (hop_len_strl (T := 9) rfl (by kernel_rfl) rfl) rfl rfl pre0 rfl rfl ?_
    refine hq_ 29 (hop_lss rfl rfl) rfl rfl pre0 rfl rfl ?_
    refine hq_ 30 (hop_move rfl) rfl rfl pre0 rfl rfl ?_
    first
    | refine hq_g 31 4 30 true _ (fun hb => hop_move rfl) rfl rfl rfl rfl pre0 rfl rfl rfl ?_
    | refine hq_g2 31 4 30 _ _ true _ (fun hb => hop_move rfl) rfl rfl rfl rfl pre0 rfl rfl rfl ?_
    first
    | refine hq_g 32 4 30 true _ (fun hb => hop_move rfl) rfl rfl rfl rfl pre0 rfl rfl rfl ?_
    | refine hq_g2 32 4 30 _ _ true _ (fun hb => hop_move rfl) rfl rfl rfl rfl pre0 rfl rfl rfl ?_
    first
    | refine hq_g 33 4 30 true _ (fun hb => hop_ix_strl (by kernel_rfl) rfl rfl (by first | exact Nat.le_of_ble_eq_true rfl | (simp at hb; first | omega | (dsimp only; omega) | (simp <;> omega))) (by first | exact Nat.le_of_ble_eq_true rfl | (simp at hb; first | omega | (dsimp only; omega) | (simp <;> omega)))) rfl rfl rfl rfl pre0 rfl rfl rfl ?_
    | refine hq_g2 33 4 30 _ _ true _ (fun hb => hop_ix_strl (by kernel_rfl) rfl rfl (by first | exact Nat.le_of_ble_eq_true rfl | (simp at hb; first | omega | (dsimp only; omega) | (simp <;> omega))) (by first | exact Nat.le_of_ble_eq_true rfl | (simp at hb; first | omega | (dsimp only; omega) | (simp <;> omega)))) rfl rfl rfl rfl pre0 rfl rfl rfl ?_
    first
    | refine hq_g 34 4 30 true _ (fun hb => hop_call0 (xs := [_]) (refDigit_h _) ⟨rfl, trivial⟩ ⟨(Fz.eq rfl), trivial⟩) rfl rfl rfl rfl pre0 rfl rfl rfl ?_
    | refine hq_g2 34 4 30 _ _ true _ (fun hb => hop_call0 (xs := [_]) (refDigit_h _) ⟨rfl, trivial⟩ ⟨(Fz.eq rfl), trivial⟩) rfl rfl rfl rfl pre0 rfl rfl rfl ?_
    first
    | refine hq_p 35 (hstep_and _ _ rfl rfl rfl) rfl rfl rfl ?_
    | refine hq_p 35 (hstep_or _ _ rfl rfl rfl) rfl rfl rfl ?_
    | refine hq_p 35 (hstep_ite _ _ _ rfl rfl rfl) rfl rfl rfl ?_
    | refine hq_p 35 (hstep_pick _ _ _ _ rfl rfl rfl (fun _ => .refl _) (fun _ => .refl _)) rfl rfl rfl ?_
    refine hseq_nilU (by rfl) (by simp only [dropUn, slots]; exact rfl) ?_
    refine h8 _ ?_
    refine hw_cond _ rfl (fun hc1 => ?_) (fun hc1 => ?_)
    · have hr1 := hc1; (try simp only [decide_eq_true_eq, decide_eq_false_iff_not, Bool.and_eq_true, Bool.or_eq_true, Bool.not_eq_true', Bool.or_eq_false_iff, beq_iff_eq, bne_iff_ne, ne_eq, beq_eq_false_iff_ne, bne_eq_false_iff_eq, Bool.not_eq_true, Bool.not_eq_false, Bool.not_eq_false', Int.toNat_natCast, Int.reduceToNat] at hc1)
      have d1 : digitZ (bz s (i + 1)) = true := (by have h := hr1; rw [Int.toNat_natCast, ← bz_dig] at h; exact h); have hil2 := digit_lt d1; have dz1 := digit_iff.1 d1
      refine hw_seq (fun Nh9 h9 => ?_)
      refine hw_seq (fun Nh10 h10 => ?_)
      refine hw_region ?_
      refine hq_ 36 (hop_move rfl) rfl rfl pre0 rfl rfl ?_
      refine hq_ 37 (hop_eql rfl rfl) rfl rfl pre0 rfl rfl ?_
      refine hseq_nil ?_
      refine h10 _ ?_
      refine hw_cond _ rfl (fun hc2 => ?_) (fun hc2 => ?_)
      · have hr2 := hc2; (try simp only [decide_eq_true_eq, decide_eq_false_iff_not, Bool.and_eq_true, Bool.or_eq_true, Bool.not_eq_true', Bool.or_eq_false_iff, beq_iff_eq, bne_iff_ne, ne_eq, beq_eq_false_iff_ne, bne_eq_false_iff_eq, Bool.not_eq_true, Bool.not_eq_false, Bool.not_eq_false', Int.toNat_natCast, Int.reduceToNat] at hc2)
        refine hw_seq (fun Nh11 h11 => ?_)
        refine hw_region ?_
        refine hq_ 38 (hop_move rfl) rfl rfl pre0 rfl rfl ?_
        refine hq_ 4 (hop_assign rfl) rfl rfl pre0 rfl rfl ?_
        refine hq_ 5 (hop_assign rfl) rfl rfl pre0 rfl rfl ?_
        refine hseq_nil ?_
        refine h11 _ ?_
        refine hw_ret ?_
        refine hq_then_ret ?_
        refine hq_then_ret ?_
        refine hq_ret2 rfl (rval_tmp rfl) (rval_tmp rfl) [] rfl pre0 ?_
        have e : numL s i = (none, i + 1) := (by unfold numL; rw [if_pos d0, if_pos d1, if_pos (by omega)]); rw [e]; exact fz_t2 (.imm _) (.imm _)
      · have hr2 := hc2; (try simp only [decide_eq_true_eq, decide_eq_false_iff_not, Bool.and_eq_true, Bool.or_eq_true, Bool.not_eq_true', Bool.or_eq_false_iff, beq_iff_eq, bne_iff_ne, ne_eq, beq_eq_false_iff_ne, bne_eq_false_iff_eq, Bool.not_eq_true, Bool.not_eq_false, Bool.not_eq_false', Int.toNat_natCast, Int.reduceToNat] at hc2)
        refine hw_skip ?_
        refine h9 _ ?_
        refine hw_seq (fun Nh12 h12 => ?_)
        refine hw_region ?_
        refine hq_ 39 (hop_move rfl) rfl rfl pre0 rfl rfl ?_
        first
        | refine hq_ 40 (hop_muli rfl rfl rfl (by first | exact Nat.le_of_ble_eq_true rfl | omega | (dsimp only; omega) | (simp <;> omega)) (by first | exact Nat.le_of_ble_eq_true rfl | omega | (dsimp only; omega) | (simp <;> omega))) rfl rfl pre0 rfl rfl ?_
        | refine hq_ 40 (hop_mul rfl rfl) rfl rfl pre0 rfl rfl ?_
        refine hq_ 41 (hop_move rfl) rfl rfl pre0 rfl rfl ?_
        refine hq_ 42 (hop_move rfl) rfl rfl pre0 rfl rfl ?_
        refine hq_ 43 (HOp.val (v' := .imm (.int .u8 (bz s (i + 1)))) (hop_ix_strl (by kernel_rfl) rfl rfl (by first | exact Nat.le_of_ble_eq_true rfl | omega | (dsimp only; omega) | (simp <;> omega)) (by first | exact Nat.le_of_ble_eq_true rfl | omega | (dsimp only; omega) | (simp <;> omega))) (by rw [bz_in hil2, Int.toNat_natCast])) rfl rfl pre0 rfl rfl ?_
        first
        | refine hq_ 44 (hop_subk wok_u8 rfl rfl rfl (by first | exact Nat.le_of_ble_eq_true rfl | omega | (dsimp only; omega) | (simp <;> omega)) (by first | exact Nat.le_of_ble_eq_true rfl | omega | (dsimp only; omega) | (simp <;> omega))) rfl rfl pre0 rfl rfl ?_
        | refine hq_ 44 (hop_sub rfl rfl) rfl rfl pre0 rfl rfl ?_
        first
        | refine hq_ 45 (hop_convk wok_i64 (by kernel_rfl) (by kernel_rfl) rfl (by first | exact Nat.le_of_ble_eq_true rfl | omega | (dsimp only; omega) | (simp <;> omega)) (by first | exact Nat.le_of_ble_eq_true rfl | omega | (dsimp only; omega) | (simp <;> omega))) rfl rfl pre0 rfl rfl ?_
        | refine hq_ 45 (hop_conv (k' := .i64) (by kernel_rfl) (by kernel_rfl) rfl) rfl rfl pre0 rfl rfl ?_
        first
        | refine hq_ 46 (hop_addi rfl rfl rfl (by first | exact Nat.le_of_ble_eq_true rfl | omega | (dsimp only; omega) | (simp <;> omega)) (by first | exact Nat.le_of_ble_eq_true rfl | omega | (dsimp only; omega) | (simp <;> omega))) rfl rfl pre0 rfl rfl ?_
        | refine hq_ 46 (hop_add rfl rfl) rfl rfl pre0 rfl rfl ?_
        refine hq_ 6 (hop_assign rfl) rfl rfl pre0 rfl rfl ?_
        refine hseq_nil ?_
        refine h12 _ ?_
        refine hw_seq (fun Nh13 h13 => ?_)
        refine hw_region ?_
        refine hq_ 47 (hop_move rfl) rfl rfl pre0 rfl rfl ?_
        first
        | refine hq_ 48 (HOp.val (v' := intV ((i + 2 : Nat) : Int)) (hop_addi rfl rfl rfl (by first | exact Nat.le_of_ble_eq_true rfl | omega | (dsimp only; omega) | (simp <;> omega)) (by first | exact Nat.le_of_ble_eq_true rfl | omega | (dsimp only; omega) | (simp <;> omega))) (rfl)) rfl rfl pre0 rfl rfl ?_
        | refine hq_ 48 (HOp.val (v' := intV ((i + 2 : Nat) : Int)) (hop_add rfl rfl) (rfl)) rfl rfl pre0 rfl rfl ?_
        refine hq_ 1 (hop_assign rfl) rfl rfl pre0 rfl rfl ?_
        refine hseq_nil ?_
        refine h13 _ ?_
        refine hw_seq (fun Nh14 h14 => ?_)
        refine hw_region ?_
        refine hq_ 49 (hop_move rfl) rfl rfl pre0 rfl rfl ?_
        refine hq_ 50 (hop_move rfl) rfl rfl pre0 rfl rfl ?_
        refine hq_ 51 (hop_len_strl (T := 9) rfl (by kernel_rfl) rfl) rfl rfl pre0 rfl rfl ?_
        refine hq_ 52 (hop_lss rfl rfl) rfl rfl pre0 rfl rfl ?_
        refine hq_ 53 (hop_move rfl) rfl rfl pre0 rfl rfl ?_
        first
        | refine hq_g 54 4 53 true _ (fun hb => hop_move rfl) rfl rfl rfl rfl pre0 rfl rfl rfl ?_
        | refine hq_g2 54 4 53 _ _ true _ (fun hb => hop_move rfl) rfl rfl rfl rfl pre0 rfl rfl rfl ?_
        first
        | refine hq_g 55 4 53 true _ (fun hb => hop_move rfl) rfl rfl rfl rfl pre0 rfl rfl rfl ?_
        | refine hq_g2 55 4 53 _ _ true _ (fun hb => hop_move rfl) rfl rfl rfl rfl pre0 rfl rfl rfl ?_
        first
        | refine hq_g 56 4 53 true _ (fun hb => hop_ix_strl (by kernel_rfl) rfl rfl (by first | exact Nat.le_of_ble_eq_true rfl | (simp at hb; first | omega | (dsimp only; omega) | (simp <;> omega))) (by first | exact Nat.le_of_ble_eq_true rfl | (simp at hb; first | omega | (dsimp only; omega) | (simp <;> omega)))) rfl rfl rfl rfl pre0 rfl rfl rfl ?_
        | refine hq_g2 56 4 53 _ _ true _ (fun hb => hop_ix_strl (by kernel_rfl) rfl rfl (by first | exact Nat.le_of_ble_eq_true rfl | (simp at hb; first | omega | (dsimp only; omega) | (simp <;> omega))) (by first | exact Nat.le_of_ble_eq_true rfl | (simp at hb; first | omega | (dsimp only; omega) | (simp <;> omega)))) rfl rfl rfl rfl pre0 rfl rfl rfl ?_
        first
        | refine hq_g 57 4 53 true _ (fun hb => hop_call0 (xs := [_]) (refDigit_h _) ⟨rfl, trivial⟩ ⟨(Fz.eq rfl), trivial⟩) rfl rfl rfl rfl pre0 rfl rfl rfl ?_
        | refine hq_g2 57 4 53 _ _ true _ (fun hb => hop_call0 (xs := [_]) (refDigit_h _) ⟨rfl, trivial⟩ ⟨(Fz.eq rfl), trivial⟩) rfl rfl rfl rfl pre0 rfl rfl rfl ?_
        first
        | refine hq_p 58 (hstep_and _ _ rfl rfl rfl) rfl rfl rfl ?_
        | refine hq_p 58 (hstep_or _ _ rfl rfl rfl) rfl rfl rfl ?_
        | refine hq_p 58 (hstep_ite _ _ _ rfl rfl rfl) rfl rfl rfl ?_
        | refine hq_p 58 (hstep_pick _ _ _ _ rfl rfl rfl (fun _ => .refl _) (fun _ => .refl _)) rfl rfl rfl ?_
        refine hseq_nilU (by rfl) (by simp only [dropUn, slots]; exact rfl) ?_
        refine h14 _ ?_
        refine hw_cond _ rfl (fun hc3 => ?_) (fun hc3 => ?_)
        · have hr3 := hc3; (try simp only [decide_eq_true_eq, decide_eq_false_iff_not, Bool.and_eq_true, Bool.or_eq_true, Bool.not_eq_true', Bool.or_eq_false_iff, beq_iff_eq, bne_iff_ne, ne_eq, beq_eq_false_iff_ne, bne_eq_false_iff_eq, Bool.not_eq_true, Bool.not_eq_false, Bool.not_eq_false', Int.toNat_natCast, Int.reduceToNat] at hc3)
          have d2 : digitZ (bz s (i + 2)) = true := (by have h := hr3; rw [Int.toNat_natCast, ← bz_dig] at h; exact h)
          refine hw_seq (fun Nh15 h15 => ?_)
          refine hw_region ?_
          refine hq_ 59 (hop_move rfl) rfl rfl pre0 rfl rfl ?_
          refine hq_ 4 (hop_assign rfl) rfl rfl pre0 rfl rfl ?_
          refine hq_ 5 (hop_assign rfl) rfl rfl pre0 rfl rfl ?_
          refine hseq_nil ?_
          refine h15 _ ?_
          refine hw_ret ?_
          refine hq_then_ret ?_
          refine hq_ret2 rfl (rval_tmp rfl) (rval_tmp rfl) [] rfl pre0 ?_
          have e : numL s i = (none, i + 2) := (by unfold numL; rw [if_pos d0, if_pos d1, if_neg (by omega), if_pos d2]); rw [e]; exact fz_t2 (.imm _) (.imm _)
        · have hr3 := hc3; (try simp only [decide_eq_true_eq, decide_eq_false_iff_not, Bool.and_eq_true, Bool.or_eq_true, Bool.not_eq_true', Bool.or_eq_false_iff, beq_iff_eq, bne_iff_ne, ne_eq, beq_eq_false_iff_ne, bne_eq_false_iff_eq, Bool.not_eq_true, Bool.not_eq_false, Bool.not_eq_false', Int.toNat_natCast, Int.reduceToNat] at hc3)
          have d2 : digitZ (bz s (i + 2)) = false := (by have h := hr3; rw [Int.toNat_natCast, ← bz_dig] at h; exact h)
          refine hw_skip ?_
          refine h7 _ ?_
          refine hw_seq (fun Nh16 h16 => ?_)
          refine hw_region ?_
          refine hq_ 60 (hop_move rfl) rfl rfl pre0 rfl rfl ?_
          refine hq_ 61 (hop_move rfl) rfl rfl pre0 rfl rfl ?_
          refine hq_ 4 (hop_assign rfl) rfl rfl pre0 rfl rfl ?_
          refine hq_ 5 (hop_assign rfl) rfl rfl pre0 rfl rfl ?_
          refine hseq_nil ?_
          refine h16 _ ?_
          refine hw_ret ?_
          refine hq_ret2 rfl (rval_tmp rfl) (rval_tmp rfl) [] rfl pre0 ?_
          have e : numL s i = (some (10 * (bz s i - 48) + (bz s (i + 1) - 48)), i + 2) := (by unfold numL; rw [if_pos d0, if_pos d1, if_neg (by omega), if_neg (by rw [d2]; decide)]); rw [e]; exact fz_t2 (.imm _) (.imm _)
    · have hr1 := hc1; (try simp only [decide_eq_true_eq, decide_eq_false_iff_not, Bool.and_eq_true, Bool.or_eq_true, Bool.not_eq_true', Bool.or_eq_false_iff, beq_iff_eq, bne_iff_ne, ne_eq, beq_eq_false_iff_ne, bne_eq_false_iff_eq, Bool.not_eq_true, Bool.not_eq_false, Bool.not_eq_false', Int.toNat_natCast, Int.reduceToNat] at hc1)
      have d1 : digitZ (bz s (i + 1)) = false := (by have h := hr1; rw [Int.toNat_natCast, ← bz_dig] at h; exact h)
      refine hw_skip ?_
      refine h7 _ ?_
      refine hw_seq (fun Nh17 h17 => ?_)
      refine hw_region ?_
      refine hq_ 60 (hop_move rfl) rfl rfl pre0 rfl rfl ?_
      refine hq_ 61 (hop_move rfl) rfl rfl pre0 rfl rfl ?_
      refine hq_ 4 (hop_assign rfl) rfl rfl pre0 rfl rfl ?_
      refine hq_ 5 (hop_assign rfl) rfl rfl pre0 rfl rfl ?_
      refine hseq_nil ?_
      refine h17 _ ?_
      refine hw_ret ?_
      refine hq_ret2 rfl (rval_tmp rfl) (rval_tmp rfl) [] rfl pre0 ?_
      have e : numL s i = (some (bz s i - 48), i + 1) := (by unfold numL; rw [if_pos d0, if_neg (by rw [d1]; decide)]); rw [e]; exact fz_t2 (.imm _) (.imm _)
theorem refNum {s : List UInt8} {i : Nat} {x : Option Int × Nat} (hs : s.length ≤ 1000000) (hi : i ≤ s.length) (h : numL s i = x) : HPure Tryd.prog 100 [strV s, intV i] (numLH x) := h ▸ refNumber_h s i hs hi
@[reducible] def oneH (x : Sg × Int × Int) : HV := t3 (sgH x.1) (intV x.2.1) (intV x.2.2)
theorem refCount_h (s : List UInt8) (i : Nat) (hs : s.length ≤ 1000000) (hi : i < s.length) : HPure Tryd.prog 82 [strV s, intV i] (oneH (countF s i)) := by
  refine hpure_of Tryd.func82 rfl (by kernel_rfl) _ _ _ rfl 143 rfl rfl (fun w F => ?_)
  refine hw_seq (fun Nh1 h1 => ?_)
  refine hw_region ?_
  refine hm_1 4 (hop_alloc (id := 4) (sz := 5) zc_40 rfl rfl (by first | exact Nat.le_of_ble_eq_true rfl | omega | (dsimp only; omega) | (simp <;> omega)) (by first | exact Nat.le_of_ble_eq_true rfl | omega | (dsimp only; omega) | (simp <;> omega))) rfl rfl pre0 rfl rfl (c' := 1) rfl ?_
  refine hq_ 5 (hop_assign rfl) rfl rfl pre0 rfl rfl ?_
  refine hq_ 6 (hop_assign rfl) rfl rfl pre0 rfl rfl ?_
  refine hseq_nil ?_
  refine h1 _ ?_
  refine hw_seq (fun Nh2 h2 => ?_)
  refine hw_region ?_
  refine hq_ 19 (hop_move rfl) rfl rfl pre0 rfl rfl ?_
  refine hq_ 20 (hop_build (hs := [(0, 1, _), (1, 1, _)]) st_40 rfl rfl ⟨rfl, rfl, rfl, rfl, rfl, ⟨rfl, rfl, rfl, rfl, rfl, trivial⟩⟩) rfl rfl pre0 rfl rfl ?_
  refine hm_1 7 (hop_alloc (id := 7) (sz := 5) zc_40 rfl rfl (by first | exact Nat.le_of_ble_eq_true rfl | omega | (dsimp only; omega) | (simp <;> omega)) (by first | exact Nat.le_of_ble_eq_true rfl | omega | (dsimp only; omega) | (simp <;> omega))) rfl rfl pre0 rfl rfl (c' := 2) rfl ?_
  first
  | refine hm_s1 (hol_storeW ty_40 rfl rfl rfl rfl) rfl rfl (pre1 rfl) (c' := 3) rfl ?_
  | refine hm_s1 (hol_store ty_40 rfl rfl rfl rfl (by first | exact Nat.le_of_ble_eq_true rfl | omega | (dsimp only; omega) | (simp <;> omega)) (by first | exact Nat.le_of_ble_eq_true rfl | omega | (dsimp only; omega) | (simp <;> omega)) (by first | exact Nat.le_of_ble_eq_true rfl | omega | (dsimp only; omega) | (simp <;> omega))) rfl rfl (pre1 rfl) (c' := 3) rfl ?_
  refine hseq_nil ?_
  refine h2 _ ?_
  refine hw_seq (fun Nh3 h3 => ?_)
  rcases hn : numL s (i + 1) with ⟨_ | n, p⟩
  · skip
    refine hw_region ?_
    refine hq_ 22 (hop_move rfl) rfl rfl pre0 rfl rfl ?_
    refine hq_ 23 (hop_move rfl) rfl rfl pre0 rfl rfl ?_
    first
    | refine hq_ 24 (HOp.val (v' := intV ((i + 1 : Nat) : Int)) (hop_addi rfl rfl rfl (by first | exact Nat.le_of_ble_eq_true rfl | omega | (dsimp only; omega) | (simp <;> omega)) (by first | exact Nat.le_of_ble_eq_true rfl | omega | (dsimp only; omega) | (simp <;> omega))) (rfl)) rfl rfl pre0 rfl rfl ?_
    | refine hq_ 24 (HOp.val (v' := intV ((i + 1 : Nat) : Int)) (hop_add rfl rfl) (rfl)) rfl rfl pre0 rfl rfl ?_
    refine hq_ 25 (hop_call0 (xs := [_, _]) (refNum hs hi hn) ⟨rfl, ⟨rfl, trivial⟩⟩ ⟨(Fz.eq rfl), ⟨(Fz.eq rfl), trivial⟩⟩) rfl rfl pre0 rfl rfl ?_
    refine hq_ 21 (hop_move rfl) rfl rfl pre0 rfl rfl ?_
    refine hq_ 26 (HOp.val (v' := intV (-1)) (hop_extract rfl rfl) (rfl)) rfl rfl pre0 rfl rfl ?_
    refine hq_ 27 (HOp.val (v' := intV p) (hop_extract rfl rfl) (rfl)) rfl rfl pre0 rfl rfl ?_
    refine hq_ 8 (hop_assign rfl) rfl rfl pre0 rfl rfl ?_
    refine hq_ 9 (hop_assign rfl) rfl rfl pre0 rfl rfl ?_
    refine hseq_nil ?_
    refine h3 _ ?_
    refine hw_seq (fun Nh4 h4 => ?_)
    refine hw_seq (fun Nh5 h5 => ?_)
    have hnp := numL_le (by omega) hn
    refine hw_region ?_
    refine hq_ 28 (hop_move rfl) rfl rfl pre0 rfl rfl ?_
    refine hq_ 29 (hop_lss rfl rfl) rfl rfl pre0 rfl rfl ?_
    refine hseq_nil ?_
    refine h5 _ ?_
    refine hw_cond _ rfl (fun hc0 => ?_) (fun hc0 => ?_)
    · have hr0 := hc0; (try simp only [decide_eq_true_eq, decide_eq_false_iff_not, Bool.and_eq_true, Bool.or_eq_true, Bool.not_eq_true', Bool.or_eq_false_iff, beq_iff_eq, bne_iff_ne, ne_eq, beq_eq_false_iff_ne, bne_eq_false_iff_eq, Bool.not_eq_true, Bool.not_eq_false, Bool.not_eq_false', Int.toNat_natCast, Int.reduceToNat] at hc0)
      refine hw_seq (fun Nh6 h6 => ?_)
      refine hw_region ?_
      refine hq_ 31 (hop_move rfl) rfl rfl pre0 rfl rfl ?_
      refine hq_ 32 (hop_move rfl) rfl rfl pre0 rfl rfl ?_
      refine hq_ 33 (hop_call0 (xs := [_, _]) (refWrong_h s p) ⟨rfl, ⟨rfl, trivial⟩⟩ ⟨(Fz.eq rfl), ⟨(Fz.eq rfl), trivial⟩⟩) rfl rfl pre0 rfl rfl ?_
      refine hq_ 30 (hop_move rfl) rfl rfl pre0 rfl rfl ?_
      refine hq_ 34 (hop_extract rfl rfl) rfl rfl pre0 rfl rfl ?_
      refine hq_ 35 (hop_extract rfl rfl) rfl rfl pre0 rfl rfl ?_
      refine hq_ 10 (hop_assign rfl) rfl rfl pre0 rfl rfl ?_
      refine hq_ 11 (hop_assign rfl) rfl rfl pre0 rfl rfl ?_
      refine hseq_nil ?_
      refine h6 _ ?_
      refine hw_seq (fun Nh7 h7 => ?_)
      refine hw_region ?_
      first
      | refine hq_ 36 (hol_load ty_40 rfl (by first | exact Nat.le_of_ble_eq_true rfl | omega | (dsimp only; omega) | (simp <;> omega)) (by first | exact Nat.le_of_ble_eq_true rfl | omega | (dsimp only; omega) | (simp <;> omega)) (fun h => by first | rfl | cases h)) rfl rfl (pre1 rfl) rfl rfl ?_
      | refine hq_ 36 (hop_load_fp ty_40 rfl (by first | exact Nat.le_of_ble_eq_true rfl | omega | (dsimp only; omega) | (simp <;> omega)) (fun h => by first | rfl | cases h)) rfl rfl pre0 rfl rfl ?_
      refine hq_ 37 (hop_move rfl) rfl rfl pre0 rfl rfl ?_
      refine hq_ 38 (hop_move rfl) rfl rfl pre0 rfl rfl ?_
      first
      | refine hm_s1 (hol_storeW ty_40 rfl rfl rfl rfl) rfl rfl (pre1 rfl) (c' := 4) rfl ?_
      | refine hm_s1 (hol_store ty_40 rfl rfl rfl rfl (by first | exact Nat.le_of_ble_eq_true rfl | omega | (dsimp only; omega) | (simp <;> omega)) (by first | exact Nat.le_of_ble_eq_true rfl | omega | (dsimp only; omega) | (simp <;> omega)) (by first | exact Nat.le_of_ble_eq_true rfl | omega | (dsimp only; omega) | (simp <;> omega))) rfl rfl (pre1 rfl) (c' := 4) rfl ?_
      refine hq_ 5 (hop_assign rfl) rfl rfl pre0 rfl rfl ?_
      refine hq_ 6 (hop_assign rfl) rfl rfl pre0 rfl rfl ?_
      refine hseq_nil ?_
      refine h7 _ ?_
      refine hw_ret ?_
      refine hq_then_ret ?_
      refine hq_ret3 rfl (rvl_cell rfl rfl ty_40 (fun h => by first | rfl | cases h) rfl rfl) (rval_tmp rfl) (rval_tmp rfl) [] rfl pre0 ?_
      have e : countF s i = (⟨5, i, 0, 0, []⟩, wrongV s p) := (by unfold countF; rw [hn]); rw [e]; exact fz_t3 (fz_agg5 (by first | exact .imm _ | exact .nil _ _ _ (by decide) _ | exact fz_toks _ | exact fz_mkss _ | exact Frz.fz) (by first | exact .imm _ | exact .nil _ _ _ (by decide) _ | exact fz_toks _ | exact fz_mkss _ | exact Frz.fz) (by first | exact .imm _ | exact .nil _ _ _ (by decide) _ | exact fz_toks _ | exact fz_mkss _ | exact Frz.fz) (by first | exact .imm _ | exact .nil _ _ _ (by decide) _ | exact fz_toks _ | exact fz_mkss _ | exact Frz.fz) (by first | exact .imm _ | exact .nil _ _ _ (by decide) _ | exact fz_toks _ | exact fz_mkss _ | exact Frz.fz)) (.imm _) (.imm _)
    · have hr0 := hc0; (try simp only [decide_eq_true_eq, decide_eq_false_iff_not, Bool.and_eq_true, Bool.or_eq_true, Bool.not_eq_true', Bool.or_eq_false_iff, beq_iff_eq, bne_iff_ne, ne_eq, beq_eq_false_iff_ne, bne_eq_false_iff_eq, Bool.not_eq_true, Bool.not_eq_false, Bool.not_eq_false', Int.toNat_natCast, Int.reduceToNat] at hc0)
      exfalso; exact absurd hr0 (by simp)
  · skip
    refine hw_region ?_
    refine hq_ 22 (hop_move rfl) rfl rfl pre0 rfl rfl ?_
    refine hq_ 23 (hop_move rfl) rfl rfl pre0 rfl rfl ?_
    first
    | refine hq_ 24 (HOp.val (v' := intV ((i + 1 : Nat) : Int)) (hop_addi rfl rfl rfl (by first | exact Nat.le_of_ble_eq_true rfl | omega | (dsimp only; omega) | (simp <;> omega)) (by first | exact Nat.le_of_ble_eq_true rfl | omega | (dsimp only; omega) | (simp <;> omega))) (rfl)) rfl rfl pre0 rfl rfl ?_
    | refine hq_ 24 (HOp.val (v' := intV ((i + 1 : Nat) : Int)) (hop_add rfl rfl) (rfl)) rfl rfl pre0 rfl rfl ?_
    refine hq_ 25 (hop_call0 (xs := [_, _]) (refNum hs hi hn) ⟨rfl, ⟨rfl, trivial⟩⟩ ⟨(Fz.eq rfl), ⟨(Fz.eq rfl), trivial⟩⟩) rfl rfl pre0 rfl rfl ?_
    refine hq_ 21 (hop_move rfl) rfl rfl pre0 rfl rfl ?_
    refine hq_ 26 (HOp.val (v' := intV n) (hop_extract rfl rfl) (rfl)) rfl rfl pre0 rfl rfl ?_
    refine hq_ 27 (HOp.val (v' := intV p) (hop_extract rfl rfl) (rfl)) rfl rfl pre0 rfl rfl ?_
    refine hq_ 8 (hop_assign rfl) rfl rfl pre0 rfl rfl ?_
    refine hq_ 9 (hop_assign rfl) rfl rfl pre0 rfl rfl ?_
    refine hseq_nil ?_
    refine h3 _ ?_
    refine hw_seq (fun Nh8 h8 => ?_)
    refine hw_seq (fun Nh9 h9 => ?_)
    have hnp := numL_le (by omega) hn
    refine hw_region ?_
    refine hq_ 28 (hop_move rfl) rfl rfl pre0 rfl rfl ?_
    refine hq_ 29 (hop_lss rfl rfl) rfl rfl pre0 rfl rfl ?_
    refine hseq_nil ?_
    refine h9 _ ?_
    refine hw_cond _ rfl (fun hc0 => ?_) (fun hc0 => ?_)
    · have hr0 := hc0; (try simp only [decide_eq_true_eq, decide_eq_false_iff_not, Bool.and_eq_true, Bool.or_eq_true, Bool.not_eq_true', Bool.or_eq_false_iff, beq_iff_eq, bne_iff_ne, ne_eq, beq_eq_false_iff_ne, bne_eq_false_iff_eq, Bool.not_eq_true, Bool.not_eq_false, Bool.not_eq_false', Int.toNat_natCast, Int.reduceToNat] at hc0)
      exfalso; have := hnp.2.2 n rfl; omega
    · have hr0 := hc0; (try simp only [decide_eq_true_eq, decide_eq_false_iff_not, Bool.and_eq_true, Bool.or_eq_true, Bool.not_eq_true', Bool.or_eq_false_iff, beq_iff_eq, bne_iff_ne, ne_eq, beq_eq_false_iff_ne, bne_eq_false_iff_eq, Bool.not_eq_true, Bool.not_eq_false, Bool.not_eq_false', Int.toNat_natCast, Int.reduceToNat] at hc0)
      refine hw_skip ?_
      refine h8 _ ?_
      refine hw_seq (fun Nh10 h10 => ?_)
      refine hw_seq (fun Nh11 h11 => ?_)
      refine hw_region ?_
      refine hq_ 39 (hop_move rfl) rfl rfl pre0 rfl rfl ?_
      refine hq_ 40 (hop_gtr rfl rfl) rfl rfl pre0 rfl rfl ?_
      refine hq_ 41 (hop_move rfl) rfl rfl pre0 rfl rfl ?_
      first
      | refine hq_g 42 2 41 false _ (fun hb => hop_move rfl) rfl rfl rfl rfl pre0 rfl rfl rfl ?_
      | refine hq_g2 42 2 41 _ _ false _ (fun hb => hop_move rfl) rfl rfl rfl rfl pre0 rfl rfl rfl ?_
      first
      | refine hq_g 43 2 41 false _ (fun hb => hop_eql rfl rfl) rfl rfl rfl rfl pre0 rfl rfl rfl ?_
      | refine hq_g2 43 2 41 _ _ false _ (fun hb => hop_eql rfl rfl) rfl rfl rfl rfl pre0 rfl rfl rfl ?_
      first
      | refine hq_g 44 2 41 false _ (fun hb => hop_move rfl) rfl rfl rfl rfl pre0 rfl rfl rfl ?_
      | refine hq_g2 44 2 41 _ _ false _ (fun hb => hop_move rfl) rfl rfl rfl rfl pre0 rfl rfl rfl ?_
      first
      | refine hq_g 45 5 44 true _ (fun hb => hop_move rfl) rfl rfl rfl rfl pre0 rfl rfl rfl ?_
      | refine hq_g3 45 5 44 41 false true _ _ (fun hb hb2 => hop_move rfl) rfl rfl rfl rfl rfl pre0 rfl rfl rfl ?_
      | refine hq_g2 45 5 44 _ _ true _ (fun hb => hop_move rfl) rfl rfl rfl rfl pre0 rfl rfl rfl ?_
      first
      | refine hq_g 46 5 44 true _ (fun hb => hop_move rfl) rfl rfl rfl rfl pre0 rfl rfl rfl ?_
      | refine hq_g3 46 5 44 41 false true _ _ (fun hb hb2 => hop_move rfl) rfl rfl rfl rfl rfl pre0 rfl rfl rfl ?_
      | refine hq_g2 46 5 44 _ _ true _ (fun hb => hop_move rfl) rfl rfl rfl rfl pre0 rfl rfl rfl ?_
      first
      | refine hq_g 47 5 44 true _ (fun hb => hop_len_strl (T := 9) rfl (by kernel_rfl) rfl) rfl rfl rfl rfl pre0 rfl rfl rfl ?_
      | refine hq_g3 47 5 44 41 false true _ _ (fun hb hb2 => hop_len_strl (T := 9) rfl (by kernel_rfl) rfl) rfl rfl rfl rfl rfl pre0 rfl rfl rfl ?_
      | refine hq_g2 47 5 44 _ _ true _ (fun hb => hop_len_strl (T := 9) rfl (by kernel_rfl) rfl) rfl rfl rfl rfl pre0 rfl rfl rfl ?_
      first
      | refine hq_g 48 5 44 true _ (fun hb => hop_lss rfl rfl) rfl rfl rfl rfl pre0 rfl rfl rfl ?_
      | refine hq_g3 48 5 44 41 false true _ _ (fun hb hb2 => hop_lss rfl rfl) rfl rfl rfl rfl rfl pre0 rfl rfl rfl ?_
      | refine hq_g2 48 5 44 _ _ true _ (fun hb => hop_lss rfl rfl) rfl rfl rfl rfl pre0 rfl rfl rfl ?_
      first
      | refine hq_pg 49 (hstep_andg (gi := 2) (j := 41) _ _ rfl rfl rfl rfl) rfl rfl rfl rfl ?_
      | refine hq_pg 49 (hstep_org (gi := 2) (j := 41) _ _ rfl rfl rfl rfl) rfl rfl rfl rfl ?_
      | refine hq_pg 49 (hstep_pickg (gi := 2) (j := 41) _ _ _ _ rfl rfl rfl rfl (fun _ => .refl _) (fun _ => .refl _)) rfl rfl rfl rfl ?_
      first
      | refine hq_g 50 2 41 false _ (fun hb => hop_move rfl) rfl rfl rfl rfl pre0 rfl rfl rfl ?_
      | refine hq_g2 50 2 41 _ _ false _ (fun hb => hop_move rfl) rfl rfl rfl rfl pre0 rfl rfl rfl ?_
      first
      | refine hq_g 51 11 50 true _ (fun hb => hop_move rfl) rfl rfl rfl rfl pre0 rfl rfl rfl ?_
      | refine hq_g3 51 11 50 41 false true _ _ (fun hb hb2 => hop_move rfl) rfl rfl rfl rfl rfl pre0 rfl rfl rfl ?_
      | refine hq_g2 51 11 50 _ _ true _ (fun hb => hop_move rfl) rfl rfl rfl rfl pre0 rfl rfl rfl ?_
      first
      | refine hq_g 52 11 50 true _ (fun hb => hop_move rfl) rfl rfl rfl rfl pre0 rfl rfl rfl ?_
      | refine hq_g3 52 11 50 41 false true _ _ (fun hb hb2 => hop_move rfl) rfl rfl rfl rfl rfl pre0 rfl rfl rfl ?_
      | refine hq_g2 52 11 50 _ _ true _ (fun hb => hop_move rfl) rfl rfl rfl rfl pre0 rfl rfl rfl ?_
      first
      | refine hq_g 53 11 50 true _ (fun hb => hop_ix_strl (by kernel_rfl) rfl rfl (by first | exact Nat.le_of_ble_eq_true rfl | (simp at hb; first | omega | (dsimp only; omega) | (simp <;> omega))) (by first | exact Nat.le_of_ble_eq_true rfl | (simp at hb; first | omega | (dsimp only; omega) | (simp <;> omega)))) rfl rfl rfl rfl pre0 rfl rfl rfl ?_
      | refine hq_g3 53 11 50 41 false true _ _ (fun hb hb2 => hop_ix_strl (by kernel_rfl) rfl rfl (by first | exact Nat.le_of_ble_eq_true rfl | (simp at hb; omega) | (simp at hb2; omega) | (simp at hb hb2; first | omega | (dsimp only; omega) | (simp <;> omega))) (by first | exact Nat.le_of_ble_eq_true rfl | (simp at hb; omega) | (simp at hb2; omega) | (simp at hb hb2; first | omega | (dsimp only; omega) | (simp <;> omega)))) rfl rfl rfl rfl rfl pre0 rfl rfl rfl ?_
      | refine hq_g2 53 11 50 _ _ true _ (fun hb => hop_ix_strl (by kernel_rfl) rfl rfl (by first | exact Nat.le_of_ble_eq_true rfl | (simp at hb; first | omega | (dsimp only; omega) | (simp <;> omega))) (by first | exact Nat.le_of_ble_eq_true rfl | (simp at hb; first | omega | (dsimp only; omega) | (simp <;> omega)))) rfl rfl rfl rfl pre0 rfl rfl rfl ?_
      first
      | refine hq_g 54 11 50 true _ (fun hb => hop_eql rfl rfl) rfl rfl rfl rfl pre0 rfl rfl rfl ?_
      | refine hq_g3 54 11 50 41 false true _ _ (fun hb hb2 => hop_eql rfl rfl) rfl rfl rfl rfl rfl pre0 rfl rfl rfl ?_
      | refine hq_g2 54 11 50 _ _ true _ (fun hb => hop_eql rfl rfl) rfl rfl rfl rfl pre0 rfl rfl rfl ?_
      first
      | refine hq_pg 55 (hstep_andg (gi := 2) (j := 41) _ _ rfl rfl rfl rfl) rfl rfl rfl rfl ?_
      | refine hq_pg 55 (hstep_org (gi := 2) (j := 41) _ _ rfl rfl rfl rfl) rfl rfl rfl rfl ?_
      | refine hq_pg 55 (hstep_pickg (gi := 2) (j := 41) _ _ _ _ rfl rfl rfl rfl (fun _ => .refl _) (fun _ => .refl _)) rfl rfl rfl rfl ?_
      first
      | refine hq_p 56 (hstep_and _ _ rfl rfl rfl) rfl rfl rfl ?_
      | refine hq_p 56 (hstep_or _ _ rfl rfl rfl) rfl rfl rfl ?_
      | refine hq_p 56 (hstep_ite _ _ _ rfl rfl rfl) rfl rfl rfl ?_
      | refine hq_p 56 (hstep_pick _ _ _ _ rfl rfl rfl (fun _ => .refl _) (fun _ => .refl _)) rfl rfl rfl ?_
      refine hseq_nilU (by rfl) (by simp only [dropUn, slots]; exact rfl) ?_
      refine h11 _ ?_
      refine hw_cond _ rfl (fun hc1 => ?_) (fun hc1 => ?_)
      · have hr1 := hc1; (try simp only [decide_eq_true_eq, decide_eq_false_iff_not, Bool.and_eq_true, Bool.or_eq_true, Bool.not_eq_true', Bool.or_eq_false_iff, beq_iff_eq, bne_iff_ne, ne_eq, beq_eq_false_iff_ne, bne_eq_false_iff_eq, Bool.not_eq_true, Bool.not_eq_false, Bool.not_eq_false', Int.toNat_natCast, Int.reduceToNat] at hc1)
        have h1 : 20 < n ∨ (n = 0 ∧ bz s p = 125) := (by have h := hr1; rw [Int.toNat_natCast, cnt_bad] at h; exact of_decide_eq_true h)
        refine hw_seq (fun Nh12 h12 => ?_)
        refine hw_region ?_
        first
        | refine hq_ 57 (hol_load ty_40 rfl (by first | exact Nat.le_of_ble_eq_true rfl | omega | (dsimp only; omega) | (simp <;> omega)) (by first | exact Nat.le_of_ble_eq_true rfl | omega | (dsimp only; omega) | (simp <;> omega)) (fun h => by first | rfl | cases h)) rfl rfl (pre1 rfl) rfl rfl ?_
        | refine hq_ 57 (hop_load_fp ty_40 rfl (by first | exact Nat.le_of_ble_eq_true rfl | omega | (dsimp only; omega) | (simp <;> omega)) (fun h => by first | rfl | cases h)) rfl rfl pre0 rfl rfl ?_
        refine hq_ 58 (hop_move rfl) rfl rfl pre0 rfl rfl ?_
        first
        | refine hq_ 59 (hop_addi rfl rfl rfl (by first | exact Nat.le_of_ble_eq_true rfl | omega | (dsimp only; omega) | (simp <;> omega)) (by first | exact Nat.le_of_ble_eq_true rfl | omega | (dsimp only; omega) | (simp <;> omega))) rfl rfl pre0 rfl rfl ?_
        | refine hq_ 59 (hop_add rfl rfl) rfl rfl pre0 rfl rfl ?_
        first
        | refine hm_s1 (hol_storeW ty_40 rfl rfl rfl rfl) rfl rfl (pre1 rfl) (c' := 4) rfl ?_
        | refine hm_s1 (hol_store ty_40 rfl rfl rfl rfl (by first | exact Nat.le_of_ble_eq_true rfl | omega | (dsimp only; omega) | (simp <;> omega)) (by first | exact Nat.le_of_ble_eq_true rfl | omega | (dsimp only; omega) | (simp <;> omega)) (by first | exact Nat.le_of_ble_eq_true rfl | omega | (dsimp only; omega) | (simp <;> omega))) rfl rfl (pre1 rfl) (c' := 4) rfl ?_
        refine hq_ 5 (hop_assign rfl) rfl rfl pre0 rfl rfl ?_
        refine hq_ 6 (hop_assign rfl) rfl rfl pre0 rfl rfl ?_
        refine hseq_nil ?_
        refine h12 _ ?_
        refine hw_ret ?_
        refine hq_then_ret ?_
        refine hq_ret3 rfl (rvl_cell rfl rfl ty_40 (fun h => by first | rfl | cases h) rfl rfl) (rval_tmp rfl) (rval_tmp rfl) [] rfl pre0 ?_
        have e : countF s i = (⟨5, i, 0, 0, []⟩, ((i + 1 : Nat) : Int), 3) := (by unfold countF; rw [hn]; simp only; rw [if_pos h1]); rw [e]; exact fz_t3 (fz_agg5 (by first | exact .imm _ | exact .nil _ _ _ (by decide) _ | exact fz_toks _ | exact fz_mkss _ | exact Frz.fz) (by first | exact .imm _ | exact .nil _ _ _ (by decide) _ | exact fz_toks _ | exact fz_mkss _ | exact Frz.fz) (by first | exact .imm _ | exact .nil _ _ _ (by decide) _ | exact fz_toks _ | exact fz_mkss _ | exact Frz.fz) (by first | exact .imm _ | exact .nil _ _ _ (by decide) _ | exact fz_toks _ | exact fz_mkss _ | exact Frz.fz) (by first | exact .imm _ | exact .nil _ _ _ (by decide) _ | exact fz_toks _ | exact fz_mkss _ | exact Frz.fz)) (.imm _) (.imm _)
      · have hr1 := hc1; (try simp only [decide_eq_true_eq, decide_eq_false_iff_not, Bool.and_eq_true, Bool.or_eq_true, Bool.not_eq_true', Bool.or_eq_false_iff, beq_iff_eq, bne_iff_ne, ne_eq, beq_eq_false_iff_ne, bne_eq_false_iff_eq, Bool.not_eq_true, Bool.not_eq_false, Bool.not_eq_false', Int.toNat_natCast, Int.reduceToNat] at hc1)
        have h1 : ¬ (20 < n ∨ (n = 0 ∧ bz s p = 125)) := (by have h := hr1; rw [Int.toNat_natCast, cnt_bad] at h; exact of_decide_eq_false h)
        refine hw_skip ?_
        refine h10 _ ?_
        refine hw_seq (fun Nh13 h13 => ?_)
        refine hw_region ?_
        refine hq_ 60 (hop_move rfl) rfl rfl pre0 rfl rfl ?_
        first
        | refine hq_ 61 (hop_fa fd_40_2 rfl) rfl rfl pre0 rfl rfl ?_
        | refine hq_ 61 (hop_fa_fp fd_40_2 rfl (by first | exact Nat.le_of_ble_eq_true rfl | omega | (dsimp only; omega) | (simp <;> omega))) rfl rfl pre0 rfl rfl ?_
        first
        | refine hm_s1 (hol_storeW ty_3 rfl rfl rfl rfl) rfl rfl (pre1 rfl) (c' := 4) rfl ?_
        | refine hm_s1 (hol_store ty_3 rfl rfl rfl rfl (by first | exact Nat.le_of_ble_eq_true rfl | omega | (dsimp only; omega) | (simp <;> omega)) (by first | exact Nat.le_of_ble_eq_true rfl | omega | (dsimp only; omega) | (simp <;> omega)) (by first | exact Nat.le_of_ble_eq_true rfl | omega | (dsimp only; omega) | (simp <;> omega))) rfl rfl (pre1 rfl) (c' := 4) rfl ?_
        refine hseq_nil ?_
        refine h13 _ ?_
        refine hw_seq (fun Nh14 h14 => ?_)
        refine hw_region ?_
        refine hq_ 62 (hop_move rfl) rfl rfl pre0 rfl rfl ?_
        first
        | refine hq_ 63 (hop_fa fd_40_3 rfl) rfl rfl pre0 rfl rfl ?_
        | refine hq_ 63 (hop_fa_fp fd_40_3 rfl (by first | exact Nat.le_of_ble_eq_true rfl | omega | (dsimp only; omega) | (simp <;> omega))) rfl rfl pre0 rfl rfl ?_
        first
        | refine hm_s1 (hol_storeW ty_3 rfl rfl rfl rfl) rfl rfl (pre1 rfl) (c' := 5) rfl ?_
        | refine hm_s1 (hol_store ty_3 rfl rfl rfl rfl (by first | exact Nat.le_of_ble_eq_true rfl | omega | (dsimp only; omega) | (simp <;> omega)) (by first | exact Nat.le_of_ble_eq_true rfl | omega | (dsimp only; omega) | (simp <;> omega)) (by first | exact Nat.le_of_ble_eq_true rfl | omega | (dsimp only; omega) | (simp <;> omega))) rfl rfl (pre1 rfl) (c' := 5) rfl ?_
        refine hseq_nil ?_
        refine h14 _ ?_
        refine hw_seq (fun Nh15 h15 => ?_)
        refine hw_seq (fun Nh16 h16 => ?_)
        refine hw_region ?_
        refine hq_ 64 (hop_move rfl) rfl rfl pre0 rfl rfl ?_
        refine hq_ 65 (hop_move rfl) rfl rfl pre0 rfl rfl ?_
        refine hq_ 66 (hop_len_strl (T := 9) rfl (by kernel_rfl) rfl) rfl rfl pre0 rfl rfl ?_
        refine hq_ 67 (hop_lss rfl rfl) rfl rfl pre0 rfl rfl ?_
        refine hq_ 68 (hop_move rfl) rfl rfl pre0 rfl rfl ?_
        first
        | refine hq_g 69 4 68 true _ (fun hb => hop_move rfl) rfl rfl rfl rfl pre0 rfl rfl rfl ?_
        | refine hq_g2 69 4 68 _ _ true _ (fun hb => hop_move rfl) rfl rfl rfl rfl pre0 rfl rfl rfl ?_
        first
        | refine hq_g 70 4 68 true _ (fun hb => hop_move rfl) rfl rfl rfl rfl pre0 rfl rfl rfl ?_
        | refine hq_g2 70 4 68 _ _ true _ (fun hb => hop_move rfl) rfl rfl rfl rfl pre0 rfl rfl rfl ?_
        first
        | refine hq_g 71 4 68 true _ (fun hb => hop_ix_strl (by kernel_rfl) rfl rfl (by first | exact Nat.le_of_ble_eq_true rfl | (simp at hb; first | omega | (dsimp only; omega) | (simp <;> omega))) (by first | exact Nat.le_of_ble_eq_true rfl | (simp at hb; first | omega | (dsimp only; omega) | (simp <;> omega)))) rfl rfl rfl rfl pre0 rfl rfl rfl ?_
        | refine hq_g2 71 4 68 _ _ true _ (fun hb => hop_ix_strl (by kernel_rfl) rfl rfl (by first | exact Nat.le_of_ble_eq_true rfl | (simp at hb; first | omega | (dsimp only; omega) | (simp <;> omega))) (by first | exact Nat.le_of_ble_eq_true rfl | (simp at hb; first | omega | (dsimp only; omega) | (simp <;> omega)))) rfl rfl rfl rfl pre0 rfl rfl rfl ?_
        first
        | refine hq_g 72 4 68 true _ (fun hb => hop_eql rfl rfl) rfl rfl rfl rfl pre0 rfl rfl rfl ?_
        | refine hq_g2 72 4 68 _ _ true _ (fun hb => hop_eql rfl rfl) rfl rfl rfl rfl pre0 rfl rfl rfl ?_
        first
        | refine hq_p 73 (hstep_and _ _ rfl rfl rfl) rfl rfl rfl ?_
        | refine hq_p 73 (hstep_or _ _ rfl rfl rfl) rfl rfl rfl ?_
        | refine hq_p 73 (hstep_ite _ _ _ rfl rfl rfl) rfl rfl rfl ?_
        | refine hq_p 73 (hstep_pick _ _ _ _ rfl rfl rfl (fun _ => .refl _) (fun _ => .refl _)) rfl rfl rfl ?_
        refine hseq_nilU (by rfl) (by simp only [dropUn, slots]; exact rfl) ?_
        refine h16 _ ?_
        refine hw_cond _ rfl (fun hc2 => ?_) (fun hc2 => ?_)
        · have hr2 := hc2; (try simp only [decide_eq_true_eq, decide_eq_false_iff_not, Bool.and_eq_true, Bool.or_eq_true, Bool.not_eq_true', Bool.or_eq_false_iff, beq_iff_eq, bne_iff_ne, ne_eq, beq_eq_false_iff_ne, bne_eq_false_iff_eq, Bool.not_eq_true, Bool.not_eq_false, Bool.not_eq_false', Int.toNat_natCast, Int.reduceToNat] at hc2)
          have h2 : bz s p = 44 := (by have h := hr2; rw [Int.toNat_natCast, bz_eqb s p (by decide)] at h; exact of_decide_eq_true h); have hlt := bz_lt (s := s) (i := p) (by omega)
          refine hw_seq (fun Nh17 h17 => ?_)
          refine hw_region ?_
          refine hq_ 74 (hop_move rfl) rfl rfl pre0 rfl rfl ?_
          first
          | refine hq_ 75 (HOp.val (v' := intV ((p + 1 : Nat) : Int)) (hop_addi rfl rfl rfl (by first | exact Nat.le_of_ble_eq_true rfl | omega | (dsimp only; omega) | (simp <;> omega)) (by first | exact Nat.le_of_ble_eq_true rfl | omega | (dsimp only; omega) | (simp <;> omega))) (rfl)) rfl rfl pre0 rfl rfl ?_
          | refine hq_ 75 (HOp.val (v' := intV ((p + 1 : Nat) : Int)) (hop_add rfl rfl) (rfl)) rfl rfl pre0 rfl rfl ?_
          refine hq_ 12 (hop_assign rfl) rfl rfl pre0 rfl rfl ?_
          refine hseq_nil ?_
          refine h17 _ ?_
          refine hw_seq (fun Nh18 h18 => ?_)
          refine hw_region ?_
          first
          | refine hq_ 76 (hop_fa fd_40_3 rfl) rfl rfl pre0 rfl rfl ?_
          | refine hq_ 76 (hop_fa_fp fd_40_3 rfl (by first | exact Nat.le_of_ble_eq_true rfl | omega | (dsimp only; omega) | (simp <;> omega))) rfl rfl pre0 rfl rfl ?_
          first
          | refine hm_s1 (hol_storeW ty_3 rfl rfl rfl rfl) rfl rfl (pre1 rfl) (c' := 6) rfl ?_
          | refine hm_s1 (hol_store ty_3 rfl rfl rfl rfl (by first | exact Nat.le_of_ble_eq_true rfl | omega | (dsimp only; omega) | (simp <;> omega)) (by first | exact Nat.le_of_ble_eq_true rfl | omega | (dsimp only; omega) | (simp <;> omega)) (by first | exact Nat.le_of_ble_eq_true rfl | omega | (dsimp only; omega) | (simp <;> omega))) rfl rfl (pre1 rfl) (c' := 6) rfl ?_
          refine hseq_nil ?_
          refine h18 _ ?_
          refine hw_seq (fun Nh19 h19 => ?_)
          refine hw_region ?_
          refine hq_ 77 (hop_move rfl) rfl rfl pre0 rfl rfl ?_
          refine hq_ 9 (hop_assign rfl) rfl rfl pre0 rfl rfl ?_
          refine hseq_nil ?_
          refine h19 _ ?_
          refine hw_seq (fun Nh20 h20 => ?_)
          refine hw_region ?_
          refine hq_ 78 (hop_move rfl) rfl rfl pre0 rfl rfl ?_
          refine hq_ 79 (hop_move rfl) rfl rfl pre0 rfl rfl ?_
          refine hq_ 80 (hop_len_strl (T := 9) rfl (by kernel_rfl) rfl) rfl rfl pre0 rfl rfl ?_
          refine hq_ 81 (hop_geq rfl rfl) rfl rfl pre0 rfl rfl ?_
          refine hq_ 82 (hop_move rfl) rfl rfl pre0 rfl rfl ?_
          first
          | refine hq_g 83 4 82 false _ (fun hb => hop_move rfl) rfl rfl rfl rfl pre0 rfl rfl rfl ?_
          | refine hq_g2 83 4 82 _ _ false _ (fun hb => hop_move rfl) rfl rfl rfl rfl pre0 rfl rfl rfl ?_
          first
          | refine hq_g 84 4 82 false _ (fun hb => hop_move rfl) rfl rfl rfl rfl pre0 rfl rfl rfl ?_
          | refine hq_g2 84 4 82 _ _ false _ (fun hb => hop_move rfl) rfl rfl rfl rfl pre0 rfl rfl rfl ?_
          first
          | refine hq_g 85 4 82 false _ (fun hb => hop_ix_strl (by kernel_rfl) rfl rfl (by first | exact Nat.le_of_ble_eq_true rfl | (simp at hb; first | omega | (dsimp only; omega) | (simp <;> omega))) (by first | exact Nat.le_of_ble_eq_true rfl | (simp at hb; first | omega | (dsimp only; omega) | (simp <;> omega)))) rfl rfl rfl rfl pre0 rfl rfl rfl ?_
          | refine hq_g2 85 4 82 _ _ false _ (fun hb => hop_ix_strl (by kernel_rfl) rfl rfl (by first | exact Nat.le_of_ble_eq_true rfl | (simp at hb; first | omega | (dsimp only; omega) | (simp <;> omega))) (by first | exact Nat.le_of_ble_eq_true rfl | (simp at hb; first | omega | (dsimp only; omega) | (simp <;> omega)))) rfl rfl rfl rfl pre0 rfl rfl rfl ?_
          first
          | refine hq_g 86 4 82 false _ (fun hb => hop_neq rfl rfl) rfl rfl rfl rfl pre0 rfl rfl rfl ?_
          | refine hq_g2 86 4 82 _ _ false _ (fun hb => hop_neq rfl rfl) rfl rfl rfl rfl pre0 rfl rfl rfl ?_
          first
          | refine hq_p 87 (hstep_and _ _ rfl rfl rfl) rfl rfl rfl ?_
          | refine hq_p 87 (hstep_or _ _ rfl rfl rfl) rfl rfl rfl ?_
          | refine hq_p 87 (hstep_ite _ _ _ rfl rfl rfl) rfl rfl rfl ?_
          | refine hq_p 87 (hstep_pick _ _ _ _ rfl rfl rfl (fun _ => .refl _) (fun _ => .refl _)) rfl rfl rfl ?_
          refine hseq_nilU (by rfl) (by simp only [dropUn, slots]; exact rfl) ?_
          refine h20 _ ?_
          refine hw_cond _ rfl (fun hc3 => ?_) (fun hc3 => ?_)
          · have hr3 := hc3; (try simp only [decide_eq_true_eq, decide_eq_false_iff_not, Bool.and_eq_true, Bool.or_eq_true, Bool.not_eq_true', Bool.or_eq_false_iff, beq_iff_eq, bne_iff_ne, ne_eq, beq_eq_false_iff_ne, bne_eq_false_iff_eq, Bool.not_eq_true, Bool.not_eq_false, Bool.not_eq_false', Int.toNat_natCast, Int.reduceToNat] at hc3)
            have h3 : ¬ bz s (p + 1) = 125 := (by have h := hr3; rw [Int.toNat_natCast, bz_neb s (p + 1) (by decide)] at h; simpa using h)
            refine hw_seq (fun Nh21 h21 => ?_)
            rcases hm : numL s (p + 1) with ⟨_ | m, q⟩
            · skip
              refine hw_region ?_
              refine hq_ 89 (hop_move rfl) rfl rfl pre0 rfl rfl ?_
              refine hq_ 90 (hop_move rfl) rfl rfl pre0 rfl rfl ?_
              refine hq_ 91 (hop_call0 (xs := [_, _]) (refNum hs hlt hm) ⟨rfl, ⟨rfl, trivial⟩⟩ ⟨(Fz.eq rfl), ⟨(Fz.eq rfl), trivial⟩⟩) rfl rfl pre0 rfl rfl ?_
              refine hq_ 88 (hop_move rfl) rfl rfl pre0 rfl rfl ?_
              refine hq_ 92 (HOp.val (v' := intV (-1)) (hop_extract rfl rfl) (rfl)) rfl rfl pre0 rfl rfl ?_
              refine hq_ 93 (HOp.val (v' := intV q) (hop_extract rfl rfl) (rfl)) rfl rfl pre0 rfl rfl ?_
              refine hq_ 13 (hop_assign rfl) rfl rfl pre0 rfl rfl ?_
              refine hq_ 14 (hop_assign rfl) rfl rfl pre0 rfl rfl ?_
              refine hseq_nil ?_
              refine h21 _ ?_
              refine hw_seq (fun Nh22 h22 => ?_)
              refine hw_seq (fun Nh23 h23 => ?_)
              have hmq := numL_le (by omega) hm
              refine hw_region ?_
              refine hq_ 94 (hop_move rfl) rfl rfl pre0 rfl rfl ?_
              refine hq_ 95 (hop_lss rfl rfl) rfl rfl pre0 rfl rfl ?_
              refine hseq_nil ?_
              refine h23 _ ?_
              refine hw_cond _ rfl (fun hc4 => ?_) (fun hc4 => ?_)
              · have hr4 := hc4; (try simp only [decide_eq_true_eq, decide_eq_false_iff_not, Bool.and_eq_true, Bool.or_eq_true, Bool.not_eq_true', Bool.or_eq_false_iff, beq_iff_eq, bne_iff_ne, ne_eq, beq_eq_false_iff_ne, bne_eq_false_iff_eq, Bool.not_eq_true, Bool.not_eq_false, Bool.not_eq_false', Int.toNat_natCast, Int.reduceToNat] at hc4)
                refine hw_seq (fun Nh24 h24 => ?_)
                refine hw_region ?_
                refine hq_ 97 (hop_move rfl) rfl rfl pre0 rfl rfl ?_
                refine hq_ 98 (hop_move rfl) rfl rfl pre0 rfl rfl ?_
                refine hq_ 99 (hop_call0 (xs := [_, _]) (refWrong_h s q) ⟨rfl, ⟨rfl, trivial⟩⟩ ⟨(Fz.eq rfl), ⟨(Fz.eq rfl), trivial⟩⟩) rfl rfl pre0 rfl rfl ?_
                refine hq_ 96 (hop_move rfl) rfl rfl pre0 rfl rfl ?_
                refine hq_ 100 (hop_extract rfl rfl) rfl rfl pre0 rfl rfl ?_
                refine hq_ 101 (hop_extract rfl rfl) rfl rfl pre0 rfl rfl ?_
                refine hq_ 15 (hop_assign rfl) rfl rfl pre0 rfl rfl ?_
                refine hq_ 16 (hop_assign rfl) rfl rfl pre0 rfl rfl ?_
                refine hseq_nil ?_
                refine h24 _ ?_
                refine hw_seq (fun Nh25 h25 => ?_)
                refine hw_region ?_
                first
                | refine hq_ 102 (hol_load ty_40 rfl (by first | exact Nat.le_of_ble_eq_true rfl | omega | (dsimp only; omega) | (simp <;> omega)) (by first | exact Nat.le_of_ble_eq_true rfl | omega | (dsimp only; omega) | (simp <;> omega)) (fun h => by first | rfl | cases h)) rfl rfl (pre1 rfl) rfl rfl ?_
                | refine hq_ 102 (hop_load_fp ty_40 rfl (by first | exact Nat.le_of_ble_eq_true rfl | omega | (dsimp only; omega) | (simp <;> omega)) (fun h => by first | rfl | cases h)) rfl rfl pre0 rfl rfl ?_
                refine hq_ 103 (hop_move rfl) rfl rfl pre0 rfl rfl ?_
                refine hq_ 104 (hop_move rfl) rfl rfl pre0 rfl rfl ?_
                first
                | refine hm_s1 (hol_storeW ty_40 rfl rfl rfl rfl) rfl rfl (pre1 rfl) (c' := 7) rfl ?_
                | refine hm_s1 (hol_store ty_40 rfl rfl rfl rfl (by first | exact Nat.le_of_ble_eq_true rfl | omega | (dsimp only; omega) | (simp <;> omega)) (by first | exact Nat.le_of_ble_eq_true rfl | omega | (dsimp only; omega) | (simp <;> omega)) (by first | exact Nat.le_of_ble_eq_true rfl | omega | (dsimp only; omega) | (simp <;> omega))) rfl rfl (pre1 rfl) (c' := 7) rfl ?_
                refine hq_ 5 (hop_assign rfl) rfl rfl pre0 rfl rfl ?_
                refine hq_ 6 (hop_assign rfl) rfl rfl pre0 rfl rfl ?_
                refine hseq_nil ?_
                refine h25 _ ?_
                refine hw_ret ?_
                refine hq_then_ret ?_
                refine hq_then_ret ?_
                refine hq_ret3 rfl (rvl_cell rfl rfl ty_40 (fun h => by first | rfl | cases h) rfl rfl) (rval_tmp rfl) (rval_tmp rfl) [] rfl pre0 ?_
                have e : countF s i = (⟨5, i, n, -1, []⟩, wrongV s q) := (by unfold countF; rw [hn]; simp only; rw [if_neg h1, if_pos h2, if_neg h3, hm]); rw [e]; exact fz_t3 (fz_agg5 (by first | exact .imm _ | exact .nil _ _ _ (by decide) _ | exact fz_toks _ | exact fz_mkss _ | exact Frz.fz) (by first | exact .imm _ | exact .nil _ _ _ (by decide) _ | exact fz_toks _ | exact fz_mkss _ | exact Frz.fz) (by first | exact .imm _ | exact .nil _ _ _ (by decide) _ | exact fz_toks _ | exact fz_mkss _ | exact Frz.fz) (by first | exact .imm _ | exact .nil _ _ _ (by decide) _ | exact fz_toks _ | exact fz_mkss _ | exact Frz.fz) (by first | exact .imm _ | exact .nil _ _ _ (by decide) _ | exact fz_toks _ | exact fz_mkss _ | exact Frz.fz)) (.imm _) (.imm _)
              · have hr4 := hc4; (try simp only [decide_eq_true_eq, decide_eq_false_iff_not, Bool.and_eq_true, Bool.or_eq_true, Bool.not_eq_true', Bool.or_eq_false_iff, beq_iff_eq, bne_iff_ne, ne_eq, beq_eq_false_iff_ne, bne_eq_false_iff_eq, Bool.not_eq_true, Bool.not_eq_false, Bool.not_eq_false', Int.toNat_natCast, Int.reduceToNat] at hc4)
                exfalso; exact absurd hr4 (by simp)
            · skip
              refine hw_region ?_
              refine hq_ 89 (hop_move rfl) rfl rfl pre0 rfl rfl ?_
              refine hq_ 90 (hop_move rfl) rfl rfl pre0 rfl rfl ?_
              refine hq_ 91 (hop_call0 (xs := [_, _]) (refNum hs hlt hm) ⟨rfl, ⟨rfl, trivial⟩⟩ ⟨(Fz.eq rfl), ⟨(Fz.eq rfl), trivial⟩⟩) rfl rfl pre0 rfl rfl ?_
              refine hq_ 88 (hop_move rfl) rfl rfl pre0 rfl rfl ?_
              refine hq_ 92 (HOp.val (v' := intV m) (hop_extract rfl rfl) (rfl)) rfl rfl pre0 rfl rfl ?_
              refine hq_ 93 (HOp.val (v' := intV q) (hop_extract rfl rfl) (rfl)) rfl rfl pre0 rfl rfl ?_
              refine hq_ 13 (hop_assign rfl) rfl rfl pre0 rfl rfl ?_
              refine hq_ 14 (hop_assign rfl) rfl rfl pre0 rfl rfl ?_
              refine hseq_nil ?_
              refine h21 _ ?_
              refine hw_seq (fun Nh26 h26 => ?_)
              refine hw_seq (fun Nh27 h27 => ?_)
              have hmq := numL_le (by omega) hm
              refine hw_region ?_
              refine hq_ 94 (hop_move rfl) rfl rfl pre0 rfl rfl ?_
              refine hq_ 95 (hop_lss rfl rfl) rfl rfl pre0 rfl rfl ?_
              refine hseq_nil ?_
              refine h27 _ ?_
              refine hw_cond _ rfl (fun hc4 => ?_) (fun hc4 => ?_)
              · have hr4 := hc4; (try simp only [decide_eq_true_eq, decide_eq_false_iff_not, Bool.and_eq_true, Bool.or_eq_true, Bool.not_eq_true', Bool.or_eq_false_iff, beq_iff_eq, bne_iff_ne, ne_eq, beq_eq_false_iff_ne, bne_eq_false_iff_eq, Bool.not_eq_true, Bool.not_eq_false, Bool.not_eq_false', Int.toNat_natCast, Int.reduceToNat] at hc4)
                exfalso; have := hmq.2.2 m rfl; omega
              · have hr4 := hc4; (try simp only [decide_eq_true_eq, decide_eq_false_iff_not, Bool.and_eq_true, Bool.or_eq_true, Bool.not_eq_true', Bool.or_eq_false_iff, beq_iff_eq, bne_iff_ne, ne_eq, beq_eq_false_iff_ne, bne_eq_false_iff_eq, Bool.not_eq_true, Bool.not_eq_false, Bool.not_eq_false', Int.toNat_natCast, Int.reduceToNat] at hc4)
                refine hw_skip ?_
                refine h26 _ ?_
                refine hw_seq (fun Nh28 h28 => ?_)
                refine hw_seq (fun Nh29 h29 => ?_)
                refine hw_region ?_
                refine hq_ 105 (hop_move rfl) rfl rfl pre0 rfl rfl ?_
                refine hq_ 106 (hop_lss rfl rfl) rfl rfl pre0 rfl rfl ?_
                refine hq_ 107 (hop_move rfl) rfl rfl pre0 rfl rfl ?_
                first
                | refine hq_g 108 2 107 false _ (fun hb => hop_move rfl) rfl rfl rfl rfl pre0 rfl rfl rfl ?_
                | refine hq_g2 108 2 107 _ _ false _ (fun hb => hop_move rfl) rfl rfl rfl rfl pre0 rfl rfl rfl ?_
                first
                | refine hq_g 109 2 107 false _ (fun hb => hop_gtr rfl rfl) rfl rfl rfl rfl pre0 rfl rfl rfl ?_
                | refine hq_g2 109 2 107 _ _ false _ (fun hb => hop_gtr rfl rfl) rfl rfl rfl rfl pre0 rfl rfl rfl ?_
                first
                | refine hq_p 110 (hstep_and _ _ rfl rfl rfl) rfl rfl rfl ?_
                | refine hq_p 110 (hstep_or _ _ rfl rfl rfl) rfl rfl rfl ?_
                | refine hq_p 110 (hstep_ite _ _ _ rfl rfl rfl) rfl rfl rfl ?_
                | refine hq_p 110 (hstep_pick _ _ _ _ rfl rfl rfl (fun _ => .refl _) (fun _ => .refl _)) rfl rfl rfl ?_
                refine hq_ 111 (hop_move rfl) rfl rfl pre0 rfl rfl ?_
                first
                | refine hq_g 112 6 111 false _ (fun hb => hop_move rfl) rfl rfl rfl rfl pre0 rfl rfl rfl ?_
                | refine hq_g2 112 6 111 _ _ false _ (fun hb => hop_move rfl) rfl rfl rfl rfl pre0 rfl rfl rfl ?_
                first
                | refine hq_g 113 6 111 false _ (fun hb => hop_move rfl) rfl rfl rfl rfl pre0 rfl rfl rfl ?_
                | refine hq_g2 113 6 111 _ _ false _ (fun hb => hop_move rfl) rfl rfl rfl rfl pre0 rfl rfl rfl ?_
                first
                | refine hq_g 114 6 111 false _ (fun hb => hop_lss rfl rfl) rfl rfl rfl rfl pre0 rfl rfl rfl ?_
                | refine hq_g2 114 6 111 _ _ false _ (fun hb => hop_lss rfl rfl) rfl rfl rfl rfl pre0 rfl rfl rfl ?_
                first
                | refine hq_p 115 (hstep_and _ _ rfl rfl rfl) rfl rfl rfl ?_
                | refine hq_p 115 (hstep_or _ _ rfl rfl rfl) rfl rfl rfl ?_
                | refine hq_p 115 (hstep_ite _ _ _ rfl rfl rfl) rfl rfl rfl ?_
                | refine hq_p 115 (hstep_pick _ _ _ _ rfl rfl rfl (fun _ => .refl _) (fun _ => .refl _)) rfl rfl rfl ?_
                refine hseq_nilU (by rfl) (by simp only [dropUn, slots]; exact rfl) ?_
                refine h29 _ ?_
                refine hw_cond _ rfl (fun hc5 => ?_) (fun hc5 => ?_)
                · have hr5 := hc5; (try simp only [decide_eq_true_eq, decide_eq_false_iff_not, Bool.and_eq_true, Bool.or_eq_true, Bool.not_eq_true', Bool.or_eq_false_iff, beq_iff_eq, bne_iff_ne, ne_eq, beq_eq_false_iff_ne, bne_eq_false_iff_eq, Bool.not_eq_true, Bool.not_eq_false, Bool.not_eq_false', Int.toNat_natCast, Int.reduceToNat] at hc5)
                  have h5 : m < 1 ∨ 20 < m ∨ m < n := (by have h := hr5; simp only [Bool.or_eq_true, decide_eq_true_eq] at h; omega)
                  refine hw_seq (fun Nh30 h30 => ?_)
                  refine hw_region ?_
                  first
                  | refine hq_ 116 (hol_load ty_40 rfl (by first | exact Nat.le_of_ble_eq_true rfl | omega | (dsimp only; omega) | (simp <;> omega)) (by first | exact Nat.le_of_ble_eq_true rfl | omega | (dsimp only; omega) | (simp <;> omega)) (fun h => by first | rfl | cases h)) rfl rfl (pre1 rfl) rfl rfl ?_
                  | refine hq_ 116 (hop_load_fp ty_40 rfl (by first | exact Nat.le_of_ble_eq_true rfl | omega | (dsimp only; omega) | (simp <;> omega)) (fun h => by first | rfl | cases h)) rfl rfl pre0 rfl rfl ?_
                  refine hq_ 117 (hop_move rfl) rfl rfl pre0 rfl rfl ?_
                  first
                  | refine hm_s1 (hol_storeW ty_40 rfl rfl rfl rfl) rfl rfl (pre1 rfl) (c' := 7) rfl ?_
                  | refine hm_s1 (hol_store ty_40 rfl rfl rfl rfl (by first | exact Nat.le_of_ble_eq_true rfl | omega | (dsimp only; omega) | (simp <;> omega)) (by first | exact Nat.le_of_ble_eq_true rfl | omega | (dsimp only; omega) | (simp <;> omega)) (by first | exact Nat.le_of_ble_eq_true rfl | omega | (dsimp only; omega) | (simp <;> omega))) rfl rfl (pre1 rfl) (c' := 7) rfl ?_
                  refine hq_ 5 (hop_assign rfl) rfl rfl pre0 rfl rfl ?_
                  refine hq_ 6 (hop_assign rfl) rfl rfl pre0 rfl rfl ?_
                  refine hseq_nil ?_
                  refine h30 _ ?_
                  refine hw_ret ?_
                  refine hq_then_ret ?_
                  refine hq_then_ret ?_
                  refine hq_ret3 rfl (rvl_cell rfl rfl ty_40 (fun h => by first | rfl | cases h) rfl rfl) (rval_tmp rfl) (rval_tmp rfl) [] rfl pre0 ?_
                  have e : countF s i = (⟨5, i, n, -1, []⟩, ((p + 1 : Nat) : Int), 3) := (by unfold countF; rw [hn]; simp only; rw [if_neg h1, if_pos h2, if_neg h3, hm]; simp only; rw [if_pos h5]); rw [e]; exact fz_t3 (fz_agg5 (by first | exact .imm _ | exact .nil _ _ _ (by decide) _ | exact fz_toks _ | exact fz_mkss _ | exact Frz.fz) (by first | exact .imm _ | exact .nil _ _ _ (by decide) _ | exact fz_toks _ | exact fz_mkss _ | exact Frz.fz) (by first | exact .imm _ | exact .nil _ _ _ (by decide) _ | exact fz_toks _ | exact fz_mkss _ | exact Frz.fz) (by first | exact .imm _ | exact .nil _ _ _ (by decide) _ | exact fz_toks _ | exact fz_mkss _ | exact Frz.fz) (by first | exact .imm _ | exact .nil _ _ _ (by decide) _ | exact fz_toks _ | exact fz_mkss _ | exact Frz.fz)) (.imm _) (.imm _)
                · have hr5 := hc5; (try simp only [decide_eq_true_eq, decide_eq_false_iff_not, Bool.and_eq_true, Bool.or_eq_true, Bool.not_eq_true', Bool.or_eq_false_iff, beq_iff_eq, bne_iff_ne, ne_eq, beq_eq_false_iff_ne, bne_eq_false_iff_eq, Bool.not_eq_true, Bool.not_eq_false, Bool.not_eq_false', Int.toNat_natCast, Int.reduceToNat] at hc5)
                  have h5 : ¬ (m < 1 ∨ 20 < m ∨ m < n) := (by have h := hr5; simp only [Bool.or_eq_false_iff, decide_eq_false_iff_not] at h; omega)
                  refine hw_skip ?_
                  refine h28 _ ?_
                  refine hw_seq (fun Nh31 h31 => ?_)
                  refine hw_region ?_
                  refine hq_ 118 (hop_move rfl) rfl rfl pre0 rfl rfl ?_
                  first
                  | refine hq_ 119 (hop_fa fd_40_3 rfl) rfl rfl pre0 rfl rfl ?_
                  | refine hq_ 119 (hop_fa_fp fd_40_3 rfl (by first | exact Nat.le_of_ble_eq_true rfl | omega | (dsimp only; omega) | (simp <;> omega))) rfl rfl pre0 rfl rfl ?_
                  first
                  | refine hm_s1 (hol_storeW ty_3 rfl rfl rfl rfl) rfl rfl (pre1 rfl) (c' := 7) rfl ?_
                  | refine hm_s1 (hol_store ty_3 rfl rfl rfl rfl (by first | exact Nat.le_of_ble_eq_true rfl | omega | (dsimp only; omega) | (simp <;> omega)) (by first | exact Nat.le_of_ble_eq_true rfl | omega | (dsimp only; omega) | (simp <;> omega)) (by first | exact Nat.le_of_ble_eq_true rfl | omega | (dsimp only; omega) | (simp <;> omega))) rfl rfl (pre1 rfl) (c' := 7) rfl ?_
                  refine hseq_nil ?_
                  refine h31 _ ?_
                  refine hw_region ?_
                  refine hq_ 120 (hop_move rfl) rfl rfl pre0 rfl rfl ?_
                  refine hq_ 9 (hop_assign rfl) rfl rfl pre0 rfl rfl ?_
                  refine hseq_nil ?_
                  refine h15 _ ?_
                  refine hw_seq (fun Nh32 h32 => ?_)
                  refine hw_seq (fun Nh33 h33 => ?_)
                  refine hw_region ?_
                  refine hq_ 121 (hop_move rfl) rfl rfl pre0 rfl rfl ?_
                  refine hq_ 122 (hop_move rfl) rfl rfl pre0 rfl rfl ?_
                  refine hq_ 123 (hop_len_strl (T := 9) rfl (by kernel_rfl) rfl) rfl rfl pre0 rfl rfl ?_
                  refine hq_ 124 (hop_geq rfl rfl) rfl rfl pre0 rfl rfl ?_
                  refine hq_ 125 (hop_move rfl) rfl rfl pre0 rfl rfl ?_
                  first
                  | refine hq_g 126 4 125 false _ (fun hb => hop_move rfl) rfl rfl rfl rfl pre0 rfl rfl rfl ?_
                  | refine hq_g2 126 4 125 _ _ false _ (fun hb => hop_move rfl) rfl rfl rfl rfl pre0 rfl rfl rfl ?_
                  first
                  | refine hq_g 127 4 125 false _ (fun hb => hop_move rfl) rfl rfl rfl rfl pre0 rfl rfl rfl ?_
                  | refine hq_g2 127 4 125 _ _ false _ (fun hb => hop_move rfl) rfl rfl rfl rfl pre0 rfl rfl rfl ?_
                  first
                  | refine hq_g 128 4 125 false _ (fun hb => hop_ix_strl (by kernel_rfl) rfl rfl (by first | exact Nat.le_of_ble_eq_true rfl | (simp at hb; first | omega | (dsimp only; omega) | (simp <;> omega))) (by first | exact Nat.le_of_ble_eq_true rfl | (simp at hb; first | omega | (dsimp only; omega) | (simp <;> omega)))) rfl rfl rfl rfl pre0 rfl rfl rfl ?_
                  | refine hq_g2 128 4 125 _ _ false _ (fun hb => hop_ix_strl (by kernel_rfl) rfl rfl (by first | exact Nat.le_of_ble_eq_true rfl | (simp at hb; first | omega | (dsimp only; omega) | (simp <;> omega))) (by first | exact Nat.le_of_ble_eq_true rfl | (simp at hb; first | omega | (dsimp only; omega) | (simp <;> omega)))) rfl rfl rfl rfl pre0 rfl rfl rfl ?_
                  first
                  | refine hq_g 129 4 125 false _ (fun hb => hop_neq rfl rfl) rfl rfl rfl rfl pre0 rfl rfl rfl ?_
                  | refine hq_g2 129 4 125 _ _ false _ (fun hb => hop_neq rfl rfl) rfl rfl rfl rfl pre0 rfl rfl rfl ?_
                  first
                  | refine hq_p 130 (hstep_and _ _ rfl rfl rfl) rfl rfl rfl ?_
                  | refine hq_p 130 (hstep_or _ _ rfl rfl rfl) rfl rfl rfl ?_
                  | refine hq_p 130 (hstep_ite _ _ _ rfl rfl rfl) rfl rfl rfl ?_
                  | refine hq_p 130 (hstep_pick _ _ _ _ rfl rfl rfl (fun _ => .refl _) (fun _ => .refl _)) rfl rfl rfl ?_
                  refine hseq_nilU (by rfl) (by simp only [dropUn, slots]; exact rfl) ?_
                  refine h33 _ ?_
                  refine hw_cond _ rfl (fun hc6 => ?_) (fun hc6 => ?_)
                  · have hr6 := hc6; (try simp only [decide_eq_true_eq, decide_eq_false_iff_not, Bool.and_eq_true, Bool.or_eq_true, Bool.not_eq_true', Bool.or_eq_false_iff, beq_iff_eq, bne_iff_ne, ne_eq, beq_eq_false_iff_ne, bne_eq_false_iff_eq, Bool.not_eq_true, Bool.not_eq_false, Bool.not_eq_false', Int.toNat_natCast, Int.reduceToNat] at hc6)
                    have h6 : ¬ bz s q = 125 := (by have h := hr6; rw [Int.toNat_natCast, bz_neb s q (by decide)] at h; simpa using h)
                    refine hw_seq (fun Nh34 h34 => ?_)
                    refine hw_region ?_
                    refine hq_ 132 (hop_move rfl) rfl rfl pre0 rfl rfl ?_
                    refine hq_ 133 (hop_move rfl) rfl rfl pre0 rfl rfl ?_
                    refine hq_ 134 (hop_call0 (xs := [_, _]) (refWrong_h s q) ⟨rfl, ⟨rfl, trivial⟩⟩ ⟨(Fz.eq rfl), ⟨(Fz.eq rfl), trivial⟩⟩) rfl rfl pre0 rfl rfl ?_
                    refine hq_ 131 (hop_move rfl) rfl rfl pre0 rfl rfl ?_
                    refine hq_ 135 (hop_extract rfl rfl) rfl rfl pre0 rfl rfl ?_
                    refine hq_ 136 (hop_extract rfl rfl) rfl rfl pre0 rfl rfl ?_
                    refine hq_ 17 (hop_assign rfl) rfl rfl pre0 rfl rfl ?_
                    refine hq_ 18 (hop_assign rfl) rfl rfl pre0 rfl rfl ?_
                    refine hseq_nil ?_
                    refine h34 _ ?_
                    refine hw_seq (fun Nh35 h35 => ?_)
                    refine hw_region ?_
                    first
                    | refine hq_ 137 (hol_load ty_40 rfl (by first | exact Nat.le_of_ble_eq_true rfl | omega | (dsimp only; omega) | (simp <;> omega)) (by first | exact Nat.le_of_ble_eq_true rfl | omega | (dsimp only; omega) | (simp <;> omega)) (fun h => by first | rfl | cases h)) rfl rfl (pre1 rfl) rfl rfl ?_
                    | refine hq_ 137 (hop_load_fp ty_40 rfl (by first | exact Nat.le_of_ble_eq_true rfl | omega | (dsimp only; omega) | (simp <;> omega)) (fun h => by first | rfl | cases h)) rfl rfl pre0 rfl rfl ?_
                    refine hq_ 138 (hop_move rfl) rfl rfl pre0 rfl rfl ?_
                    refine hq_ 139 (hop_move rfl) rfl rfl pre0 rfl rfl ?_
                    first
                    | refine hm_s1 (hol_storeW ty_40 rfl rfl rfl rfl) rfl rfl (pre1 rfl) (c' := 8) rfl ?_
                    | refine hm_s1 (hol_store ty_40 rfl rfl rfl rfl (by first | exact Nat.le_of_ble_eq_true rfl | omega | (dsimp only; omega) | (simp <;> omega)) (by first | exact Nat.le_of_ble_eq_true rfl | omega | (dsimp only; omega) | (simp <;> omega)) (by first | exact Nat.le_of_ble_eq_true rfl | omega | (dsimp only; omega) | (simp <;> omega))) rfl rfl (pre1 rfl) (c' := 8) rfl ?_
                    refine hq_ 5 (hop_assign rfl) rfl rfl pre0 rfl rfl ?_
                    refine hq_ 6 (hop_assign rfl) rfl rfl pre0 rfl rfl ?_
                    refine hseq_nil ?_
                    refine h35 _ ?_
                    refine hw_ret ?_
                    refine hq_then_ret ?_
                    refine hq_ret3 rfl (rvl_cell rfl rfl ty_40 (fun h => by first | rfl | cases h) rfl rfl) (rval_tmp rfl) (rval_tmp rfl) [] rfl pre0 ?_
                    have e : countF s i = (⟨5, i, n, m, []⟩, wrongV s q) := (by unfold countF; rw [hn]; simp only; rw [if_neg h1, if_pos h2, if_neg h3, hm]; simp only; rw [if_neg h5, if_neg h6]); rw [e]; exact fz_t3 (fz_agg5 (by first | exact .imm _ | exact .nil _ _ _ (by decide) _ | exact fz_toks _ | exact fz_mkss _ | exact Frz.fz) (by first | exact .imm _ | exact .nil _ _ _ (by decide) _ | exact fz_toks _ | exact fz_mkss _ | exact Frz.fz) (by first | exact .imm _ | exact .nil _ _ _ (by decide) _ | exact fz_toks _ | exact fz_mkss _ | exact Frz.fz) (by first | exact .imm _ | exact .nil _ _ _ (by decide) _ | exact fz_toks _ | exact fz_mkss _ | exact Frz.fz) (by first | exact .imm _ | exact .nil _ _ _ (by decide) _ | exact fz_toks _ | exact fz_mkss _ | exact Frz.fz)) (.imm _) (.imm _)
                  · have hr6 := hc6; (try simp only [decide_eq_true_eq, decide_eq_false_iff_not, Bool.and_eq_true, Bool.or_eq_true, Bool.not_eq_true', Bool.or_eq_false_iff, beq_iff_eq, bne_iff_ne, ne_eq, beq_eq_false_iff_ne, bne_eq_false_iff_eq, Bool.not_eq_true, Bool.not_eq_false, Bool.not_eq_false', Int.toNat_natCast, Int.reduceToNat] at hc6)
                    have h6 : bz s q = 125 := (by have h := hr6; rw [Int.toNat_natCast, bz_neb s q (by decide)] at h; simpa using h)
                    refine hw_skip ?_
                    refine h32 _ ?_
                    refine hw_seq (fun Nh36 h36 => ?_)
                    refine hw_region ?_
                    first
                    | refine hq_ 140 (hol_load ty_40 rfl (by first | exact Nat.le_of_ble_eq_true rfl | omega | (dsimp only; omega) | (simp <;> omega)) (by first | exact Nat.le_of_ble_eq_true rfl | omega | (dsimp only; omega) | (simp <;> omega)) (fun h => by first | rfl | cases h)) rfl rfl (pre1 rfl) rfl rfl ?_
                    | refine hq_ 140 (hop_load_fp ty_40 rfl (by first | exact Nat.le_of_ble_eq_true rfl | omega | (dsimp only; omega) | (simp <;> omega)) (fun h => by first | rfl | cases h)) rfl rfl pre0 rfl rfl ?_
                    refine hq_ 141 (hop_move rfl) rfl rfl pre0 rfl rfl ?_
                    first
                    | refine hq_ 142 (hop_addi rfl rfl rfl (by first | exact Nat.le_of_ble_eq_true rfl | omega | (dsimp only; omega) | (simp <;> omega)) (by first | exact Nat.le_of_ble_eq_true rfl | omega | (dsimp only; omega) | (simp <;> omega))) rfl rfl pre0 rfl rfl ?_
                    | refine hq_ 142 (hop_add rfl rfl) rfl rfl pre0 rfl rfl ?_
                    first
                    | refine hm_s1 (hol_storeW ty_40 rfl rfl rfl rfl) rfl rfl (pre1 rfl) (c' := 8) rfl ?_
                    | refine hm_s1 (hol_store ty_40 rfl rfl rfl rfl (by first | exact Nat.le_of_ble_eq_true rfl | omega | (dsimp only; omega) | (simp <;> omega)) (by first | exact Nat.le_of_ble_eq_true rfl | omega | (dsimp only; omega) | (simp <;> omega)) (by first | exact Nat.le_of_ble_eq_true rfl | omega | (dsimp only; omega) | (simp <;> omega))) rfl rfl (pre1 rfl) (c' := 8) rfl ?_
                    refine hq_ 5 (hop_assign rfl) rfl rfl pre0 rfl rfl ?_
                    refine hq_ 6 (hop_assign rfl) rfl rfl pre0 rfl rfl ?_
                    refine hseq_nil ?_
                    refine h36 _ ?_
                    refine hw_ret ?_
                    refine hq_ret3 rfl (rvl_cell rfl rfl ty_40 (fun h => by first | rfl | cases h) rfl rfl) (rval_tmp rfl) (rval_tmp rfl) [] rfl pre0 ?_
                    have e : countF s i = (⟨5, i, n, m, []⟩, ((q + 1 : Nat) : Int), 0) := (by unfold countF; rw [hn]; simp only; rw [if_neg h1, if_pos h2, if_neg h3, hm]; simp only; rw [if_neg h5, if_pos h6]); rw [e]; exact fz_t3 (fz_agg5 (by first | exact .imm _ | exact .nil _ _ _ (by decide) _ | exact fz_toks _ | exact fz_mkss _ | exact Frz.fz) (by first | exact .imm _ | exact .nil _ _ _ (by decide) _ | exact fz_toks _ | exact fz_mkss _ | exact Frz.fz) (by first | exact .imm _ | exact .nil _ _ _ (by decide) _ | exact fz_toks _ | exact fz_mkss _ | exact Frz.fz) (by first | exact .imm _ | exact .nil _ _ _ (by decide) _ | exact fz_toks _ | exact fz_mkss _ | exact Frz.fz) (by first | exact .imm _ | exact .nil _ _ _ (by decide) _ | exact fz_toks _ | exact fz_mkss _ | exact Frz.fz)) (.imm _) (.imm _)
          · have hr3 := hc3; (try simp only [decide_eq_true_eq, decide_eq_false_iff_not, Bool.and_eq_true, Bool.or_eq_true, Bool.not_eq_true', Bool.or_eq_false_iff, beq_iff_eq, bne_iff_ne, ne_eq, beq_eq_false_iff_ne, bne_eq_false_iff_eq, Bool.not_eq_true, Bool.not_eq_false, Bool.not_eq_false', Int.toNat_natCast, Int.reduceToNat] at hc3)
            have h3 : bz s (p + 1) = 125 := (by have h := hr3; rw [Int.toNat_natCast, bz_neb s (p + 1) (by decide)] at h; simpa using h)
            refine hw_skip ?_
            refine h15 _ ?_
            refine hw_seq (fun Nh37 h37 => ?_)
            refine hw_seq (fun Nh38 h38 => ?_)
            refine hw_region ?_
            refine hq_ 121 (hop_move rfl) rfl rfl pre0 rfl rfl ?_
            refine hq_ 122 (hop_move rfl) rfl rfl pre0 rfl rfl ?_
            refine hq_ 123 (hop_len_strl (T := 9) rfl (by kernel_rfl) rfl) rfl rfl pre0 rfl rfl ?_
            refine hq_ 124 (hop_geq rfl rfl) rfl rfl pre0 rfl rfl ?_
            refine hq_ 125 (hop_move rfl) rfl rfl pre0 rfl rfl ?_
            first
            | refine hq_g 126 4 125 false _ (fun hb => hop_move rfl) rfl rfl rfl rfl pre0 rfl rfl rfl ?_
            | refine hq_g2 126 4 125 _ _ false _ (fun hb => hop_move rfl) rfl rfl rfl rfl pre0 rfl rfl rfl ?_
            first
            | refine hq_g 127 4 125 false _ (fun hb => hop_move rfl) rfl rfl rfl rfl pre0 rfl rfl rfl ?_
            | refine hq_g2 127 4 125 _ _ false _ (fun hb => hop_move rfl) rfl rfl rfl rfl pre0 rfl rfl rfl ?_
            first
            | refine hq_g 128 4 125 false _ (fun hb => hop_ix_strl (by kernel_rfl) rfl rfl (by first | exact Nat.le_of_ble_eq_true rfl | (simp at hb; first | omega | (dsimp only; omega) | (simp <;> omega))) (by first | exact Nat.le_of_ble_eq_true rfl | (simp at hb; first | omega | (dsimp only; omega) | (simp <;> omega)))) rfl rfl rfl rfl pre0 rfl rfl rfl ?_
            | refine hq_g2 128 4 125 _ _ false _ (fun hb => hop_ix_strl (by kernel_rfl) rfl rfl (by first | exact Nat.le_of_ble_eq_true rfl | (simp at hb; first | omega | (dsimp only; omega) | (simp <;> omega))) (by first | exact Nat.le_of_ble_eq_true rfl | (simp at hb; first | omega | (dsimp only; omega) | (simp <;> omega)))) rfl rfl rfl rfl pre0 rfl rfl rfl ?_
            first
            | refine hq_g 129 4 125 false _ (fun hb => hop_neq rfl rfl) rfl rfl rfl rfl pre0 rfl rfl rfl ?_
            | refine hq_g2 129 4 125 _ _ false _ (fun hb => hop_neq rfl rfl) rfl rfl rfl rfl pre0 rfl rfl rfl ?_
            first
            | refine hq_p 130 (hstep_and _ _ rfl rfl rfl) rfl rfl rfl ?_
            | refine hq_p 130 (hstep_or _ _ rfl rfl rfl) rfl rfl rfl ?_
            | refine hq_p 130 (hstep_ite _ _ _ rfl rfl rfl) rfl rfl rfl ?_
            | refine hq_p 130 (hstep_pick _ _ _ _ rfl rfl rfl (fun _ => .refl _) (fun _ => .refl _)) rfl rfl rfl ?_
            refine hseq_nilU (by rfl) (by simp only [dropUn, slots]; exact rfl) ?_
            refine h38 _ ?_
            refine hw_cond _ rfl (fun hc6 => ?_) (fun hc6 => ?_)
            · have hr6 := hc6; (try simp only [decide_eq_true_eq, decide_eq_false_iff_not, Bool.and_eq_true, Bool.or_eq_true, Bool.not_eq_true', Bool.or_eq_false_iff, beq_iff_eq, bne_iff_ne, ne_eq, beq_eq_false_iff_ne, bne_eq_false_iff_eq, Bool.not_eq_true, Bool.not_eq_false, Bool.not_eq_false', Int.toNat_natCast, Int.reduceToNat] at hc6)
              exfalso; have h := hr6; rw [Int.toNat_natCast, bz_neb s (p + 1) (by decide), h3] at h; exact absurd h (by decide)
            · have hr6 := hc6; (try simp only [decide_eq_true_eq, decide_eq_false_iff_not, Bool.and_eq_true, Bool.or_eq_true, Bool.not_eq_true', Bool.or_eq_false_iff, beq_iff_eq, bne_iff_ne, ne_eq, beq_eq_false_iff_ne, bne_eq_false_iff_eq, Bool.not_eq_true, Bool.not_eq_false, Bool.not_eq_false', Int.toNat_natCast, Int.reduceToNat] at hc6)
              refine hw_skip ?_
              refine h37 _ ?_
              refine hw_seq (fun Nh39 h39 => ?_)
              refine hw_region ?_
              first
              | refine hq_ 140 (hol_load ty_40 rfl (by first | exact Nat.le_of_ble_eq_true rfl | omega | (dsimp only; omega) | (simp <;> omega)) (by first | exact Nat.le_of_ble_eq_true rfl | omega | (dsimp only; omega) | (simp <;> omega)) (fun h => by first | rfl | cases h)) rfl rfl (pre1 rfl) rfl rfl ?_
              | refine hq_ 140 (hop_load_fp ty_40 rfl (by first | exact Nat.le_of_ble_eq_true rfl | omega | (dsimp only; omega) | (simp <;> omega)) (fun h => by first | rfl | cases h)) rfl rfl pre0 rfl rfl ?_
              refine hq_ 141 (hop_move rfl) rfl rfl pre0 rfl rfl ?_
              first
              | refine hq_ 142 (hop_addi rfl rfl rfl (by first | exact Nat.le_of_ble_eq_true rfl | omega | (dsimp only; omega) | (simp <;> omega)) (by first | exact Nat.le_of_ble_eq_true rfl | omega | (dsimp only; omega) | (simp <;> omega))) rfl rfl pre0 rfl rfl ?_
              | refine hq_ 142 (hop_add rfl rfl) rfl rfl pre0 rfl rfl ?_
              first
              | refine hm_s1 (hol_storeW ty_40 rfl rfl rfl rfl) rfl rfl (pre1 rfl) (c' := 7) rfl ?_
              | refine hm_s1 (hol_store ty_40 rfl rfl rfl rfl (by first | exact Nat.le_of_ble_eq_true rfl | omega | (dsimp only; omega) | (simp <;> omega)) (by first | exact Nat.le_of_ble_eq_true rfl | omega | (dsimp only; omega) | (simp <;> omega)) (by first | exact Nat.le_of_ble_eq_true rfl | omega | (dsimp only; omega) | (simp <;> omega))) rfl rfl (pre1 rfl) (c' := 7) rfl ?_
              refine hq_ 5 (hop_assign rfl) rfl rfl pre0 rfl rfl ?_
              refine hq_ 6 (hop_assign rfl) rfl rfl pre0 rfl rfl ?_
              refine hseq_nil ?_
              refine h39 _ ?_
              refine hw_ret ?_
              refine hq_ret3 rfl (rvl_cell rfl rfl ty_40 (fun h => by first | rfl | cases h) rfl rfl) (rval_tmp rfl) (rval_tmp rfl) [] rfl pre0 ?_
              have e : countF s i = (⟨5, i, n, -1, []⟩, ((p + 2 : Nat) : Int), 0) := (by unfold countF; rw [hn]; simp only; rw [if_neg h1, if_pos h2, if_pos h3]); rw [e]; exact fz_t3 (fz_agg5 (by first | exact .imm _ | exact .nil _ _ _ (by decide) _ | exact fz_toks _ | exact fz_mkss _ | exact Frz.fz) (by first | exact .imm _ | exact .nil _ _ _ (by decide) _ | exact fz_toks _ | exact fz_mkss _ | exact Frz.fz) (by first | exact .imm _ | exact .nil _ _ _ (by decide) _ | exact fz_toks _ | exact fz_mkss _ | exact Frz.fz) (by first | exact .imm _ | exact .nil _ _ _ (by decide) _ | exact fz_toks _ | exact fz_mkss _ | exact Frz.fz) (by first | exact .imm _ | exact .nil _ _ _ (by decide) _ | exact fz_toks _ | exact fz_mkss _ | exact Frz.fz)) (fz_int (by show ((p + 1 : Nat) : Int) + 1 = ((p + 2 : Nat) : Int); omega)) (.imm _)
        · have hr2 := hc2; (try simp only [decide_eq_true_eq, decide_eq_false_iff_not, Bool.and_eq_true, Bool.or_eq_true, Bool.not_eq_true', Bool.or_eq_false_iff, beq_iff_eq, bne_iff_ne, ne_eq, beq_eq_false_iff_ne, bne_eq_false_iff_eq, Bool.not_eq_true, Bool.not_eq_false, Bool.not_eq_false', Int.toNat_natCast, Int.reduceToNat] at hc2)
          have h2 : ¬ bz s p = 44 := (by have h := hr2; rw [Int.toNat_natCast, bz_eqb s p (by decide)] at h; exact of_decide_eq_false h)
          refine hw_skip ?_
          refine h15 _ ?_
          refine hw_seq (fun Nh40 h40 => ?_)
          refine hw_seq (fun Nh41 h41 => ?_)
          refine hw_region ?_
          refine hq_ 121 (hop_move rfl) rfl rfl pre0 rfl rfl ?_
          refine hq_ 122 (hop_move rfl) rfl rfl pre0 rfl rfl ?_
          refine hq_ 123 (hop_len_strl (T := 9) rfl (by kernel_rfl) rfl) rfl rfl pre0 rfl rfl ?_
          refine hq_ 124 (hop_geq rfl rfl) rfl rfl pre0 rfl rfl ?_
          refine hq_ 125 (hop_move rfl) rfl rfl pre0 rfl rfl ?_
          first
          | refine hq_g 126 4 125 false _ (fun hb => hop_move rfl) rfl rfl rfl rfl pre0 rfl rfl rfl ?_
          | refine hq_g2 126 4 125 _ _ false _ (fun hb => hop_move rfl) rfl rfl rfl rfl pre0 rfl rfl rfl ?_
          first
          | refine hq_g 127 4 125 false _ (fun hb => hop_move rfl) rfl rfl rfl rfl pre0 rfl rfl rfl ?_
          | refine hq_g2 127 4 125 _ _ false _ (fun hb => hop_move rfl) rfl rfl rfl rfl pre0 rfl rfl rfl ?_
          first
          | refine hq_g 128 4 125 false _ (fun hb => hop_ix_strl (by kernel_rfl) rfl rfl (by first | exact Nat.le_of_ble_eq_true rfl | (simp at hb; first | omega | (dsimp only; omega) | (simp <;> omega))) (by first | exact Nat.le_of_ble_eq_true rfl | (simp at hb; first | omega | (dsimp only; omega) | (simp <;> omega)))) rfl rfl rfl rfl pre0 rfl rfl rfl ?_
          | refine hq_g2 128 4 125 _ _ false _ (fun hb => hop_ix_strl (by kernel_rfl) rfl rfl (by first | exact Nat.le_of_ble_eq_true rfl | (simp at hb; first | omega | (dsimp only; omega) | (simp <;> omega))) (by first | exact Nat.le_of_ble_eq_true rfl | (simp at hb; first | omega | (dsimp only; omega) | (simp <;> omega)))) rfl rfl rfl rfl pre0 rfl rfl rfl ?_
          first
          | refine hq_g 129 4 125 false _ (fun hb => hop_neq rfl rfl) rfl rfl rfl rfl pre0 rfl rfl rfl ?_
          | refine hq_g2 129 4 125 _ _ false _ (fun hb => hop_neq rfl rfl) rfl rfl rfl rfl pre0 rfl rfl rfl ?_
          first
          | refine hq_p 130 (hstep_and _ _ rfl rfl rfl) rfl rfl rfl ?_
          | refine hq_p 130 (hstep_or _ _ rfl rfl rfl) rfl rfl rfl ?_
          | refine hq_p 130 (hstep_ite _ _ _ rfl rfl rfl) rfl rfl rfl ?_
          | refine hq_p 130 (hstep_pick _ _ _ _ rfl rfl rfl (fun _ => .refl _) (fun _ => .refl _)) rfl rfl rfl ?_
          refine hseq_nilU (by rfl) (by simp only [dropUn, slots]; exact rfl) ?_
          refine h41 _ ?_
          refine hw_cond _ rfl (fun hc6 => ?_) (fun hc6 => ?_)
          · have hr6 := hc6; (try simp only [decide_eq_true_eq, decide_eq_false_iff_not, Bool.and_eq_true, Bool.or_eq_true, Bool.not_eq_true', Bool.or_eq_false_iff, beq_iff_eq, bne_iff_ne, ne_eq, beq_eq_false_iff_ne, bne_eq_false_iff_eq, Bool.not_eq_true, Bool.not_eq_false, Bool.not_eq_false', Int.toNat_natCast, Int.reduceToNat] at hc6)
            have h6 : ¬ bz s p = 125 := (by have h := hr6; rw [Int.toNat_natCast, bz_neb s p (by decide)] at h; simpa using h)
            refine hw_seq (fun Nh42 h42 => ?_)
            refine hw_region ?_
            refine hq_ 132 (hop_move rfl) rfl rfl pre0 rfl rfl ?_
            refine hq_ 133 (hop_move rfl) rfl rfl pre0 rfl rfl ?_
            refine hq_ 134 (hop_call0 (xs := [_, _]) (refWrong_h s p) ⟨rfl, ⟨rfl, trivial⟩⟩ ⟨(Fz.eq rfl), ⟨(Fz.eq rfl), trivial⟩⟩) rfl rfl pre0 rfl rfl ?_
            refine hq_ 131 (hop_move rfl) rfl rfl pre0 rfl rfl ?_
            refine hq_ 135 (hop_extract rfl rfl) rfl rfl pre0 rfl rfl ?_
            refine hq_ 136 (hop_extract rfl rfl) rfl rfl pre0 rfl rfl ?_
            refine hq_ 17 (hop_assign rfl) rfl rfl pre0 rfl rfl ?_
            refine hq_ 18 (hop_assign rfl) rfl rfl pre0 rfl rfl ?_
            refine hseq_nil ?_
            refine h42 _ ?_
            refine hw_seq (fun Nh43 h43 => ?_)
            refine hw_region ?_
            first
            | refine hq_ 137 (hol_load ty_40 rfl (by first | exact Nat.le_of_ble_eq_true rfl | omega | (dsimp only; omega) | (simp <;> omega)) (by first | exact Nat.le_of_ble_eq_true rfl | omega | (dsimp only; omega) | (simp <;> omega)) (fun h => by first | rfl | cases h)) rfl rfl (pre1 rfl) rfl rfl ?_
            | refine hq_ 137 (hop_load_fp ty_40 rfl (by first | exact Nat.le_of_ble_eq_true rfl | omega | (dsimp only; omega) | (simp <;> omega)) (fun h => by first | rfl | cases h)) rfl rfl pre0 rfl rfl ?_
            refine hq_ 138 (hop_move rfl) rfl rfl pre0 rfl rfl ?_
            refine hq_ 139 (hop_move rfl) rfl rfl pre0 rfl rfl ?_
            first
            | refine hm_s1 (hol_storeW ty_40 rfl rfl rfl rfl) rfl rfl (pre1 rfl) (c' := 6) rfl ?_
            | refine hm_s1 (hol_store ty_40 rfl rfl rfl rfl (by first | exact Nat.le_of_ble_eq_true rfl | omega | (dsimp only; omega) | (simp <;> omega)) (by first | exact Nat.le_of_ble_eq_true rfl | omega | (dsimp only; omega) | (simp <;> omega)) (by first | exact Nat.le_of_ble_eq_true rfl | omega | (dsimp only; omega) | (simp <;> omega))) rfl rfl (pre1 rfl) (c' := 6) rfl ?_
            refine hq_ 5 (hop_assign rfl) rfl rfl pre0 rfl rfl ?_
            refine hq_ 6 (hop_assign rfl) rfl rfl pre0 rfl rfl ?_
            refine hseq_nil ?_
            refine h43 _ ?_
            refine hw_ret ?_
            refine hq_then_ret ?_
            refine hq_ret3 rfl (rvl_cell rfl rfl ty_40 (fun h => by first | rfl | cases h) rfl rfl) (rval_tmp rfl) (rval_tmp rfl) [] rfl pre0 ?_
            have e : countF s i = (⟨5, i, n, n, []⟩, wrongV s p) := (by unfold countF; rw [hn]; simp only; rw [if_neg h1, if_neg h2, if_neg h6]); rw [e]; exact fz_t3 (fz_agg5 (by first | exact .imm _ | exact .nil _ _ _ (by decide) _ | exact fz_toks _ | exact fz_mkss _ | exact Frz.fz) (by first | exact .imm _ | exact .nil _ _ _ (by decide) _ | exact fz_toks _ | exact fz_mkss _ | exact Frz.fz) (by first | exact .imm _ | exact .nil _ _ _ (by decide) _ | exact fz_toks _ | exact fz_mkss _ | exact Frz.fz) (by first | exact .imm _ | exact .nil _ _ _ (by decide) _ | exact fz_toks _ | exact fz_mkss _ | exact Frz.fz) (by first | exact .imm _ | exact .nil _ _ _ (by decide) _ | exact fz_toks _ | exact fz_mkss _ | exact Frz.fz)) (.imm _) (.imm _)
          · have hr6 := hc6; (try simp only [decide_eq_true_eq, decide_eq_false_iff_not, Bool.and_eq_true, Bool.or_eq_true, Bool.not_eq_true', Bool.or_eq_false_iff, beq_iff_eq, bne_iff_ne, ne_eq, beq_eq_false_iff_ne, bne_eq_false_iff_eq, Bool.not_eq_true, Bool.not_eq_false, Bool.not_eq_false', Int.toNat_natCast, Int.reduceToNat] at hc6)
            have h6 : bz s p = 125 := (by have h := hr6; rw [Int.toNat_natCast, bz_neb s p (by decide)] at h; simpa using h)
            refine hw_skip ?_
            refine h40 _ ?_
            refine hw_seq (fun Nh44 h44 => ?_)
            refine hw_region ?_
            first
            | refine hq_ 140 (hol_load ty_40 rfl (by first | exact Nat.le_of_ble_eq_true rfl | omega | (dsimp only; omega) | (simp <;> omega)) (by first | exact Nat.le_of_ble_eq_true rfl | omega | (dsimp only; omega) | (simp <;> omega)) (fun h => by first | rfl | cases h)) rfl rfl (pre1 rfl) rfl rfl ?_
            | refine hq_ 140 (hop_load_fp ty_40 rfl (by first | exact Nat.le_of_ble_eq_true rfl | omega | (dsimp only; omega) | (simp <;> omega)) (fun h => by first | rfl | cases h)) rfl rfl pre0 rfl rfl ?_
            refine hq_ 141 (hop_move rfl) rfl rfl pre0 rfl rfl ?_
            first
            | refine hq_ 142 (hop_addi rfl rfl rfl (by first | exact Nat.le_of_ble_eq_true rfl | omega | (dsimp only; omega) | (simp <;> omega)) (by first | exact Nat.le_of_ble_eq_true rfl | omega | (dsimp only; omega) | (simp <;> omega))) rfl rfl pre0 rfl rfl ?_
            | refine hq_ 142 (hop_add rfl rfl) rfl rfl pre0 rfl rfl ?_
            first
            | refine hm_s1 (hol_storeW ty_40 rfl rfl rfl rfl) rfl rfl (pre1 rfl) (c' := 6) rfl ?_
            | refine hm_s1 (hol_store ty_40 rfl rfl rfl rfl (by first | exact Nat.le_of_ble_eq_true rfl | omega | (dsimp only; omega) | (simp <;> omega)) (by first | exact Nat.le_of_ble_eq_true rfl | omega | (dsimp only; omega) | (simp <;> omega)) (by first | exact Nat.le_of_ble_eq_true rfl | omega | (dsimp only; omega) | (simp <;> omega))) rfl rfl (pre1 rfl) (c' := 6) rfl ?_
            refine hq_ 5 (hop_assign rfl) rfl rfl pre0 rfl rfl ?_
            refine hq_ 6 (hop_assign rfl) rfl rfl pre0 rfl rfl ?_
            refine hseq_nil ?_
            refine h44 _ ?_
            refine hw_ret ?_
            refine hq_ret3 rfl (rvl_cell rfl rfl ty_40 (fun h => by first | rfl | cases h) rfl rfl) (rval_tmp rfl) (rval_tmp rfl) [] rfl pre0 ?_
            have e : countF s i = (⟨5, i, n, n, []⟩, ((p + 1 : Nat) : Int), 0) := (by unfold countF; rw [hn]; simp only; rw [if_neg h1, if_neg h2, if_pos h6]); rw [e]; exact fz_t3 (fz_agg5 (by first | exact .imm _ | exact .nil _ _ _ (by decide) _ | exact fz_toks _ | exact fz_mkss _ | exact Frz.fz) (by first | exact .imm _ | exact .nil _ _ _ (by decide) _ | exact fz_toks _ | exact fz_mkss _ | exact Frz.fz) (by first | exact .imm _ | exact .nil _ _ _ (by decide) _ | exact fz_toks _ | exact fz_mkss _ | exact Frz.fz) (by first | exact .imm _ | exact .nil _ _ _ (by decide) _ | exact fz_toks _ | exact fz_mkss _ | exact Frz.fz) (by first | exact .imm _ | exact .nil _ _ _ (by decide) _ | exact fz_toks _ | exact fz_mkss _ | exact Frz.fz)) (.imm _) (.imm _)
end Go.Proofs.YtijpdbjcmnpobaaDoor
