/-
  The text of signs.
-/
import Derived.Test.YtijpdbjcmnpobaaDoorLx4
import Derived.Test.YtijpdbjcmnpobaaDoorHbw
import Derived.Lib.ItoaLen
namespace Go.Proofs.YtijpdbjcmnpobaaDoor
set_option linter.unusedSimpArgs false
set_option linter.unusedVariables false
set_option maxRecDepth 100000
open Go.RowKit
open Go.Lib hiding intOf

def timesL (a b : Int) : List UInt8 :=
  if a = 0 ∧ b = -1 then [42]
  else if a = 1 ∧ b = -1 then [43]
  else if a = 0 ∧ b = 1 then [63]
  else if a = b then [123] ++ itoa a ++ [125]
  else if b = -1 then [123] ++ itoa a ++ [44, 125]
  else [123] ++ itoa a ++ [44] ++ itoa b ++ [125]
@[reducible] def I64 (n : Int) : Prop := -9223372036854775808 ≤ n ∧ n ≤ 9223372036854775807
theorem itoa_len (n : Int) (h : I64 n) : (itoa n).length ≤ 21 := itoa_length_le n h.1 h.2
theorem itoa_h (n : Int) (h : I64 n) : HPure Tryd.prog 43 [intV n] (strV (itoa n)) := by
  refine ⟨⟨_, _, Tryd.func43, rfl, by kernel_rfl⟩, fun w F vs hF hr hw => ?_⟩
  obtain ⟨v, rfl, hv⟩ := rep1 hr
  rw [hv.imm_inv]
  refine (itoa_w n h.1 h.2 w (libAt hw)).mono ?_
  rintro e w' ⟨rfl, hb⟩
  exact pure_imm hF hb
theorem times_h (a b : Int) (ha : I64 a) (hb : I64 b) : HPure Tryd.prog 60 [intV a, intV b] (strV (timesL a b)) := by
  have la := itoa_len a ha
  have lb := itoa_len b hb
  refine hpure_of Tryd.func60 rfl (by kernel_rfl) _ _ _ rfl 49 rfl rfl (fun w F => ?_)
  refine hw_seq (fun Nh1 h1 => ?_)
  refine hw_region ?_
  refine hq_ 4 (hop_assign rfl) rfl rfl pre0 rfl rfl ?_
  refine hseq_nil ?_
  refine h1 _ ?_
  refine hw_seq (fun Nh2 h2 => ?_)
  refine hw_block ?_
  refine hw_seq (fun Nh3 h3 => ?_)
  refine hw_region ?_
  refine hq_ 6 (hop_move rfl) rfl rfl pre0 rfl rfl ?_
  refine hq_ 7 (hop_eql rfl rfl) rfl rfl pre0 rfl rfl ?_
  refine hq_ 8 (hop_move rfl) rfl rfl pre0 rfl rfl ?_
  first
  | refine hq_g 9 2 8 true _ (fun hb => hop_move rfl) rfl rfl rfl rfl pre0 rfl rfl rfl ?_
  | refine hq_g2 9 2 8 _ _ true _ (fun hb => hop_move rfl) rfl rfl rfl rfl pre0 rfl rfl rfl ?_
  first
  | refine hq_g 10 2 8 true _ (fun hb => hop_eql rfl rfl) rfl rfl rfl rfl pre0 rfl rfl rfl ?_
  | refine hq_g2 10 2 8 _ _ true _ (fun hb => hop_eql rfl rfl) rfl rfl rfl rfl pre0 rfl rfl rfl ?_
  first
  | refine hq_p 11 (hstep_and _ _ rfl rfl rfl) rfl rfl rfl ?_
  | refine hq_p 11 (hstep_or _ _ rfl rfl rfl) rfl rfl rfl ?_
  | refine hq_p 11 (hstep_ite _ _ _ rfl rfl rfl) rfl rfl rfl ?_
  | refine hq_p 11 (hstep_pick _ _ _ _ rfl rfl rfl (fun _ => .refl _) (fun _ => .refl _)) rfl rfl rfl ?_
  refine hq_ 5 (hop_assign rfl) rfl rfl pre0 rfl rfl ?_
  refine hseq_nilU (by rfl) (by simp only [dropUn, slots]; exact rfl) ?_
  refine h3 _ ?_
  refine hw_cond _ rfl (fun hc0 => ?_) (fun hc0 => ?_)
  · have hr0 := hc0; (try simp only [decide_eq_true_eq, decide_eq_false_iff_not, Bool.and_eq_true, Bool.or_eq_true, Bool.not_eq_true', Bool.or_eq_false_iff, beq_iff_eq, bne_iff_ne, ne_eq, beq_eq_false_iff_ne, bne_eq_false_iff_eq, Bool.not_eq_true, Bool.not_eq_false, Bool.not_eq_false', Int.toNat_natCast, Int.reduceToNat] at hc0)
    refine hw_seq (fun Nh4 h4 => ?_)
    refine hw_region ?_
    refine hq_ 4 (hop_assign rfl) rfl rfl pre0 rfl rfl ?_
    refine hseq_nil ?_
    refine h4 _ ?_
    refine hw_ret ?_
    refine hq_block_ret ?_
    refine hq_then_ret ?_
    refine hq_ret1 rfl (rval_tmp rfl) [] rfl pre0 ?_
    rw [show timesL a b = [42] from if_pos hc0]; exact .imm _
  · have hr0 := hc0; (try simp only [decide_eq_true_eq, decide_eq_false_iff_not, Bool.and_eq_true, Bool.or_eq_true, Bool.not_eq_true', Bool.or_eq_false_iff, beq_iff_eq, bne_iff_ne, ne_eq, beq_eq_false_iff_ne, bne_eq_false_iff_eq, Bool.not_eq_true, Bool.not_eq_false, Bool.not_eq_false', Int.toNat_natCast, Int.reduceToNat] at hc0)
    have n0 : ¬ (a = 0 ∧ b = -1) := (by have h := hr0; simpa using h)
    refine hw_seq (fun Nh5 h5 => ?_)
    refine hw_region ?_
    refine hq_ 13 (hop_move rfl) rfl rfl pre0 rfl rfl ?_
    refine hq_ 14 (hop_eql rfl rfl) rfl rfl pre0 rfl rfl ?_
    refine hq_ 15 (hop_move rfl) rfl rfl pre0 rfl rfl ?_
    first
    | refine hq_g 16 2 15 true _ (fun hb => hop_move rfl) rfl rfl rfl rfl pre0 rfl rfl rfl ?_
    | refine hq_g2 16 2 15 _ _ true _ (fun hb => hop_move rfl) rfl rfl rfl rfl pre0 rfl rfl rfl ?_
    first
    | refine hq_g 17 2 15 true _ (fun hb => hop_eql rfl rfl) rfl rfl rfl rfl pre0 rfl rfl rfl ?_
    | refine hq_g2 17 2 15 _ _ true _ (fun hb => hop_eql rfl rfl) rfl rfl rfl rfl pre0 rfl rfl rfl ?_
    first
    | refine hq_p 18 (hstep_and _ _ rfl rfl rfl) rfl rfl rfl ?_
    | refine hq_p 18 (hstep_or _ _ rfl rfl rfl) rfl rfl rfl ?_
    | refine hq_p 18 (hstep_ite _ _ _ rfl rfl rfl) rfl rfl rfl ?_
    | refine hq_p 18 (hstep_pick _ _ _ _ rfl rfl rfl (fun _ => .refl _) (fun _ => .refl _)) rfl rfl rfl ?_
    refine hq_ 12 (hop_assign rfl) rfl rfl pre0 rfl rfl ?_
    refine hseq_nilU (by rfl) (by simp only [dropUn, slots]; exact rfl) ?_
    refine h5 _ ?_
    refine hw_cond _ rfl (fun hc1 => ?_) (fun hc1 => ?_)
    · have hr1 := hc1; (try simp only [decide_eq_true_eq, decide_eq_false_iff_not, Bool.and_eq_true, Bool.or_eq_true, Bool.not_eq_true', Bool.or_eq_false_iff, beq_iff_eq, bne_iff_ne, ne_eq, beq_eq_false_iff_ne, bne_eq_false_iff_eq, Bool.not_eq_true, Bool.not_eq_false, Bool.not_eq_false', Int.toNat_natCast, Int.reduceToNat] at hc1)
      refine hw_seq (fun Nh6 h6 => ?_)
      refine hw_region ?_
      refine hq_ 4 (hop_assign rfl) rfl rfl pre0 rfl rfl ?_
      refine hseq_nil ?_
      refine h6 _ ?_
      refine hw_ret ?_
      refine hq_block_ret ?_
      refine hq_then_ret ?_
      refine hq_ret1 rfl (rval_tmp rfl) [] rfl pre0 ?_
      rw [show timesL a b = [43] from by unfold timesL; rw [if_neg n0, if_pos hc1]]; exact .imm _
    · have hr1 := hc1; (try simp only [decide_eq_true_eq, decide_eq_false_iff_not, Bool.and_eq_true, Bool.or_eq_true, Bool.not_eq_true', Bool.or_eq_false_iff, beq_iff_eq, bne_iff_ne, ne_eq, beq_eq_false_iff_ne, bne_eq_false_iff_eq, Bool.not_eq_true, Bool.not_eq_false, Bool.not_eq_false', Int.toNat_natCast, Int.reduceToNat] at hc1)
      have n1 : ¬ (a = 1 ∧ b = -1) := (by have h := hr1; simpa using h)
      refine hw_seq (fun Nh7 h7 => ?_)
      refine hw_region ?_
      refine hq_ 20 (hop_move rfl) rfl rfl pre0 rfl rfl ?_
      refine hq_ 21 (hop_eql rfl rfl) rfl rfl pre0 rfl rfl ?_
      refine hq_ 22 (hop_move rfl) rfl rfl pre0 rfl rfl ?_
      first
      | refine hq_g 23 2 22 true _ (fun hb => hop_move rfl) rfl rfl rfl rfl pre0 rfl rfl rfl ?_
      | refine hq_g2 23 2 22 _ _ true _ (fun hb => hop_move rfl) rfl rfl rfl rfl pre0 rfl rfl rfl ?_
      first
      | refine hq_g 24 2 22 true _ (fun hb => hop_eql rfl rfl) rfl rfl rfl rfl pre0 rfl rfl rfl ?_
      | refine hq_g2 24 2 22 _ _ true _ (fun hb => hop_eql rfl rfl) rfl rfl rfl rfl pre0 rfl rfl rfl ?_
      first
      | refine hq_p 25 (hstep_and _ _ rfl rfl rfl) rfl rfl rfl ?_
      | refine hq_p 25 (hstep_or _ _ rfl rfl rfl) rfl rfl rfl ?_
      | refine hq_p 25 (hstep_ite _ _ _ rfl rfl rfl) rfl rfl rfl ?_
      | refine hq_p 25 (hstep_pick _ _ _ _ rfl rfl rfl (fun _ => .refl _) (fun _ => .refl _)) rfl rfl rfl ?_
      refine hq_ 19 (hop_assign rfl) rfl rfl pre0 rfl rfl ?_
      refine hseq_nilU (by rfl) (by simp only [dropUn, slots]; exact rfl) ?_
      refine h7 _ ?_
      refine hw_cond _ rfl (fun hc2 => ?_) (fun hc2 => ?_)
      · have hr2 := hc2; (try simp only [decide_eq_true_eq, decide_eq_false_iff_not, Bool.and_eq_true, Bool.or_eq_true, Bool.not_eq_true', Bool.or_eq_false_iff, beq_iff_eq, bne_iff_ne, ne_eq, beq_eq_false_iff_ne, bne_eq_false_iff_eq, Bool.not_eq_true, Bool.not_eq_false, Bool.not_eq_false', Int.toNat_natCast, Int.reduceToNat] at hc2)
        refine hw_seq (fun Nh8 h8 => ?_)
        refine hw_region ?_
        refine hq_ 4 (hop_assign rfl) rfl rfl pre0 rfl rfl ?_
        refine hseq_nil ?_
        refine h8 _ ?_
        refine hw_ret ?_
        refine hq_block_ret ?_
        refine hq_then_ret ?_
        refine hq_ret1 rfl (rval_tmp rfl) [] rfl pre0 ?_
        rw [show timesL a b = [63] from by unfold timesL; rw [if_neg n0, if_neg n1, if_pos hc2]]; exact .imm _
      · have hr2 := hc2; (try simp only [decide_eq_true_eq, decide_eq_false_iff_not, Bool.and_eq_true, Bool.or_eq_true, Bool.not_eq_true', Bool.or_eq_false_iff, beq_iff_eq, bne_iff_ne, ne_eq, beq_eq_false_iff_ne, bne_eq_false_iff_eq, Bool.not_eq_true, Bool.not_eq_false, Bool.not_eq_false', Int.toNat_natCast, Int.reduceToNat] at hc2)
        have n2 : ¬ (a = 0 ∧ b = 1) := (by have h := hr2; simpa using h)
        refine hw_seq (fun Nh9 h9 => ?_)
        refine hw_region ?_
        refine hq_ 27 (hop_move rfl) rfl rfl pre0 rfl rfl ?_
        refine hq_ 28 (hop_move rfl) rfl rfl pre0 rfl rfl ?_
        refine hq_ 29 (hop_eql rfl rfl) rfl rfl pre0 rfl rfl ?_
        refine hq_ 26 (hop_assign rfl) rfl rfl pre0 rfl rfl ?_
        refine hseq_nil ?_
        refine h9 _ ?_
        refine hw_cond _ rfl (fun hc3 => ?_) (fun hc3 => ?_)
        · have hr3 := hc3; (try simp only [decide_eq_true_eq, decide_eq_false_iff_not, Bool.and_eq_true, Bool.or_eq_true, Bool.not_eq_true', Bool.or_eq_false_iff, beq_iff_eq, bne_iff_ne, ne_eq, beq_eq_false_iff_ne, bne_eq_false_iff_eq, Bool.not_eq_true, Bool.not_eq_false, Bool.not_eq_false', Int.toNat_natCast, Int.reduceToNat] at hc3)
          refine hw_seq (fun Nh10 h10 => ?_)
          refine hw_region ?_
          refine hq_ 30 (hop_move rfl) rfl rfl pre0 rfl rfl ?_
          refine hq_ 31 (hop_call0 (xs := [_]) (itoa_h a ha) ⟨rfl, trivial⟩ ⟨(Fz.eq rfl), trivial⟩) rfl rfl pre0 rfl rfl ?_
          refine hq_ 32 (hop_catl rfl rfl (by first | exact Nat.le_of_ble_eq_true rfl | omega | (dsimp only; omega) | (simp <;> omega))) rfl rfl pre0 rfl rfl ?_
          refine hq_ 33 (hop_catl rfl rfl (by first | exact Nat.le_of_ble_eq_true rfl | omega | (dsimp only; omega) | (simp <;> omega))) rfl rfl pre0 rfl rfl ?_
          refine hq_ 4 (hop_assign rfl) rfl rfl pre0 rfl rfl ?_
          refine hseq_nil ?_
          refine h10 _ ?_
          refine hw_ret ?_
          refine hq_block_ret ?_
          refine hq_then_ret ?_
          refine hq_ret1 rfl (rval_tmp rfl) [] rfl pre0 ?_
          rw [show timesL a b = [123] ++ itoa a ++ [125] from by unfold timesL; rw [if_neg n0, if_neg n1, if_neg n2, if_pos hc3]]; exact .imm _
        · have hr3 := hc3; (try simp only [decide_eq_true_eq, decide_eq_false_iff_not, Bool.and_eq_true, Bool.or_eq_true, Bool.not_eq_true', Bool.or_eq_false_iff, beq_iff_eq, bne_iff_ne, ne_eq, beq_eq_false_iff_ne, bne_eq_false_iff_eq, Bool.not_eq_true, Bool.not_eq_false, Bool.not_eq_false', Int.toNat_natCast, Int.reduceToNat] at hc3)
          refine hw_seq (fun Nh11 h11 => ?_)
          refine hw_region ?_
          refine hq_ 35 (hop_move rfl) rfl rfl pre0 rfl rfl ?_
          refine hq_ 36 (hop_eql rfl rfl) rfl rfl pre0 rfl rfl ?_
          refine hq_ 34 (hop_assign rfl) rfl rfl pre0 rfl rfl ?_
          refine hseq_nil ?_
          refine h11 _ ?_
          refine hw_cond _ rfl (fun hc4 => ?_) (fun hc4 => ?_)
          · have hr4 := hc4; (try simp only [decide_eq_true_eq, decide_eq_false_iff_not, Bool.and_eq_true, Bool.or_eq_true, Bool.not_eq_true', Bool.or_eq_false_iff, beq_iff_eq, bne_iff_ne, ne_eq, beq_eq_false_iff_ne, bne_eq_false_iff_eq, Bool.not_eq_true, Bool.not_eq_false, Bool.not_eq_false', Int.toNat_natCast, Int.reduceToNat] at hc4)
            refine hw_seq (fun Nh12 h12 => ?_)
            refine hw_region ?_
            refine hq_ 37 (hop_move rfl) rfl rfl pre0 rfl rfl ?_
            refine hq_ 38 (hop_call0 (xs := [_]) (itoa_h a ha) ⟨rfl, trivial⟩ ⟨(Fz.eq rfl), trivial⟩) rfl rfl pre0 rfl rfl ?_
            refine hq_ 39 (hop_catl rfl rfl (by first | exact Nat.le_of_ble_eq_true rfl | omega | (dsimp only; omega) | (simp <;> omega))) rfl rfl pre0 rfl rfl ?_
            refine hq_ 40 (hop_catl rfl rfl (by first | exact Nat.le_of_ble_eq_true rfl | omega | (dsimp only; omega) | (simp <;> omega))) rfl rfl pre0 rfl rfl ?_
            refine hq_ 4 (hop_assign rfl) rfl rfl pre0 rfl rfl ?_
            refine hseq_nil ?_
            refine h12 _ ?_
            refine hw_ret ?_
            refine hq_block_ret ?_
            refine hq_then_ret ?_
            refine hq_ret1 rfl (rval_tmp rfl) [] rfl pre0 ?_
            rw [show timesL a b = [123] ++ itoa a ++ [44, 125] from by unfold timesL; rw [if_neg n0, if_neg n1, if_neg n2, if_neg hc3, if_pos hc4]]; exact .imm _
          · have hr4 := hc4; (try simp only [decide_eq_true_eq, decide_eq_false_iff_not, Bool.and_eq_true, Bool.or_eq_true, Bool.not_eq_true', Bool.or_eq_false_iff, beq_iff_eq, bne_iff_ne, ne_eq, beq_eq_false_iff_ne, bne_eq_false_iff_eq, Bool.not_eq_true, Bool.not_eq_false, Bool.not_eq_false', Int.toNat_natCast, Int.reduceToNat] at hc4)
            refine hw_skip ?_
            refine hq_block ?_
            refine h2 _ ?_
            refine hw_seq (fun Nh13 h13 => ?_)
            refine hw_region ?_
            refine hq_ 41 (hop_move rfl) rfl rfl pre0 rfl rfl ?_
            refine hq_ 42 (hop_call0 (xs := [_]) (itoa_h a ha) ⟨rfl, trivial⟩ ⟨(Fz.eq rfl), trivial⟩) rfl rfl pre0 rfl rfl ?_
            refine hq_ 43 (hop_catl rfl rfl (by first | exact Nat.le_of_ble_eq_true rfl | omega | (dsimp only; omega) | (simp <;> omega))) rfl rfl pre0 rfl rfl ?_
            refine hq_ 44 (hop_catl rfl rfl (by first | exact Nat.le_of_ble_eq_true rfl | omega | (dsimp only; omega) | (simp <;> omega))) rfl rfl pre0 rfl rfl ?_
            refine hq_ 45 (hop_move rfl) rfl rfl pre0 rfl rfl ?_
            refine hq_ 46 (hop_call0 (xs := [_]) (itoa_h b hb) ⟨rfl, trivial⟩ ⟨(Fz.eq rfl), trivial⟩) rfl rfl pre0 rfl rfl ?_
            refine hq_ 47 (hop_catl rfl rfl (by first | exact Nat.le_of_ble_eq_true rfl | omega | (dsimp only; omega) | (simp <;> omega))) rfl rfl pre0 rfl rfl ?_
            refine hq_ 48 (hop_catl rfl rfl (by first | exact Nat.le_of_ble_eq_true rfl | omega | (dsimp only; omega) | (simp <;> omega))) rfl rfl pre0 rfl rfl ?_
            refine hq_ 4 (hop_assign rfl) rfl rfl pre0 rfl rfl ?_
            refine hseq_nil ?_
            refine h13 _ ?_
            refine hw_ret ?_
            refine hq_ret1 rfl (rval_tmp rfl) [] rfl pre0 ?_
            rw [show timesL a b = [123] ++ itoa a ++ [44] ++ itoa b ++ [125] from by unfold timesL; rw [if_neg n0, if_neg n1, if_neg n2, if_neg hc3, if_neg hc4]]; exact .imm _
theorem refTimes_h (a b : Int) (ha : I64 a) (hb : I64 b) : HPure Tryd.prog 61 [intV a, intV b] (strV (timesL a b)) := by
  have la := itoa_len a ha
  have lb := itoa_len b hb
  refine hpure_of Tryd.func61 rfl (by kernel_rfl) _ _ _ rfl 42 rfl rfl (fun w F => ?_)
  refine hw_seq (fun Nh1 h1 => ?_)
  refine hw_region ?_
  refine hq_ 4 (hop_assign rfl) rfl rfl pre0 rfl rfl ?_
  refine hseq_nil ?_
  refine h1 _ ?_
  refine hw_seq (fun Nh2 h2 => ?_)
  refine hw_seq (fun Nh3 h3 => ?_)
  refine hw_region ?_
  refine hq_ 6 (hop_move rfl) rfl rfl pre0 rfl rfl ?_
  refine hq_ 7 (hop_eql rfl rfl) rfl rfl pre0 rfl rfl ?_
  refine hq_ 8 (hop_move rfl) rfl rfl pre0 rfl rfl ?_
  first
  | refine hq_g 9 2 8 true _ (fun hb => hop_move rfl) rfl rfl rfl rfl pre0 rfl rfl rfl ?_
  | refine hq_g2 9 2 8 _ _ true _ (fun hb => hop_move rfl) rfl rfl rfl rfl pre0 rfl rfl rfl ?_
  first
  | refine hq_g 10 2 8 true _ (fun hb => hop_eql rfl rfl) rfl rfl rfl rfl pre0 rfl rfl rfl ?_
  | refine hq_g2 10 2 8 _ _ true _ (fun hb => hop_eql rfl rfl) rfl rfl rfl rfl pre0 rfl rfl rfl ?_
  first
  | refine hq_p 11 (hstep_and _ _ rfl rfl rfl) rfl rfl rfl ?_
  | refine hq_p 11 (hstep_or _ _ rfl rfl rfl) rfl rfl rfl ?_
  | refine hq_p 11 (hstep_ite _ _ _ rfl rfl rfl) rfl rfl rfl ?_
  | refine hq_p 11 (hstep_pick _ _ _ _ rfl rfl rfl (fun _ => .refl _) (fun _ => .refl _)) rfl rfl rfl ?_
  refine hseq_nilU (by rfl) (by simp only [dropUn, slots]; exact rfl) ?_
  refine h3 _ ?_
  refine hw_cond _ rfl (fun hc0 => ?_) (fun hc0 => ?_)
  · have hr0 := hc0; (try simp only [decide_eq_true_eq, decide_eq_false_iff_not, Bool.and_eq_true, Bool.or_eq_true, Bool.not_eq_true', Bool.or_eq_false_iff, beq_iff_eq, bne_iff_ne, ne_eq, beq_eq_false_iff_ne, bne_eq_false_iff_eq, Bool.not_eq_true, Bool.not_eq_false, Bool.not_eq_false', Int.toNat_natCast, Int.reduceToNat] at hc0)
    refine hw_seq (fun Nh4 h4 => ?_)
    refine hw_region ?_
    refine hq_ 4 (hop_assign rfl) rfl rfl pre0 rfl rfl ?_
    refine hseq_nil ?_
    refine h4 _ ?_
    refine hw_ret ?_
    refine hq_then_ret ?_
    refine hq_ret1 rfl (rval_tmp rfl) [] rfl pre0 ?_
    rw [show timesL a b = [42] from if_pos hc0]; exact .imm _
  · have hr0 := hc0; (try simp only [decide_eq_true_eq, decide_eq_false_iff_not, Bool.and_eq_true, Bool.or_eq_true, Bool.not_eq_true', Bool.or_eq_false_iff, beq_iff_eq, bne_iff_ne, ne_eq, beq_eq_false_iff_ne, bne_eq_false_iff_eq, Bool.not_eq_true, Bool.not_eq_false, Bool.not_eq_false', Int.toNat_natCast, Int.reduceToNat] at hc0)
    have n0 : ¬ (a = 0 ∧ b = -1) := (by have h := hr0; simpa using h)
    refine hw_skip ?_
    refine h2 _ ?_
    refine hw_seq (fun Nh5 h5 => ?_)
    refine hw_seq (fun Nh6 h6 => ?_)
    refine hw_region ?_
    refine hq_ 12 (hop_move rfl) rfl rfl pre0 rfl rfl ?_
    refine hq_ 13 (hop_eql rfl rfl) rfl rfl pre0 rfl rfl ?_
    refine hq_ 14 (hop_move rfl) rfl rfl pre0 rfl rfl ?_
    first
    | refine hq_g 15 2 14 true _ (fun hb => hop_move rfl) rfl rfl rfl rfl pre0 rfl rfl rfl ?_
    | refine hq_g2 15 2 14 _ _ true _ (fun hb => hop_move rfl) rfl rfl rfl rfl pre0 rfl rfl rfl ?_
    first
    | refine hq_g 16 2 14 true _ (fun hb => hop_eql rfl rfl) rfl rfl rfl rfl pre0 rfl rfl rfl ?_
    | refine hq_g2 16 2 14 _ _ true _ (fun hb => hop_eql rfl rfl) rfl rfl rfl rfl pre0 rfl rfl rfl ?_
    first
    | refine hq_p 17 (hstep_and _ _ rfl rfl rfl) rfl rfl rfl ?_
    | refine hq_p 17 (hstep_or _ _ rfl rfl rfl) rfl rfl rfl ?_
    | refine hq_p 17 (hstep_ite _ _ _ rfl rfl rfl) rfl rfl rfl ?_
    | refine hq_p 17 (hstep_pick _ _ _ _ rfl rfl rfl (fun _ => .refl _) (fun _ => .refl _)) rfl rfl rfl ?_
    refine hseq_nilU (by rfl) (by simp only [dropUn, slots]; exact rfl) ?_
    refine h6 _ ?_
    refine hw_cond _ rfl (fun hc1 => ?_) (fun hc1 => ?_)
    · have hr1 := hc1; (try simp only [decide_eq_true_eq, decide_eq_false_iff_not, Bool.and_eq_true, Bool.or_eq_true, Bool.not_eq_true', Bool.or_eq_false_iff, beq_iff_eq, bne_iff_ne, ne_eq, beq_eq_false_iff_ne, bne_eq_false_iff_eq, Bool.not_eq_true, Bool.not_eq_false, Bool.not_eq_false', Int.toNat_natCast, Int.reduceToNat] at hc1)
      refine hw_seq (fun Nh7 h7 => ?_)
      refine hw_region ?_
      refine hq_ 4 (hop_assign rfl) rfl rfl pre0 rfl rfl ?_
      refine hseq_nil ?_
      refine h7 _ ?_
      refine hw_ret ?_
      refine hq_then_ret ?_
      refine hq_ret1 rfl (rval_tmp rfl) [] rfl pre0 ?_
      rw [show timesL a b = [43] from by unfold timesL; rw [if_neg n0, if_pos hc1]]; exact .imm _
    · have hr1 := hc1; (try simp only [decide_eq_true_eq, decide_eq_false_iff_not, Bool.and_eq_true, Bool.or_eq_true, Bool.not_eq_true', Bool.or_eq_false_iff, beq_iff_eq, bne_iff_ne, ne_eq, beq_eq_false_iff_ne, bne_eq_false_iff_eq, Bool.not_eq_true, Bool.not_eq_false, Bool.not_eq_false', Int.toNat_natCast, Int.reduceToNat] at hc1)
      have n1 : ¬ (a = 1 ∧ b = -1) := (by have h := hr1; simpa using h)
      refine hw_skip ?_
      refine h5 _ ?_
      refine hw_seq (fun Nh8 h8 => ?_)
      refine hw_seq (fun Nh9 h9 => ?_)
      refine hw_region ?_
      refine hq_ 18 (hop_move rfl) rfl rfl pre0 rfl rfl ?_
      refine hq_ 19 (hop_eql rfl rfl) rfl rfl pre0 rfl rfl ?_
      refine hq_ 20 (hop_move rfl) rfl rfl pre0 rfl rfl ?_
      first
      | refine hq_g 21 2 20 true _ (fun hb => hop_move rfl) rfl rfl rfl rfl pre0 rfl rfl rfl ?_
      | refine hq_g2 21 2 20 _ _ true _ (fun hb => hop_move rfl) rfl rfl rfl rfl pre0 rfl rfl rfl ?_
      first
      | refine hq_g 22 2 20 true _ (fun hb => hop_eql rfl rfl) rfl rfl rfl rfl pre0 rfl rfl rfl ?_
      | refine hq_g2 22 2 20 _ _ true _ (fun hb => hop_eql rfl rfl) rfl rfl rfl rfl pre0 rfl rfl rfl ?_
      first
      | refine hq_p 23 (hstep_and _ _ rfl rfl rfl) rfl rfl rfl ?_
      | refine hq_p 23 (hstep_or _ _ rfl rfl rfl) rfl rfl rfl ?_
      | refine hq_p 23 (hstep_ite _ _ _ rfl rfl rfl) rfl rfl rfl ?_
      | refine hq_p 23 (hstep_pick _ _ _ _ rfl rfl rfl (fun _ => .refl _) (fun _ => .refl _)) rfl rfl rfl ?_
      refine hseq_nilU (by rfl) (by simp only [dropUn, slots]; exact rfl) ?_
      refine h9 _ ?_
      refine hw_cond _ rfl (fun hc2 => ?_) (fun hc2 => ?_)
      · have hr2 := hc2; (try simp only [decide_eq_true_eq, decide_eq_false_iff_not, Bool.and_eq_true, Bool.or_eq_true, Bool.not_eq_true', Bool.or_eq_false_iff, beq_iff_eq, bne_iff_ne, ne_eq, beq_eq_false_iff_ne, bne_eq_false_iff_eq, Bool.not_eq_true, Bool.not_eq_false, Bool.not_eq_false', Int.toNat_natCast, Int.reduceToNat] at hc2)
        refine hw_seq (fun Nh10 h10 => ?_)
        refine hw_region ?_
        refine hq_ 4 (hop_assign rfl) rfl rfl pre0 rfl rfl ?_
        refine hseq_nil ?_
        refine h10 _ ?_
        refine hw_ret ?_
        refine hq_then_ret ?_
        refine hq_ret1 rfl (rval_tmp rfl) [] rfl pre0 ?_
        rw [show timesL a b = [63] from by unfold timesL; rw [if_neg n0, if_neg n1, if_pos hc2]]; exact .imm _
      · have hr2 := hc2; (try simp only [decide_eq_true_eq, decide_eq_false_iff_not, Bool.and_eq_true, Bool.or_eq_true, Bool.not_eq_true', Bool.or_eq_false_iff, beq_iff_eq, bne_iff_ne, ne_eq, beq_eq_false_iff_ne, bne_eq_false_iff_eq, Bool.not_eq_true, Bool.not_eq_false, Bool.not_eq_false', Int.toNat_natCast, Int.reduceToNat] at hc2)
        have n2 : ¬ (a = 0 ∧ b = 1) := (by have h := hr2; simpa using h)
        refine hw_skip ?_
        refine h8 _ ?_
        refine hw_seq (fun Nh11 h11 => ?_)
        refine hw_region ?_
        refine hq_ 24 (hop_move rfl) rfl rfl pre0 rfl rfl ?_
        refine hq_ 25 (hop_call0 (xs := [_]) (refShow_h a ha.1 ha.2) ⟨rfl, trivial⟩ ⟨(Fz.eq rfl), trivial⟩) rfl rfl pre0 rfl rfl ?_
        refine hq_ 26 (hop_catl rfl rfl (by first | exact Nat.le_of_ble_eq_true rfl | omega | (dsimp only; omega) | (simp <;> omega))) rfl rfl pre0 rfl rfl ?_
        refine hq_ 5 (hop_assign rfl) rfl rfl pre0 rfl rfl ?_
        refine hseq_nil ?_
        refine h11 _ ?_
        refine hw_seq (fun Nh12 h12 => ?_)
        refine hw_seq (fun Nh13 h13 => ?_)
        refine hw_region ?_
        refine hq_ 27 (hop_move rfl) rfl rfl pre0 rfl rfl ?_
        refine hq_ 28 (hop_move rfl) rfl rfl pre0 rfl rfl ?_
        refine hq_ 29 (hop_eql rfl rfl) rfl rfl pre0 rfl rfl ?_
        refine hseq_nil ?_
        refine h13 _ ?_
        refine hw_cond _ rfl (fun hc3 => ?_) (fun hc3 => ?_)
        · have hr3 := hc3; (try simp only [decide_eq_true_eq, decide_eq_false_iff_not, Bool.and_eq_true, Bool.or_eq_true, Bool.not_eq_true', Bool.or_eq_false_iff, beq_iff_eq, bne_iff_ne, ne_eq, beq_eq_false_iff_ne, bne_eq_false_iff_eq, Bool.not_eq_true, Bool.not_eq_false, Bool.not_eq_false', Int.toNat_natCast, Int.reduceToNat] at hc3)
          refine hw_seq (fun Nh14 h14 => ?_)
          refine hw_region ?_
          refine hq_ 30 (hop_move rfl) rfl rfl pre0 rfl rfl ?_
          refine hq_ 31 (hop_catl rfl rfl (by first | exact Nat.le_of_ble_eq_true rfl | omega | (dsimp only; omega) | (simp <;> omega))) rfl rfl pre0 rfl rfl ?_
          refine hq_ 4 (hop_assign rfl) rfl rfl pre0 rfl rfl ?_
          refine hseq_nil ?_
          refine h14 _ ?_
          refine hw_ret ?_
          refine hq_then_ret ?_
          refine hq_ret1 rfl (rval_tmp rfl) [] rfl pre0 ?_
          rw [show timesL a b = [123] ++ itoa a ++ [125] from by unfold timesL; rw [if_neg n0, if_neg n1, if_neg n2, if_pos hc3.symm]]; exact .imm _
        · have hr3 := hc3; (try simp only [decide_eq_true_eq, decide_eq_false_iff_not, Bool.and_eq_true, Bool.or_eq_true, Bool.not_eq_true', Bool.or_eq_false_iff, beq_iff_eq, bne_iff_ne, ne_eq, beq_eq_false_iff_ne, bne_eq_false_iff_eq, Bool.not_eq_true, Bool.not_eq_false, Bool.not_eq_false', Int.toNat_natCast, Int.reduceToNat] at hc3)
          refine hw_skip ?_
          refine h12 _ ?_
          refine hw_seq (fun Nh15 h15 => ?_)
          refine hw_seq (fun Nh16 h16 => ?_)
          refine hw_region ?_
          refine hq_ 32 (hop_move rfl) rfl rfl pre0 rfl rfl ?_
          refine hq_ 33 (hop_eql rfl rfl) rfl rfl pre0 rfl rfl ?_
          refine hseq_nil ?_
          refine h16 _ ?_
          refine hw_cond _ rfl (fun hc4 => ?_) (fun hc4 => ?_)
          · have hr4 := hc4; (try simp only [decide_eq_true_eq, decide_eq_false_iff_not, Bool.and_eq_true, Bool.or_eq_true, Bool.not_eq_true', Bool.or_eq_false_iff, beq_iff_eq, bne_iff_ne, ne_eq, beq_eq_false_iff_ne, bne_eq_false_iff_eq, Bool.not_eq_true, Bool.not_eq_false, Bool.not_eq_false', Int.toNat_natCast, Int.reduceToNat] at hc4)
            refine hw_seq (fun Nh17 h17 => ?_)
            refine hw_region ?_
            refine hq_ 34 (hop_move rfl) rfl rfl pre0 rfl rfl ?_
            refine hq_ 35 (hop_catl rfl rfl (by first | exact Nat.le_of_ble_eq_true rfl | omega | (dsimp only; omega) | (simp <;> omega))) rfl rfl pre0 rfl rfl ?_
            refine hq_ 4 (hop_assign rfl) rfl rfl pre0 rfl rfl ?_
            refine hseq_nil ?_
            refine h17 _ ?_
            refine hw_ret ?_
            refine hq_then_ret ?_
            refine hq_ret1 rfl (rval_tmp rfl) [] rfl pre0 ?_
            rw [show timesL a b = [123] ++ itoa a ++ [44, 125] from by unfold timesL; rw [if_neg n0, if_neg n1, if_neg n2, if_neg (Ne.symm hc3), if_pos hc4]]; exact .imm _
          · have hr4 := hc4; (try simp only [decide_eq_true_eq, decide_eq_false_iff_not, Bool.and_eq_true, Bool.or_eq_true, Bool.not_eq_true', Bool.or_eq_false_iff, beq_iff_eq, bne_iff_ne, ne_eq, beq_eq_false_iff_ne, bne_eq_false_iff_eq, Bool.not_eq_true, Bool.not_eq_false, Bool.not_eq_false', Int.toNat_natCast, Int.reduceToNat] at hc4)
            refine hw_skip ?_
            refine h15 _ ?_
            refine hw_seq (fun Nh18 h18 => ?_)
            refine hw_region ?_
            refine hq_ 36 (hop_move rfl) rfl rfl pre0 rfl rfl ?_
            refine hq_ 37 (hop_catl rfl rfl (by first | exact Nat.le_of_ble_eq_true rfl | omega | (dsimp only; omega) | (simp <;> omega))) rfl rfl pre0 rfl rfl ?_
            refine hq_ 38 (hop_move rfl) rfl rfl pre0 rfl rfl ?_
            refine hq_ 39 (hop_call0 (xs := [_]) (refShow_h b hb.1 hb.2) ⟨rfl, trivial⟩ ⟨(Fz.eq rfl), trivial⟩) rfl rfl pre0 rfl rfl ?_
            refine hq_ 40 (hop_catl rfl rfl (by first | exact Nat.le_of_ble_eq_true rfl | omega | (dsimp only; omega) | (simp <;> omega))) rfl rfl pre0 rfl rfl ?_
            refine hq_ 41 (hop_catl rfl rfl (by first | exact Nat.le_of_ble_eq_true rfl | omega | (dsimp only; omega) | (simp <;> omega))) rfl rfl pre0 rfl rfl ?_
            refine hq_ 4 (hop_assign rfl) rfl rfl pre0 rfl rfl ?_
            refine hseq_nil ?_
            refine h18 _ ?_
            refine hw_ret ?_
            refine hq_ret1 rfl (rval_tmp rfl) [] rfl pre0 ?_
            rw [show timesL a b = [123] ++ itoa a ++ [44] ++ itoa b ++ [125] from by unfold timesL; rw [if_neg n0, if_neg n1, if_neg n2, if_neg (Ne.symm hc3), if_neg hc4]]; exact .imm _
def pieceL (x : Sg) : List UInt8 :=
  if x.kind = 1 then x.name else if x.kind = 2 then [40] else if x.kind = 3 then [41] else if x.kind = 4 then [124] else if x.kind = 5 then timesL x.low x.high else []
def sepL (f : Bool) (x : Sg) : List UInt8 := if f = false ∧ x.kind ≠ 5 then [32] else []
def showG : Bool → List Sg → List UInt8
  | _, [] => []
  | f, x :: r => sepL f x ++ pieceL x ++ showG false r
def showL (l : List Sg) : List UInt8 := showG true l
structure SgOk (x : Sg) : Prop where
  name : x.name.length ≤ 100
  low : I64 x.low
  high : I64 x.high
theorem times_len (a b : Int) (ha : I64 a) (hb : I64 b) : (timesL a b).length ≤ 50 := by
  have la := itoa_len a ha
  have lb := itoa_len b hb
  unfold timesL
  repeat' split
  all_goals simp
  all_goals omega
theorem show_next {l : List Sg} {k : Nat} {acc S p : List UInt8} (hk : k < l.length) (hL : acc ++ showG (decide (k = 0)) (l.drop k) = showL l) (hs : sepL (decide (k = 0)) (l.getD k default) = S) (hp : pieceL (l.getD k default) = p) :
    acc ++ S ++ p ++ showG (decide (k + 1 = 0)) (l.drop (k + 1)) = showL l := by
  have e : l.drop k = l.getD k default :: l.drop (k + 1) := by
    rw [List.getD_eq_getElem?_getD, List.getElem?_eq_getElem hk, List.drop_eq_getElem_cons hk]; rfl
  rw [← hL, e]
  have h0 : decide (k + 1 = 0) = false := decide_eq_false (by omega)
  rw [h0]
  simp only [showG, hs, hp, List.append_assoc]
theorem show_end {l : List Sg} {k : Nat} {acc : List UInt8} (hk : l.length ≤ k) (hL : acc ++ showG (decide (k = 0)) (l.drop k) = showL l) : acc = showL l := by
  rw [List.drop_eq_nil_of_le hk] at hL
  simpa [showG] using hL
theorem getD_ok {l : List Sg} {k : Nat} (h : ∀ x ∈ l, SgOk x) (hk : k < l.length) : SgOk (l.getD k default) := by
  rw [List.getD_eq_getElem?_getD, List.getElem?_eq_getElem hk]; exact h _ (List.getElem_mem hk)
theorem lexShow_h (l : List Sg) (hl : l.length ≤ 1000) (hok : ∀ x ∈ l, SgOk x) : HPure Tryd.prog 24 [sgsV l] (strV (showL l)) := by
  refine hpure_of Tryd.func24 rfl (by kernel_rfl) _ _ _ rfl 47 rfl rfl (fun w F => ?_)
  refine hw_seq (fun Nh1 h1 => ?_)
  refine hw_region ?_
  refine hq_ 2 (hop_assign rfl) rfl rfl pre0 rfl rfl ?_
  refine hseq_nil ?_
  refine h1 _ ?_
  refine hw_seq (fun Nh2 h2 => ?_)
  refine hw_region ?_
  refine hm_bld 3 rfl rfl (c' := 2) rfl ?_
  refine hseq_nil ?_
  refine h2 _ ?_
  refine hw_seq (fun Nh3 h3 => ?_)
  refine hw_seq (fun Nh4 h4 => ?_)
  refine hw_region ?_
  refine hq_ 6 (hop_move rfl) rfl rfl pre0 rfl rfl ?_
  first
  | refine hq_ 7 (hop_len_sl (T := 33) rfl (elOf_spec el_33).1 rfl) rfl rfl pre0 rfl rfl ?_
  | refine hq_ 7 (hop_len_os (T := 33) rfl (elOf_spec el_33).1 rfl) rfl rfl pre0 rfl rfl ?_
  | refine hq_ 7 (hop_len_nil (T := 33) rfl (elOf_spec el_33).1 rfl) rfl rfl pre0 rfl rfl ?_
  refine hq_ 8 (hop_move rfl) rfl rfl pre0 rfl rfl ?_
  refine hseq_nil ?_
  refine h4 _ ?_
  refine hw_block ?_
  refine hw_loopc (α := Nat × List UInt8 × Nat × Nat) (fun x c => ⟨47, [(3, .v (.pt 8001 0 0 0)), (6, .v (sgsV l)), (7, .v (intV l.length)), (8, .v (intV x.1))], [(8001, bldO 0 x.2.2.1 x.2.2.2), (8002, bufO x.2.2.1 x.2.2.2 x.2.1)], c⟩) (fun x => x.1 ≤ l.length ∧ x.2.2.2 = x.2.1.length ∧ x.2.2.2 ≤ 200 * x.1 ∧ x.2.1 ++ showG (decide (x.1 = 0)) (l.drop x.1) = showL l) (fun x => l.length - x.1) ((0, [], 1, 0)) (by exact ⟨Nat.zero_le _, rfl, Nat.zero_le _, rfl⟩) (hsub_of rfl (Nat.le_refl _) (TmSub.cons rfl (Sb.refl _) (TmSub.cons rfl (Sb.refl _) (TmSub.cons rfl (Sb.refl _) (TmSub.cons rfl (Sb.refl _) TmSub.nil)))) (HpSub.cons rfl (OSub.refl _) (HpSub.cons rfl (OSub.refl _) HpSub.nil))) (fun x c hx NhL5 hL5 => ?_)
  revert hx hL5; obtain ⟨k, acc, g, n⟩ := x; intro hx hL5; dsimp only at hx hL5 ⊢
  obtain ⟨hk, hn, hb, hL⟩ := hx
  refine hw_seq (fun Nh6 h6 => ?_)
  refine hw_region ?_
  refine hq_ 9 (hop_lss rfl rfl) rfl rfl pre0 rfl rfl ?_
  refine hseq_nil ?_
  refine h6 _ ?_
  refine hw_seq (fun Nh7 h7 => ?_)
  refine hw_cond _ rfl (fun hc0 => ?_) (fun hc0 => ?_)
  · have hr0 := hc0; (try simp only [decide_eq_true_eq, decide_eq_false_iff_not, Bool.and_eq_true, Bool.or_eq_true, Bool.not_eq_true', Bool.or_eq_false_iff, beq_iff_eq, bne_iff_ne, ne_eq, beq_eq_false_iff_ne, bne_eq_false_iff_eq, Bool.not_eq_true, Bool.not_eq_false, Bool.not_eq_false', Int.toNat_natCast, Int.reduceToNat] at hc0)
    have hkl : k < l.length := (by omega); have hx := getD_ok hok hkl; have hnm := hx.name; have htl := times_len _ _ hx.low hx.high
    refine hw_skip ?_
    refine h7 _ ?_
    refine hw_seq (fun Nh8 h8 => ?_)
    refine hw_block ?_
    refine hw_seq (fun Nh9 h9 => ?_)
    refine hw_region ?_
    refine hq_ 10 (hop_move rfl) rfl rfl pre0 rfl rfl ?_
    first
    | refine hq_ 11 (hop_ia_sl el_33 rfl rfl (by first | exact Nat.le_of_ble_eq_true rfl | omega | (dsimp only; omega) | (simp <;> omega)) (by first | exact Nat.le_of_ble_eq_true rfl | omega | (dsimp only; omega) | (simp <;> omega)) (by first | exact Nat.le_of_ble_eq_true rfl | omega | (dsimp only; omega) | (simp <;> omega))) rfl rfl pre0 rfl rfl ?_
    | refine hq_ 11 (hol_ia_os el_33 rfl rfl (by first | exact Nat.le_of_ble_eq_true rfl | omega | (dsimp only; omega) | (simp <;> omega)) (by first | exact Nat.le_of_ble_eq_true rfl | omega | (dsimp only; omega) | (simp <;> omega))) rfl rfl (pre1 rfl) rfl rfl ?_
    first
    | refine hq_ 12 (hol_load ty_41 rfl (by first | exact Nat.le_of_ble_eq_true rfl | omega | (dsimp only; omega) | (simp <;> omega)) (by first | exact Nat.le_of_ble_eq_true rfl | omega | (dsimp only; omega) | (simp <;> omega)) (fun h => by first | rfl | cases h)) rfl rfl (pre1 rfl) rfl rfl ?_
    | refine hq_ 12 (hop_load_fp ty_41 rfl (by first | exact Nat.le_of_ble_eq_true rfl | omega | (dsimp only; omega) | (simp <;> omega)) (fun h => by first | rfl | cases h)) rfl rfl pre0 rfl rfl ?_
    refine hm_1 5 (hop_alloc (id := 5) (sz := 5) zc_41 rfl rfl (by first | exact Nat.le_of_ble_eq_true rfl | omega | (dsimp only; omega) | (simp <;> omega)) (by first | exact Nat.le_of_ble_eq_true rfl | omega | (dsimp only; omega) | (simp <;> omega))) rfl rfl pre0 rfl rfl (c' := c + 1) rfl ?_
    refine hq_ 4 (hop_assign rfl) rfl rfl pre0 rfl rfl ?_
    first
    | refine hm_s1 (hol_storeW ty_41 rfl rfl rfl rfl) rfl rfl (pre1 rfl) (c' := c + 2) rfl ?_
    | refine hm_s1 (hol_store ty_41 rfl rfl rfl rfl (by first | exact Nat.le_of_ble_eq_true rfl | omega | (dsimp only; omega) | (simp <;> omega)) (by first | exact Nat.le_of_ble_eq_true rfl | omega | (dsimp only; omega) | (simp <;> omega)) (by first | exact Nat.le_of_ble_eq_true rfl | omega | (dsimp only; omega) | (simp <;> omega))) rfl rfl (pre1 rfl) (c' := c + 2) rfl ?_
    refine hseq_nil ?_
    refine h9 _ ?_
    refine hw_seq (fun Nh10 h10 => ?_)
    refine hw_seq (fun Nh11 h11 => ?_)
    refine hw_region ?_
    refine hq_ 13 (hop_move rfl) rfl rfl pre0 rfl rfl ?_
    refine hq_ 14 (hop_gtr rfl rfl) rfl rfl pre0 rfl rfl ?_
    refine hq_ 15 (hop_move rfl) rfl rfl pre0 rfl rfl ?_
    first
    | refine hq_g 16 2 15 true _ (fun hb => hop_fa fd_41_0 rfl) rfl rfl rfl rfl pre0 rfl rfl rfl ?_
    | refine hq_g2 16 2 15 _ _ true _ (fun hb => hop_fa fd_41_0 rfl) rfl rfl rfl rfl pre0 rfl rfl rfl ?_
    | refine hq_g 16 2 15 true _ (fun hb => hop_fa_fp fd_41_0 rfl (by first | exact Nat.le_of_ble_eq_true rfl | (simp at hb; first | omega | (dsimp only; omega) | (simp <;> omega)))) rfl rfl rfl rfl pre0 rfl rfl rfl ?_
    | refine hq_g2 16 2 15 _ _ true _ (fun hb => hop_fa_fp fd_41_0 rfl (by first | exact Nat.le_of_ble_eq_true rfl | (simp at hb; first | omega | (dsimp only; omega) | (simp <;> omega)))) rfl rfl rfl rfl pre0 rfl rfl rfl ?_
    first
    | refine hq_g 17 2 15 true _ (fun hb => hol_load ty_3 rfl (by first | exact Nat.le_of_ble_eq_true rfl | (simp at hb; first | omega | (dsimp only; omega) | (simp <;> omega))) (by first | exact Nat.le_of_ble_eq_true rfl | (simp at hb; first | omega | (dsimp only; omega) | (simp <;> omega))) (fun h => by first | rfl | cases h)) rfl rfl rfl rfl (pre1 rfl) rfl rfl rfl ?_
    | refine hq_g2 17 2 15 _ _ true _ (fun hb => hol_load ty_3 rfl (by first | exact Nat.le_of_ble_eq_true rfl | (simp at hb; first | omega | (dsimp only; omega) | (simp <;> omega))) (by first | exact Nat.le_of_ble_eq_true rfl | (simp at hb; first | omega | (dsimp only; omega) | (simp <;> omega))) (fun h => by first | rfl | cases h)) rfl rfl rfl rfl (pre1 rfl) rfl rfl rfl ?_
    | refine hq_g 17 2 15 true _ (fun hb => hop_load_fp ty_3 rfl (by first | exact Nat.le_of_ble_eq_true rfl | (simp at hb; first | omega | (dsimp only; omega) | (simp <;> omega))) (fun h => by first | rfl | cases h)) rfl rfl rfl rfl pre0 rfl rfl rfl ?_
    | refine hq_g2 17 2 15 _ _ true _ (fun hb => hop_load_fp ty_3 rfl (by first | exact Nat.le_of_ble_eq_true rfl | (simp at hb; first | omega | (dsimp only; omega) | (simp <;> omega))) (fun h => by first | rfl | cases h)) rfl rfl rfl rfl pre0 rfl rfl rfl ?_
    first
    | refine hq_g 18 2 15 true _ (fun hb => hop_neq rfl rfl) rfl rfl rfl rfl pre0 rfl rfl rfl ?_
    | refine hq_g2 18 2 15 _ _ true _ (fun hb => hop_neq rfl rfl) rfl rfl rfl rfl pre0 rfl rfl rfl ?_
    first
    | refine hq_p 19 (hstep_and _ _ rfl rfl rfl) rfl rfl rfl ?_
    | refine hq_p 19 (hstep_or _ _ rfl rfl rfl) rfl rfl rfl ?_
    | refine hq_p 19 (hstep_ite _ _ _ rfl rfl rfl) rfl rfl rfl ?_
    | refine hq_p 19 (hstep_pick _ _ _ _ rfl rfl rfl (fun _ => .refl _) (fun _ => .refl _)) rfl rfl rfl ?_
    refine hseq_nilU (by rfl) (by simp only [dropUn, slots]; exact rfl) ?_
    refine h11 _ ?_
    refine hw_cond _ rfl (fun hc1 => ?_) (fun hc1 => ?_)
    · have hr1 := hc1; (try simp only [decide_eq_true_eq, decide_eq_false_iff_not, Bool.and_eq_true, Bool.or_eq_true, Bool.not_eq_true', Bool.or_eq_false_iff, beq_iff_eq, bne_iff_ne, ne_eq, beq_eq_false_iff_ne, bne_eq_false_iff_eq, Bool.not_eq_true, Bool.not_eq_false, Bool.not_eq_false', Int.toNat_natCast, Int.reduceToNat] at hc1)
      have hsep : sepL (decide (k = 0)) (l.getD k default) = [32] := (by unfold sepL; rw [if_pos ⟨decide_eq_false (by omega), hc1.2⟩])
      refine hw_region ?_
      refine hf_callR 20 (xs := [_, _]) (pre := [(8001, _), (8002, _)]) (writeByte_h _ 0 g n acc 32 32 rfl hn (by omega)) ⟨rfl, ⟨rfl, trivial⟩⟩ (preC rfl (preC rfl pre0)) rfl rfl (fun g1 c1 hx1 => ?_)
      (try dsimp only)
      refine hseq_nil ?_
      refine h10 _ ?_
      refine hw_seq (fun Nh12 h12 => ?_)
      refine hw_region ?_
      first
      | refine hq_ 21 (hop_fa fd_41_0 rfl) rfl rfl pre0 rfl rfl ?_
      | refine hq_ 21 (hop_fa_fp fd_41_0 rfl (by first | exact Nat.le_of_ble_eq_true rfl | omega | (dsimp only; omega) | (simp <;> omega))) rfl rfl pre0 rfl rfl ?_
      first
      | refine hq_ 22 (hol_load ty_3 rfl (by first | exact Nat.le_of_ble_eq_true rfl | omega | (dsimp only; omega) | (simp <;> omega)) (by first | exact Nat.le_of_ble_eq_true rfl | omega | (dsimp only; omega) | (simp <;> omega)) (fun h => by first | rfl | cases h)) rfl rfl (pre1 rfl) rfl rfl ?_
      | refine hq_ 22 (hop_load_fp ty_3 rfl (by first | exact Nat.le_of_ble_eq_true rfl | omega | (dsimp only; omega) | (simp <;> omega)) (fun h => by first | rfl | cases h)) rfl rfl pre0 rfl rfl ?_
      refine hseq_nil ?_
      refine h12 _ ?_
      refine hw_block ?_
      refine hw_seq (fun Nh13 h13 => ?_)
      refine hw_region ?_
      refine hq_ 24 (hop_eql rfl rfl) rfl rfl pre0 rfl rfl ?_
      refine hq_ 23 (hop_assign rfl) rfl rfl pre0 rfl rfl ?_
      refine hseq_nil ?_
      refine h13 _ ?_
      refine hw_cond _ rfl (fun hc2 => ?_) (fun hc2 => ?_)
      · have hr2 := hc2; (try simp only [decide_eq_true_eq, decide_eq_false_iff_not, Bool.and_eq_true, Bool.or_eq_true, Bool.not_eq_true', Bool.or_eq_false_iff, beq_iff_eq, bne_iff_ne, ne_eq, beq_eq_false_iff_ne, bne_eq_false_iff_eq, Bool.not_eq_true, Bool.not_eq_false, Bool.not_eq_false', Int.toNat_natCast, Int.reduceToNat] at hc2)
        refine hw_region ?_
        first
        | refine hq_ 25 (hop_fa fd_41_4 rfl) rfl rfl pre0 rfl rfl ?_
        | refine hq_ 25 (hop_fa_fp fd_41_4 rfl (by first | exact Nat.le_of_ble_eq_true rfl | omega | (dsimp only; omega) | (simp <;> omega))) rfl rfl pre0 rfl rfl ?_
        first
        | refine hq_ 26 (hol_load ty_9 rfl (by first | exact Nat.le_of_ble_eq_true rfl | omega | (dsimp only; omega) | (simp <;> omega)) (by first | exact Nat.le_of_ble_eq_true rfl | omega | (dsimp only; omega) | (simp <;> omega)) (fun h => by first | rfl | cases h)) rfl rfl (pre1 rfl) rfl rfl ?_
        | refine hq_ 26 (hop_load_fp ty_9 rfl (by first | exact Nat.le_of_ble_eq_true rfl | omega | (dsimp only; omega) | (simp <;> omega)) (fun h => by first | rfl | cases h)) rfl rfl pre0 rfl rfl ?_
        refine hf_callR 27 (xs := [_, _]) (pre := [(8001, _), (8002, _)]) (writeString_h _ 0 g1 (n + 1) (acc ++ [32]) (l.getD k default).name (by rw [List.length_append, hn]; rfl) (by omega)) ⟨rfl, ⟨rfl, trivial⟩⟩ (preC rfl (preC rfl pre0)) rfl rfl (fun g2 c2 hx2 => ?_)
        (try dsimp only)
        refine hseq_nil ?_
        refine hq_block ?_
        refine hq_block ?_
        refine h8 _ ?_
        refine hw_region ?_
        first
        | refine hq_ 45 (hop_addi rfl rfl rfl (by first | exact Nat.le_of_ble_eq_true rfl | omega | (dsimp only; omega) | (simp <;> omega)) (by first | exact Nat.le_of_ble_eq_true rfl | omega | (dsimp only; omega) | (simp <;> omega))) rfl rfl pre0 rfl rfl ?_
        | refine hq_ 45 (hop_add rfl rfl) rfl rfl pre0 rfl rfl ?_
        refine hq_ 8 (hop_move rfl) rfl rfl pre0 rfl rfl ?_
        refine hseq_nil ?_
        exact hL5 ((k + 1, (acc ++ [32]) ++ (l.getD k default).name, g2, (n + 1) + (l.getD k default).name.length)) _ _ (by (try dsimp only); exact ⟨by omega, by simp only [List.length_append, List.length_cons, List.length_nil]; omega, by (try simp only [List.length_cons, List.length_nil]); omega, by have h := show_next (p := (l.getD k default).name) hkl hL hsep (if_pos hc2); simpa only [List.append_nil, List.append_assoc] using h⟩) (by (try dsimp only); omega) (hsub_of rfl (Nat.le_refl _) (TmSub.cons rfl (Sb.refl _) (TmSub.cons rfl (Sb.refl _) (TmSub.cons rfl (Sb.refl _) (TmSub.cons rfl (Sb.refl _) TmSub.nil)))) (HpSub.cons rfl (OSub.refl _) (HpSub.cons rfl (OSub.refl _) HpSub.nil)))
      · have hr2 := hc2; (try simp only [decide_eq_true_eq, decide_eq_false_iff_not, Bool.and_eq_true, Bool.or_eq_true, Bool.not_eq_true', Bool.or_eq_false_iff, beq_iff_eq, bne_iff_ne, ne_eq, beq_eq_false_iff_ne, bne_eq_false_iff_eq, Bool.not_eq_true, Bool.not_eq_false, Bool.not_eq_false', Int.toNat_natCast, Int.reduceToNat] at hc2)
        refine hw_seq (fun Nh14 h14 => ?_)
        refine hw_region ?_
        refine hq_ 29 (hop_eql rfl rfl) rfl rfl pre0 rfl rfl ?_
        refine hq_ 28 (hop_assign rfl) rfl rfl pre0 rfl rfl ?_
        refine hseq_nil ?_
        refine h14 _ ?_
        refine hw_cond _ rfl (fun hc3 => ?_) (fun hc3 => ?_)
        · have hr3 := hc3; (try simp only [decide_eq_true_eq, decide_eq_false_iff_not, Bool.and_eq_true, Bool.or_eq_true, Bool.not_eq_true', Bool.or_eq_false_iff, beq_iff_eq, bne_iff_ne, ne_eq, beq_eq_false_iff_ne, bne_eq_false_iff_eq, Bool.not_eq_true, Bool.not_eq_false, Bool.not_eq_false', Int.toNat_natCast, Int.reduceToNat] at hc3)
          refine hw_region ?_
          refine hf_callR 30 (xs := [_, _]) (pre := [(8001, _), (8002, _)]) (writeByte_h _ 0 g1 (n + 1) (acc ++ [32]) 40 40 rfl (by rw [List.length_append, hn]; rfl) (by omega)) ⟨rfl, ⟨rfl, trivial⟩⟩ (preC rfl (preC rfl pre0)) rfl rfl (fun g2 c3 hx3 => ?_)
          (try dsimp only)
          refine hseq_nil ?_
          refine hq_block ?_
          refine hq_block ?_
          refine h8 _ ?_
          refine hw_region ?_
          first
          | refine hq_ 45 (hop_addi rfl rfl rfl (by first | exact Nat.le_of_ble_eq_true rfl | omega | (dsimp only; omega) | (simp <;> omega)) (by first | exact Nat.le_of_ble_eq_true rfl | omega | (dsimp only; omega) | (simp <;> omega))) rfl rfl pre0 rfl rfl ?_
          | refine hq_ 45 (hop_add rfl rfl) rfl rfl pre0 rfl rfl ?_
          refine hq_ 8 (hop_move rfl) rfl rfl pre0 rfl rfl ?_
          refine hseq_nil ?_
          exact hL5 ((k + 1, (acc ++ [32]) ++ [40], g2, (n + 1) + 1)) _ _ (by (try dsimp only); exact ⟨by omega, by simp only [List.length_append, List.length_cons, List.length_nil]; omega, by (try simp only [List.length_cons, List.length_nil]); omega, by have h := show_next (p := [40]) hkl hL hsep (by unfold pieceL; rw [if_neg hc2, if_pos hc3]); simpa only [List.append_nil, List.append_assoc] using h⟩) (by (try dsimp only); omega) (hsub_of rfl (Nat.le_refl _) (TmSub.cons rfl (Sb.refl _) (TmSub.cons rfl (Sb.refl _) (TmSub.cons rfl (Sb.refl _) (TmSub.cons rfl (Sb.refl _) TmSub.nil)))) (HpSub.cons rfl (OSub.refl _) (HpSub.cons rfl (OSub.refl _) HpSub.nil)))
        · have hr3 := hc3; (try simp only [decide_eq_true_eq, decide_eq_false_iff_not, Bool.and_eq_true, Bool.or_eq_true, Bool.not_eq_true', Bool.or_eq_false_iff, beq_iff_eq, bne_iff_ne, ne_eq, beq_eq_false_iff_ne, bne_eq_false_iff_eq, Bool.not_eq_true, Bool.not_eq_false, Bool.not_eq_false', Int.toNat_natCast, Int.reduceToNat] at hc3)
          refine hw_seq (fun Nh15 h15 => ?_)
          refine hw_region ?_
          refine hq_ 32 (hop_eql rfl rfl) rfl rfl pre0 rfl rfl ?_
          refine hq_ 31 (hop_assign rfl) rfl rfl pre0 rfl rfl ?_
          refine hseq_nil ?_
          refine h15 _ ?_
          refine hw_cond _ rfl (fun hc4 => ?_) (fun hc4 => ?_)
          · have hr4 := hc4; (try simp only [decide_eq_true_eq, decide_eq_false_iff_not, Bool.and_eq_true, Bool.or_eq_true, Bool.not_eq_true', Bool.or_eq_false_iff, beq_iff_eq, bne_iff_ne, ne_eq, beq_eq_false_iff_ne, bne_eq_false_iff_eq, Bool.not_eq_true, Bool.not_eq_false, Bool.not_eq_false', Int.toNat_natCast, Int.reduceToNat] at hc4)
            refine hw_region ?_
            refine hf_callR 33 (xs := [_, _]) (pre := [(8001, _), (8002, _)]) (writeByte_h _ 0 g1 (n + 1) (acc ++ [32]) 41 41 rfl (by rw [List.length_append, hn]; rfl) (by omega)) ⟨rfl, ⟨rfl, trivial⟩⟩ (preC rfl (preC rfl pre0)) rfl rfl (fun g2 c4 hx4 => ?_)
            (try dsimp only)
            refine hseq_nil ?_
            refine hq_block ?_
            refine hq_block ?_
            refine h8 _ ?_
            refine hw_region ?_
            first
            | refine hq_ 45 (hop_addi rfl rfl rfl (by first | exact Nat.le_of_ble_eq_true rfl | omega | (dsimp only; omega) | (simp <;> omega)) (by first | exact Nat.le_of_ble_eq_true rfl | omega | (dsimp only; omega) | (simp <;> omega))) rfl rfl pre0 rfl rfl ?_
            | refine hq_ 45 (hop_add rfl rfl) rfl rfl pre0 rfl rfl ?_
            refine hq_ 8 (hop_move rfl) rfl rfl pre0 rfl rfl ?_
            refine hseq_nil ?_
            exact hL5 ((k + 1, (acc ++ [32]) ++ [41], g2, (n + 1) + 1)) _ _ (by (try dsimp only); exact ⟨by omega, by simp only [List.length_append, List.length_cons, List.length_nil]; omega, by (try simp only [List.length_cons, List.length_nil]); omega, by have h := show_next (p := [41]) hkl hL hsep (by unfold pieceL; rw [if_neg hc2, if_neg hc3, if_pos hc4]); simpa only [List.append_nil, List.append_assoc] using h⟩) (by (try dsimp only); omega) (hsub_of rfl (Nat.le_refl _) (TmSub.cons rfl (Sb.refl _) (TmSub.cons rfl (Sb.refl _) (TmSub.cons rfl (Sb.refl _) (TmSub.cons rfl (Sb.refl _) TmSub.nil)))) (HpSub.cons rfl (OSub.refl _) (HpSub.cons rfl (OSub.refl _) HpSub.nil)))
          · have hr4 := hc4; (try simp only [decide_eq_true_eq, decide_eq_false_iff_not, Bool.and_eq_true, Bool.or_eq_true, Bool.not_eq_true', Bool.or_eq_false_iff, beq_iff_eq, bne_iff_ne, ne_eq, beq_eq_false_iff_ne, bne_eq_false_iff_eq, Bool.not_eq_true, Bool.not_eq_false, Bool.not_eq_false', Int.toNat_natCast, Int.reduceToNat] at hc4)
            refine hw_seq (fun Nh16 h16 => ?_)
            refine hw_region ?_
            refine hq_ 35 (hop_eql rfl rfl) rfl rfl pre0 rfl rfl ?_
            refine hq_ 34 (hop_assign rfl) rfl rfl pre0 rfl rfl ?_
            refine hseq_nil ?_
            refine h16 _ ?_
            refine hw_cond _ rfl (fun hc5 => ?_) (fun hc5 => ?_)
            · have hr5 := hc5; (try simp only [decide_eq_true_eq, decide_eq_false_iff_not, Bool.and_eq_true, Bool.or_eq_true, Bool.not_eq_true', Bool.or_eq_false_iff, beq_iff_eq, bne_iff_ne, ne_eq, beq_eq_false_iff_ne, bne_eq_false_iff_eq, Bool.not_eq_true, Bool.not_eq_false, Bool.not_eq_false', Int.toNat_natCast, Int.reduceToNat] at hc5)
              refine hw_region ?_
              refine hf_callR 36 (xs := [_, _]) (pre := [(8001, _), (8002, _)]) (writeByte_h _ 0 g1 (n + 1) (acc ++ [32]) 124 124 rfl (by rw [List.length_append, hn]; rfl) (by omega)) ⟨rfl, ⟨rfl, trivial⟩⟩ (preC rfl (preC rfl pre0)) rfl rfl (fun g2 c5 hx5 => ?_)
              (try dsimp only)
              refine hseq_nil ?_
              refine hq_block ?_
              refine hq_block ?_
              refine h8 _ ?_
              refine hw_region ?_
              first
              | refine hq_ 45 (hop_addi rfl rfl rfl (by first | exact Nat.le_of_ble_eq_true rfl | omega | (dsimp only; omega) | (simp <;> omega)) (by first | exact Nat.le_of_ble_eq_true rfl | omega | (dsimp only; omega) | (simp <;> omega))) rfl rfl pre0 rfl rfl ?_
              | refine hq_ 45 (hop_add rfl rfl) rfl rfl pre0 rfl rfl ?_
              refine hq_ 8 (hop_move rfl) rfl rfl pre0 rfl rfl ?_
              refine hseq_nil ?_
              exact hL5 ((k + 1, (acc ++ [32]) ++ [124], g2, (n + 1) + 1)) _ _ (by (try dsimp only); exact ⟨by omega, by simp only [List.length_append, List.length_cons, List.length_nil]; omega, by (try simp only [List.length_cons, List.length_nil]); omega, by have h := show_next (p := [124]) hkl hL hsep (by unfold pieceL; rw [if_neg hc2, if_neg hc3, if_neg hc4, if_pos hc5]); simpa only [List.append_nil, List.append_assoc] using h⟩) (by (try dsimp only); omega) (hsub_of rfl (Nat.le_refl _) (TmSub.cons rfl (Sb.refl _) (TmSub.cons rfl (Sb.refl _) (TmSub.cons rfl (Sb.refl _) (TmSub.cons rfl (Sb.refl _) TmSub.nil)))) (HpSub.cons rfl (OSub.refl _) (HpSub.cons rfl (OSub.refl _) HpSub.nil)))
            · have hr5 := hc5; (try simp only [decide_eq_true_eq, decide_eq_false_iff_not, Bool.and_eq_true, Bool.or_eq_true, Bool.not_eq_true', Bool.or_eq_false_iff, beq_iff_eq, bne_iff_ne, ne_eq, beq_eq_false_iff_ne, bne_eq_false_iff_eq, Bool.not_eq_true, Bool.not_eq_false, Bool.not_eq_false', Int.toNat_natCast, Int.reduceToNat] at hc5)
              refine hw_seq (fun Nh17 h17 => ?_)
              refine hw_region ?_
              refine hq_ 38 (hop_eql rfl rfl) rfl rfl pre0 rfl rfl ?_
              refine hq_ 37 (hop_assign rfl) rfl rfl pre0 rfl rfl ?_
              refine hseq_nil ?_
              refine h17 _ ?_
              refine hw_cond _ rfl (fun hc6 => ?_) (fun hc6 => ?_)
              · have hr6 := hc6; (try simp only [decide_eq_true_eq, decide_eq_false_iff_not, Bool.and_eq_true, Bool.or_eq_true, Bool.not_eq_true', Bool.or_eq_false_iff, beq_iff_eq, bne_iff_ne, ne_eq, beq_eq_false_iff_ne, bne_eq_false_iff_eq, Bool.not_eq_true, Bool.not_eq_false, Bool.not_eq_false', Int.toNat_natCast, Int.reduceToNat] at hc6)
                refine hw_region ?_
                first
                | refine hq_ 39 (hop_fa fd_41_2 rfl) rfl rfl pre0 rfl rfl ?_
                | refine hq_ 39 (hop_fa_fp fd_41_2 rfl (by first | exact Nat.le_of_ble_eq_true rfl | omega | (dsimp only; omega) | (simp <;> omega))) rfl rfl pre0 rfl rfl ?_
                first
                | refine hq_ 40 (hol_load ty_3 rfl (by first | exact Nat.le_of_ble_eq_true rfl | omega | (dsimp only; omega) | (simp <;> omega)) (by first | exact Nat.le_of_ble_eq_true rfl | omega | (dsimp only; omega) | (simp <;> omega)) (fun h => by first | rfl | cases h)) rfl rfl (pre1 rfl) rfl rfl ?_
                | refine hq_ 40 (hop_load_fp ty_3 rfl (by first | exact Nat.le_of_ble_eq_true rfl | omega | (dsimp only; omega) | (simp <;> omega)) (fun h => by first | rfl | cases h)) rfl rfl pre0 rfl rfl ?_
                first
                | refine hq_ 41 (hop_fa fd_41_3 rfl) rfl rfl pre0 rfl rfl ?_
                | refine hq_ 41 (hop_fa_fp fd_41_3 rfl (by first | exact Nat.le_of_ble_eq_true rfl | omega | (dsimp only; omega) | (simp <;> omega))) rfl rfl pre0 rfl rfl ?_
                first
                | refine hq_ 42 (hol_load ty_3 rfl (by first | exact Nat.le_of_ble_eq_true rfl | omega | (dsimp only; omega) | (simp <;> omega)) (by first | exact Nat.le_of_ble_eq_true rfl | omega | (dsimp only; omega) | (simp <;> omega)) (fun h => by first | rfl | cases h)) rfl rfl (pre1 rfl) rfl rfl ?_
                | refine hq_ 42 (hop_load_fp ty_3 rfl (by first | exact Nat.le_of_ble_eq_true rfl | omega | (dsimp only; omega) | (simp <;> omega)) (fun h => by first | rfl | cases h)) rfl rfl pre0 rfl rfl ?_
                refine hq_ 43 (hop_call0 (xs := [_, _]) (times_h _ _ hx.low hx.high) ⟨rfl, ⟨rfl, trivial⟩⟩ ⟨(Fz.eq rfl), ⟨(Fz.eq rfl), trivial⟩⟩) rfl rfl pre0 rfl rfl ?_
                refine hf_callR 44 (xs := [_, _]) (pre := [(8001, _), (8002, _)]) (writeString_h _ 0 g1 (n + 1) (acc ++ [32]) (timesL (l.getD k default).low (l.getD k default).high) (by rw [List.length_append, hn]; rfl) (by omega)) ⟨rfl, ⟨rfl, trivial⟩⟩ (preC rfl (preC rfl pre0)) rfl rfl (fun g2 c6 hx6 => ?_)
                (try dsimp only)
                refine hseq_nil ?_
                refine hq_block ?_
                refine hq_block ?_
                refine h8 _ ?_
                refine hw_region ?_
                first
                | refine hq_ 45 (hop_addi rfl rfl rfl (by first | exact Nat.le_of_ble_eq_true rfl | omega | (dsimp only; omega) | (simp <;> omega)) (by first | exact Nat.le_of_ble_eq_true rfl | omega | (dsimp only; omega) | (simp <;> omega))) rfl rfl pre0 rfl rfl ?_
                | refine hq_ 45 (hop_add rfl rfl) rfl rfl pre0 rfl rfl ?_
                refine hq_ 8 (hop_move rfl) rfl rfl pre0 rfl rfl ?_
                refine hseq_nil ?_
                exact hL5 ((k + 1, (acc ++ [32]) ++ timesL (l.getD k default).low (l.getD k default).high, g2, (n + 1) + (timesL (l.getD k default).low (l.getD k default).high).length)) _ _ (by (try dsimp only); exact ⟨by omega, by simp only [List.length_append, List.length_cons, List.length_nil]; omega, by (try simp only [List.length_cons, List.length_nil]); omega, by have h := show_next (p := timesL (l.getD k default).low (l.getD k default).high) hkl hL hsep (by unfold pieceL; rw [if_neg hc2, if_neg hc3, if_neg hc4, if_neg hc5, if_pos hc6]); simpa only [List.append_nil, List.append_assoc] using h⟩) (by (try dsimp only); omega) (hsub_of rfl (Nat.le_refl _) (TmSub.cons rfl (Sb.refl _) (TmSub.cons rfl (Sb.refl _) (TmSub.cons rfl (Sb.refl _) (TmSub.cons rfl (Sb.refl _) TmSub.nil)))) (HpSub.cons rfl (OSub.refl _) (HpSub.cons rfl (OSub.refl _) HpSub.nil)))
              · have hr6 := hc6; (try simp only [decide_eq_true_eq, decide_eq_false_iff_not, Bool.and_eq_true, Bool.or_eq_true, Bool.not_eq_true', Bool.or_eq_false_iff, beq_iff_eq, bne_iff_ne, ne_eq, beq_eq_false_iff_ne, bne_eq_false_iff_eq, Bool.not_eq_true, Bool.not_eq_false, Bool.not_eq_false', Int.toNat_natCast, Int.reduceToNat] at hc6)
                refine hw_skip ?_
                refine hq_block ?_
                refine hq_block ?_
                refine h8 _ ?_
                refine hw_region ?_
                first
                | refine hq_ 45 (hop_addi rfl rfl rfl (by first | exact Nat.le_of_ble_eq_true rfl | omega | (dsimp only; omega) | (simp <;> omega)) (by first | exact Nat.le_of_ble_eq_true rfl | omega | (dsimp only; omega) | (simp <;> omega))) rfl rfl pre0 rfl rfl ?_
                | refine hq_ 45 (hop_add rfl rfl) rfl rfl pre0 rfl rfl ?_
                refine hq_ 8 (hop_move rfl) rfl rfl pre0 rfl rfl ?_
                refine hseq_nil ?_
                exact hL5 ((k + 1, acc ++ [32], g1, n + 1)) _ _ (by (try dsimp only); exact ⟨by omega, by simp only [List.length_append, List.length_cons, List.length_nil]; omega, by (try simp only [List.length_cons, List.length_nil]); omega, by have h := show_next (p := []) hkl hL hsep (by unfold pieceL; rw [if_neg hc2, if_neg hc3, if_neg hc4, if_neg hc5, if_neg hc6]); simpa only [List.append_nil, List.append_assoc] using h⟩) (by (try dsimp only); omega) (hsub_of rfl (Nat.le_refl _) (TmSub.cons rfl (Sb.refl _) (TmSub.cons rfl (Sb.refl _) (TmSub.cons rfl (Sb.refl _) (TmSub.cons rfl (Sb.refl _) TmSub.nil)))) (HpSub.cons rfl (OSub.refl _) (HpSub.cons rfl (OSub.refl _) HpSub.nil)))
    · have hr1 := hc1; (try simp only [decide_eq_true_eq, decide_eq_false_iff_not, Bool.and_eq_true, Bool.or_eq_true, Bool.not_eq_true', Bool.or_eq_false_iff, beq_iff_eq, bne_iff_ne, ne_eq, beq_eq_false_iff_ne, bne_eq_false_iff_eq, Bool.not_eq_true, Bool.not_eq_false, Bool.not_eq_false', Int.toNat_natCast, Int.reduceToNat] at hc1)
      have hsep : sepL (decide (k = 0)) (l.getD k default) = [] := (by unfold sepL; rw [if_neg (fun h => by have h1 := of_decide_eq_false h.1; have h2 := hr1; rw [show decide ((0 : Int) < (k : Int)) = true from decide_eq_true (by omega), Bool.true_and] at h2; simp only [bne_eq_false_iff_eq] at h2; exact h.2 h2)])
      refine hw_skip ?_
      refine h10 _ ?_
      refine hw_seq (fun Nh18 h18 => ?_)
      refine hw_region ?_
      first
      | refine hq_ 21 (hop_fa fd_41_0 rfl) rfl rfl pre0 rfl rfl ?_
      | refine hq_ 21 (hop_fa_fp fd_41_0 rfl (by first | exact Nat.le_of_ble_eq_true rfl | omega | (dsimp only; omega) | (simp <;> omega))) rfl rfl pre0 rfl rfl ?_
      first
      | refine hq_ 22 (hol_load ty_3 rfl (by first | exact Nat.le_of_ble_eq_true rfl | omega | (dsimp only; omega) | (simp <;> omega)) (by first | exact Nat.le_of_ble_eq_true rfl | omega | (dsimp only; omega) | (simp <;> omega)) (fun h => by first | rfl | cases h)) rfl rfl (pre1 rfl) rfl rfl ?_
      | refine hq_ 22 (hop_load_fp ty_3 rfl (by first | exact Nat.le_of_ble_eq_true rfl | omega | (dsimp only; omega) | (simp <;> omega)) (fun h => by first | rfl | cases h)) rfl rfl pre0 rfl rfl ?_
      refine hseq_nil ?_
      refine h18 _ ?_
      refine hw_block ?_
      refine hw_seq (fun Nh19 h19 => ?_)
      refine hw_region ?_
      refine hq_ 24 (hop_eql rfl rfl) rfl rfl pre0 rfl rfl ?_
      refine hq_ 23 (hop_assign rfl) rfl rfl pre0 rfl rfl ?_
      refine hseq_nil ?_
      refine h19 _ ?_
      refine hw_cond _ rfl (fun hc2 => ?_) (fun hc2 => ?_)
      · have hr2 := hc2; (try simp only [decide_eq_true_eq, decide_eq_false_iff_not, Bool.and_eq_true, Bool.or_eq_true, Bool.not_eq_true', Bool.or_eq_false_iff, beq_iff_eq, bne_iff_ne, ne_eq, beq_eq_false_iff_ne, bne_eq_false_iff_eq, Bool.not_eq_true, Bool.not_eq_false, Bool.not_eq_false', Int.toNat_natCast, Int.reduceToNat] at hc2)
        refine hw_region ?_
        first
        | refine hq_ 25 (hop_fa fd_41_4 rfl) rfl rfl pre0 rfl rfl ?_
        | refine hq_ 25 (hop_fa_fp fd_41_4 rfl (by first | exact Nat.le_of_ble_eq_true rfl | omega | (dsimp only; omega) | (simp <;> omega))) rfl rfl pre0 rfl rfl ?_
        first
        | refine hq_ 26 (hol_load ty_9 rfl (by first | exact Nat.le_of_ble_eq_true rfl | omega | (dsimp only; omega) | (simp <;> omega)) (by first | exact Nat.le_of_ble_eq_true rfl | omega | (dsimp only; omega) | (simp <;> omega)) (fun h => by first | rfl | cases h)) rfl rfl (pre1 rfl) rfl rfl ?_
        | refine hq_ 26 (hop_load_fp ty_9 rfl (by first | exact Nat.le_of_ble_eq_true rfl | omega | (dsimp only; omega) | (simp <;> omega)) (fun h => by first | rfl | cases h)) rfl rfl pre0 rfl rfl ?_
        refine hf_callR 27 (xs := [_, _]) (pre := [(8001, _), (8002, _)]) (writeString_h _ 0 g n acc (l.getD k default).name hn (by omega)) ⟨rfl, ⟨rfl, trivial⟩⟩ (preC rfl (preC rfl pre0)) rfl rfl (fun g2 c7 hx7 => ?_)
        (try dsimp only)
        refine hseq_nil ?_
        refine hq_block ?_
        refine hq_block ?_
        refine h8 _ ?_
        refine hw_region ?_
        first
        | refine hq_ 45 (hop_addi rfl rfl rfl (by first | exact Nat.le_of_ble_eq_true rfl | omega | (dsimp only; omega) | (simp <;> omega)) (by first | exact Nat.le_of_ble_eq_true rfl | omega | (dsimp only; omega) | (simp <;> omega))) rfl rfl pre0 rfl rfl ?_
        | refine hq_ 45 (hop_add rfl rfl) rfl rfl pre0 rfl rfl ?_
        refine hq_ 8 (hop_move rfl) rfl rfl pre0 rfl rfl ?_
        refine hseq_nil ?_
        exact hL5 ((k + 1, (acc) ++ (l.getD k default).name, g2, (n) + (l.getD k default).name.length)) _ _ (by (try dsimp only); exact ⟨by omega, by simp only [List.length_append, List.length_cons, List.length_nil]; omega, by (try simp only [List.length_cons, List.length_nil]); omega, by have h := show_next (p := (l.getD k default).name) hkl hL hsep (if_pos hc2); simpa only [List.append_nil, List.append_assoc] using h⟩) (by (try dsimp only); omega) (hsub_of rfl (Nat.le_refl _) (TmSub.cons rfl (Sb.refl _) (TmSub.cons rfl (Sb.refl _) (TmSub.cons rfl (Sb.refl _) (TmSub.cons rfl (Sb.refl _) TmSub.nil)))) (HpSub.cons rfl (OSub.refl _) (HpSub.cons rfl (OSub.refl _) HpSub.nil)))
      · have hr2 := hc2; (try simp only [decide_eq_true_eq, decide_eq_false_iff_not, Bool.and_eq_true, Bool.or_eq_true, Bool.not_eq_true', Bool.or_eq_false_iff, beq_iff_eq, bne_iff_ne, ne_eq, beq_eq_false_iff_ne, bne_eq_false_iff_eq, Bool.not_eq_true, Bool.not_eq_false, Bool.not_eq_false', Int.toNat_natCast, Int.reduceToNat] at hc2)
        refine hw_seq (fun Nh20 h20 => ?_)
        refine hw_region ?_
        refine hq_ 29 (hop_eql rfl rfl) rfl rfl pre0 rfl rfl ?_
        refine hq_ 28 (hop_assign rfl) rfl rfl pre0 rfl rfl ?_
        refine hseq_nil ?_
        refine h20 _ ?_
        refine hw_cond _ rfl (fun hc3 => ?_) (fun hc3 => ?_)
        · have hr3 := hc3; (try simp only [decide_eq_true_eq, decide_eq_false_iff_not, Bool.and_eq_true, Bool.or_eq_true, Bool.not_eq_true', Bool.or_eq_false_iff, beq_iff_eq, bne_iff_ne, ne_eq, beq_eq_false_iff_ne, bne_eq_false_iff_eq, Bool.not_eq_true, Bool.not_eq_false, Bool.not_eq_false', Int.toNat_natCast, Int.reduceToNat] at hc3)
          refine hw_region ?_
          refine hf_callR 30 (xs := [_, _]) (pre := [(8001, _), (8002, _)]) (writeByte_h _ 0 g n acc 40 40 rfl hn (by omega)) ⟨rfl, ⟨rfl, trivial⟩⟩ (preC rfl (preC rfl pre0)) rfl rfl (fun g2 c8 hx8 => ?_)
          (try dsimp only)
          refine hseq_nil ?_
          refine hq_block ?_
          refine hq_block ?_
          refine h8 _ ?_
          refine hw_region ?_
          first
          | refine hq_ 45 (hop_addi rfl rfl rfl (by first | exact Nat.le_of_ble_eq_true rfl | omega | (dsimp only; omega) | (simp <;> omega)) (by first | exact Nat.le_of_ble_eq_true rfl | omega | (dsimp only; omega) | (simp <;> omega))) rfl rfl pre0 rfl rfl ?_
          | refine hq_ 45 (hop_add rfl rfl) rfl rfl pre0 rfl rfl ?_
          refine hq_ 8 (hop_move rfl) rfl rfl pre0 rfl rfl ?_
          refine hseq_nil ?_
          exact hL5 ((k + 1, (acc) ++ [40], g2, (n) + 1)) _ _ (by (try dsimp only); exact ⟨by omega, by simp only [List.length_append, List.length_cons, List.length_nil]; omega, by (try simp only [List.length_cons, List.length_nil]); omega, by have h := show_next (p := [40]) hkl hL hsep (by unfold pieceL; rw [if_neg hc2, if_pos hc3]); simpa only [List.append_nil, List.append_assoc] using h⟩) (by (try dsimp only); omega) (hsub_of rfl (Nat.le_refl _) (TmSub.cons rfl (Sb.refl _) (TmSub.cons rfl (Sb.refl _) (TmSub.cons rfl (Sb.refl _) (TmSub.cons rfl (Sb.refl _) TmSub.nil)))) (HpSub.cons rfl (OSub.refl _) (HpSub.cons rfl (OSub.refl _) HpSub.nil)))
        · have hr3 := hc3; (try simp only [decide_eq_true_eq, decide_eq_false_iff_not, Bool.and_eq_true, Bool.or_eq_true, Bool.not_eq_true', Bool.or_eq_false_iff, beq_iff_eq, bne_iff_ne, ne_eq, beq_eq_false_iff_ne, bne_eq_false_iff_eq, Bool.not_eq_true, Bool.not_eq_false, Bool.not_eq_false', Int.toNat_natCast, Int.reduceToNat] at hc3)
          refine hw_seq (fun Nh21 h21 => ?_)
          refine hw_region ?_
          refine hq_ 32 (hop_eql rfl rfl) rfl rfl pre0 rfl rfl ?_
          refine hq_ 31 (hop_assign rfl) rfl rfl pre0 rfl rfl ?_
          refine hseq_nil ?_
          refine h21 _ ?_
          refine hw_cond _ rfl (fun hc4 => ?_) (fun hc4 => ?_)
          · have hr4 := hc4; (try simp only [decide_eq_true_eq, decide_eq_false_iff_not, Bool.and_eq_true, Bool.or_eq_true, Bool.not_eq_true', Bool.or_eq_false_iff, beq_iff_eq, bne_iff_ne, ne_eq, beq_eq_false_iff_ne, bne_eq_false_iff_eq, Bool.not_eq_true, Bool.not_eq_false, Bool.not_eq_false', Int.toNat_natCast, Int.reduceToNat] at hc4)
            refine hw_region ?_
            refine hf_callR 33 (xs := [_, _]) (pre := [(8001, _), (8002, _)]) (writeByte_h _ 0 g n acc 41 41 rfl hn (by omega)) ⟨rfl, ⟨rfl, trivial⟩⟩ (preC rfl (preC rfl pre0)) rfl rfl (fun g2 c9 hx9 => ?_)
            (try dsimp only)
            refine hseq_nil ?_
            refine hq_block ?_
            refine hq_block ?_
            refine h8 _ ?_
            refine hw_region ?_
            first
            | refine hq_ 45 (hop_addi rfl rfl rfl (by first | exact Nat.le_of_ble_eq_true rfl | omega | (dsimp only; omega) | (simp <;> omega)) (by first | exact Nat.le_of_ble_eq_true rfl | omega | (dsimp only; omega) | (simp <;> omega))) rfl rfl pre0 rfl rfl ?_
            | refine hq_ 45 (hop_add rfl rfl) rfl rfl pre0 rfl rfl ?_
            refine hq_ 8 (hop_move rfl) rfl rfl pre0 rfl rfl ?_
            refine hseq_nil ?_
            exact hL5 ((k + 1, (acc) ++ [41], g2, (n) + 1)) _ _ (by (try dsimp only); exact ⟨by omega, by simp only [List.length_append, List.length_cons, List.length_nil]; omega, by (try simp only [List.length_cons, List.length_nil]); omega, by have h := show_next (p := [41]) hkl hL hsep (by unfold pieceL; rw [if_neg hc2, if_neg hc3, if_pos hc4]); simpa only [List.append_nil, List.append_assoc] using h⟩) (by (try dsimp only); omega) (hsub_of rfl (Nat.le_refl _) (TmSub.cons rfl (Sb.refl _) (TmSub.cons rfl (Sb.refl _) (TmSub.cons rfl (Sb.refl _) (TmSub.cons rfl (Sb.refl _) TmSub.nil)))) (HpSub.cons rfl (OSub.refl _) (HpSub.cons rfl (OSub.refl _) HpSub.nil)))
          · have hr4 := hc4; (try simp only [decide_eq_true_eq, decide_eq_false_iff_not, Bool.and_eq_true, Bool.or_eq_true, Bool.not_eq_true', Bool.or_eq_false_iff, beq_iff_eq, bne_iff_ne, ne_eq, beq_eq_false_iff_ne, bne_eq_false_iff_eq, Bool.not_eq_true, Bool.not_eq_false, Bool.not_eq_false', Int.toNat_natCast, Int.reduceToNat] at hc4)
            refine hw_seq (fun Nh22 h22 => ?_)
            refine hw_region ?_
            refine hq_ 35 (hop_eql rfl rfl) rfl rfl pre0 rfl rfl ?_
            refine hq_ 34 (hop_assign rfl) rfl rfl pre0 rfl rfl ?_
            refine hseq_nil ?_
            refine h22 _ ?_
            refine hw_cond _ rfl (fun hc5 => ?_) (fun hc5 => ?_)
            · have hr5 := hc5; (try simp only [decide_eq_true_eq, decide_eq_false_iff_not, Bool.and_eq_true, Bool.or_eq_true, Bool.not_eq_true', Bool.or_eq_false_iff, beq_iff_eq, bne_iff_ne, ne_eq, beq_eq_false_iff_ne, bne_eq_false_iff_eq, Bool.not_eq_true, Bool.not_eq_false, Bool.not_eq_false', Int.toNat_natCast, Int.reduceToNat] at hc5)
              refine hw_region ?_
              refine hf_callR 36 (xs := [_, _]) (pre := [(8001, _), (8002, _)]) (writeByte_h _ 0 g n acc 124 124 rfl hn (by omega)) ⟨rfl, ⟨rfl, trivial⟩⟩ (preC rfl (preC rfl pre0)) rfl rfl (fun g2 c10 hx10 => ?_)
              (try dsimp only)
              refine hseq_nil ?_
              refine hq_block ?_
              refine hq_block ?_
              refine h8 _ ?_
              refine hw_region ?_
              first
              | refine hq_ 45 (hop_addi rfl rfl rfl (by first | exact Nat.le_of_ble_eq_true rfl | omega | (dsimp only; omega) | (simp <;> omega)) (by first | exact Nat.le_of_ble_eq_true rfl | omega | (dsimp only; omega) | (simp <;> omega))) rfl rfl pre0 rfl rfl ?_
              | refine hq_ 45 (hop_add rfl rfl) rfl rfl pre0 rfl rfl ?_
              refine hq_ 8 (hop_move rfl) rfl rfl pre0 rfl rfl ?_
              refine hseq_nil ?_
              exact hL5 ((k + 1, (acc) ++ [124], g2, (n) + 1)) _ _ (by (try dsimp only); exact ⟨by omega, by simp only [List.length_append, List.length_cons, List.length_nil]; omega, by (try simp only [List.length_cons, List.length_nil]); omega, by have h := show_next (p := [124]) hkl hL hsep (by unfold pieceL; rw [if_neg hc2, if_neg hc3, if_neg hc4, if_pos hc5]); simpa only [List.append_nil, List.append_assoc] using h⟩) (by (try dsimp only); omega) (hsub_of rfl (Nat.le_refl _) (TmSub.cons rfl (Sb.refl _) (TmSub.cons rfl (Sb.refl _) (TmSub.cons rfl (Sb.refl _) (TmSub.cons rfl (Sb.refl _) TmSub.nil)))) (HpSub.cons rfl (OSub.refl _) (HpSub.cons rfl (OSub.refl _) HpSub.nil)))
            · have hr5 := hc5; (try simp only [decide_eq_true_eq, decide_eq_false_iff_not, Bool.and_eq_true, Bool.or_eq_true, Bool.not_eq_true', Bool.or_eq_false_iff, beq_iff_eq, bne_iff_ne, ne_eq, beq_eq_false_iff_ne, bne_eq_false_iff_eq, Bool.not_eq_true, Bool.not_eq_false, Bool.not_eq_false', Int.toNat_natCast, Int.reduceToNat] at hc5)
              refine hw_seq (fun Nh23 h23 => ?_)
              refine hw_region ?_
              refine hq_ 38 (hop_eql rfl rfl) rfl rfl pre0 rfl rfl ?_
              refine hq_ 37 (hop_assign rfl) rfl rfl pre0 rfl rfl ?_
              refine hseq_nil ?_
              refine h23 _ ?_
              refine hw_cond _ rfl (fun hc6 => ?_) (fun hc6 => ?_)
              · have hr6 := hc6; (try simp only [decide_eq_true_eq, decide_eq_false_iff_not, Bool.and_eq_true, Bool.or_eq_true, Bool.not_eq_true', Bool.or_eq_false_iff, beq_iff_eq, bne_iff_ne, ne_eq, beq_eq_false_iff_ne, bne_eq_false_iff_eq, Bool.not_eq_true, Bool.not_eq_false, Bool.not_eq_false', Int.toNat_natCast, Int.reduceToNat] at hc6)
                refine hw_region ?_
                first
                | refine hq_ 39 (hop_fa fd_41_2 rfl) rfl rfl pre0 rfl rfl ?_
                | refine hq_ 39 (hop_fa_fp fd_41_2 rfl (by first | exact Nat.le_of_ble_eq_true rfl | omega | (dsimp only; omega) | (simp <;> omega))) rfl rfl pre0 rfl rfl ?_
                first
                | refine hq_ 40 (hol_load ty_3 rfl (by first | exact Nat.le_of_ble_eq_true rfl | omega | (dsimp only; omega) | (simp <;> omega)) (by first | exact Nat.le_of_ble_eq_true rfl | omega | (dsimp only; omega) | (simp <;> omega)) (fun h => by first | rfl | cases h)) rfl rfl (pre1 rfl) rfl rfl ?_
                | refine hq_ 40 (hop_load_fp ty_3 rfl (by first | exact Nat.le_of_ble_eq_true rfl | omega | (dsimp only; omega) | (simp <;> omega)) (fun h => by first | rfl | cases h)) rfl rfl pre0 rfl rfl ?_
                first
                | refine hq_ 41 (hop_fa fd_41_3 rfl) rfl rfl pre0 rfl rfl ?_
                | refine hq_ 41 (hop_fa_fp fd_41_3 rfl (by first | exact Nat.le_of_ble_eq_true rfl | omega | (dsimp only; omega) | (simp <;> omega))) rfl rfl pre0 rfl rfl ?_
                first
                | refine hq_ 42 (hol_load ty_3 rfl (by first | exact Nat.le_of_ble_eq_true rfl | omega | (dsimp only; omega) | (simp <;> omega)) (by first | exact Nat.le_of_ble_eq_true rfl | omega | (dsimp only; omega) | (simp <;> omega)) (fun h => by first | rfl | cases h)) rfl rfl (pre1 rfl) rfl rfl ?_
                | refine hq_ 42 (hop_load_fp ty_3 rfl (by first | exact Nat.le_of_ble_eq_true rfl | omega | (dsimp only; omega) | (simp <;> omega)) (fun h => by first | rfl | cases h)) rfl rfl pre0 rfl rfl ?_
                refine hq_ 43 (hop_call0 (xs := [_, _]) (times_h _ _ hx.low hx.high) ⟨rfl, ⟨rfl, trivial⟩⟩ ⟨(Fz.eq rfl), ⟨(Fz.eq rfl), trivial⟩⟩) rfl rfl pre0 rfl rfl ?_
                refine hf_callR 44 (xs := [_, _]) (pre := [(8001, _), (8002, _)]) (writeString_h _ 0 g n acc (timesL (l.getD k default).low (l.getD k default).high) hn (by omega)) ⟨rfl, ⟨rfl, trivial⟩⟩ (preC rfl (preC rfl pre0)) rfl rfl (fun g2 c11 hx11 => ?_)
                (try dsimp only)
                refine hseq_nil ?_
                refine hq_block ?_
                refine hq_block ?_
                refine h8 _ ?_
                refine hw_region ?_
                first
                | refine hq_ 45 (hop_addi rfl rfl rfl (by first | exact Nat.le_of_ble_eq_true rfl | omega | (dsimp only; omega) | (simp <;> omega)) (by first | exact Nat.le_of_ble_eq_true rfl | omega | (dsimp only; omega) | (simp <;> omega))) rfl rfl pre0 rfl rfl ?_
                | refine hq_ 45 (hop_add rfl rfl) rfl rfl pre0 rfl rfl ?_
                refine hq_ 8 (hop_move rfl) rfl rfl pre0 rfl rfl ?_
                refine hseq_nil ?_
                exact hL5 ((k + 1, (acc) ++ timesL (l.getD k default).low (l.getD k default).high, g2, (n) + (timesL (l.getD k default).low (l.getD k default).high).length)) _ _ (by (try dsimp only); exact ⟨by omega, by simp only [List.length_append, List.length_cons, List.length_nil]; omega, by (try simp only [List.length_cons, List.length_nil]); omega, by have h := show_next (p := timesL (l.getD k default).low (l.getD k default).high) hkl hL hsep (by unfold pieceL; rw [if_neg hc2, if_neg hc3, if_neg hc4, if_neg hc5, if_pos hc6]); simpa only [List.append_nil, List.append_assoc] using h⟩) (by (try dsimp only); omega) (hsub_of rfl (Nat.le_refl _) (TmSub.cons rfl (Sb.refl _) (TmSub.cons rfl (Sb.refl _) (TmSub.cons rfl (Sb.refl _) (TmSub.cons rfl (Sb.refl _) TmSub.nil)))) (HpSub.cons rfl (OSub.refl _) (HpSub.cons rfl (OSub.refl _) HpSub.nil)))
              · have hr6 := hc6; (try simp only [decide_eq_true_eq, decide_eq_false_iff_not, Bool.and_eq_true, Bool.or_eq_true, Bool.not_eq_true', Bool.or_eq_false_iff, beq_iff_eq, bne_iff_ne, ne_eq, beq_eq_false_iff_ne, bne_eq_false_iff_eq, Bool.not_eq_true, Bool.not_eq_false, Bool.not_eq_false', Int.toNat_natCast, Int.reduceToNat] at hc6)
                refine hw_skip ?_
                refine hq_block ?_
                refine hq_block ?_
                refine h8 _ ?_
                refine hw_region ?_
                first
                | refine hq_ 45 (hop_addi rfl rfl rfl (by first | exact Nat.le_of_ble_eq_true rfl | omega | (dsimp only; omega) | (simp <;> omega)) (by first | exact Nat.le_of_ble_eq_true rfl | omega | (dsimp only; omega) | (simp <;> omega))) rfl rfl pre0 rfl rfl ?_
                | refine hq_ 45 (hop_add rfl rfl) rfl rfl pre0 rfl rfl ?_
                refine hq_ 8 (hop_move rfl) rfl rfl pre0 rfl rfl ?_
                refine hseq_nil ?_
                exact hL5 ((k + 1, acc, g, n)) _ _ (by (try dsimp only); exact ⟨by omega, by exact hn, by (try simp only [List.length_cons, List.length_nil]); omega, by have h := show_next (p := []) hkl hL hsep (by unfold pieceL; rw [if_neg hc2, if_neg hc3, if_neg hc4, if_neg hc5, if_neg hc6]); simpa only [List.append_nil, List.append_assoc] using h⟩) (by (try dsimp only); omega) (hsub_of rfl (Nat.le_refl _) (TmSub.cons rfl (Sb.refl _) (TmSub.cons rfl (Sb.refl _) (TmSub.cons rfl (Sb.refl _) (TmSub.cons rfl (Sb.refl _) TmSub.nil)))) (HpSub.cons rfl (OSub.refl _) (HpSub.cons rfl (OSub.refl _) HpSub.nil)))
  · have hr0 := hc0; (try simp only [decide_eq_true_eq, decide_eq_false_iff_not, Bool.and_eq_true, Bool.or_eq_true, Bool.not_eq_true', Bool.or_eq_false_iff, beq_iff_eq, bne_iff_ne, ne_eq, beq_eq_false_iff_ne, bne_eq_false_iff_eq, Bool.not_eq_true, Bool.not_eq_false, Bool.not_eq_false', Int.toNat_natCast, Int.reduceToNat] at hc0)
    refine hw_exit ?_
    refine hq_then_exit ?_
    refine hq_then_exit ?_
    refine hq_block_here ?_
    refine h3 _ ?_
    refine hw_seq (fun Nh24 h24 => ?_)
    refine hw_region ?_
    refine hf_string 46 0 g n acc rfl rfl rfl hn rfl ?_
    refine hq_ 2 (hop_assign rfl) rfl rfl pre0 rfl rfl ?_
    refine hseq_nil ?_
    refine h24 _ ?_
    refine hw_ret ?_
    refine hq_ret1 rfl (rval_tmp rfl) [] rfl pre0 ?_
    have e := show_end (by omega) hL; rw [e]; exact .imm _
end Go.Proofs.YtijpdbjcmnpobaaDoor
