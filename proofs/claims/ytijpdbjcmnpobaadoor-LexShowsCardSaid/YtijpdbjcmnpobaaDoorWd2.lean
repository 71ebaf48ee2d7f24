/-
  Words, in the reader's words: bytes as a word's piece, and the bytes of a piece; the law on them.
-/
import Derived.Test.YtijpdbjcmnpobaaDoorWd1
import Derived.Test.YtijpdbjcmnpobaaDoorHideLaw
import Derived.Test.YtijpdbjcmnpobaaDoorStr2
namespace Go.Proofs.YtijpdbjcmnpobaaDoor
set_option linter.unusedSimpArgs false
set_option linter.unusedVariables false
set_option maxRecDepth 100000
open Go.RowKit

theorem u8_back (c : UInt8) : ((c.toNat : Int)).toNat.toUInt8 = c := by simp
theorem indexByte_h (l : List UInt8) (c : UInt8) : HPure Tryd.prog 54 [strV l, u8V c] (intV (Lib.indexByte l c)) := by
  refine ⟨⟨_, _, Tryd.func54, rfl, by kernel_rfl⟩, fun w F vs hF hr hw => ?_⟩
  obtain ⟨u, v, rfl, hu, hv⟩ := rep2 hr
  rw [hu.imm_inv, hv.imm_inv]
  refine (Tryd.strings_IndexByte ⟨l.toArray⟩ c.toNat w).mono ?_
  rintro e w' ⟨rfl, rfl⟩
  rw [u8_back]
  exact pure_imm hF (Below.refl _ _)
theorem plain_h (c : UInt8) (x : Int) (hx : x = (c.toNat : Int)) : HPure Tryd.prog 46 [.imm (.int .u8 x)] (boolV (plainB c)) := by
  subst hx
  refine ⟨⟨_, _, Tryd.func46, rfl, by kernel_rfl⟩, fun w F vs hF hr hw => ?_⟩
  obtain ⟨u, rfl, hu⟩ := rep1 hr
  rw [hu.imm_inv]
  refine (plain_w c w).mono ?_
  rintro e w' ⟨rfl, rfl⟩
  exact pure_imm hF (Below.refl _ _)
theorem bor_hex : ∀ a b : Fin 16, IntKind.u8.wrap (bor .i64 (IntKind.i64.wrap ((a.val : Int) * 2 ^ (min (4 : Int).toNat IntKind.i64.bits))) (b.val : Int)) = 16 * (a.val : Int) + b.val := by decide +kernel
theorem bor_hexC (h o : Int) (h0 : 0 ≤ h) (h1 : h < 16) (o0 : 0 ≤ o) (o1 : o < 16) : IntKind.u8.wrap (bor .i64 (IntKind.i64.wrap (h * 2 ^ (min (4 : Int).toNat IntKind.i64.bits))) o) = ((hexC h o).toNat : Int) := by
  have := bor_hex ⟨h.toNat, by omega⟩ ⟨o.toNat, by omega⟩
  simp only [Int.toNat_of_nonneg h0, Int.toNat_of_nonneg o0] at this
  rw [this]
  have h2 := hexC_nat h.toNat o.toNat (by omega) (by omega)
  rw [Int.toNat_of_nonneg h0, Int.toNat_of_nonneg o0] at h2
  omega
theorem hidden_h (l : List UInt8) : HPure Tryd.prog 49 [strV l] (t2 (u8V (hidV l).1) (intV (hidV l).2)) := by
  have hi2 := hexV_in (l.getD 2 0)
  have hi3 := hexV_in (l.getD 3 0)
  refine hpure_of Tryd.func49 rfl (by kernel_rfl) _ _ _ rfl 54 rfl rfl (fun w F => ?_)
  refine hw_seq (fun Nh1 h1 => ?_)
  refine hw_region ?_
  refine hq_ 2 (hop_assign rfl) rfl rfl pre0 rfl rfl ?_
  refine hq_ 3 (hop_assign rfl) rfl rfl pre0 rfl rfl ?_
  refine hseq_nil ?_
  refine h1 _ ?_
  refine hw_seq (fun Nh2 h2 => ?_)
  refine hw_seq (fun Nh3 h3 => ?_)
  refine hw_region ?_
  refine hq_ 7 (hop_move rfl) rfl rfl pre0 rfl rfl ?_
  refine hq_ 8 (hop_len_strl (T := 9) rfl (by kernel_rfl) rfl) rfl rfl pre0 rfl rfl ?_
  refine hq_ 9 (hop_lss rfl rfl) rfl rfl pre0 rfl rfl ?_
  refine hseq_nil ?_
  refine h3 _ ?_
  refine hw_cond _ rfl (fun hc0 => ?_) (fun hc0 => ?_)
  · have hr0 := hc0; (try simp only [decide_eq_true_eq, decide_eq_false_iff_not, Bool.and_eq_true, Bool.or_eq_true, Bool.not_eq_true', Bool.or_eq_false_iff, beq_iff_eq, bne_iff_ne, ne_eq, beq_eq_false_iff_ne, bne_eq_false_iff_eq, Bool.not_eq_true, Bool.not_eq_false, Bool.not_eq_false', Int.toNat_natCast, Int.reduceToNat] at hc0)
    refine hw_seq (fun Nh4 h4 => ?_)
    refine hw_region ?_
    refine hq_ 2 (hop_assign rfl) rfl rfl pre0 rfl rfl ?_
    refine hq_ 3 (hop_assign rfl) rfl rfl pre0 rfl rfl ?_
    refine hseq_nil ?_
    refine h4 _ ?_
    refine hw_ret ?_
    refine hq_then_ret ?_
    refine hq_ret2 rfl (rval_tmp rfl) (rval_tmp rfl) [] rfl pre0 ?_
    have e : hidV l = (0, 0) := (by unfold hidV; rw [if_pos (by omega)]); rw [e]; exact fz_t2 (.imm _) (.imm _)
  · have hr0 := hc0; (try simp only [decide_eq_true_eq, decide_eq_false_iff_not, Bool.and_eq_true, Bool.or_eq_true, Bool.not_eq_true', Bool.or_eq_false_iff, beq_iff_eq, bne_iff_ne, ne_eq, beq_eq_false_iff_ne, bne_eq_false_iff_eq, Bool.not_eq_true, Bool.not_eq_false, Bool.not_eq_false', Int.toNat_natCast, Int.reduceToNat] at hc0)
    have hn : ¬ l.length < 2 := (by omega)
    refine hw_skip ?_
    refine h2 _ ?_
    refine hw_seq (fun Nh5 h5 => ?_)
    refine hw_seq (fun Nh6 h6 => ?_)
    refine hw_region ?_
    refine hq_ 10 (hop_move rfl) rfl rfl pre0 rfl rfl ?_
    refine hq_ 11 (hop_ix_strl (by kernel_rfl) rfl rfl (by first | exact Nat.le_of_ble_eq_true rfl | omega | (dsimp only; omega) | (simp <;> omega)) (by first | exact Nat.le_of_ble_eq_true rfl | omega | (dsimp only; omega) | (simp <;> omega))) rfl rfl pre0 rfl rfl ?_
    refine hseq_nil ?_
    refine h6 _ ?_
    refine hw_block ?_
    refine hw_seq (fun Nh7 h7 => ?_)
    refine hw_region ?_
    refine hq_ 13 (hop_eql rfl rfl) rfl rfl pre0 rfl rfl ?_
    refine hq_ 12 (hop_assign rfl) rfl rfl pre0 rfl rfl ?_
    refine hseq_nil ?_
    refine h7 _ ?_
    refine hw_cond _ rfl (fun hc1 => ?_) (fun hc1 => ?_)
    · have hr1 := hc1; (try simp only [decide_eq_true_eq, decide_eq_false_iff_not, Bool.and_eq_true, Bool.or_eq_true, Bool.not_eq_true', Bool.or_eq_false_iff, beq_iff_eq, bne_iff_ne, ne_eq, beq_eq_false_iff_ne, bne_eq_false_iff_eq, Bool.not_eq_true, Bool.not_eq_false, Bool.not_eq_false', Int.toNat_natCast, Int.reduceToNat] at hc1)
      refine hw_seq (fun Nh8 h8 => ?_)
      refine hw_region ?_
      refine hq_ 2 (hop_assign rfl) rfl rfl pre0 rfl rfl ?_
      refine hq_ 3 (hop_assign rfl) rfl rfl pre0 rfl rfl ?_
      refine hseq_nil ?_
      refine h8 _ ?_
      refine hw_ret ?_
      refine hq_block_ret ?_
      refine hq_then_ret ?_
      refine hq_ret2 rfl (rval_tmp rfl) (rval_tmp rfl) [] rfl pre0 ?_
      have e : hidV l = (32, 2) := (by unfold hidV; rw [if_neg hn, if_pos (by omega)]); rw [e]; exact fz_t2 (.imm _) (.imm _)
    · have hr1 := hc1; (try simp only [decide_eq_true_eq, decide_eq_false_iff_not, Bool.and_eq_true, Bool.or_eq_true, Bool.not_eq_true', Bool.or_eq_false_iff, beq_iff_eq, bne_iff_ne, ne_eq, beq_eq_false_iff_ne, bne_eq_false_iff_eq, Bool.not_eq_true, Bool.not_eq_false, Bool.not_eq_false', Int.toNat_natCast, Int.reduceToNat] at hc1)
      refine hw_seq (fun Nh9 h9 => ?_)
      refine hw_region ?_
      refine hq_ 15 (hop_eql rfl rfl) rfl rfl pre0 rfl rfl ?_
      refine hq_ 14 (hop_assign rfl) rfl rfl pre0 rfl rfl ?_
      refine hseq_nil ?_
      refine h9 _ ?_
      refine hw_cond _ rfl (fun hc2 => ?_) (fun hc2 => ?_)
      · have hr2 := hc2; (try simp only [decide_eq_true_eq, decide_eq_false_iff_not, Bool.and_eq_true, Bool.or_eq_true, Bool.not_eq_true', Bool.or_eq_false_iff, beq_iff_eq, bne_iff_ne, ne_eq, beq_eq_false_iff_ne, bne_eq_false_iff_eq, Bool.not_eq_true, Bool.not_eq_false, Bool.not_eq_false', Int.toNat_natCast, Int.reduceToNat] at hc2)
        refine hw_seq (fun Nh10 h10 => ?_)
        refine hw_region ?_
        refine hq_ 2 (hop_assign rfl) rfl rfl pre0 rfl rfl ?_
        refine hq_ 3 (hop_assign rfl) rfl rfl pre0 rfl rfl ?_
        refine hseq_nil ?_
        refine h10 _ ?_
        refine hw_ret ?_
        refine hq_block_ret ?_
        refine hq_then_ret ?_
        refine hq_ret2 rfl (rval_tmp rfl) (rval_tmp rfl) [] rfl pre0 ?_
        have e : hidV l = (10, 2) := (by unfold hidV; rw [if_neg hn, if_neg (by omega), if_pos (by omega)]); rw [e]; exact fz_t2 (.imm _) (.imm _)
      · have hr2 := hc2; (try simp only [decide_eq_true_eq, decide_eq_false_iff_not, Bool.and_eq_true, Bool.or_eq_true, Bool.not_eq_true', Bool.or_eq_false_iff, beq_iff_eq, bne_iff_ne, ne_eq, beq_eq_false_iff_ne, bne_eq_false_iff_eq, Bool.not_eq_true, Bool.not_eq_false, Bool.not_eq_false', Int.toNat_natCast, Int.reduceToNat] at hc2)
        refine hw_seq (fun Nh11 h11 => ?_)
        refine hw_region ?_
        refine hq_ 17 (hop_eql rfl rfl) rfl rfl pre0 rfl rfl ?_
        refine hq_ 16 (hop_assign rfl) rfl rfl pre0 rfl rfl ?_
        refine hseq_nil ?_
        refine h11 _ ?_
        refine hw_cond _ rfl (fun hc3 => ?_) (fun hc3 => ?_)
        · have hr3 := hc3; (try simp only [decide_eq_true_eq, decide_eq_false_iff_not, Bool.and_eq_true, Bool.or_eq_true, Bool.not_eq_true', Bool.or_eq_false_iff, beq_iff_eq, bne_iff_ne, ne_eq, beq_eq_false_iff_ne, bne_eq_false_iff_eq, Bool.not_eq_true, Bool.not_eq_false, Bool.not_eq_false', Int.toNat_natCast, Int.reduceToNat] at hc3)
          refine hw_seq (fun Nh12 h12 => ?_)
          refine hw_region ?_
          refine hq_ 2 (hop_assign rfl) rfl rfl pre0 rfl rfl ?_
          refine hq_ 3 (hop_assign rfl) rfl rfl pre0 rfl rfl ?_
          refine hseq_nil ?_
          refine h12 _ ?_
          refine hw_ret ?_
          refine hq_block_ret ?_
          refine hq_then_ret ?_
          refine hq_ret2 rfl (rval_tmp rfl) (rval_tmp rfl) [] rfl pre0 ?_
          have e : hidV l = (92, 2) := (by unfold hidV; rw [if_neg hn, if_neg (by omega), if_neg (by omega), if_pos (by omega)]); rw [e]; exact fz_t2 (.imm _) (.imm _)
        · have hr3 := hc3; (try simp only [decide_eq_true_eq, decide_eq_false_iff_not, Bool.and_eq_true, Bool.or_eq_true, Bool.not_eq_true', Bool.or_eq_false_iff, beq_iff_eq, bne_iff_ne, ne_eq, beq_eq_false_iff_ne, bne_eq_false_iff_eq, Bool.not_eq_true, Bool.not_eq_false, Bool.not_eq_false', Int.toNat_natCast, Int.reduceToNat] at hc3)
          refine hw_skip ?_
          refine hq_block ?_
          refine h5 _ ?_
          refine hw_seq (fun Nh13 h13 => ?_)
          refine hw_seq (fun Nh14 h14 => ?_)
          refine hw_region ?_
          refine hq_ 18 (hop_move rfl) rfl rfl pre0 rfl rfl ?_
          refine hq_ 19 (hop_ix_strl (by kernel_rfl) rfl rfl (by first | exact Nat.le_of_ble_eq_true rfl | omega | (dsimp only; omega) | (simp <;> omega)) (by first | exact Nat.le_of_ble_eq_true rfl | omega | (dsimp only; omega) | (simp <;> omega))) rfl rfl pre0 rfl rfl ?_
          refine hq_ 20 (hop_neq rfl rfl) rfl rfl pre0 rfl rfl ?_
          refine hq_ 21 (hop_move rfl) rfl rfl pre0 rfl rfl ?_
          first
          | refine hq_g 22 3 21 false _ (fun hb => hop_move rfl) rfl rfl rfl rfl pre0 rfl rfl rfl ?_
          | refine hq_g2 22 3 21 _ _ false _ (fun hb => hop_move rfl) rfl rfl rfl rfl pre0 rfl rfl rfl ?_
          first
          | refine hq_g 23 3 21 false _ (fun hb => hop_len_strl (T := 9) rfl (by kernel_rfl) rfl) rfl rfl rfl rfl pre0 rfl rfl rfl ?_
          | refine hq_g2 23 3 21 _ _ false _ (fun hb => hop_len_strl (T := 9) rfl (by kernel_rfl) rfl) rfl rfl rfl rfl pre0 rfl rfl rfl ?_
          first
          | refine hq_g 24 3 21 false _ (fun hb => hop_lss rfl rfl) rfl rfl rfl rfl pre0 rfl rfl rfl ?_
          | refine hq_g2 24 3 21 _ _ false _ (fun hb => hop_lss rfl rfl) rfl rfl rfl rfl pre0 rfl rfl rfl ?_
          first
          | refine hq_p 25 (hstep_and _ _ rfl rfl rfl) rfl rfl rfl ?_
          | refine hq_p 25 (hstep_or _ _ rfl rfl rfl) rfl rfl rfl ?_
          | refine hq_p 25 (hstep_ite _ _ _ rfl rfl rfl) rfl rfl rfl ?_
          | refine hq_p 25 (hstep_pick _ _ _ _ rfl rfl rfl (fun _ => .refl _) (fun _ => .refl _)) rfl rfl rfl ?_
          refine hseq_nilU (by rfl) (by simp only [dropUn, slots]; exact rfl) ?_
          refine h14 _ ?_
          refine hw_cond _ rfl (fun hc4 => ?_) (fun hc4 => ?_)
          · have hr4 := hc4; (try simp only [decide_eq_true_eq, decide_eq_false_iff_not, Bool.and_eq_true, Bool.or_eq_true, Bool.not_eq_true', Bool.or_eq_false_iff, beq_iff_eq, bne_iff_ne, ne_eq, beq_eq_false_iff_ne, bne_eq_false_iff_eq, Bool.not_eq_true, Bool.not_eq_false, Bool.not_eq_false', Int.toNat_natCast, Int.reduceToNat] at hc4)
            refine hw_seq (fun Nh15 h15 => ?_)
            refine hw_region ?_
            refine hq_ 2 (hop_assign rfl) rfl rfl pre0 rfl rfl ?_
            refine hq_ 3 (hop_assign rfl) rfl rfl pre0 rfl rfl ?_
            refine hseq_nil ?_
            refine h15 _ ?_
            refine hw_ret ?_
            refine hq_then_ret ?_
            refine hq_ret2 rfl (rval_tmp rfl) (rval_tmp rfl) [] rfl pre0 ?_
            have e : hidV l = (0, 0) := (by unfold hidV; rw [if_neg hn, if_neg (by omega), if_neg (by omega), if_neg (by omega), if_pos (by omega)]); rw [e]; exact fz_t2 (.imm _) (.imm _)
          · have hr4 := hc4; (try simp only [decide_eq_true_eq, decide_eq_false_iff_not, Bool.and_eq_true, Bool.or_eq_true, Bool.not_eq_true', Bool.or_eq_false_iff, beq_iff_eq, bne_iff_ne, ne_eq, beq_eq_false_iff_ne, bne_eq_false_iff_eq, Bool.not_eq_true, Bool.not_eq_false, Bool.not_eq_false', Int.toNat_natCast, Int.reduceToNat] at hc4)
            have h4 : ¬ ((l.getD 1 0).toNat ≠ 120 ∨ l.length < 4) := (by omega)
            refine hw_skip ?_
            refine h13 _ ?_
            refine hw_seq (fun Nh16 h16 => ?_)
            refine hd_start ?_
            refine hd_q 26 (hop_move rfl) rfl rfl pre0 rfl rfl (k' := 1) rfl ?_
            refine hd_q 27 (hop_ix_strl (by kernel_rfl) rfl rfl (by first | exact Nat.le_of_ble_eq_true rfl | omega | (dsimp only; omega) | (simp <;> omega)) (by first | exact Nat.le_of_ble_eq_true rfl | omega | (dsimp only; omega) | (simp <;> omega))) rfl rfl pre0 rfl rfl (k' := 2) rfl ?_
            refine hd_q 28 (hop_call0 (xs := [_, _]) (indexByte_h _ _) ⟨rfl, ⟨rfl, trivial⟩⟩ ⟨(Fz.eq rfl), ⟨(Fz.eq rfl), trivial⟩⟩) rfl rfl pre0 rfl rfl (k' := 3) rfl ?_
            refine hd_q 29 (hop_move rfl) rfl rfl pre0 rfl rfl (k' := 4) rfl ?_
            refine hd_q 30 (hop_ix_strl (by kernel_rfl) rfl rfl (by first | exact Nat.le_of_ble_eq_true rfl | omega | (dsimp only; omega) | (simp <;> omega)) (by first | exact Nat.le_of_ble_eq_true rfl | omega | (dsimp only; omega) | (simp <;> omega))) rfl rfl pre0 rfl rfl (k' := 5) rfl ?_
            refine hd_q 31 (hop_call0 (xs := [_, _]) (indexByte_h _ _) ⟨rfl, ⟨rfl, trivial⟩⟩ ⟨(Fz.eq rfl), ⟨(Fz.eq rfl), trivial⟩⟩) rfl rfl pre0 rfl rfl (k' := 6) rfl ?_
            refine hd_q 4 (hop_assign rfl) rfl rfl pre0 rfl rfl (k' := 7) rfl ?_
            refine hd_q 5 (hop_assign rfl) rfl rfl pre0 rfl rfl (k' := 8) rfl ?_
            refine hd_nil (by kernel_rfl) (by kernel_rfl) (c' := 8) rfl ?_
            refine h16 _ ?_
            refine hw_seq (fun Nh17 h17 => ?_)
            refine hw_seq (fun Nh18 h18 => ?_)
            refine hw_region ?_
            refine hq_ 32 (hop_move rfl) rfl rfl pre0 rfl rfl ?_
            refine hq_ 33 (hop_lss rfl rfl) rfl rfl pre0 rfl rfl ?_
            refine hq_ 34 (hop_move rfl) rfl rfl pre0 rfl rfl ?_
            first
            | refine hq_g 35 2 34 false _ (fun hb => hop_move rfl) rfl rfl rfl rfl pre0 rfl rfl rfl ?_
            | refine hq_g2 35 2 34 _ _ false _ (fun hb => hop_move rfl) rfl rfl rfl rfl pre0 rfl rfl rfl ?_
            first
            | refine hq_g 36 2 34 false _ (fun hb => hop_lss rfl rfl) rfl rfl rfl rfl pre0 rfl rfl rfl ?_
            | refine hq_g2 36 2 34 _ _ false _ (fun hb => hop_lss rfl rfl) rfl rfl rfl rfl pre0 rfl rfl rfl ?_
            first
            | refine hq_p 37 (hstep_and _ _ rfl rfl rfl) rfl rfl rfl ?_
            | refine hq_p 37 (hstep_or _ _ rfl rfl rfl) rfl rfl rfl ?_
            | refine hq_p 37 (hstep_ite _ _ _ rfl rfl rfl) rfl rfl rfl ?_
            | refine hq_p 37 (hstep_pick _ _ _ _ rfl rfl rfl (fun _ => .refl _) (fun _ => .refl _)) rfl rfl rfl ?_
            refine hseq_nilU (by rfl) (by simp only [dropUn, slots]; exact rfl) ?_
            refine h18 _ ?_
            refine hw_cond _ rfl (fun hc5 => ?_) (fun hc5 => ?_)
            · have hr5 := hc5; (try simp only [decide_eq_true_eq, decide_eq_false_iff_not, Bool.and_eq_true, Bool.or_eq_true, Bool.not_eq_true', Bool.or_eq_false_iff, beq_iff_eq, bne_iff_ne, ne_eq, beq_eq_false_iff_ne, bne_eq_false_iff_eq, Bool.not_eq_true, Bool.not_eq_false, Bool.not_eq_false', Int.toNat_natCast, Int.reduceToNat] at hc5)
              refine hw_seq (fun Nh19 h19 => ?_)
              refine hw_region ?_
              refine hq_ 2 (hop_assign rfl) rfl rfl pre0 rfl rfl ?_
              refine hq_ 3 (hop_assign rfl) rfl rfl pre0 rfl rfl ?_
              refine hseq_nil ?_
              refine h19 _ ?_
              refine hw_ret ?_
              refine hq_then_ret ?_
              refine hq_ret2 rfl (rval_tmp rfl) (rval_tmp rfl) [] rfl pre0 ?_
              have e : hidV l = (0, 0) := (by unfold hidV; rw [if_neg hn, if_neg (by omega), if_neg (by omega), if_neg (by omega), if_neg h4, if_pos (by unfold hexV; omega)]); rw [e]; exact fz_t2 (.imm _) (.imm _)
            · have hr5 := hc5; (try simp only [decide_eq_true_eq, decide_eq_false_iff_not, Bool.and_eq_true, Bool.or_eq_true, Bool.not_eq_true', Bool.or_eq_false_iff, beq_iff_eq, bne_iff_ne, ne_eq, beq_eq_false_iff_ne, bne_eq_false_iff_eq, Bool.not_eq_true, Bool.not_eq_false, Bool.not_eq_false', Int.toNat_natCast, Int.reduceToNat] at hc5)
              have h5 : ¬ (hexV (l.getD 2 0) < 0 ∨ hexV (l.getD 3 0) < 0) := (by unfold hexV; simp only [List.getD_eq_getElem?_getD] at hc5 ⊢; omega)
              refine hw_skip ?_
              refine h17 _ ?_
              refine hw_seq (fun Nh20 h20 => ?_)
              have hb := bor_hexC (hexV (l.getD 2 0)) (hexV (l.getD 3 0)) (by omega) (by omega) (by omega) (by omega)
              refine hw_region ?_
              refine hq_ 38 (hop_move rfl) rfl rfl pre0 rfl rfl ?_
              refine hq_ 39 (hop_shl rfl rfl (by first | exact Nat.le_of_ble_eq_true rfl | omega | (dsimp only; omega) | (simp <;> omega))) rfl rfl pre0 rfl rfl ?_
              refine hq_ 40 (hop_move rfl) rfl rfl pre0 rfl rfl ?_
              refine hq_ 41 (hop_bor rfl rfl) rfl rfl pre0 rfl rfl ?_
              first
              | refine hq_ 42 (HOp.val (v' := u8V (hexC (hexV (l.getD 2 0)) (hexV (l.getD 3 0)))) (hop_convk wok_u8 (by kernel_rfl) (by kernel_rfl) rfl (by first | exact Nat.le_of_ble_eq_true rfl | omega | (dsimp only; omega) | (simp <;> omega)) (by first | exact Nat.le_of_ble_eq_true rfl | omega | (dsimp only; omega) | (simp <;> omega))) (congrArg (fun x => HV.imm (.int .u8 x)) hb)) rfl rfl pre0 rfl rfl ?_
              | refine hq_ 42 (HOp.val (v' := u8V (hexC (hexV (l.getD 2 0)) (hexV (l.getD 3 0)))) (hop_conv (k' := .u8) (by kernel_rfl) (by kernel_rfl) rfl) (congrArg (fun x => HV.imm (.int .u8 x)) hb)) rfl rfl pre0 rfl rfl ?_
              refine hq_ 6 (hop_assign rfl) rfl rfl pre0 rfl rfl ?_
              refine hseq_nil ?_
              refine h20 _ ?_
              refine hw_seq (fun Nh21 h21 => ?_)
              refine hw_seq (fun Nh22 h22 => ?_)
              refine hw_region ?_
              refine hq_ 43 (hop_move rfl) rfl rfl pre0 rfl rfl ?_
              refine hq_ 44 (hop_call0 (xs := [_]) (plain_h (hexC (hexV (l.getD 2 0)) (hexV (l.getD 3 0))) _ rfl) ⟨rfl, trivial⟩ ⟨(Fz.eq rfl), trivial⟩) rfl rfl pre0 rfl rfl ?_
              refine hq_ 45 (hop_move rfl) rfl rfl pre0 rfl rfl ?_
              first
              | refine hq_g 46 2 45 false _ (fun hb => hop_move rfl) rfl rfl rfl rfl pre0 rfl rfl rfl ?_
              | refine hq_g2 46 2 45 _ _ false _ (fun hb => hop_move rfl) rfl rfl rfl rfl pre0 rfl rfl rfl ?_
              first
              | refine hq_g 47 2 45 false _ (fun hb => hop_eql rfl rfl) rfl rfl rfl rfl pre0 rfl rfl rfl ?_
              | refine hq_g2 47 2 45 _ _ false _ (fun hb => hop_eql rfl rfl) rfl rfl rfl rfl pre0 rfl rfl rfl ?_
              first
              | refine hq_p 48 (hstep_and _ _ rfl rfl rfl) rfl rfl rfl ?_
              | refine hq_p 48 (hstep_or _ _ rfl rfl rfl) rfl rfl rfl ?_
              | refine hq_p 48 (hstep_ite _ _ _ rfl rfl rfl) rfl rfl rfl ?_
              | refine hq_p 48 (hstep_pick _ _ _ _ rfl rfl rfl (fun _ => .refl _) (fun _ => .refl _)) rfl rfl rfl ?_
              refine hq_ 49 (hop_move rfl) rfl rfl pre0 rfl rfl ?_
              first
              | refine hq_g 50 6 49 false _ (fun hb => hop_move rfl) rfl rfl rfl rfl pre0 rfl rfl rfl ?_
              | refine hq_g2 50 6 49 _ _ false _ (fun hb => hop_move rfl) rfl rfl rfl rfl pre0 rfl rfl rfl ?_
              first
              | refine hq_g 51 6 49 false _ (fun hb => hop_eql rfl rfl) rfl rfl rfl rfl pre0 rfl rfl rfl ?_
              | refine hq_g2 51 6 49 _ _ false _ (fun hb => hop_eql rfl rfl) rfl rfl rfl rfl pre0 rfl rfl rfl ?_
              first
              | refine hq_p 52 (hstep_and _ _ rfl rfl rfl) rfl rfl rfl ?_
              | refine hq_p 52 (hstep_or _ _ rfl rfl rfl) rfl rfl rfl ?_
              | refine hq_p 52 (hstep_ite _ _ _ rfl rfl rfl) rfl rfl rfl ?_
              | refine hq_p 52 (hstep_pick _ _ _ _ rfl rfl rfl (fun _ => .refl _) (fun _ => .refl _)) rfl rfl rfl ?_
              refine hseq_nilU (by rfl) (by simp only [dropUn, slots]; exact rfl) ?_
              refine h22 _ ?_
              refine hw_cond _ rfl (fun hc6 => ?_) (fun hc6 => ?_)
              · have hr6 := hc6; (try simp only [decide_eq_true_eq, decide_eq_false_iff_not, Bool.and_eq_true, Bool.or_eq_true, Bool.not_eq_true', Bool.or_eq_false_iff, beq_iff_eq, bne_iff_ne, ne_eq, beq_eq_false_iff_ne, bne_eq_false_iff_eq, Bool.not_eq_true, Bool.not_eq_false, Bool.not_eq_false', Int.toNat_natCast, Int.reduceToNat] at hc6)
                refine hw_seq (fun Nh23 h23 => ?_)
                refine hw_region ?_
                refine hq_ 2 (hop_assign rfl) rfl rfl pre0 rfl rfl ?_
                refine hq_ 3 (hop_assign rfl) rfl rfl pre0 rfl rfl ?_
                refine hseq_nil ?_
                refine h23 _ ?_
                refine hw_ret ?_
                refine hq_then_ret ?_
                refine hq_ret2 rfl (rval_tmp rfl) (rval_tmp rfl) [] rfl pre0 ?_
                have e : hidV l = (0, 0) := (by unfold hidV; rw [if_neg hn, if_neg (by omega), if_neg (by omega), if_neg (by omega), if_neg h4, if_neg h5, if_pos (by rcases hc6 with (h | h) | h; exact .inl h; exact .inr (.inl (by omega)); exact .inr (.inr (by omega)))]); rw [e]; exact fz_t2 (.imm _) (.imm _)
              · have hr6 := hc6; (try simp only [decide_eq_true_eq, decide_eq_false_iff_not, Bool.and_eq_true, Bool.or_eq_true, Bool.not_eq_true', Bool.or_eq_false_iff, beq_iff_eq, bne_iff_ne, ne_eq, beq_eq_false_iff_ne, bne_eq_false_iff_eq, Bool.not_eq_true, Bool.not_eq_false, Bool.not_eq_false', Int.toNat_natCast, Int.reduceToNat] at hc6)
                refine hw_skip ?_
                refine h21 _ ?_
                refine hw_seq (fun Nh24 h24 => ?_)
                refine hw_region ?_
                refine hq_ 53 (hop_move rfl) rfl rfl pre0 rfl rfl ?_
                refine hq_ 2 (hop_assign rfl) rfl rfl pre0 rfl rfl ?_
                refine hq_ 3 (hop_assign rfl) rfl rfl pre0 rfl rfl ?_
                refine hseq_nil ?_
                refine h24 _ ?_
                refine hw_ret ?_
                refine hq_ret2 rfl (rval_tmp rfl) (rval_tmp rfl) [] rfl pre0 ?_
                have e : hidV l = (hexC (hexV (l.getD 2 0)) (hexV (l.getD 3 0)), 4) := (by unfold hidV; rw [if_neg hn, if_neg (by omega), if_neg (by omega), if_neg (by omega), if_neg h4, if_neg h5, if_neg (by rintro (h | h | h); (rw [h] at hc6; exact absurd hc6.1.1 (by decide)); omega; omega)]); rw [e]; exact fz_t2 (.imm _) (.imm _)
theorem fz_bytes {sh : List (Nat × HObj)} (l : List UInt8) : Fz sh (bytesV l) (bytesV l) := .sl _ _ _ _ fun i j _ _ => .imm _
@[reducible] def bareH (o : Option (List UInt8)) : HV := t2 (bytesV (o.getD [])) (intV (if o.isSome then 0 else 2))
theorem drop_pos {l : List UInt8} (h : ¬ l = []) : ∃ c t, l = c :: t := by cases l with
  | nil => exact absurd rfl h
  | cons c t => exact ⟨c, t, rfl⟩
theorem bare_h (l : List UInt8) (hl : l.length ≤ 100000) : HPure Tryd.prog 18 [strV l] (bareH (bareV l)) := by
  refine hpure_of Tryd.func18 rfl (by kernel_rfl) _ _ _ rfl 31 rfl rfl (fun w F => ?_)
  refine hw_seq (fun Nh1 h1 => ?_)
  refine hw_region ?_
  refine hq_ 2 (hop_assign rfl) rfl rfl pre0 rfl rfl ?_
  refine hq_ 3 (hop_assign rfl) rfl rfl pre0 rfl rfl ?_
  refine hseq_nil ?_
  refine h1 _ ?_
  refine hw_seq (fun Nh2 h2 => ?_)
  refine hw_region ?_
  refine hq_ 4 (hop_assign rfl) rfl rfl pre0 rfl rfl ?_
  refine hseq_nil ?_
  refine h2 _ ?_
  refine hw_seq (fun Nh3 h3 => ?_)
  refine hw_block ?_
  refine hw_own 4 4 1 5 ((fun i j => u8V (([] : List UInt8).getD i 0))) rfl (by decide) rfl (c' := 1) rfl ?_
  refine hw_loopc (α := List UInt8 × List UInt8 × Nat × Nat) (fun x c => ⟨31, [(0, .v (strV x.1)), (4, .v (.os 4 x.2.2.2 0 x.2.2.1))], [(4, ⟨x.2.2.2, x.2.2.1, 1, 5, 0, fun i j => u8V (x.2.1.getD i 0)⟩)], c⟩) (fun x => hideL x.2.1 ++ x.1 = l ∧ x.2.2.1 = x.2.1.length ∧ x.2.2.1 + x.1.length ≤ l.length) (fun x => x.1.length) ((l, [], 0, 0)) (by exact ⟨rfl, rfl, Nat.le_of_eq (Nat.zero_add _)⟩) (hsub_of rfl (Nat.le_refl _) (TmSub.cons rfl (Sb.refl _) (TmSub.cons rfl (Sb.refl _) TmSub.nil)) (HpSub.cons rfl (OSub.refl _) HpSub.nil)) (fun x c hx NhL4 hL4 => ?_)
  revert hx hL4; obtain ⟨rest, acc, n, g⟩ := x; intro hx hL4; dsimp only at hx hL4 ⊢
  obtain ⟨hL, hn, hln⟩ := hx
  refine hw_seq (fun Nh5 h5 => ?_)
  refine hw_seq (fun Nh6 h6 => ?_)
  refine hw_region ?_
  refine hq_ 7 (hop_move rfl) rfl rfl pre0 rfl rfl ?_
  refine hq_ 8 (hop_sne_l rfl rfl) rfl rfl pre0 rfl rfl ?_
  refine hseq_nil ?_
  refine h6 _ ?_
  refine hw_cond _ rfl (fun hc0 => ?_) (fun hc0 => ?_)
  · have hr0 := hc0; (try simp only [decide_eq_true_eq, decide_eq_false_iff_not, Bool.and_eq_true, Bool.or_eq_true, Bool.not_eq_true', Bool.or_eq_false_iff, beq_iff_eq, bne_iff_ne, ne_eq, beq_eq_false_iff_ne, bne_eq_false_iff_eq, Bool.not_eq_true, Bool.not_eq_false, Bool.not_eq_false', Int.toNat_natCast, Int.reduceToNat] at hc0)
    obtain ⟨c0, t0, rfl⟩ := drop_pos hc0; simp only [List.length_cons] at hln
    refine hw_skip ?_
    refine h5 _ ?_
    refine hw_block ?_
    refine hw_seq (fun Nh7 h7 => ?_)
    refine hw_region ?_
    refine hq_ 9 (hop_move rfl) rfl rfl pre0 rfl rfl ?_
    refine hq_ 10 (hop_ix_strl (by kernel_rfl) rfl rfl (by first | exact Nat.le_of_ble_eq_true rfl | omega | (dsimp only; omega) | (simp <;> omega)) (by first | exact Nat.le_of_ble_eq_true rfl | omega | (dsimp only; omega) | (simp <;> omega))) rfl rfl pre0 rfl rfl ?_
    refine hq_ 5 (hop_assign rfl) rfl rfl pre0 rfl rfl ?_
    refine hq_ 6 (hop_assign rfl) rfl rfl pre0 rfl rfl ?_
    refine hseq_nil ?_
    refine h7 _ ?_
    refine hw_seq (fun Nh8 h8 => ?_)
    refine hw_seq (fun Nh9 h9 => ?_)
    refine hw_region ?_
    refine hq_ 11 (hop_move rfl) rfl rfl pre0 rfl rfl ?_
    refine hq_ 12 (hop_eql rfl rfl) rfl rfl pre0 rfl rfl ?_
    refine hseq_nil ?_
    refine h9 _ ?_
    refine hw_cond _ rfl (fun hc1 => ?_) (fun hc1 => ?_)
    · have hr1 := hc1; (try simp only [decide_eq_true_eq, decide_eq_false_iff_not, Bool.and_eq_true, Bool.or_eq_true, Bool.not_eq_true', Bool.or_eq_false_iff, beq_iff_eq, bne_iff_ne, ne_eq, beq_eq_false_iff_ne, bne_eq_false_iff_eq, Bool.not_eq_true, Bool.not_eq_false, Bool.not_eq_false', Int.toNat_natCast, Int.reduceToNat] at hc1)
      have h92 : c0.toNat = 92 := (by have := hc1; simp at this; omega)
      refine hw_region ?_
      refine hq_ 14 (hop_move rfl) rfl rfl pre0 rfl rfl ?_
      refine hq_ 15 (hop_call0 (xs := [_]) (hidden_h (c0 :: t0)) ⟨rfl, trivial⟩ ⟨(Fz.eq rfl), trivial⟩) rfl rfl pre0 rfl rfl ?_
      refine hq_ 13 (hop_move rfl) rfl rfl pre0 rfl rfl ?_
      refine hq_ 16 (hop_extract rfl rfl) rfl rfl pre0 rfl rfl ?_
      refine hq_ 17 (hop_extract rfl rfl) rfl rfl pre0 rfl rfl ?_
      refine hq_ 5 (hop_assign rfl) rfl rfl pre0 rfl rfl ?_
      refine hq_ 6 (hop_assign rfl) rfl rfl pre0 rfl rfl ?_
      refine hseq_nil ?_
      refine h8 _ ?_
      refine hw_seq (fun Nh10 h10 => ?_)
      refine hw_seq (fun Nh11 h11 => ?_)
      refine hw_region ?_
      refine hq_ 21 (hop_move rfl) rfl rfl pre0 rfl rfl ?_
      refine hq_ 22 (hop_eql rfl rfl) rfl rfl pre0 rfl rfl ?_
      refine hseq_nil ?_
      refine h11 _ ?_
      refine hw_cond _ rfl (fun hc3 => ?_) (fun hc3 => ?_)
      · have hr3 := hc3; (try simp only [decide_eq_true_eq, decide_eq_false_iff_not, Bool.and_eq_true, Bool.or_eq_true, Bool.not_eq_true', Bool.or_eq_false_iff, beq_iff_eq, bne_iff_ne, ne_eq, beq_eq_false_iff_ne, bne_eq_false_iff_eq, Bool.not_eq_true, Bool.not_eq_false, Bool.not_eq_false', Int.toNat_natCast, Int.reduceToNat] at hc3)
        have hd : decB (c0 :: t0) = none := (by unfold decB; simp only; rw [if_pos h92, if_pos (by omega)])
        refine hw_seq (fun Nh12 h12 => ?_)
        refine hw_region ?_
        refine hq_ 2 (hop_assign rfl) rfl rfl pre0 rfl rfl ?_
        refine hq_ 3 (hop_assign rfl) rfl rfl pre0 rfl rfl ?_
        refine hseq_nil ?_
        refine h12 _ ?_
        refine hw_ret ?_
        refine hq_then_ret ?_
        refine hq_block_ret ?_
        refine hq_then_ret ?_
        refine hq_block_ret ?_
        refine hq_then_ret ?_
        refine hq_ret2 rfl (rval_tmp rfl) (rval_tmp rfl) [] rfl pre0 ?_
        have e : bareV l = none := bare_stop hL (by simp) (dec_none hd); rw [e]; exact fz_t2 (.nil 0 1 _ (by decide) none) (.imm _)
      · have hr3 := hc3; (try simp only [decide_eq_true_eq, decide_eq_false_iff_not, Bool.and_eq_true, Bool.or_eq_true, Bool.not_eq_true', Bool.or_eq_false_iff, beq_iff_eq, bne_iff_ne, ne_eq, beq_eq_false_iff_ne, bne_eq_false_iff_eq, Bool.not_eq_true, Bool.not_eq_false, Bool.not_eq_false', Int.toNat_natCast, Int.reduceToNat] at hc3)
        have hd : decB (c0 :: t0) = some ((hidV (c0 :: t0)).1, (hidV (c0 :: t0)).2) := (by unfold decB; simp only; rw [if_pos h92, if_neg (by omega)]); have hs := bare_step hL hd
        refine hw_skip ?_
        refine h10 _ ?_
        refine hw_seq (fun Nh13 h13 => ?_)
        refine hw_region ?_
        refine hq_ 23 (hop_move rfl) rfl rfl pre0 rfl rfl ?_
        refine hq_ 24 (hop_move rfl) rfl rfl pre0 rfl rfl ?_
        refine hm_1 25 (hop_buildSlice (id := 25) (hs := [_]) ei_27 (by first | exact Nat.le_of_ble_eq_true rfl | omega | (dsimp only; omega) | (simp <;> omega)) rfl (by first | exact Nat.le_of_ble_eq_true rfl | omega | (dsimp only; omega) | (simp <;> omega)) ⟨rfl, rfl, rfl, rfl, trivial⟩) rfl rfl pre0 rfl rfl (c' := c + 1) rfl ?_
        first
        | refine hm_1 26 (hol_append ei_27 (by first | exact Nat.le_of_ble_eq_true rfl | omega | (dsimp only; omega) | (simp <;> omega)) rfl (by first | exact Nat.le_of_ble_eq_true rfl | omega | (dsimp only; omega) | (simp <;> omega)) (by first | exact Nat.le_of_ble_eq_true rfl | omega | (dsimp only; omega) | (simp <;> omega)) (srl_os0 rfl (by first | exact Nat.le_of_ble_eq_true rfl | omega | (dsimp only; omega) | (simp <;> omega))) (by first | exact Nat.le_of_ble_eq_true rfl | omega | (dsimp only; omega) | (simp <;> omega)) rfl) rfl rfl (preC rfl (pre1 rfl)) rfl rfl (c' := c + 2) rfl ?_
        | refine hm_1 26 (hol_append ei_27 (by first | exact Nat.le_of_ble_eq_true rfl | omega | (dsimp only; omega) | (simp <;> omega)) rfl (by first | exact Nat.le_of_ble_eq_true rfl | omega | (dsimp only; omega) | (simp <;> omega)) (by first | exact Nat.le_of_ble_eq_true rfl | omega | (dsimp only; omega) | (simp <;> omega)) (srl_os rfl (by first | exact Nat.le_of_ble_eq_true rfl | omega | (dsimp only; omega) | (simp <;> omega))) (by first | exact Nat.le_of_ble_eq_true rfl | omega | (dsimp only; omega) | (simp <;> omega)) rfl) rfl rfl (preC rfl (pre1 rfl)) rfl rfl (c' := c + 2) rfl ?_
        | refine hm_1 26 (hol_append ei_27 (by first | exact Nat.le_of_ble_eq_true rfl | omega | (dsimp only; omega) | (simp <;> omega)) rfl (by first | exact Nat.le_of_ble_eq_true rfl | omega | (dsimp only; omega) | (simp <;> omega)) (by first | exact Nat.le_of_ble_eq_true rfl | omega | (dsimp only; omega) | (simp <;> omega)) (src_sl rfl) (by first | exact Nat.le_of_ble_eq_true rfl | omega | (dsimp only; omega) | (simp <;> omega)) rfl) rfl rfl (preC rfl pre0) rfl rfl (c' := c + 2) rfl ?_
        | refine hm_1 26 (hol_append ei_27 (by first | exact Nat.le_of_ble_eq_true rfl | omega | (dsimp only; omega) | (simp <;> omega)) rfl (by first | exact Nat.le_of_ble_eq_true rfl | omega | (dsimp only; omega) | (simp <;> omega)) (by first | exact Nat.le_of_ble_eq_true rfl | omega | (dsimp only; omega) | (simp <;> omega)) (src_nil 1 (fun _ _ => default) rfl) (by first | exact Nat.le_of_ble_eq_true rfl | omega | (dsimp only; omega) | (simp <;> omega)) rfl) rfl rfl (preC rfl pre0) rfl rfl (c' := c + 2) rfl ?_
        refine hq_ 4 (hop_assign rfl) rfl rfl pre0 rfl rfl ?_
        refine hseq_nil ?_
        refine h13 _ ?_
        refine hw_region ?_
        refine hq_ 27 (hop_move rfl) rfl rfl pre0 rfl rfl ?_
        refine hq_ 28 (hop_move rfl) rfl rfl pre0 rfl rfl ?_
        refine hq_ 29 (hop_cut_strl (by kernel_rfl) rfl (.inr ⟨_, _, rfl, rfl⟩) (.inl ⟨rfl, rfl⟩) (by first | exact Nat.le_of_ble_eq_true rfl | omega | (dsimp only; omega) | (simp <;> omega)) (by first | exact Nat.le_of_ble_eq_true rfl | omega | (dsimp only; omega) | (simp <;> omega)) (by first | exact Nat.le_of_ble_eq_true rfl | omega | (dsimp only; omega) | (simp <;> omega))) rfl rfl pre0 rfl rfl ?_
        refine hq_ 0 (hop_assign rfl) rfl rfl pre0 rfl rfl ?_
        refine hseq_nil ?_
        refine hq_block ?_
        exact hL4 (((c0 :: t0).drop (hidV (c0 :: t0)).2, acc ++ [(hidV (c0 :: t0)).1], n + 1, _)) _ _ (by (try dsimp only); exact ⟨hs.1, by simp [hn], by rw [List.length_drop, List.length_cons]; have := hs.2; simp only [List.length_cons] at this; omega⟩) (by (try dsimp only); rw [List.length_drop]; have := hs.2; simp only [List.length_cons] at this ⊢; omega) (hsub_of rfl (Nat.le_refl _) (TmSub.cons rfl (sb_str (by rw [cut_all _ _ _ (by simp; omega)]; simp)) (TmSub.cons rfl (Sb.refl _) TmSub.nil)) (HpSub.cons rfl (OSub.of fun i j hi hj => sb_cat (l := acc) (k := [(hidV (c0 :: t0)).1]) (enc := fun c _ => u8V c) (d := 0) hn (fun i j _ _ => .refl _) (sb_one (x := (hidV (c0 :: t0)).1) (enc := fun c _ => u8V c) (d := 0) (fun j hj => .refl _)) i j (by simp; omega) hj) HpSub.nil))
    · have hr1 := hc1; (try simp only [decide_eq_true_eq, decide_eq_false_iff_not, Bool.and_eq_true, Bool.or_eq_true, Bool.not_eq_true', Bool.or_eq_false_iff, beq_iff_eq, bne_iff_ne, ne_eq, beq_eq_false_iff_ne, bne_eq_false_iff_eq, Bool.not_eq_true, Bool.not_eq_false, Bool.not_eq_false', Int.toNat_natCast, Int.reduceToNat] at hc1)
      have h92 : ¬ c0.toNat = 92 := (by have := hc1; simp at this; omega)
      refine hw_seq (fun Nh14 h14 => ?_)
      refine hw_region ?_
      refine hq_ 18 (hop_move rfl) rfl rfl pre0 rfl rfl ?_
      refine hq_ 19 (hop_call0 (xs := [_]) (plain_h c0 _ rfl) ⟨rfl, trivial⟩ ⟨(Fz.eq rfl), trivial⟩) rfl rfl pre0 rfl rfl ?_
      refine hq_ 20 (hop_not rfl) rfl rfl pre0 rfl rfl ?_
      refine hseq_nil ?_
      refine h14 _ ?_
      refine hw_cond _ rfl (fun hc2 => ?_) (fun hc2 => ?_)
      · have hr2 := hc2; (try simp only [decide_eq_true_eq, decide_eq_false_iff_not, Bool.and_eq_true, Bool.or_eq_true, Bool.not_eq_true', Bool.or_eq_false_iff, beq_iff_eq, bne_iff_ne, ne_eq, beq_eq_false_iff_ne, bne_eq_false_iff_eq, Bool.not_eq_true, Bool.not_eq_false, Bool.not_eq_false', Int.toNat_natCast, Int.reduceToNat] at hc2)
        refine hw_region ?_
        refine hq_ 6 (hop_assign rfl) rfl rfl pre0 rfl rfl ?_
        refine hseq_nil ?_
        refine h8 _ ?_
        refine hw_seq (fun Nh15 h15 => ?_)
        refine hw_seq (fun Nh16 h16 => ?_)
        refine hw_region ?_
        refine hq_ 21 (hop_move rfl) rfl rfl pre0 rfl rfl ?_
        refine hq_ 22 (hop_eql rfl rfl) rfl rfl pre0 rfl rfl ?_
        refine hseq_nil ?_
        refine h16 _ ?_
        refine hw_cond _ rfl (fun hc3 => ?_) (fun hc3 => ?_)
        · have hr3 := hc3; (try simp only [decide_eq_true_eq, decide_eq_false_iff_not, Bool.and_eq_true, Bool.or_eq_true, Bool.not_eq_true', Bool.or_eq_false_iff, beq_iff_eq, bne_iff_ne, ne_eq, beq_eq_false_iff_ne, bne_eq_false_iff_eq, Bool.not_eq_true, Bool.not_eq_false, Bool.not_eq_false', Int.toNat_natCast, Int.reduceToNat] at hc3)
          have hd : decB (c0 :: t0) = none := (by unfold decB; simp only; rw [if_neg h92, if_neg (by simpa using hc2)])
          refine hw_seq (fun Nh17 h17 => ?_)
          refine hw_region ?_
          refine hq_ 2 (hop_assign rfl) rfl rfl pre0 rfl rfl ?_
          refine hq_ 3 (hop_assign rfl) rfl rfl pre0 rfl rfl ?_
          refine hseq_nil ?_
          refine h17 _ ?_
          refine hw_ret ?_
          refine hq_then_ret ?_
          refine hq_block_ret ?_
          refine hq_then_ret ?_
          refine hq_block_ret ?_
          refine hq_then_ret ?_
          refine hq_ret2 rfl (rval_tmp rfl) (rval_tmp rfl) [] rfl pre0 ?_
          have e : bareV l = none := bare_stop hL (by simp) (dec_none hd); rw [e]; exact fz_t2 (.nil 0 1 _ (by decide) none) (.imm _)
        · have hr3 := hc3; (try simp only [decide_eq_true_eq, decide_eq_false_iff_not, Bool.and_eq_true, Bool.or_eq_true, Bool.not_eq_true', Bool.or_eq_false_iff, beq_iff_eq, bne_iff_ne, ne_eq, beq_eq_false_iff_ne, bne_eq_false_iff_eq, Bool.not_eq_true, Bool.not_eq_false, Bool.not_eq_false', Int.toNat_natCast, Int.reduceToNat] at hc3)
          exfalso; simp at hr3
      · have hr2 := hc2; (try simp only [decide_eq_true_eq, decide_eq_false_iff_not, Bool.and_eq_true, Bool.or_eq_true, Bool.not_eq_true', Bool.or_eq_false_iff, beq_iff_eq, bne_iff_ne, ne_eq, beq_eq_false_iff_ne, bne_eq_false_iff_eq, Bool.not_eq_true, Bool.not_eq_false, Bool.not_eq_false', Int.toNat_natCast, Int.reduceToNat] at hc2)
        refine hw_skip ?_
        refine h8 _ ?_
        refine hw_seq (fun Nh18 h18 => ?_)
        refine hw_seq (fun Nh19 h19 => ?_)
        refine hw_region ?_
        refine hq_ 21 (hop_move rfl) rfl rfl pre0 rfl rfl ?_
        refine hq_ 22 (hop_eql rfl rfl) rfl rfl pre0 rfl rfl ?_
        refine hseq_nil ?_
        refine h19 _ ?_
        refine hw_cond _ rfl (fun hc3 => ?_) (fun hc3 => ?_)
        · have hr3 := hc3; (try simp only [decide_eq_true_eq, decide_eq_false_iff_not, Bool.and_eq_true, Bool.or_eq_true, Bool.not_eq_true', Bool.or_eq_false_iff, beq_iff_eq, bne_iff_ne, ne_eq, beq_eq_false_iff_ne, bne_eq_false_iff_eq, Bool.not_eq_true, Bool.not_eq_false, Bool.not_eq_false', Int.toNat_natCast, Int.reduceToNat] at hc3)
          exfalso; simp at hr3
        · have hr3 := hc3; (try simp only [decide_eq_true_eq, decide_eq_false_iff_not, Bool.and_eq_true, Bool.or_eq_true, Bool.not_eq_true', Bool.or_eq_false_iff, beq_iff_eq, bne_iff_ne, ne_eq, beq_eq_false_iff_ne, bne_eq_false_iff_eq, Bool.not_eq_true, Bool.not_eq_false, Bool.not_eq_false', Int.toNat_natCast, Int.reduceToNat] at hc3)
          have hd : decB (c0 :: t0) = some (c0, 1) := (by unfold decB; simp only; rw [if_neg h92, if_pos (by simpa using hc2)]); have hs := bare_step hL hd
          refine hw_skip ?_
          refine h18 _ ?_
          refine hw_seq (fun Nh20 h20 => ?_)
          refine hw_region ?_
          refine hq_ 23 (hop_move rfl) rfl rfl pre0 rfl rfl ?_
          refine hq_ 24 (hop_move rfl) rfl rfl pre0 rfl rfl ?_
          refine hm_1 25 (hop_buildSlice (id := 25) (hs := [_]) ei_27 (by first | exact Nat.le_of_ble_eq_true rfl | omega | (dsimp only; omega) | (simp <;> omega)) rfl (by first | exact Nat.le_of_ble_eq_true rfl | omega | (dsimp only; omega) | (simp <;> omega)) ⟨rfl, rfl, rfl, rfl, trivial⟩) rfl rfl pre0 rfl rfl (c' := c + 1) rfl ?_
          first
          | refine hm_1 26 (hol_append ei_27 (by first | exact Nat.le_of_ble_eq_true rfl | omega | (dsimp only; omega) | (simp <;> omega)) rfl (by first | exact Nat.le_of_ble_eq_true rfl | omega | (dsimp only; omega) | (simp <;> omega)) (by first | exact Nat.le_of_ble_eq_true rfl | omega | (dsimp only; omega) | (simp <;> omega)) (srl_os0 rfl (by first | exact Nat.le_of_ble_eq_true rfl | omega | (dsimp only; omega) | (simp <;> omega))) (by first | exact Nat.le_of_ble_eq_true rfl | omega | (dsimp only; omega) | (simp <;> omega)) rfl) rfl rfl (preC rfl (pre1 rfl)) rfl rfl (c' := c + 2) rfl ?_
          | refine hm_1 26 (hol_append ei_27 (by first | exact Nat.le_of_ble_eq_true rfl | omega | (dsimp only; omega) | (simp <;> omega)) rfl (by first | exact Nat.le_of_ble_eq_true rfl | omega | (dsimp only; omega) | (simp <;> omega)) (by first | exact Nat.le_of_ble_eq_true rfl | omega | (dsimp only; omega) | (simp <;> omega)) (srl_os rfl (by first | exact Nat.le_of_ble_eq_true rfl | omega | (dsimp only; omega) | (simp <;> omega))) (by first | exact Nat.le_of_ble_eq_true rfl | omega | (dsimp only; omega) | (simp <;> omega)) rfl) rfl rfl (preC rfl (pre1 rfl)) rfl rfl (c' := c + 2) rfl ?_
          | refine hm_1 26 (hol_append ei_27 (by first | exact Nat.le_of_ble_eq_true rfl | omega | (dsimp only; omega) | (simp <;> omega)) rfl (by first | exact Nat.le_of_ble_eq_true rfl | omega | (dsimp only; omega) | (simp <;> omega)) (by first | exact Nat.le_of_ble_eq_true rfl | omega | (dsimp only; omega) | (simp <;> omega)) (src_sl rfl) (by first | exact Nat.le_of_ble_eq_true rfl | omega | (dsimp only; omega) | (simp <;> omega)) rfl) rfl rfl (preC rfl pre0) rfl rfl (c' := c + 2) rfl ?_
          | refine hm_1 26 (hol_append ei_27 (by first | exact Nat.le_of_ble_eq_true rfl | omega | (dsimp only; omega) | (simp <;> omega)) rfl (by first | exact Nat.le_of_ble_eq_true rfl | omega | (dsimp only; omega) | (simp <;> omega)) (by first | exact Nat.le_of_ble_eq_true rfl | omega | (dsimp only; omega) | (simp <;> omega)) (src_nil 1 (fun _ _ => default) rfl) (by first | exact Nat.le_of_ble_eq_true rfl | omega | (dsimp only; omega) | (simp <;> omega)) rfl) rfl rfl (preC rfl pre0) rfl rfl (c' := c + 2) rfl ?_
          refine hq_ 4 (hop_assign rfl) rfl rfl pre0 rfl rfl ?_
          refine hseq_nil ?_
          refine h20 _ ?_
          refine hw_region ?_
          refine hq_ 27 (hop_move rfl) rfl rfl pre0 rfl rfl ?_
          refine hq_ 28 (hop_move rfl) rfl rfl pre0 rfl rfl ?_
          refine hq_ 29 (hop_cut_strl (by kernel_rfl) rfl (.inr ⟨_, _, rfl, rfl⟩) (.inl ⟨rfl, rfl⟩) (by first | exact Nat.le_of_ble_eq_true rfl | omega | (dsimp only; omega) | (simp <;> omega)) (by first | exact Nat.le_of_ble_eq_true rfl | omega | (dsimp only; omega) | (simp <;> omega)) (by first | exact Nat.le_of_ble_eq_true rfl | omega | (dsimp only; omega) | (simp <;> omega))) rfl rfl pre0 rfl rfl ?_
          refine hq_ 0 (hop_assign rfl) rfl rfl pre0 rfl rfl ?_
          refine hseq_nil ?_
          refine hq_block ?_
          exact hL4 ((t0, acc ++ [c0], n + 1, _)) _ _ (by (try dsimp only); exact ⟨hs.1, by simp [hn], by omega⟩) (by (try dsimp only); simp) (hsub_of rfl (Nat.le_refl _) (TmSub.cons rfl (sb_str (by rw [cut_all _ _ _ (by simp; omega)]; simp)) (TmSub.cons rfl (Sb.refl _) TmSub.nil)) (HpSub.cons rfl (OSub.of fun i j hi hj => sb_cat (l := acc) (k := [c0]) (enc := fun c _ => u8V c) (d := 0) hn (fun i j _ _ => .refl _) (sb_one (x := c0) (enc := fun c _ => u8V c) (d := 0) (fun j hj => .refl _)) i j (by simp; omega) hj) HpSub.nil))
  · have hr0 := hc0; (try simp only [decide_eq_true_eq, decide_eq_false_iff_not, Bool.and_eq_true, Bool.or_eq_true, Bool.not_eq_true', Bool.or_eq_false_iff, beq_iff_eq, bne_iff_ne, ne_eq, beq_eq_false_iff_ne, bne_eq_false_iff_eq, Bool.not_eq_true, Bool.not_eq_false, Bool.not_eq_false', Int.toNat_natCast, Int.reduceToNat] at hc0)
    refine hw_exit ?_
    refine hq_then_exit ?_
    refine hq_then_exit ?_
    refine hq_block_here ?_
    refine h3 _ ?_
    refine hw_seq (fun Nh21 h21 => ?_)
    refine hw_region ?_
    refine hq_ 30 (hop_move rfl) rfl rfl pre0 rfl rfl ?_
    refine hq_ 2 (hop_assign rfl) rfl rfl pre0 rfl rfl ?_
    refine hq_ 3 (hop_assign rfl) rfl rfl pre0 rfl rfl ?_
    refine hseq_nil ?_
    refine h21 _ ?_
    refine hw_ret ?_
    refine hq_ret2 rfl (rval_tmp rfl) (rval_tmp rfl) [(4, _)] rfl (preC rfl pre0) ?_
    obtain rfl : rest = [] := (by simpa using hc0); have e : bareV l = some acc := bareV_some (by simpa using hL); rw [e]; exact fz_t2 (fz_row (l := acc) (enc := fun c _ => u8V c) (d := 0) (List.mem_cons_self ..) rfl hn (Nat.le_refl _) (fun i j _ _ => .imm _)) (.imm _)
end Go.Proofs.YtijpdbjcmnpobaaDoor
