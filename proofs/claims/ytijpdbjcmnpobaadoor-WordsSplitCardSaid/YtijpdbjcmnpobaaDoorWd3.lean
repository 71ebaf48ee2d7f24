/-
  The document's answers on bytes as a word's piece; the law WordsHide.
-/
import Derived.Test.YtijpdbjcmnpobaaDoorWd2
namespace Go.Proofs.YtijpdbjcmnpobaaDoor
set_option linter.unusedSimpArgs false
set_option linter.unusedVariables false
set_option maxRecDepth 100000
open Go.RowKit

theorem refPlain_h (c : UInt8) : HPure Tryd.prog 50 [u8V c] (boolV (plainB c)) := by
  have hlt := c.toNat_lt
  refine hpure_of Tryd.func50 rfl (by kernel_rfl) _ _ _ rfl 13 rfl rfl (fun w F => ?_)
  refine hw_seq (fun Nh1 h1 => ?_)
  refine hw_region ?_
  refine hq_ 2 (hop_assign rfl) rfl rfl pre0 rfl rfl ?_
  refine hseq_nil ?_
  refine h1 _ ?_
  refine hw_seq (fun Nh2 h2 => ?_)
  refine hw_region ?_
  refine hq_ 3 (hop_move rfl) rfl rfl pre0 rfl rfl ?_
  refine hq_ 4 (hop_geq rfl rfl) rfl rfl pre0 rfl rfl ?_
  refine hq_ 5 (hop_move rfl) rfl rfl pre0 rfl rfl ?_
  first
  | refine hq_g 6 2 5 true _ (fun hb => hop_move rfl) rfl rfl rfl rfl pre0 rfl rfl rfl ?_
  | refine hq_g2 6 2 5 _ _ true _ (fun hb => hop_move rfl) rfl rfl rfl rfl pre0 rfl rfl rfl ?_
  first
  | refine hq_g 7 2 5 true _ (fun hb => hop_leq rfl rfl) rfl rfl rfl rfl pre0 rfl rfl rfl ?_
  | refine hq_g2 7 2 5 _ _ true _ (fun hb => hop_leq rfl rfl) rfl rfl rfl rfl pre0 rfl rfl rfl ?_
  first
  | refine hq_p 8 (hstep_and _ _ rfl rfl rfl) rfl rfl rfl ?_
  | refine hq_p 8 (hstep_or _ _ rfl rfl rfl) rfl rfl rfl ?_
  | refine hq_p 8 (hstep_ite _ _ _ rfl rfl rfl) rfl rfl rfl ?_
  | refine hq_p 8 (hstep_pick _ _ _ _ rfl rfl rfl (fun _ => .refl _) (fun _ => .refl _)) rfl rfl rfl ?_
  refine hq_ 9 (hop_move rfl) rfl rfl pre0 rfl rfl ?_
  first
  | refine hq_g 10 6 9 false _ (fun hb => hop_move rfl) rfl rfl rfl rfl pre0 rfl rfl rfl ?_
  | refine hq_g2 10 6 9 _ _ false _ (fun hb => hop_move rfl) rfl rfl rfl rfl pre0 rfl rfl rfl ?_
  first
  | refine hq_g 11 6 9 false _ (fun hb => hop_gtr rfl rfl) rfl rfl rfl rfl pre0 rfl rfl rfl ?_
  | refine hq_g2 11 6 9 _ _ false _ (fun hb => hop_gtr rfl rfl) rfl rfl rfl rfl pre0 rfl rfl rfl ?_
  first
  | refine hq_p 12 (hstep_and _ _ rfl rfl rfl) rfl rfl rfl ?_
  | refine hq_p 12 (hstep_or _ _ rfl rfl rfl) rfl rfl rfl ?_
  | refine hq_p 12 (hstep_ite _ _ _ rfl rfl rfl) rfl rfl rfl ?_
  | refine hq_p 12 (hstep_pick _ _ _ _ rfl rfl rfl (fun _ => .refl _) (fun _ => .refl _)) rfl rfl rfl ?_
  refine hq_ 2 (hop_assign rfl) rfl rfl pre0 rfl rfl ?_
  refine hseq_nilU (by rfl) (by simp only [dropUn, slots]; exact rfl) ?_
  refine h2 _ ?_
  refine hw_ret ?_
  refine hq_ret1 rfl (rval_tmp rfl) [] rfl pre0 ?_
  exact fz_bool (by unfold plainB; rw [Bool.eq_iff_iff]; simp; omega)
theorem hide_take (l : List UInt8) (k : Nat) (hk : k < l.length) : hideL (l.take (k + 1)) = hideL (l.take k) ++ hideB (l.getD k 0) := by
  rw [List.take_succ_eq_append_getElem hk, hideL_app]
  simp [hideL, List.getD_eq_getElem?_getD, hk]
theorem hex_cut_all : ∀ q : Fin 16, (([48, 49, 50, 51, 52, 53, 54, 55, 56, 57, 97, 98, 99, 100, 101, 102] : List UInt8).drop q.val).take 1 = [hexD q.val] := by decide +kernel
theorem hex_cut (a b : Int) (q : Nat) (ha : a = q) (hb : b = a + 1) (hq : q < 16) : strV ((([48, 49, 50, 51, 52, 53, 54, 55, 56, 57, 97, 98, 99, 100, 101, 102] : List UInt8).drop a.toNat).take (b.toNat - a.toNat)) = strV [hexD q] := by
  subst hb; subst ha
  have := hex_cut_all ⟨q, hq⟩
  simp only at this
  rw [show (q : Int).toNat = q from rfl, show ((q : Int) + 1).toNat - q = 1 from by omega, this]
theorem hide_sb (l : List UInt8) (k : Nat) (hk : k < l.length) (c : UInt8) (hc : l.getD k 0 = c) {m : List UInt8} (hm : m = hideB c) : Sb (strV (hideL (l.take k) ++ m)) (strV (hideL (l.take (k + 1)))) := sb_str (by rw [hide_take l k hk, hc, hm])
theorem hide_sb3 (l : List UInt8) (k : Nat) (hk : k < l.length) (c : UInt8) (hc : l.getD k 0 = c) {m m2 m3 : List UInt8} (hm : m ++ m2 ++ m3 = hideB c) : Sb (strV (hideL (l.take k) ++ m ++ m2 ++ m3)) (strV (hideL (l.take (k + 1)))) := sb_str (by rw [hide_take l k hk, hc, ← hm]; simp)
theorem refHide_h (l : List UInt8) (hl : l.length ≤ 2000) : HPure Tryd.prog 20 [bytesV l] (strV (hideL l)) := by
  refine hpure_of Tryd.func20 rfl (by kernel_rfl) _ _ _ rfl 55 rfl rfl (fun w F => ?_)
  refine hw_seq (fun Nh1 h1 => ?_)
  refine hw_region ?_
  refine hq_ 2 (hop_assign rfl) rfl rfl pre0 rfl rfl ?_
  refine hseq_nil ?_
  refine h1 _ ?_
  refine hw_seq (fun Nh2 h2 => ?_)
  refine hw_region ?_
  refine hq_ 3 (hop_assign rfl) rfl rfl pre0 rfl rfl ?_
  refine hseq_nil ?_
  refine h2 _ ?_
  refine hw_seq (fun Nh3 h3 => ?_)
  refine hw_region ?_
  refine hq_ 4 (hop_assign rfl) rfl rfl pre0 rfl rfl ?_
  refine hseq_nil ?_
  refine h3 _ ?_
  refine hw_seq (fun Nh4 h4 => ?_)
  refine hw_seq (fun Nh5 h5 => ?_)
  refine hw_region ?_
  refine hq_ 5 (hop_assign rfl) rfl rfl pre0 rfl rfl ?_
  refine hseq_nil ?_
  refine h5 _ ?_
  refine hw_block ?_
  refine hw_loopc (α := Nat) (fun x c => ⟨55, [(0, .v (bytesV l)), (3, .v (strV [48, 49, 50, 51, 52, 53, 54, 55, 56, 57, 97, 98, 99, 100, 101, 102])), (4, .v (strV (hideL (l.take x)))), (5, .v (intV x))], [], c⟩) (fun x => x ≤ l.length) (fun x => l.length - x) (0) (by exact Nat.zero_le _) (hsub_of rfl (Nat.le_refl _) (TmSub.cons rfl (Sb.refl _) (TmSub.cons rfl (Sb.refl _) (TmSub.cons rfl (Sb.refl _) (TmSub.cons rfl (Sb.refl _) TmSub.nil)))) HpSub.nil) (fun k c hx NhL6 hL6 => ?_)
  (try dsimp only at hx hL6 ⊢)
  have hle := hideL_le (l.take k); rw [List.length_take] at hle; have hlt := (l.getD k 0).toNat_lt
  refine hw_seq (fun Nh7 h7 => ?_)
  refine hw_seq (fun Nh8 h8 => ?_)
  refine hw_region ?_
  refine hq_ 7 (hop_move rfl) rfl rfl pre0 rfl rfl ?_
  refine hq_ 8 (hop_move rfl) rfl rfl pre0 rfl rfl ?_
  first
  | refine hq_ 9 (hop_len_sl (T := 27) rfl (elOf_spec el_27).1 rfl) rfl rfl pre0 rfl rfl ?_
  | refine hq_ 9 (hop_len_os (T := 27) rfl (elOf_spec el_27).1 rfl) rfl rfl pre0 rfl rfl ?_
  | refine hq_ 9 (hop_len_nil (T := 27) rfl (elOf_spec el_27).1 rfl) rfl rfl pre0 rfl rfl ?_
  refine hq_ 10 (hop_lss rfl rfl) rfl rfl pre0 rfl rfl ?_
  refine hseq_nil ?_
  refine h8 _ ?_
  refine hw_cond _ rfl (fun hc0 => ?_) (fun hc0 => ?_)
  · have hr0 := hc0; (try simp only [decide_eq_true_eq, decide_eq_false_iff_not, Bool.and_eq_true, Bool.or_eq_true, Bool.not_eq_true', Bool.or_eq_false_iff, beq_iff_eq, bne_iff_ne, ne_eq, beq_eq_false_iff_ne, bne_eq_false_iff_eq, Bool.not_eq_true, Bool.not_eq_false, Bool.not_eq_false', Int.toNat_natCast, Int.reduceToNat] at hc0)
    obtain ⟨b, hb⟩ : ∃ b, l.getD k 0 = b := ⟨_, rfl⟩; rw [hb] at hlt
    refine hw_skip ?_
    refine h7 _ ?_
    refine hw_seq (fun Nh9 h9 => ?_)
    refine hw_block ?_
    refine hw_seq (fun Nh10 h10 => ?_)
    refine hw_region ?_
    refine hq_ 13 (hop_move rfl) rfl rfl pre0 rfl rfl ?_
    refine hq_ 14 (hop_move rfl) rfl rfl pre0 rfl rfl ?_
    first
    | refine hq_ 15 (hop_ia_sl el_27 rfl rfl (by first | exact Nat.le_of_ble_eq_true rfl | omega | (dsimp only; omega) | (simp <;> omega)) (by first | exact Nat.le_of_ble_eq_true rfl | omega | (dsimp only; omega) | (simp <;> omega)) (by first | exact Nat.le_of_ble_eq_true rfl | omega | (dsimp only; omega) | (simp <;> omega))) rfl rfl pre0 rfl rfl ?_
    | refine hq_ 15 (hol_ia_os el_27 rfl rfl (by first | exact Nat.le_of_ble_eq_true rfl | omega | (dsimp only; omega) | (simp <;> omega)) (by first | exact Nat.le_of_ble_eq_true rfl | omega | (dsimp only; omega) | (simp <;> omega))) rfl rfl (pre1 rfl) rfl rfl ?_
    first
    | refine hq_ 16 (HOp.val (v' := u8V b) (hol_load ty_5 rfl (by first | exact Nat.le_of_ble_eq_true rfl | omega | (dsimp only; omega) | (simp <;> omega)) (by first | exact Nat.le_of_ble_eq_true rfl | omega | (dsimp only; omega) | (simp <;> omega)) (fun h => by first | rfl | cases h)) (congrArg u8V hb)) rfl rfl (pre1 rfl) rfl rfl ?_
    | refine hq_ 16 (HOp.val (v' := u8V b) (hop_load_fp ty_5 rfl (by first | exact Nat.le_of_ble_eq_true rfl | omega | (dsimp only; omega) | (simp <;> omega)) (fun h => by first | rfl | cases h)) (congrArg u8V hb)) rfl rfl pre0 rfl rfl ?_
    refine hq_ 6 (hop_assign rfl) rfl rfl pre0 rfl rfl ?_
    refine hseq_nil ?_
    refine h10 _ ?_
    refine hw_seq (fun Nh11 h11 => ?_)
    refine hw_region ?_
    refine hq_ 17 (hop_move rfl) rfl rfl pre0 rfl rfl ?_
    refine hq_ 18 (hop_eql rfl rfl) rfl rfl pre0 rfl rfl ?_
    refine hseq_nil ?_
    refine h11 _ ?_
    refine hw_cond _ rfl (fun hc1 => ?_) (fun hc1 => ?_)
    · have hr1 := hc1; (try simp only [decide_eq_true_eq, decide_eq_false_iff_not, Bool.and_eq_true, Bool.or_eq_true, Bool.not_eq_true', Bool.or_eq_false_iff, beq_iff_eq, bne_iff_ne, ne_eq, beq_eq_false_iff_ne, bne_eq_false_iff_eq, Bool.not_eq_true, Bool.not_eq_false, Bool.not_eq_false', Int.toNat_natCast, Int.reduceToNat] at hc1)
      refine hw_region ?_
      refine hq_ 19 (hop_move rfl) rfl rfl pre0 rfl rfl ?_
      refine hq_ 20 (hop_catl rfl rfl (by first | exact Nat.le_of_ble_eq_true rfl | omega | (dsimp only; omega) | (simp <;> omega))) rfl rfl pre0 rfl rfl ?_
      refine hq_ 4 (hop_assign rfl) rfl rfl pre0 rfl rfl ?_
      refine hseq_nil ?_
      refine hq_block ?_
      refine h9 _ ?_
      refine hw_region ?_
      refine hq_ 11 (hop_move rfl) rfl rfl pre0 rfl rfl ?_
      first
      | refine hq_ 12 (hop_addi rfl rfl rfl (by first | exact Nat.le_of_ble_eq_true rfl | omega | (dsimp only; omega) | (simp <;> omega)) (by first | exact Nat.le_of_ble_eq_true rfl | omega | (dsimp only; omega) | (simp <;> omega))) rfl rfl pre0 rfl rfl ?_
      | refine hq_ 12 (hop_add rfl rfl) rfl rfl pre0 rfl rfl ?_
      refine hq_ 5 (hop_assign rfl) rfl rfl pre0 rfl rfl ?_
      refine hseq_nil ?_
      exact hL6 (k + 1) _ _ (by (try dsimp only); omega) (by (try dsimp only); omega) (hsub_of rfl (Nat.le_refl _) (TmSub.cons rfl (Sb.refl _) (TmSub.cons rfl (Sb.refl _) (TmSub.cons rfl (hide_sb l k (by omega) b hb (by unfold hideB; rw [if_pos (by omega)])) (TmSub.cons rfl (Sb.refl _) TmSub.nil)))) HpSub.nil)
    · have hr1 := hc1; (try simp only [decide_eq_true_eq, decide_eq_false_iff_not, Bool.and_eq_true, Bool.or_eq_true, Bool.not_eq_true', Bool.or_eq_false_iff, beq_iff_eq, bne_iff_ne, ne_eq, beq_eq_false_iff_ne, bne_eq_false_iff_eq, Bool.not_eq_true, Bool.not_eq_false, Bool.not_eq_false', Int.toNat_natCast, Int.reduceToNat] at hc1)
      refine hw_seq (fun Nh12 h12 => ?_)
      refine hw_region ?_
      refine hq_ 21 (hop_move rfl) rfl rfl pre0 rfl rfl ?_
      refine hq_ 22 (hop_eql rfl rfl) rfl rfl pre0 rfl rfl ?_
      refine hseq_nil ?_
      refine h12 _ ?_
      refine hw_cond _ rfl (fun hc2 => ?_) (fun hc2 => ?_)
      · have hr2 := hc2; (try simp only [decide_eq_true_eq, decide_eq_false_iff_not, Bool.and_eq_true, Bool.or_eq_true, Bool.not_eq_true', Bool.or_eq_false_iff, beq_iff_eq, bne_iff_ne, ne_eq, beq_eq_false_iff_ne, bne_eq_false_iff_eq, Bool.not_eq_true, Bool.not_eq_false, Bool.not_eq_false', Int.toNat_natCast, Int.reduceToNat] at hc2)
        refine hw_region ?_
        refine hq_ 23 (hop_move rfl) rfl rfl pre0 rfl rfl ?_
        refine hq_ 24 (hop_catl rfl rfl (by first | exact Nat.le_of_ble_eq_true rfl | omega | (dsimp only; omega) | (simp <;> omega))) rfl rfl pre0 rfl rfl ?_
        refine hq_ 4 (hop_assign rfl) rfl rfl pre0 rfl rfl ?_
        refine hseq_nil ?_
        refine hq_block ?_
        refine h9 _ ?_
        refine hw_region ?_
        refine hq_ 11 (hop_move rfl) rfl rfl pre0 rfl rfl ?_
        first
        | refine hq_ 12 (hop_addi rfl rfl rfl (by first | exact Nat.le_of_ble_eq_true rfl | omega | (dsimp only; omega) | (simp <;> omega)) (by first | exact Nat.le_of_ble_eq_true rfl | omega | (dsimp only; omega) | (simp <;> omega))) rfl rfl pre0 rfl rfl ?_
        | refine hq_ 12 (hop_add rfl rfl) rfl rfl pre0 rfl rfl ?_
        refine hq_ 5 (hop_assign rfl) rfl rfl pre0 rfl rfl ?_
        refine hseq_nil ?_
        exact hL6 (k + 1) _ _ (by (try dsimp only); omega) (by (try dsimp only); omega) (hsub_of rfl (Nat.le_refl _) (TmSub.cons rfl (Sb.refl _) (TmSub.cons rfl (Sb.refl _) (TmSub.cons rfl (hide_sb l k (by omega) b hb (by unfold hideB; rw [if_neg (by omega), if_pos (by omega)])) (TmSub.cons rfl (Sb.refl _) TmSub.nil)))) HpSub.nil)
      · have hr2 := hc2; (try simp only [decide_eq_true_eq, decide_eq_false_iff_not, Bool.and_eq_true, Bool.or_eq_true, Bool.not_eq_true', Bool.or_eq_false_iff, beq_iff_eq, bne_iff_ne, ne_eq, beq_eq_false_iff_ne, bne_eq_false_iff_eq, Bool.not_eq_true, Bool.not_eq_false, Bool.not_eq_false', Int.toNat_natCast, Int.reduceToNat] at hc2)
        refine hw_seq (fun Nh13 h13 => ?_)
        refine hw_region ?_
        refine hq_ 25 (hop_move rfl) rfl rfl pre0 rfl rfl ?_
        refine hq_ 26 (hop_eql rfl rfl) rfl rfl pre0 rfl rfl ?_
        refine hseq_nil ?_
        refine h13 _ ?_
        refine hw_cond _ rfl (fun hc3 => ?_) (fun hc3 => ?_)
        · have hr3 := hc3; (try simp only [decide_eq_true_eq, decide_eq_false_iff_not, Bool.and_eq_true, Bool.or_eq_true, Bool.not_eq_true', Bool.or_eq_false_iff, beq_iff_eq, bne_iff_ne, ne_eq, beq_eq_false_iff_ne, bne_eq_false_iff_eq, Bool.not_eq_true, Bool.not_eq_false, Bool.not_eq_false', Int.toNat_natCast, Int.reduceToNat] at hc3)
          refine hw_region ?_
          refine hq_ 27 (hop_move rfl) rfl rfl pre0 rfl rfl ?_
          refine hq_ 28 (hop_catl rfl rfl (by first | exact Nat.le_of_ble_eq_true rfl | omega | (dsimp only; omega) | (simp <;> omega))) rfl rfl pre0 rfl rfl ?_
          refine hq_ 4 (hop_assign rfl) rfl rfl pre0 rfl rfl ?_
          refine hseq_nil ?_
          refine hq_block ?_
          refine h9 _ ?_
          refine hw_region ?_
          refine hq_ 11 (hop_move rfl) rfl rfl pre0 rfl rfl ?_
          first
          | refine hq_ 12 (hop_addi rfl rfl rfl (by first | exact Nat.le_of_ble_eq_true rfl | omega | (dsimp only; omega) | (simp <;> omega)) (by first | exact Nat.le_of_ble_eq_true rfl | omega | (dsimp only; omega) | (simp <;> omega))) rfl rfl pre0 rfl rfl ?_
          | refine hq_ 12 (hop_add rfl rfl) rfl rfl pre0 rfl rfl ?_
          refine hq_ 5 (hop_assign rfl) rfl rfl pre0 rfl rfl ?_
          refine hseq_nil ?_
          exact hL6 (k + 1) _ _ (by (try dsimp only); omega) (by (try dsimp only); omega) (hsub_of rfl (Nat.le_refl _) (TmSub.cons rfl (Sb.refl _) (TmSub.cons rfl (Sb.refl _) (TmSub.cons rfl (hide_sb l k (by omega) b hb (by unfold hideB; rw [if_neg (by omega), if_neg (by omega), if_pos (by omega)])) (TmSub.cons rfl (Sb.refl _) TmSub.nil)))) HpSub.nil)
        · have hr3 := hc3; (try simp only [decide_eq_true_eq, decide_eq_false_iff_not, Bool.and_eq_true, Bool.or_eq_true, Bool.not_eq_true', Bool.or_eq_false_iff, beq_iff_eq, bne_iff_ne, ne_eq, beq_eq_false_iff_ne, bne_eq_false_iff_eq, Bool.not_eq_true, Bool.not_eq_false, Bool.not_eq_false', Int.toNat_natCast, Int.reduceToNat] at hc3)
          refine hw_seq (fun Nh14 h14 => ?_)
          refine hw_region ?_
          refine hq_ 29 (hop_move rfl) rfl rfl pre0 rfl rfl ?_
          refine hq_ 30 (hop_call0 (xs := [_]) (refPlain_h b) ⟨rfl, trivial⟩ ⟨(Fz.eq rfl), trivial⟩) rfl rfl pre0 rfl rfl ?_
          refine hseq_nil ?_
          refine h14 _ ?_
          refine hw_cond _ rfl (fun hc4 => ?_) (fun hc4 => ?_)
          · have hr4 := hc4; (try simp only [decide_eq_true_eq, decide_eq_false_iff_not, Bool.and_eq_true, Bool.or_eq_true, Bool.not_eq_true', Bool.or_eq_false_iff, beq_iff_eq, bne_iff_ne, ne_eq, beq_eq_false_iff_ne, bne_eq_false_iff_eq, Bool.not_eq_true, Bool.not_eq_false, Bool.not_eq_false', Int.toNat_natCast, Int.reduceToNat] at hc4)
            refine hw_region ?_
            refine hq_ 31 (hop_move rfl) rfl rfl pre0 rfl rfl ?_
            refine hq_ 32 (hop_move rfl) rfl rfl pre0 rfl rfl ?_
            refine hm_1 33 (hop_buildSlice (id := 33) (hs := [_]) ei_27 (by first | exact Nat.le_of_ble_eq_true rfl | omega | (dsimp only; omega) | (simp <;> omega)) rfl (by first | exact Nat.le_of_ble_eq_true rfl | omega | (dsimp only; omega) | (simp <;> omega)) ⟨rfl, rfl, rfl, rfl, trivial⟩) rfl rfl pre0 rfl rfl (c' := c + 1) rfl ?_
            first
            | refine hq_ 34 (hop_conv_bs_sl (e := 5) ([b]) (by kernel_rfl) (by kernel_rfl) (by kernel_rfl) rfl (by first | rfl | simp) ((fun i hi => bsf_u8 ([b]) i hi))) rfl rfl pre0 rfl rfl ?_
            | refine hq_ 34 (hop_conv_bs_os (e := 5) ([b]) (by kernel_rfl) (by kernel_rfl) (by kernel_rfl) rfl (by first | exact Nat.le_of_ble_eq_true rfl | omega | (dsimp only; omega) | (simp <;> omega)) (by first | rfl | simp) (fun i hi => by rw [Nat.zero_add]; exact ((fun i hi => bsf_u8 ([b]) i hi)) i hi)) rfl rfl (pre1 rfl) rfl rfl ?_
            refine hq_ 35 (hop_catl rfl rfl (by first | exact Nat.le_of_ble_eq_true rfl | omega | (dsimp only; omega) | (simp <;> omega))) rfl rfl pre0 rfl rfl ?_
            refine hq_ 4 (hop_assign rfl) rfl rfl pre0 rfl rfl ?_
            refine hseq_nil ?_
            refine hq_block ?_
            refine h9 _ ?_
            refine hw_region ?_
            refine hq_ 11 (hop_move rfl) rfl rfl pre0 rfl rfl ?_
            first
            | refine hq_ 12 (hop_addi rfl rfl rfl (by first | exact Nat.le_of_ble_eq_true rfl | omega | (dsimp only; omega) | (simp <;> omega)) (by first | exact Nat.le_of_ble_eq_true rfl | omega | (dsimp only; omega) | (simp <;> omega))) rfl rfl pre0 rfl rfl ?_
            | refine hq_ 12 (hop_add rfl rfl) rfl rfl pre0 rfl rfl ?_
            refine hq_ 5 (hop_assign rfl) rfl rfl pre0 rfl rfl ?_
            refine hseq_nil ?_
            exact hL6 (k + 1) _ _ (by (try dsimp only); omega) (by (try dsimp only); omega) (hsub_of rfl (Nat.le_refl _) (TmSub.cons rfl (Sb.refl _) (TmSub.cons rfl (Sb.refl _) (TmSub.cons rfl (hide_sb l k (by omega) b hb (by unfold hideB; rw [if_neg (by omega), if_neg (by omega), if_neg (by omega), if_pos hc4])) (TmSub.cons rfl (Sb.refl _) TmSub.nil)))) HpSub.nil)
          · have hr4 := hc4; (try simp only [decide_eq_true_eq, decide_eq_false_iff_not, Bool.and_eq_true, Bool.or_eq_true, Bool.not_eq_true', Bool.or_eq_false_iff, beq_iff_eq, bne_iff_ne, ne_eq, beq_eq_false_iff_ne, bne_eq_false_iff_eq, Bool.not_eq_true, Bool.not_eq_false, Bool.not_eq_false', Int.toNat_natCast, Int.reduceToNat] at hc4)
            refine hd_start ?_
            refine hd_q 36 (hop_move rfl) rfl rfl pre0 rfl rfl (k' := 1) rfl ?_
            refine hd_q 37 (hop_catl rfl rfl (by first | exact Nat.le_of_ble_eq_true rfl | omega | (dsimp only; omega) | (simp <;> omega))) rfl rfl pre0 rfl rfl (k' := 2) rfl ?_
            refine hd_q 38 (hop_move rfl) rfl rfl pre0 rfl rfl (k' := 3) rfl ?_
            refine hd_q 39 (hop_move rfl) rfl rfl pre0 rfl rfl (k' := 4) rfl ?_
            first
            | refine hd_q 40 (hop_quok wok_u8 rfl rfl rfl (by first | exact Nat.le_of_ble_eq_true rfl | omega | (dsimp only; omega) | (simp <;> omega)) (by first | exact Nat.le_of_ble_eq_true rfl | omega | (dsimp only; omega) | (simp <;> omega)) (by first | exact Nat.le_of_ble_eq_true rfl | omega | (dsimp only; omega) | (simp <;> omega)) (by first | exact Nat.le_of_ble_eq_true rfl | omega | (dsimp only; omega) | (simp <;> omega))) rfl rfl pre0 rfl rfl (k' := 5) rfl ?_
            | refine hd_q 40 (hop_quo rfl rfl (by first | decide | omega)) rfl rfl pre0 rfl rfl (k' := 5) rfl ?_
            refine hd_q 41 (hop_move rfl) rfl rfl pre0 rfl rfl (k' := 6) rfl ?_
            first
            | refine hd_q 42 (hop_quok wok_u8 rfl rfl rfl (by first | exact Nat.le_of_ble_eq_true rfl | omega | (dsimp only; omega) | (simp <;> omega)) (by first | exact Nat.le_of_ble_eq_true rfl | omega | (dsimp only; omega) | (simp <;> omega)) (by first | exact Nat.le_of_ble_eq_true rfl | omega | (dsimp only; omega) | (simp <;> omega)) (by first | exact Nat.le_of_ble_eq_true rfl | omega | (dsimp only; omega) | (simp <;> omega))) rfl rfl pre0 rfl rfl (k' := 7) rfl ?_
            | refine hd_q 42 (hop_quo rfl rfl (by first | decide | omega)) rfl rfl pre0 rfl rfl (k' := 7) rfl ?_
            first
            | refine hd_q 43 (hop_addk wok_u8 rfl rfl rfl (by first | exact Nat.le_of_ble_eq_true rfl | omega | (dsimp only; omega) | (simp <;> omega)) (by first | exact Nat.le_of_ble_eq_true rfl | omega | (dsimp only; omega) | (simp <;> omega))) rfl rfl pre0 rfl rfl (k' := 8) rfl ?_
            | refine hd_q 43 (hop_add rfl rfl) rfl rfl pre0 rfl rfl (k' := 8) rfl ?_
            refine hd_q 44 (HOp.val (v' := strV [hexD (b.toNat / 16)]) (hop_cut_strl (by kernel_rfl) rfl (.inr ⟨_, _, rfl, rfl⟩) (.inr ⟨_, _, rfl, rfl⟩) (by first | exact Nat.le_of_ble_eq_true rfl | omega | (dsimp only; omega) | (simp <;> omega)) (by first | exact Nat.le_of_ble_eq_true rfl | omega | (dsimp only; omega) | (simp <;> omega)) (by first | exact Nat.le_of_ble_eq_true rfl | omega | (dsimp only; omega) | (simp <;> omega))) (hex_cut _ _ _ (by omega) rfl (by omega))) rfl rfl pre0 rfl rfl (k' := 9) rfl ?_
            refine hd_q 45 (hop_catl rfl rfl (by first | exact Nat.le_of_ble_eq_true rfl | omega | (dsimp only; omega) | (simp <;> omega))) rfl rfl pre0 rfl rfl (k' := 10) rfl ?_
            refine hd_q 46 (hop_move rfl) rfl rfl pre0 rfl rfl (k' := 11) rfl ?_
            refine hd_q 47 (hop_move rfl) rfl rfl pre0 rfl rfl (k' := 12) rfl ?_
            first
            | refine hd_q 48 (hop_remk rfl rfl rfl (by first | exact Nat.le_of_ble_eq_true rfl | omega | (dsimp only; omega) | (simp <;> omega)) (by first | exact Nat.le_of_ble_eq_true rfl | omega | (dsimp only; omega) | (simp <;> omega))) rfl rfl pre0 rfl rfl (k' := 13) rfl ?_
            | refine hd_q 48 (hop_rem rfl rfl (by first | decide | omega)) rfl rfl pre0 rfl rfl (k' := 13) rfl ?_
            refine hd_q 49 (hop_move rfl) rfl rfl pre0 rfl rfl (k' := 14) rfl ?_
            first
            | refine hd_q 50 (hop_remk rfl rfl rfl (by first | exact Nat.le_of_ble_eq_true rfl | omega | (dsimp only; omega) | (simp <;> omega)) (by first | exact Nat.le_of_ble_eq_true rfl | omega | (dsimp only; omega) | (simp <;> omega))) rfl rfl pre0 rfl rfl (k' := 15) rfl ?_
            | refine hd_q 50 (hop_rem rfl rfl (by first | decide | omega)) rfl rfl pre0 rfl rfl (k' := 15) rfl ?_
            first
            | refine hd_q 51 (hop_addk wok_u8 rfl rfl rfl (by first | exact Nat.le_of_ble_eq_true rfl | omega | (dsimp only; omega) | (simp <;> omega)) (by first | exact Nat.le_of_ble_eq_true rfl | omega | (dsimp only; omega) | (simp <;> omega))) rfl rfl pre0 rfl rfl (k' := 16) rfl ?_
            | refine hd_q 51 (hop_add rfl rfl) rfl rfl pre0 rfl rfl (k' := 16) rfl ?_
            refine hd_q 52 (HOp.val (v' := strV [hexD (b.toNat % 16)]) (hop_cut_strl (by kernel_rfl) rfl (.inr ⟨_, _, rfl, rfl⟩) (.inr ⟨_, _, rfl, rfl⟩) (by first | exact Nat.le_of_ble_eq_true rfl | omega | (dsimp only; omega) | (simp <;> omega)) (by first | exact Nat.le_of_ble_eq_true rfl | omega | (dsimp only; omega) | (simp <;> omega)) (by first | exact Nat.le_of_ble_eq_true rfl | omega | (dsimp only; omega) | (simp <;> omega))) (hex_cut _ _ _ (by omega) rfl (by omega))) rfl rfl pre0 rfl rfl (k' := 17) rfl ?_
            refine hd_q 53 (hop_catl rfl rfl (by first | exact Nat.le_of_ble_eq_true rfl | omega | (dsimp only; omega) | (simp <;> omega))) rfl rfl pre0 rfl rfl (k' := 18) rfl ?_
            refine hd_q 4 (hop_assign rfl) rfl rfl pre0 rfl rfl (k' := 19) rfl ?_
            refine hd_nil (by kernel_rfl) (by kernel_rfl) (c' := c + 19) rfl ?_
            refine hq_block ?_
            refine h9 _ ?_
            refine hw_region ?_
            refine hq_ 11 (hop_move rfl) rfl rfl pre0 rfl rfl ?_
            first
            | refine hq_ 12 (hop_addi rfl rfl rfl (by first | exact Nat.le_of_ble_eq_true rfl | omega | (dsimp only; omega) | (simp <;> omega)) (by first | exact Nat.le_of_ble_eq_true rfl | omega | (dsimp only; omega) | (simp <;> omega))) rfl rfl pre0 rfl rfl ?_
            | refine hq_ 12 (hop_add rfl rfl) rfl rfl pre0 rfl rfl ?_
            refine hq_ 5 (hop_assign rfl) rfl rfl pre0 rfl rfl ?_
            refine hseq_nil ?_
            exact hL6 (k + 1) _ _ (by (try dsimp only); omega) (by (try dsimp only); omega) (hsub_of rfl (Nat.le_refl _) (TmSub.cons rfl (Sb.refl _) (TmSub.cons rfl (Sb.refl _) (TmSub.cons rfl (hide_sb3 l k (by omega) b hb (by unfold hideB; rw [if_neg (by omega), if_neg (by omega), if_neg (by omega), if_neg (by rw [hc4]; decide)]; rfl)) (TmSub.cons rfl (Sb.refl _) TmSub.nil)))) HpSub.nil)
  · have hr0 := hc0; (try simp only [decide_eq_true_eq, decide_eq_false_iff_not, Bool.and_eq_true, Bool.or_eq_true, Bool.not_eq_true', Bool.or_eq_false_iff, beq_iff_eq, bne_iff_ne, ne_eq, beq_eq_false_iff_ne, bne_eq_false_iff_eq, Bool.not_eq_true, Bool.not_eq_false, Bool.not_eq_false', Int.toNat_natCast, Int.reduceToNat] at hc0)
    refine hw_exit ?_
    refine hq_then_exit ?_
    refine hq_then_exit ?_
    refine hq_block_here ?_
    refine h4 _ ?_
    refine hw_seq (fun Nh15 h15 => ?_)
    refine hw_region ?_
    refine hq_ 54 (hop_move rfl) rfl rfl pre0 rfl rfl ?_
    refine hq_ 2 (hop_assign rfl) rfl rfl pre0 rfl rfl ?_
    refine hseq_nil ?_
    refine h15 _ ?_
    refine hw_ret ?_
    refine hq_ret1 rfl (rval_tmp rfl) [] rfl pre0 ?_
    have e : l.take k = l := List.take_of_length_le (by omega); rw [e]; exact Frz.fz
def oN : Option UInt8 → Nat
  | none => 0
  | some c => (hideB c).length
theorem oN_pos {o : Option UInt8} (h : oN o = 0) : o = none := by
  cases o with
  | none => rfl
  | some c => have := hideB_pos c; simp [oN] at h; exact absurd h (hideB_ne c)
def oAt (l : List UInt8) (c : Nat) : Option UInt8 → Prop
  | none => ∀ d : UInt8, d.toNat < c → ¬ hideB d <+: l
  | some d => hideB d <+: l
theorem u8_nat (c : Nat) (h : c < 256) : (UInt8.ofNat c).toNat = c := by simp [UInt8.toNat_ofNat']; omega
theorem hideL_one (c : UInt8) : hideL [c] = hideB c := by simp [hideL]
theorem pre_cut {p l : List UInt8} {a : Nat} (h : p.length ≤ l.length - a) : (l.drop a).take p.length = p ↔ p <+: l.drop a := by
  constructor
  · intro h2; rw [← h2]; exact List.take_prefix _ _
  · rintro ⟨t, ht⟩; rw [← ht]; simp
theorem u8q (q : Nat) (h : q < 256) (x : Int) (hx : x = q) : HV.imm (.int .u8 x) = u8V (UInt8.ofNat q) := by rw [hx, u8V, u8_nat q h]
theorem oN_some {o : Option UInt8} (h : oN o ≠ 0) : ∃ x, o = some x := by
  cases o with
  | none => exact absurd rfl h
  | some c => exact ⟨c, rfl⟩
theorem pre_cut2 {p l : List UInt8} {a : Nat} (e : Nat) (he : e = p.length) (h : p.length ≤ l.length - a) : (l.drop a).take e = p ↔ p <+: l.drop a := by subst he; exact pre_cut h
theorem refBare_h (l : List UInt8) (hl : l.length ≤ 10000) : HPure Tryd.prog 19 [strV l] (bareH (bareV l)) := by
  refine hpure_of Tryd.func19 rfl (by kernel_rfl) _ _ _ rfl 56 rfl rfl (fun w F => ?_)
  refine hw_seq (fun Nh1 h1 => ?_)
  refine hw_region ?_
  refine hq_ 2 (hop_assign rfl) rfl rfl pre0 rfl rfl ?_
  refine hq_ 3 (hop_assign rfl) rfl rfl pre0 rfl rfl ?_
  refine hseq_nil ?_
  refine h1 _ ?_
  refine hw_seq (fun Nh2 h2 => ?_)
  refine hw_region ?_
  refine hq_ 4 (hop_assign rfl) rfl rfl pre0 rfl rfl ?_
  refine hseq_nil ?_
  refine h2 _ ?_
  refine hw_seq (fun Nh3 h3 => ?_)
  refine hw_seq (fun Nh4 h4 => ?_)
  refine hw_region ?_
  refine hq_ 5 (hop_assign rfl) rfl rfl pre0 rfl rfl ?_
  refine hseq_nil ?_
  refine h4 _ ?_
  refine hw_block ?_
  refine hw_own 4 4 1 5 ((fun i j => u8V (([] : List UInt8).getD i 0))) rfl (by decide) rfl (c' := 1) rfl ?_
  refine hw_loopc (α := Nat × List UInt8 × Nat × Nat) (fun x c => ⟨56, [(0, .v (strV l)), (5, .v (intV x.1)), (4, .v (.os 4 x.2.2.2 0 x.2.2.1))], [(4, ⟨x.2.2.2, x.2.2.1, 1, 5, 0, fun i j => u8V (x.2.1.getD i 0)⟩)], c⟩) (fun x => hideL x.2.1 ++ l.drop x.1 = l ∧ x.2.2.1 = x.2.1.length ∧ x.1 ≤ l.length ∧ x.2.2.1 ≤ x.1) (fun x => l.length - x.1) ((0, [], 0, 0)) (by exact ⟨rfl, rfl, Nat.zero_le _, Nat.le_refl _⟩) (hsub_of rfl (Nat.le_refl _) (TmSub.cons rfl (Sb.refl _) (TmSub.cons rfl (Sb.refl _) (TmSub.cons rfl (Sb.refl _) TmSub.nil))) (HpSub.cons rfl (OSub.refl _) HpSub.nil)) (fun x c hx NhL5 hL5 => ?_)
  revert hx hL5; obtain ⟨p, acc, n, g⟩ := x; intro hx hL5; dsimp only at hx hL5 ⊢
  obtain ⟨hL, hn, hp, hnp⟩ := hx
  refine hw_seq (fun Nh6 h6 => ?_)
  refine hw_seq (fun Nh7 h7 => ?_)
  refine hw_region ?_
  refine hq_ 9 (hop_move rfl) rfl rfl pre0 rfl rfl ?_
  refine hq_ 10 (hop_move rfl) rfl rfl pre0 rfl rfl ?_
  refine hq_ 11 (hop_len_strl (T := 9) rfl (by kernel_rfl) rfl) rfl rfl pre0 rfl rfl ?_
  refine hq_ 12 (hop_lss rfl rfl) rfl rfl pre0 rfl rfl ?_
  refine hseq_nil ?_
  refine h7 _ ?_
  refine hw_cond _ rfl (fun hc0 => ?_) (fun hc0 => ?_)
  · have hr0 := hc0; (try simp only [decide_eq_true_eq, decide_eq_false_iff_not, Bool.and_eq_true, Bool.or_eq_true, Bool.not_eq_true', Bool.or_eq_false_iff, beq_iff_eq, bne_iff_ne, ne_eq, beq_eq_false_iff_ne, bne_eq_false_iff_eq, Bool.not_eq_true, Bool.not_eq_false, Bool.not_eq_false', Int.toNat_natCast, Int.reduceToNat] at hc0)
    refine hw_skip ?_
    refine h6 _ ?_
    refine hw_block ?_
    refine hw_seq (fun Nh8 h8 => ?_)
    refine hw_region ?_
    refine hq_ 6 (hop_assign rfl) rfl rfl pre0 rfl rfl ?_
    refine hseq_nil ?_
    refine h8 _ ?_
    refine hw_seq (fun Nh9 h9 => ?_)
    refine hw_seq (fun Nh10 h10 => ?_)
    refine hw_region ?_
    refine hq_ 7 (hop_assign rfl) rfl rfl pre0 rfl rfl ?_
    refine hseq_nil ?_
    refine h10 _ ?_
    refine hw_block ?_
    refine hw_loopc (α := Nat × Option UInt8 × Nat) (fun x c => ⟨56, [(0, .v (strV l)), (5, .v (intV p)), (4, .v (.os 4 x.2.2 0 (n + x.2.1.toList.length))), (6, .v (intV (oN x.2.1))), (7, .v (intV x.1))], [(4, ⟨x.2.2, n + x.2.1.toList.length, 1, 5, 0, fun i j => u8V ((acc ++ x.2.1.toList).getD i 0)⟩)], c⟩) (fun x => x.1 ≤ 256 ∧ oAt (l.drop p) x.1 x.2.1) (fun x => 256 - x.1) ((0, none, g)) (by exact ⟨Nat.zero_le _, fun d h => absurd h (Nat.not_lt_zero _)⟩) (hsub_of rfl (Nat.le_refl _) (TmSub.cons rfl (Sb.refl _) (TmSub.cons rfl (Sb.refl _) (TmSub.cons rfl (Sb.refl _) (TmSub.cons rfl (Sb.refl _) (TmSub.cons rfl (Sb.refl _) TmSub.nil))))) (HpSub.cons rfl (OSub.of fun i j hi hj => by simp only [Option.toList, List.append_nil]; exact .refl _) HpSub.nil)) (fun x c hx NhL11 hL11 => ?_)
    revert hx hL11; obtain ⟨q, o, g2⟩ := x; intro hx hL11; dsimp only at hx hL11 ⊢
    obtain ⟨hq, ho⟩ := hx
    refine hw_seq (fun Nh12 h12 => ?_)
    refine hw_seq (fun Nh13 h13 => ?_)
    refine hw_region ?_
    refine hq_ 13 (hop_move rfl) rfl rfl pre0 rfl rfl ?_
    refine hq_ 14 (hop_lss rfl rfl) rfl rfl pre0 rfl rfl ?_
    refine hq_ 15 (hop_move rfl) rfl rfl pre0 rfl rfl ?_
    first
    | refine hq_g 16 2 15 true _ (fun hb => hop_move rfl) rfl rfl rfl rfl pre0 rfl rfl rfl ?_
    | refine hq_g2 16 2 15 _ _ true _ (fun hb => hop_move rfl) rfl rfl rfl rfl pre0 rfl rfl rfl ?_
    first
    | refine hq_g 17 2 15 true _ (fun hb => hop_eql rfl rfl) rfl rfl rfl rfl pre0 rfl rfl rfl ?_
    | refine hq_g2 17 2 15 _ _ true _ (fun hb => hop_eql rfl rfl) rfl rfl rfl rfl pre0 rfl rfl rfl ?_
    first
    | refine hq_p 18 (hstep_and _ _ rfl rfl rfl) rfl rfl rfl ?_
    | refine hq_p 18 (hstep_or _ _ rfl rfl rfl) rfl rfl rfl ?_
    | refine hq_p 18 (hstep_ite _ _ _ rfl rfl rfl) rfl rfl rfl ?_
    | refine hq_p 18 (hstep_pick _ _ _ _ rfl rfl rfl (fun _ => .refl _) (fun _ => .refl _)) rfl rfl rfl ?_
    refine hseq_nilU (by rfl) (by simp only [dropUn, slots]; exact rfl) ?_
    refine h13 _ ?_
    refine hw_cond _ rfl (fun hc1 => ?_) (fun hc1 => ?_)
    · have hr1 := hc1; (try simp only [decide_eq_true_eq, decide_eq_false_iff_not, Bool.and_eq_true, Bool.or_eq_true, Bool.not_eq_true', Bool.or_eq_false_iff, beq_iff_eq, bne_iff_ne, ne_eq, beq_eq_false_iff_ne, bne_eq_false_iff_eq, Bool.not_eq_true, Bool.not_eq_false, Bool.not_eq_false', Int.toNat_natCast, Int.reduceToNat] at hc1)
      obtain rfl : o = none := oN_pos (by omega); have hq2 : q < 256 := (by omega); have ho2 : ∀ d : UInt8, d.toNat < q → ¬ hideB d <+: l.drop p := ho
      refine hw_skip ?_
      refine h12 _ ?_
      refine hw_seq (fun Nh14 h14 => ?_)
      refine hw_block ?_
      refine hw_seq (fun Nh15 h15 => ?_)
      refine hw_region ?_
      refine hq_ 21 (hop_move rfl) rfl rfl pre0 rfl rfl ?_
      first
      | refine hq_ 22 (HOp.val (v' := u8V (UInt8.ofNat q)) (hop_convk wok_u8 (by kernel_rfl) (by kernel_rfl) rfl (by first | exact Nat.le_of_ble_eq_true rfl | omega | (dsimp only; omega) | (simp <;> omega)) (by first | exact Nat.le_of_ble_eq_true rfl | omega | (dsimp only; omega) | (simp <;> omega))) (u8q q hq2 _ (by rfl))) rfl rfl pre0 rfl rfl ?_
      | refine hq_ 22 (HOp.val (v' := u8V (UInt8.ofNat q)) (hop_conv (k' := .u8) (by kernel_rfl) (by kernel_rfl) rfl) (u8q q hq2 _ (by rfl))) rfl rfl pre0 rfl rfl ?_
      refine hm_1 23 (hop_buildSlice (id := 23) (hs := [_]) ei_27 (by first | exact Nat.le_of_ble_eq_true rfl | omega | (dsimp only; omega) | (simp <;> omega)) rfl (by first | exact Nat.le_of_ble_eq_true rfl | omega | (dsimp only; omega) | (simp <;> omega)) ⟨rfl, rfl, rfl, rfl, trivial⟩) rfl rfl pre0 rfl rfl (c' := c + 1) rfl ?_
      refine hm_ 24 (HOp.val (v' := strV (hideB (UInt8.ofNat q))) (hop_call (xs := [_]) [(23, _)] (refHide_h [UInt8.ofNat q] (by simp)) ⟨rfl, trivial⟩ ⟨Fz.os _ _ _ _ _ _ (List.mem_cons_self ..) rfl (Nat.le_refl _) (fun i j hi hj => by match i, hi with | 0, _ => exact .imm _), trivial⟩ rfl) (congrArg strV (hideL_one _))) rfl rfl (preC rfl pre0) rfl rfl (c' := c + 2) rfl ?_
      refine hq_ 8 (hop_assign rfl) rfl rfl pre0 rfl rfl ?_
      refine hseq_nil ?_
      refine h15 _ ?_
      refine hw_seq (fun Nh16 h16 => ?_)
      refine hw_region ?_
      refine hq_ 25 (hop_move rfl) rfl rfl pre0 rfl rfl ?_
      refine hq_ 26 (hop_len_strl (T := 9) rfl (by kernel_rfl) rfl) rfl rfl pre0 rfl rfl ?_
      refine hq_ 27 (hop_move rfl) rfl rfl pre0 rfl rfl ?_
      refine hq_ 28 (hop_len_strl (T := 9) rfl (by kernel_rfl) rfl) rfl rfl pre0 rfl rfl ?_
      refine hq_ 29 (hop_move rfl) rfl rfl pre0 rfl rfl ?_
      first
      | refine hq_ 30 (hop_subi rfl rfl rfl (by first | exact Nat.le_of_ble_eq_true rfl | omega | (dsimp only; omega) | (simp <;> omega)) (by first | exact Nat.le_of_ble_eq_true rfl | omega | (dsimp only; omega) | (simp <;> omega))) rfl rfl pre0 rfl rfl ?_
      | refine hq_ 30 (hop_sub rfl rfl) rfl rfl pre0 rfl rfl ?_
      refine hq_ 31 (hop_leq rfl rfl) rfl rfl pre0 rfl rfl ?_
      refine hq_ 32 (hop_move rfl) rfl rfl pre0 rfl rfl ?_
      first
      | refine hq_g 33 7 32 true _ (fun hb => hop_move rfl) rfl rfl rfl rfl pre0 rfl rfl rfl ?_
      | refine hq_g2 33 7 32 _ _ true _ (fun hb => hop_move rfl) rfl rfl rfl rfl pre0 rfl rfl rfl ?_
      first
      | refine hq_g 34 7 32 true _ (fun hb => hop_move rfl) rfl rfl rfl rfl pre0 rfl rfl rfl ?_
      | refine hq_g2 34 7 32 _ _ true _ (fun hb => hop_move rfl) rfl rfl rfl rfl pre0 rfl rfl rfl ?_
      first
      | refine hq_g 35 7 32 true _ (fun hb => hop_move rfl) rfl rfl rfl rfl pre0 rfl rfl rfl ?_
      | refine hq_g2 35 7 32 _ _ true _ (fun hb => hop_move rfl) rfl rfl rfl rfl pre0 rfl rfl rfl ?_
      first
      | refine hq_g 36 7 32 true _ (fun hb => hop_move rfl) rfl rfl rfl rfl pre0 rfl rfl rfl ?_
      | refine hq_g2 36 7 32 _ _ true _ (fun hb => hop_move rfl) rfl rfl rfl rfl pre0 rfl rfl rfl ?_
      first
      | refine hq_g 37 7 32 true _ (fun hb => hop_len_strl (T := 9) rfl (by kernel_rfl) rfl) rfl rfl rfl rfl pre0 rfl rfl rfl ?_
      | refine hq_g2 37 7 32 _ _ true _ (fun hb => hop_len_strl (T := 9) rfl (by kernel_rfl) rfl) rfl rfl rfl rfl pre0 rfl rfl rfl ?_
      first
      | refine hq_g 38 7 32 true _ (fun hb => hop_addi rfl rfl rfl (by first | exact Nat.le_of_ble_eq_true rfl | (simp at hb; first | omega | (dsimp only; omega) | (simp <;> omega))) (by first | exact Nat.le_of_ble_eq_true rfl | (simp at hb; first | omega | (dsimp only; omega) | (simp <;> omega)))) rfl rfl rfl rfl pre0 rfl rfl rfl ?_
      | refine hq_g2 38 7 32 _ _ true _ (fun hb => hop_addi rfl rfl rfl (by first | exact Nat.le_of_ble_eq_true rfl | (simp at hb; first | omega | (dsimp only; omega) | (simp <;> omega))) (by first | exact Nat.le_of_ble_eq_true rfl | (simp at hb; first | omega | (dsimp only; omega) | (simp <;> omega)))) rfl rfl rfl rfl pre0 rfl rfl rfl ?_
      | refine hq_g 38 7 32 true _ (fun hb => hop_add rfl rfl) rfl rfl rfl rfl pre0 rfl rfl rfl ?_
      | refine hq_g2 38 7 32 _ _ true _ (fun hb => hop_add rfl rfl) rfl rfl rfl rfl pre0 rfl rfl rfl ?_
      first
      | refine hq_g 39 7 32 true _ (fun hb => hop_cut_strl (by kernel_rfl) rfl (.inr ⟨_, _, rfl, rfl⟩) (.inr ⟨_, _, rfl, rfl⟩) (by first | exact Nat.le_of_ble_eq_true rfl | (simp at hb; first | omega | (dsimp only; omega) | (simp <;> omega))) (by first | exact Nat.le_of_ble_eq_true rfl | (simp at hb; first | omega | (dsimp only; omega) | (simp <;> omega))) (by first | exact Nat.le_of_ble_eq_true rfl | (simp at hb; first | omega | (dsimp only; omega) | (simp <;> omega)))) rfl rfl rfl rfl pre0 rfl rfl rfl ?_
      | refine hq_g2 39 7 32 _ _ true _ (fun hb => hop_cut_strl (by kernel_rfl) rfl (.inr ⟨_, _, rfl, rfl⟩) (.inr ⟨_, _, rfl, rfl⟩) (by first | exact Nat.le_of_ble_eq_true rfl | (simp at hb; first | omega | (dsimp only; omega) | (simp <;> omega))) (by first | exact Nat.le_of_ble_eq_true rfl | (simp at hb; first | omega | (dsimp only; omega) | (simp <;> omega))) (by first | exact Nat.le_of_ble_eq_true rfl | (simp at hb; first | omega | (dsimp only; omega) | (simp <;> omega)))) rfl rfl rfl rfl pre0 rfl rfl rfl ?_
      first
      | refine hq_g 40 7 32 true _ (fun hb => hop_move rfl) rfl rfl rfl rfl pre0 rfl rfl rfl ?_
      | refine hq_g2 40 7 32 _ _ true _ (fun hb => hop_move rfl) rfl rfl rfl rfl pre0 rfl rfl rfl ?_
      first
      | refine hq_g 41 7 32 true _ (fun hb => hop_seq_l rfl rfl) rfl rfl rfl rfl pre0 rfl rfl rfl ?_
      | refine hq_g2 41 7 32 _ _ true _ (fun hb => hop_seq_l rfl rfl) rfl rfl rfl rfl pre0 rfl rfl rfl ?_
      first
      | refine hq_p 42 (hstep_and _ _ rfl rfl rfl) rfl rfl rfl ?_
      | refine hq_p 42 (hstep_or _ _ rfl rfl rfl) rfl rfl rfl ?_
      | refine hq_p 42 (hstep_ite _ _ _ rfl rfl rfl) rfl rfl rfl ?_
      | refine hq_p 42 (hstep_pick _ _ _ _ rfl rfl rfl (fun _ => .refl _) (fun _ => .refl _)) rfl rfl rfl ?_
      refine hseq_nilU (by rfl) (by simp only [dropUn, slots]; exact rfl) ?_
      refine h16 _ ?_
      refine hw_cond _ rfl (fun hc2 => ?_) (fun hc2 => ?_)
      · have hr2 := hc2; (try simp only [decide_eq_true_eq, decide_eq_false_iff_not, Bool.and_eq_true, Bool.or_eq_true, Bool.not_eq_true', Bool.or_eq_false_iff, beq_iff_eq, bne_iff_ne, ne_eq, beq_eq_false_iff_ne, bne_eq_false_iff_eq, Bool.not_eq_true, Bool.not_eq_false, Bool.not_eq_false', Int.toNat_natCast, Int.reduceToNat] at hc2)
        have hpre := (pre_cut2 (l := l) (a := p) (p := hideB (UInt8.ofNat q)) _ (by omega) (by omega)).1 hc2.2
        refine hw_seq (fun Nh17 h17 => ?_)
        refine hw_region ?_
        refine hq_ 43 (hop_move rfl) rfl rfl pre0 rfl rfl ?_
        refine hq_ 44 (hop_move rfl) rfl rfl pre0 rfl rfl ?_
        first
        | refine hq_ 45 (HOp.val (v' := u8V (UInt8.ofNat q)) (hop_convk wok_u8 (by kernel_rfl) (by kernel_rfl) rfl (by first | exact Nat.le_of_ble_eq_true rfl | omega | (dsimp only; omega) | (simp <;> omega)) (by first | exact Nat.le_of_ble_eq_true rfl | omega | (dsimp only; omega) | (simp <;> omega))) (u8q q hq2 _ (by rfl))) rfl rfl pre0 rfl rfl ?_
        | refine hq_ 45 (HOp.val (v' := u8V (UInt8.ofNat q)) (hop_conv (k' := .u8) (by kernel_rfl) (by kernel_rfl) rfl) (u8q q hq2 _ (by rfl))) rfl rfl pre0 rfl rfl ?_
        refine hm_1 46 (hop_buildSlice (id := 46) (hs := [_]) ei_27 (by first | exact Nat.le_of_ble_eq_true rfl | omega | (dsimp only; omega) | (simp <;> omega)) rfl (by first | exact Nat.le_of_ble_eq_true rfl | omega | (dsimp only; omega) | (simp <;> omega)) ⟨rfl, rfl, rfl, rfl, trivial⟩) rfl rfl pre0 rfl rfl (c' := c + 3) rfl ?_
        first
        | refine hm_1 47 (hol_append ei_27 (by first | exact Nat.le_of_ble_eq_true rfl | omega | (dsimp only; omega) | (simp <;> omega)) rfl (by first | exact Nat.le_of_ble_eq_true rfl | omega | (dsimp only; omega) | (simp <;> omega)) (by first | exact Nat.le_of_ble_eq_true rfl | omega | (dsimp only; omega) | (simp <;> omega)) (srl_os0 rfl (by first | exact Nat.le_of_ble_eq_true rfl | omega | (dsimp only; omega) | (simp <;> omega))) (by first | exact Nat.le_of_ble_eq_true rfl | omega | (dsimp only; omega) | (simp <;> omega)) rfl) rfl rfl (preC rfl (pre1 rfl)) rfl rfl (c' := c + 4) rfl ?_
        | refine hm_1 47 (hol_append ei_27 (by first | exact Nat.le_of_ble_eq_true rfl | omega | (dsimp only; omega) | (simp <;> omega)) rfl (by first | exact Nat.le_of_ble_eq_true rfl | omega | (dsimp only; omega) | (simp <;> omega)) (by first | exact Nat.le_of_ble_eq_true rfl | omega | (dsimp only; omega) | (simp <;> omega)) (srl_os rfl (by first | exact Nat.le_of_ble_eq_true rfl | omega | (dsimp only; omega) | (simp <;> omega))) (by first | exact Nat.le_of_ble_eq_true rfl | omega | (dsimp only; omega) | (simp <;> omega)) rfl) rfl rfl (preC rfl (pre1 rfl)) rfl rfl (c' := c + 4) rfl ?_
        | refine hm_1 47 (hol_append ei_27 (by first | exact Nat.le_of_ble_eq_true rfl | omega | (dsimp only; omega) | (simp <;> omega)) rfl (by first | exact Nat.le_of_ble_eq_true rfl | omega | (dsimp only; omega) | (simp <;> omega)) (by first | exact Nat.le_of_ble_eq_true rfl | omega | (dsimp only; omega) | (simp <;> omega)) (src_sl rfl) (by first | exact Nat.le_of_ble_eq_true rfl | omega | (dsimp only; omega) | (simp <;> omega)) rfl) rfl rfl (preC rfl pre0) rfl rfl (c' := c + 4) rfl ?_
        | refine hm_1 47 (hol_append ei_27 (by first | exact Nat.le_of_ble_eq_true rfl | omega | (dsimp only; omega) | (simp <;> omega)) rfl (by first | exact Nat.le_of_ble_eq_true rfl | omega | (dsimp only; omega) | (simp <;> omega)) (by first | exact Nat.le_of_ble_eq_true rfl | omega | (dsimp only; omega) | (simp <;> omega)) (src_nil 1 (fun _ _ => default) rfl) (by first | exact Nat.le_of_ble_eq_true rfl | omega | (dsimp only; omega) | (simp <;> omega)) rfl) rfl rfl (preC rfl pre0) rfl rfl (c' := c + 4) rfl ?_
        refine hq_ 4 (hop_assign rfl) rfl rfl pre0 rfl rfl ?_
        refine hseq_nil ?_
        refine h17 _ ?_
        refine hw_region ?_
        refine hq_ 48 (hop_move rfl) rfl rfl pre0 rfl rfl ?_
        refine hq_ 49 (hop_len_strl (T := 9) rfl (by kernel_rfl) rfl) rfl rfl pre0 rfl rfl ?_
        refine hq_ 6 (hop_assign rfl) rfl rfl pre0 rfl rfl ?_
        refine hseq_nil ?_
        refine hq_block ?_
        refine h14 _ ?_
        refine hw_region ?_
        refine hq_ 19 (hop_move rfl) rfl rfl pre0 rfl rfl ?_
        first
        | refine hq_ 20 (hop_addi rfl rfl rfl (by first | exact Nat.le_of_ble_eq_true rfl | omega | (dsimp only; omega) | (simp <;> omega)) (by first | exact Nat.le_of_ble_eq_true rfl | omega | (dsimp only; omega) | (simp <;> omega))) rfl rfl pre0 rfl rfl ?_
        | refine hq_ 20 (hop_add rfl rfl) rfl rfl pre0 rfl rfl ?_
        refine hq_ 7 (hop_assign rfl) rfl rfl pre0 rfl rfl ?_
        refine hseq_nil ?_
        exact hL11 ((q + 1, some (UInt8.ofNat q), _)) _ _ (by (try dsimp only); exact ⟨by omega, hpre⟩) (by (try dsimp only); omega) (hsub_of rfl (Nat.le_refl _) (TmSub.cons rfl (Sb.refl _) (TmSub.cons rfl (Sb.refl _) (TmSub.cons rfl (Sb.refl _) (TmSub.cons rfl (Sb.refl _) (TmSub.cons rfl (Sb.refl _) TmSub.nil))))) (HpSub.cons rfl (OSub.of fun i j hi hj => by show Sb (cat (n + 0) (fun i j => u8V ((acc ++ []).getD i 0)) _ i j) _; rw [List.append_nil, Nat.add_zero]; exact sb_cat (l := acc) (k := [UInt8.ofNat q]) (enc := fun c _ => u8V c) (d := 0) hn (fun i j _ _ => .refl _) (sb_one (x := UInt8.ofNat q) (enc := fun c _ => u8V c) (d := 0) (fun j hj => .refl _)) i j (by simp; simp at hi; omega) hj) HpSub.nil))
      · have hr2 := hc2; (try simp only [decide_eq_true_eq, decide_eq_false_iff_not, Bool.and_eq_true, Bool.or_eq_true, Bool.not_eq_true', Bool.or_eq_false_iff, beq_iff_eq, bne_iff_ne, ne_eq, beq_eq_false_iff_ne, bne_eq_false_iff_eq, Bool.not_eq_true, Bool.not_eq_false, Bool.not_eq_false', Int.toNat_natCast, Int.reduceToNat] at hc2)
        have hnpre : ¬ hideB (UInt8.ofNat q) <+: l.drop p := (fun h => by have hle := h.length_le; rw [List.length_drop] at hle; have h2 := (pre_cut2 (l := l) (a := p) (p := hideB (UInt8.ofNat q)) (((p : Int) + ((hideB (UInt8.ofNat q)).length : Int)).toNat - p) (by omega) hle).2 h; simp only [h2, decide_true, Bool.and_true, decide_eq_false_iff_not] at hc2; omega)
        refine hw_skip ?_
        refine hq_block ?_
        refine h14 _ ?_
        refine hw_region ?_
        refine hq_ 19 (hop_move rfl) rfl rfl pre0 rfl rfl ?_
        first
        | refine hq_ 20 (hop_addi rfl rfl rfl (by first | exact Nat.le_of_ble_eq_true rfl | omega | (dsimp only; omega) | (simp <;> omega)) (by first | exact Nat.le_of_ble_eq_true rfl | omega | (dsimp only; omega) | (simp <;> omega))) rfl rfl pre0 rfl rfl ?_
        | refine hq_ 20 (hop_add rfl rfl) rfl rfl pre0 rfl rfl ?_
        refine hq_ 7 (hop_assign rfl) rfl rfl pre0 rfl rfl ?_
        refine hseq_nil ?_
        exact hL11 ((q + 1, none, g2)) _ _ (by (try dsimp only); exact ⟨by omega, fun d hd => by rcases Nat.lt_or_ge d.toNat q with h | h; exact ho2 d h; have : d = UInt8.ofNat q := u8_ext (by rw [u8_nat q hq2]; omega); rw [this]; exact hnpre⟩) (by (try dsimp only); omega) (hsub_of rfl (Nat.le_refl _) (TmSub.cons rfl (Sb.refl _) (TmSub.cons rfl (Sb.refl _) (TmSub.cons rfl (Sb.refl _) (TmSub.cons rfl (Sb.refl _) (TmSub.cons rfl (Sb.refl _) TmSub.nil))))) (HpSub.cons rfl (OSub.refl _) HpSub.nil))
    · have hr1 := hc1; (try simp only [decide_eq_true_eq, decide_eq_false_iff_not, Bool.and_eq_true, Bool.or_eq_true, Bool.not_eq_true', Bool.or_eq_false_iff, beq_iff_eq, bne_iff_ne, ne_eq, beq_eq_false_iff_ne, bne_eq_false_iff_eq, Bool.not_eq_true, Bool.not_eq_false, Bool.not_eq_false', Int.toNat_natCast, Int.reduceToNat] at hc1)
      refine hw_exit ?_
      refine hq_then_exit ?_
      refine hq_then_exit ?_
      refine hq_block_here ?_
      refine h9 _ ?_
      refine hw_seq (fun Nh18 h18 => ?_)
      refine hw_seq (fun Nh19 h19 => ?_)
      refine hw_region ?_
      refine hq_ 50 (hop_move rfl) rfl rfl pre0 rfl rfl ?_
      refine hq_ 51 (hop_eql rfl rfl) rfl rfl pre0 rfl rfl ?_
      refine hseq_nil ?_
      refine h19 _ ?_
      refine hw_cond _ rfl (fun hc3 => ?_) (fun hc3 => ?_)
      · have hr3 := hc3; (try simp only [decide_eq_true_eq, decide_eq_false_iff_not, Bool.and_eq_true, Bool.or_eq_true, Bool.not_eq_true', Bool.or_eq_false_iff, beq_iff_eq, bne_iff_ne, ne_eq, beq_eq_false_iff_ne, bne_eq_false_iff_eq, Bool.not_eq_true, Bool.not_eq_false, Bool.not_eq_false', Int.toNat_natCast, Int.reduceToNat] at hc3)
        obtain rfl : o = none := oN_pos (by omega); have hq2 : q = 256 := (by simp [oN] at hc1; omega); subst hq2
        refine hw_seq (fun Nh20 h20 => ?_)
        refine hw_region ?_
        refine hq_ 2 (hop_assign rfl) rfl rfl pre0 rfl rfl ?_
        refine hq_ 3 (hop_assign rfl) rfl rfl pre0 rfl rfl ?_
        refine hseq_nil ?_
        refine h20 _ ?_
        refine hw_ret ?_
        refine hq_then_ret ?_
        refine hq_block_ret ?_
        refine hq_then_ret ?_
        refine hq_block_ret ?_
        refine hq_then_ret ?_
        refine hq_ret2 rfl (rval_tmp rfl) (rval_tmp rfl) [] rfl pre0 ?_
        have e : bareV l = none := bare_stop hL (by intro h; have := congrArg List.length h; simp at this; omega) (fun d => ho d d.toNat_lt); rw [e]; exact fz_t2 (.nil 0 1 _ (by decide) none) (.imm _)
      · have hr3 := hc3; (try simp only [decide_eq_true_eq, decide_eq_false_iff_not, Bool.and_eq_true, Bool.or_eq_true, Bool.not_eq_true', Bool.or_eq_false_iff, beq_iff_eq, bne_iff_ne, ne_eq, beq_eq_false_iff_ne, bne_eq_false_iff_eq, Bool.not_eq_true, Bool.not_eq_false, Bool.not_eq_false', Int.toNat_natCast, Int.reduceToNat] at hc3)
        obtain ⟨x, rfl⟩ := oN_some (o := o) (by omega); obtain ⟨t, ht⟩ := ho; have hlx := congrArg List.length ht; rw [List.length_append, List.length_drop] at hlx; have hxp := hideB_pos x; have hoN : oN (some x) = (hideB x).length := rfl
        refine hw_skip ?_
        refine h18 _ ?_
        refine hw_region ?_
        refine hq_ 52 (hop_move rfl) rfl rfl pre0 rfl rfl ?_
        refine hq_ 53 (hop_move rfl) rfl rfl pre0 rfl rfl ?_
        first
        | refine hq_ 54 (hop_addi rfl rfl rfl (by first | exact Nat.le_of_ble_eq_true rfl | omega | (dsimp only; omega) | (simp <;> omega)) (by first | exact Nat.le_of_ble_eq_true rfl | omega | (dsimp only; omega) | (simp <;> omega))) rfl rfl pre0 rfl rfl ?_
        | refine hq_ 54 (hop_add rfl rfl) rfl rfl pre0 rfl rfl ?_
        refine hq_ 5 (hop_assign rfl) rfl rfl pre0 rfl rfl ?_
        refine hseq_nil ?_
        refine hq_block ?_
        exact hL5 ((p + (hideB x).length, acc ++ [x], n + 1, g2)) _ _ (by (try dsimp only); exact ⟨by rw [hideL_app, hideL_one, List.append_assoc, ← List.drop_drop, ← ht, List.drop_left, ht]; exact hL, by simp [hn], by omega, by omega⟩) (by (try dsimp only); omega) (hsub_of rfl (Nat.le_refl _) (TmSub.cons rfl (Sb.refl _) (TmSub.cons rfl (Sb.refl _) (TmSub.cons rfl (Sb.refl _) TmSub.nil))) (HpSub.cons rfl (OSub.of fun i j hi hj => .refl _) HpSub.nil))
  · have hr0 := hc0; (try simp only [decide_eq_true_eq, decide_eq_false_iff_not, Bool.and_eq_true, Bool.or_eq_true, Bool.not_eq_true', Bool.or_eq_false_iff, beq_iff_eq, bne_iff_ne, ne_eq, beq_eq_false_iff_ne, bne_eq_false_iff_eq, Bool.not_eq_true, Bool.not_eq_false, Bool.not_eq_false', Int.toNat_natCast, Int.reduceToNat] at hc0)
    refine hw_exit ?_
    refine hq_then_exit ?_
    refine hq_then_exit ?_
    refine hq_block_here ?_
    refine h3 _ ?_
    refine hw_seq (fun Nh21 h21 => ?_)
    refine hw_region ?_
    refine hq_ 55 (hop_move rfl) rfl rfl pre0 rfl rfl ?_
    refine hq_ 2 (hop_assign rfl) rfl rfl pre0 rfl rfl ?_
    refine hq_ 3 (hop_assign rfl) rfl rfl pre0 rfl rfl ?_
    refine hseq_nil ?_
    refine h21 _ ?_
    refine hw_ret ?_
    refine hq_ret2 rfl (rval_tmp rfl) (rval_tmp rfl) [(4, _)] rfl (preC rfl pre0) ?_
    obtain rfl : p = l.length := (by omega); have e : bareV l = some acc := bareV_some (by simpa using hL); rw [e]; exact fz_t2 (fz_row (l := acc) (enc := fun c _ => u8V c) (d := 0) (List.mem_cons_self ..) rfl hn (Nat.le_refl _) (fun i j _ _ => .imm _)) (.imm _)
theorem bare_len (l : List UInt8) : ((bareV l).getD []).length ≤ l.length := by
  cases h : bareV l with
  | none => simp
  | some b => exact bareV_len h
theorem hidePair_h (b l : List UInt8) : HPure Tryd.prog 4 [bytesV b, strV l] (boolV true) := by
  have hb0 := hideL_le b
  have hx := bare_len l
  have hbb : (bareV (hideL b)).getD [] = b := by rw [bareV_hide]; rfl
  have hbs : (bareV (hideL b)).isSome = true := by rw [bareV_hide]; rfl
  refine hpure_of Tryd.func4 rfl (by kernel_rfl) _ _ _ rfl 76 rfl rfl (fun w F => ?_)
  refine hw_seq (fun Nh1 h1 => ?_)
  refine hw_region ?_
  refine hq_ 4 (hop_assign rfl) rfl rfl pre0 rfl rfl ?_
  refine hseq_nil ?_
  refine h1 _ ?_
  refine hw_seq (fun Nh2 h2 => ?_)
  refine hw_seq (fun Nh3 h3 => ?_)
  refine hw_region ?_
  refine hq_ 12 (hop_move rfl) rfl rfl pre0 rfl rfl ?_
  first
  | refine hq_ 13 (hop_len_sl (T := 27) rfl (elOf_spec el_27).1 rfl) rfl rfl pre0 rfl rfl ?_
  | refine hq_ 13 (hop_len_os (T := 27) rfl (elOf_spec el_27).1 rfl) rfl rfl pre0 rfl rfl ?_
  | refine hq_ 13 (hop_len_nil (T := 27) rfl (elOf_spec el_27).1 rfl) rfl rfl pre0 rfl rfl ?_
  refine hq_ 14 (hop_gtr rfl rfl) rfl rfl pre0 rfl rfl ?_
  refine hq_ 15 (hop_move rfl) rfl rfl pre0 rfl rfl ?_
  first
  | refine hq_g 16 3 15 false _ (fun hb => hop_move rfl) rfl rfl rfl rfl pre0 rfl rfl rfl ?_
  | refine hq_g2 16 3 15 _ _ false _ (fun hb => hop_move rfl) rfl rfl rfl rfl pre0 rfl rfl rfl ?_
  first
  | refine hq_g 17 3 15 false _ (fun hb => hop_len_strl (T := 9) rfl (by kernel_rfl) rfl) rfl rfl rfl rfl pre0 rfl rfl rfl ?_
  | refine hq_g2 17 3 15 _ _ false _ (fun hb => hop_len_strl (T := 9) rfl (by kernel_rfl) rfl) rfl rfl rfl rfl pre0 rfl rfl rfl ?_
  first
  | refine hq_g 18 3 15 false _ (fun hb => hop_gtr rfl rfl) rfl rfl rfl rfl pre0 rfl rfl rfl ?_
  | refine hq_g2 18 3 15 _ _ false _ (fun hb => hop_gtr rfl rfl) rfl rfl rfl rfl pre0 rfl rfl rfl ?_
  first
  | refine hq_p 19 (hstep_and _ _ rfl rfl rfl) rfl rfl rfl ?_
  | refine hq_p 19 (hstep_or _ _ rfl rfl rfl) rfl rfl rfl ?_
  | refine hq_p 19 (hstep_ite _ _ _ rfl rfl rfl) rfl rfl rfl ?_
  | refine hq_p 19 (hstep_pick _ _ _ _ rfl rfl rfl (fun _ => .refl _) (fun _ => .refl _)) rfl rfl rfl ?_
  refine hseq_nilU (by rfl) (by simp only [dropUn, slots]; exact rfl) ?_
  refine h3 _ ?_
  refine hw_cond _ rfl (fun hc0 => ?_) (fun hc0 => ?_)
  · have hr0 := hc0; (try simp only [decide_eq_true_eq, decide_eq_false_iff_not, Bool.and_eq_true, Bool.or_eq_true, Bool.not_eq_true', Bool.or_eq_false_iff, beq_iff_eq, bne_iff_ne, ne_eq, beq_eq_false_iff_ne, bne_eq_false_iff_eq, Bool.not_eq_true, Bool.not_eq_false, Bool.not_eq_false', Int.toNat_natCast, Int.reduceToNat] at hc0)
    refine hw_seq (fun Nh4 h4 => ?_)
    refine hw_region ?_
    refine hq_ 20 (hop_call0 (xs := []) (live_h) trivial trivial) rfl rfl pre0 rfl rfl ?_
    refine hq_ 4 (hop_assign rfl) rfl rfl pre0 rfl rfl ?_
    refine hseq_nil ?_
    refine h4 _ ?_
    refine hw_ret ?_
    refine hq_then_ret ?_
    refine hq_ret1 rfl (rval_tmp rfl) [] rfl pre0 ?_
    exact Frz.fz
  · have hr0 := hc0; (try simp only [decide_eq_true_eq, decide_eq_false_iff_not, Bool.and_eq_true, Bool.or_eq_true, Bool.not_eq_true', Bool.or_eq_false_iff, beq_iff_eq, bne_iff_ne, ne_eq, beq_eq_false_iff_ne, bne_eq_false_iff_eq, Bool.not_eq_true, Bool.not_eq_false, Bool.not_eq_false', Int.toNat_natCast, Int.reduceToNat] at hc0)
    have hbl : b.length ≤ 500 := (by simp at hr0; omega); have hll : l.length ≤ 500 := (by simp at hr0; omega)
    refine hw_skip ?_
    refine h2 _ ?_
    refine hw_seq (fun Nh5 h5 => ?_)
    refine hw_region ?_
    refine hq_ 21 (hop_move rfl) rfl rfl pre0 rfl rfl ?_
    refine hq_ 22 (hop_call0 (xs := [_]) (hide_h b (by omega)) ⟨rfl, trivial⟩ ⟨(Fz.eq rfl), trivial⟩) rfl rfl pre0 rfl rfl ?_
    refine hq_ 5 (hop_assign rfl) rfl rfl pre0 rfl rfl ?_
    refine hseq_nil ?_
    refine h5 _ ?_
    refine hw_seq (fun Nh6 h6 => ?_)
    refine hw_region ?_
    refine hq_ 24 (hop_move rfl) rfl rfl pre0 rfl rfl ?_
    refine hq_ 25 (hop_call0 (xs := [_]) (bare_h (hideL b) (by omega)) ⟨rfl, trivial⟩ ⟨(Fz.eq rfl), trivial⟩) rfl rfl pre0 rfl rfl ?_
    refine hq_ 23 (hop_move rfl) rfl rfl pre0 rfl rfl ?_
    refine hq_ 26 (hop_extract rfl rfl) rfl rfl pre0 rfl rfl ?_
    refine hq_ 27 (hop_extract rfl rfl) rfl rfl pre0 rfl rfl ?_
    refine hq_ 6 (hop_assign rfl) rfl rfl pre0 rfl rfl ?_
    refine hq_ 7 (hop_assign rfl) rfl rfl pre0 rfl rfl ?_
    refine hseq_nil ?_
    refine h6 _ ?_
    refine hw_seq (fun Nh7 h7 => ?_)
    refine hw_region ?_
    refine hq_ 29 (hop_move rfl) rfl rfl pre0 rfl rfl ?_
    refine hq_ 30 (hop_call0 (xs := [_]) (bare_h l (by omega)) ⟨rfl, trivial⟩ ⟨(Fz.eq rfl), trivial⟩) rfl rfl pre0 rfl rfl ?_
    refine hq_ 28 (hop_move rfl) rfl rfl pre0 rfl rfl ?_
    refine hq_ 31 (hop_extract rfl rfl) rfl rfl pre0 rfl rfl ?_
    refine hq_ 32 (hop_extract rfl rfl) rfl rfl pre0 rfl rfl ?_
    refine hq_ 8 (hop_assign rfl) rfl rfl pre0 rfl rfl ?_
    refine hq_ 9 (hop_assign rfl) rfl rfl pre0 rfl rfl ?_
    refine hseq_nil ?_
    refine h7 _ ?_
    refine hw_seq (fun Nh8 h8 => ?_)
    refine hw_region ?_
    refine hq_ 34 (hop_move rfl) rfl rfl pre0 rfl rfl ?_
    refine hq_ 35 (hop_call0 (xs := [_]) (refBare_h l (by omega)) ⟨rfl, trivial⟩ ⟨(Fz.eq rfl), trivial⟩) rfl rfl pre0 rfl rfl ?_
    refine hq_ 33 (hop_move rfl) rfl rfl pre0 rfl rfl ?_
    refine hq_ 36 (hop_extract rfl rfl) rfl rfl pre0 rfl rfl ?_
    refine hq_ 37 (hop_extract rfl rfl) rfl rfl pre0 rfl rfl ?_
    refine hq_ 10 (hop_assign rfl) rfl rfl pre0 rfl rfl ?_
    refine hq_ 11 (hop_assign rfl) rfl rfl pre0 rfl rfl ?_
    refine hseq_nil ?_
    refine h8 _ ?_
    refine hw_seq (fun Nh9 h9 => ?_)
    refine hw_seq (fun Nh10 h10 => ?_)
    refine hw_region ?_
    refine hq_ 38 (hop_move rfl) rfl rfl pre0 rfl rfl ?_
    refine hq_ 39 (hop_move rfl) rfl rfl pre0 rfl rfl ?_
    refine hq_ 40 (hop_call0 (xs := [_]) (refHide_h b (by omega)) ⟨rfl, trivial⟩ ⟨(Fz.eq rfl), trivial⟩) rfl rfl pre0 rfl rfl ?_
    refine hq_ 41 (hop_sne_l rfl rfl) rfl rfl pre0 rfl rfl ?_
    refine hq_ 42 (hop_move rfl) rfl rfl pre0 rfl rfl ?_
    first
    | refine hq_g 43 4 42 false _ (fun hb => hop_move rfl) rfl rfl rfl rfl pre0 rfl rfl rfl ?_
    | refine hq_g2 43 4 42 _ _ false _ (fun hb => hop_move rfl) rfl rfl rfl rfl pre0 rfl rfl rfl ?_
    first
    | refine hq_g 44 4 42 false _ (fun hb => hop_neq rfl rfl) rfl rfl rfl rfl pre0 rfl rfl rfl ?_
    | refine hq_g2 44 4 42 _ _ false _ (fun hb => hop_neq rfl rfl) rfl rfl rfl rfl pre0 rfl rfl rfl ?_
    first
    | refine hq_p 45 (hstep_and _ _ rfl rfl rfl) rfl rfl rfl ?_
    | refine hq_p 45 (hstep_or _ _ rfl rfl rfl) rfl rfl rfl ?_
    | refine hq_p 45 (hstep_ite _ _ _ rfl rfl rfl) rfl rfl rfl ?_
    | refine hq_p 45 (hstep_pick _ _ _ _ rfl rfl rfl (fun _ => .refl _) (fun _ => .refl _)) rfl rfl rfl ?_
    refine hq_ 46 (hop_move rfl) rfl rfl pre0 rfl rfl ?_
    first
    | refine hq_g 47 8 46 false _ (fun hb => hop_move rfl) rfl rfl rfl rfl pre0 rfl rfl rfl ?_
    | refine hq_g2 47 8 46 _ _ false _ (fun hb => hop_move rfl) rfl rfl rfl rfl pre0 rfl rfl rfl ?_
    first
    | refine hq_g 48 8 46 false _ (fun hb => hop_conv_bs_sl (e := 5) ((bareV (hideL b)).getD [] ) (by kernel_rfl) (by kernel_rfl) (by kernel_rfl) rfl (by first | rfl | simp) (fun i hi => rfl)) rfl rfl rfl rfl pre0 rfl rfl rfl ?_
    | refine hq_g2 48 8 46 _ _ false _ (fun hb => hop_conv_bs_sl (e := 5) ((bareV (hideL b)).getD [] ) (by kernel_rfl) (by kernel_rfl) (by kernel_rfl) rfl (by first | rfl | simp) (fun i hi => rfl)) rfl rfl rfl rfl pre0 rfl rfl rfl ?_
    | refine hq_g 48 8 46 false _ (fun hb => hop_conv_bs_os (e := 5) ((bareV (hideL b)).getD [] ) (by kernel_rfl) (by kernel_rfl) (by kernel_rfl) rfl (by first | exact Nat.le_of_ble_eq_true rfl | (simp at hb; first | omega | (dsimp only; omega) | (simp <;> omega))) (by first | rfl | simp) (fun i hi => by rw [Nat.zero_add]; exact (fun i hi => rfl) i hi)) rfl rfl rfl rfl (pre1 rfl) rfl rfl rfl ?_
    | refine hq_g2 48 8 46 _ _ false _ (fun hb => hop_conv_bs_os (e := 5) ((bareV (hideL b)).getD [] ) (by kernel_rfl) (by kernel_rfl) (by kernel_rfl) rfl (by first | exact Nat.le_of_ble_eq_true rfl | (simp at hb; first | omega | (dsimp only; omega) | (simp <;> omega))) (by first | rfl | simp) (fun i hi => by rw [Nat.zero_add]; exact (fun i hi => rfl) i hi)) rfl rfl rfl rfl (pre1 rfl) rfl rfl rfl ?_
    first
    | refine hq_g 49 8 46 false _ (fun hb => hop_move rfl) rfl rfl rfl rfl pre0 rfl rfl rfl ?_
    | refine hq_g2 49 8 46 _ _ false _ (fun hb => hop_move rfl) rfl rfl rfl rfl pre0 rfl rfl rfl ?_
    first
    | refine hq_g 50 8 46 false _ (fun hb => hop_conv_bs_sl (e := 5) (b ) (by kernel_rfl) (by kernel_rfl) (by kernel_rfl) rfl (by first | rfl | simp) (fun i hi => rfl)) rfl rfl rfl rfl pre0 rfl rfl rfl ?_
    | refine hq_g2 50 8 46 _ _ false _ (fun hb => hop_conv_bs_sl (e := 5) (b ) (by kernel_rfl) (by kernel_rfl) (by kernel_rfl) rfl (by first | rfl | simp) (fun i hi => rfl)) rfl rfl rfl rfl pre0 rfl rfl rfl ?_
    | refine hq_g 50 8 46 false _ (fun hb => hop_conv_bs_os (e := 5) (b ) (by kernel_rfl) (by kernel_rfl) (by kernel_rfl) rfl (by first | exact Nat.le_of_ble_eq_true rfl | (simp at hb; first | omega | (dsimp only; omega) | (simp <;> omega))) (by first | rfl | simp) (fun i hi => by rw [Nat.zero_add]; exact (fun i hi => rfl) i hi)) rfl rfl rfl rfl (pre1 rfl) rfl rfl rfl ?_
    | refine hq_g2 50 8 46 _ _ false _ (fun hb => hop_conv_bs_os (e := 5) (b ) (by kernel_rfl) (by kernel_rfl) (by kernel_rfl) rfl (by first | exact Nat.le_of_ble_eq_true rfl | (simp at hb; first | omega | (dsimp only; omega) | (simp <;> omega))) (by first | rfl | simp) (fun i hi => by rw [Nat.zero_add]; exact (fun i hi => rfl) i hi)) rfl rfl rfl rfl (pre1 rfl) rfl rfl rfl ?_
    first
    | refine hq_g 51 8 46 false _ (fun hb => hop_sne_l rfl rfl) rfl rfl rfl rfl pre0 rfl rfl rfl ?_
    | refine hq_g2 51 8 46 _ _ false _ (fun hb => hop_sne_l rfl rfl) rfl rfl rfl rfl pre0 rfl rfl rfl ?_
    first
    | refine hq_p 52 (hstep_and _ _ rfl rfl rfl) rfl rfl rfl ?_
    | refine hq_p 52 (hstep_or _ _ rfl rfl rfl) rfl rfl rfl ?_
    | refine hq_p 52 (hstep_ite _ _ _ rfl rfl rfl) rfl rfl rfl ?_
    | refine hq_p 52 (hstep_pick _ _ _ _ rfl rfl rfl (fun _ => .refl _) (fun _ => .refl _)) rfl rfl rfl ?_
    refine hq_ 53 (hop_move rfl) rfl rfl pre0 rfl rfl ?_
    first
    | refine hq_g 54 15 53 false _ (fun hb => hop_move rfl) rfl rfl rfl rfl pre0 rfl rfl rfl ?_
    | refine hq_g2 54 15 53 _ _ false _ (fun hb => hop_move rfl) rfl rfl rfl rfl pre0 rfl rfl rfl ?_
    first
    | refine hq_g 55 15 53 false _ (fun hb => hop_conv_bs_sl (e := 5) ((bareV l).getD [] ) (by kernel_rfl) (by kernel_rfl) (by kernel_rfl) rfl (by first | rfl | simp) (fun i hi => rfl)) rfl rfl rfl rfl pre0 rfl rfl rfl ?_
    | refine hq_g2 55 15 53 _ _ false _ (fun hb => hop_conv_bs_sl (e := 5) ((bareV l).getD [] ) (by kernel_rfl) (by kernel_rfl) (by kernel_rfl) rfl (by first | rfl | simp) (fun i hi => rfl)) rfl rfl rfl rfl pre0 rfl rfl rfl ?_
    | refine hq_g 55 15 53 false _ (fun hb => hop_conv_bs_os (e := 5) ((bareV l).getD [] ) (by kernel_rfl) (by kernel_rfl) (by kernel_rfl) rfl (by first | exact Nat.le_of_ble_eq_true rfl | (simp at hb; first | omega | (dsimp only; omega) | (simp <;> omega))) (by first | rfl | simp) (fun i hi => by rw [Nat.zero_add]; exact (fun i hi => rfl) i hi)) rfl rfl rfl rfl (pre1 rfl) rfl rfl rfl ?_
    | refine hq_g2 55 15 53 _ _ false _ (fun hb => hop_conv_bs_os (e := 5) ((bareV l).getD [] ) (by kernel_rfl) (by kernel_rfl) (by kernel_rfl) rfl (by first | exact Nat.le_of_ble_eq_true rfl | (simp at hb; first | omega | (dsimp only; omega) | (simp <;> omega))) (by first | rfl | simp) (fun i hi => by rw [Nat.zero_add]; exact (fun i hi => rfl) i hi)) rfl rfl rfl rfl (pre1 rfl) rfl rfl rfl ?_
    first
    | refine hq_g 56 15 53 false _ (fun hb => hop_move rfl) rfl rfl rfl rfl pre0 rfl rfl rfl ?_
    | refine hq_g2 56 15 53 _ _ false _ (fun hb => hop_move rfl) rfl rfl rfl rfl pre0 rfl rfl rfl ?_
    first
    | refine hq_g 57 15 53 false _ (fun hb => hop_conv_bs_sl (e := 5) ((bareV l).getD [] ) (by kernel_rfl) (by kernel_rfl) (by kernel_rfl) rfl (by first | rfl | simp) (fun i hi => rfl)) rfl rfl rfl rfl pre0 rfl rfl rfl ?_
    | refine hq_g2 57 15 53 _ _ false _ (fun hb => hop_conv_bs_sl (e := 5) ((bareV l).getD [] ) (by kernel_rfl) (by kernel_rfl) (by kernel_rfl) rfl (by first | rfl | simp) (fun i hi => rfl)) rfl rfl rfl rfl pre0 rfl rfl rfl ?_
    | refine hq_g 57 15 53 false _ (fun hb => hop_conv_bs_os (e := 5) ((bareV l).getD [] ) (by kernel_rfl) (by kernel_rfl) (by kernel_rfl) rfl (by first | exact Nat.le_of_ble_eq_true rfl | (simp at hb; first | omega | (dsimp only; omega) | (simp <;> omega))) (by first | rfl | simp) (fun i hi => by rw [Nat.zero_add]; exact (fun i hi => rfl) i hi)) rfl rfl rfl rfl (pre1 rfl) rfl rfl rfl ?_
    | refine hq_g2 57 15 53 _ _ false _ (fun hb => hop_conv_bs_os (e := 5) ((bareV l).getD [] ) (by kernel_rfl) (by kernel_rfl) (by kernel_rfl) rfl (by first | exact Nat.le_of_ble_eq_true rfl | (simp at hb; first | omega | (dsimp only; omega) | (simp <;> omega))) (by first | rfl | simp) (fun i hi => by rw [Nat.zero_add]; exact (fun i hi => rfl) i hi)) rfl rfl rfl rfl (pre1 rfl) rfl rfl rfl ?_
    first
    | refine hq_g 58 15 53 false _ (fun hb => hop_sne_l rfl rfl) rfl rfl rfl rfl pre0 rfl rfl rfl ?_
    | refine hq_g2 58 15 53 _ _ false _ (fun hb => hop_sne_l rfl rfl) rfl rfl rfl rfl pre0 rfl rfl rfl ?_
    first
    | refine hq_p 59 (hstep_and _ _ rfl rfl rfl) rfl rfl rfl ?_
    | refine hq_p 59 (hstep_or _ _ rfl rfl rfl) rfl rfl rfl ?_
    | refine hq_p 59 (hstep_ite _ _ _ rfl rfl rfl) rfl rfl rfl ?_
    | refine hq_p 59 (hstep_pick _ _ _ _ rfl rfl rfl (fun _ => .refl _) (fun _ => .refl _)) rfl rfl rfl ?_
    refine hq_ 60 (hop_move rfl) rfl rfl pre0 rfl rfl ?_
    first
    | refine hq_g 61 22 60 false _ (fun hb => hop_move rfl) rfl rfl rfl rfl pre0 rfl rfl rfl ?_
    | refine hq_g2 61 22 60 _ _ false _ (fun hb => hop_move rfl) rfl rfl rfl rfl pre0 rfl rfl rfl ?_
    first
    | refine hq_g 62 22 60 false _ (fun hb => hop_move rfl) rfl rfl rfl rfl pre0 rfl rfl rfl ?_
    | refine hq_g2 62 22 60 _ _ false _ (fun hb => hop_move rfl) rfl rfl rfl rfl pre0 rfl rfl rfl ?_
    first
    | refine hq_g 63 22 60 false _ (fun hb => hop_neq rfl rfl) rfl rfl rfl rfl pre0 rfl rfl rfl ?_
    | refine hq_g2 63 22 60 _ _ false _ (fun hb => hop_neq rfl rfl) rfl rfl rfl rfl pre0 rfl rfl rfl ?_
    first
    | refine hq_p 64 (hstep_and _ _ rfl rfl rfl) rfl rfl rfl ?_
    | refine hq_p 64 (hstep_or _ _ rfl rfl rfl) rfl rfl rfl ?_
    | refine hq_p 64 (hstep_ite _ _ _ rfl rfl rfl) rfl rfl rfl ?_
    | refine hq_p 64 (hstep_pick _ _ _ _ rfl rfl rfl (fun _ => .refl _) (fun _ => .refl _)) rfl rfl rfl ?_
    refine hseq_nilU (by rfl) (by simp only [dropUn, slots]; exact rfl) ?_
    refine h10 _ ?_
    refine hw_cond _ rfl (fun hc1 => ?_) (fun hc1 => ?_)
    · have hr1 := hc1; (try simp only [decide_eq_true_eq, decide_eq_false_iff_not, Bool.and_eq_true, Bool.or_eq_true, Bool.not_eq_true', Bool.or_eq_false_iff, beq_iff_eq, bne_iff_ne, ne_eq, beq_eq_false_iff_ne, bne_eq_false_iff_eq, Bool.not_eq_true, Bool.not_eq_false, Bool.not_eq_false', Int.toNat_natCast, Int.reduceToNat] at hc1)
      exfalso; simp [hbb, hbs] at hr1
    · have hr1 := hc1; (try simp only [decide_eq_true_eq, decide_eq_false_iff_not, Bool.and_eq_true, Bool.or_eq_true, Bool.not_eq_true', Bool.or_eq_false_iff, beq_iff_eq, bne_iff_ne, ne_eq, beq_eq_false_iff_ne, bne_eq_false_iff_eq, Bool.not_eq_true, Bool.not_eq_false, Bool.not_eq_false', Int.toNat_natCast, Int.reduceToNat] at hc1)
      refine hw_skip ?_
      refine h9 _ ?_
      refine hw_seq (fun Nh11 h11 => ?_)
      refine hw_region ?_
      refine hq_ 65 (hop_move rfl) rfl rfl pre0 rfl rfl ?_
      refine hq_ 66 (hop_neq rfl rfl) rfl rfl pre0 rfl rfl ?_
      refine hq_ 67 (hop_move rfl) rfl rfl pre0 rfl rfl ?_
      first
      | refine hq_g 68 2 67 false _ (fun hb => hop_move rfl) rfl rfl rfl rfl pre0 rfl rfl rfl ?_
      | refine hq_g2 68 2 67 _ _ false _ (fun hb => hop_move rfl) rfl rfl rfl rfl pre0 rfl rfl rfl ?_
      first
      | refine hq_g 69 2 67 false _ (fun hb => hop_call0 (xs := [_]) (hide_h ((bareV l).getD []) (by omega)) ⟨rfl, trivial⟩ ⟨(Fz.eq rfl), trivial⟩) rfl rfl rfl rfl pre0 rfl rfl rfl ?_
      | refine hq_g2 69 2 67 _ _ false _ (fun hb => hop_call0 (xs := [_]) (hide_h ((bareV l).getD []) (by omega)) ⟨rfl, trivial⟩ ⟨(Fz.eq rfl), trivial⟩) rfl rfl rfl rfl pre0 rfl rfl rfl ?_
      first
      | refine hq_g 70 2 67 false _ (fun hb => hop_move rfl) rfl rfl rfl rfl pre0 rfl rfl rfl ?_
      | refine hq_g2 70 2 67 _ _ false _ (fun hb => hop_move rfl) rfl rfl rfl rfl pre0 rfl rfl rfl ?_
      first
      | refine hq_g 71 2 67 false _ (fun hb => hop_seq_l rfl rfl) rfl rfl rfl rfl pre0 rfl rfl rfl ?_
      | refine hq_g2 71 2 67 _ _ false _ (fun hb => hop_seq_l rfl rfl) rfl rfl rfl rfl pre0 rfl rfl rfl ?_
      first
      | refine hq_p 72 (hstep_and _ _ rfl rfl rfl) rfl rfl rfl ?_
      | refine hq_p 72 (hstep_or _ _ rfl rfl rfl) rfl rfl rfl ?_
      | refine hq_p 72 (hstep_ite _ _ _ rfl rfl rfl) rfl rfl rfl ?_
      | refine hq_p 72 (hstep_pick _ _ _ _ rfl rfl rfl (fun _ => .refl _) (fun _ => .refl _)) rfl rfl rfl ?_
      refine hq_ 73 (hop_move rfl) rfl rfl pre0 rfl rfl ?_
      first
      | refine hq_g 74 8 73 true _ (fun hb => hop_call0 (xs := []) (live_h) trivial trivial) rfl rfl rfl rfl pre0 rfl rfl rfl ?_
      | refine hq_g2 74 8 73 _ _ true _ (fun hb => hop_call0 (xs := []) (live_h) trivial trivial) rfl rfl rfl rfl pre0 rfl rfl rfl ?_
      first
      | refine hq_p 75 (hstep_and _ _ rfl rfl rfl) rfl rfl rfl ?_
      | refine hq_p 75 (hstep_or _ _ rfl rfl rfl) rfl rfl rfl ?_
      | refine hq_p 75 (hstep_ite _ _ _ rfl rfl rfl) rfl rfl rfl ?_
      | refine hq_p 75 (hstep_pick _ _ _ _ rfl rfl rfl (fun _ => .refl _) (fun _ => .refl _)) rfl rfl rfl ?_
      refine hq_ 4 (hop_assign rfl) rfl rfl pre0 rfl rfl ?_
      refine hseq_nilU (by rfl) (by simp only [dropUn, slots]; exact rfl) ?_
      refine h11 _ ?_
      refine hw_ret ?_
      refine hq_ret1 rfl (rval_tmp rfl) [] rfl pre0 ?_
      refine fz_bool ?_; cases h : bareV l with | none => rfl | some x => (have h2 := bareV_back h; simp [h2])
end Go.Proofs.YtijpdbjcmnpobaaDoor
