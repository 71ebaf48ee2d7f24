/-
  The law of signs' text.
-/
import Derived.Test.YtijpdbjcmnpobaaDoorLx11
namespace Go.Proofs.YtijpdbjcmnpobaaDoor
set_option linter.unusedSimpArgs false
set_option linter.unusedVariables false
set_option maxRecDepth 100000
open Go.RowKit

theorem take_succ_sg (l : List Sg) {i : Nat} (h : i < l.length) : l.take (i + 1) = l.take i ++ [l.getD i default] := by
  rw [List.take_add_one, List.getD_eq_getElem?_getD, List.getElem?_eq_getElem h]; rfl
theorem lexShows_h (l : List Sg) (hok : ∀ x ∈ l, I64 x.low ∧ I64 x.high) : HPure Tryd.prog 6 [sgsV l] (boolV true) := by
  refine hpure_of Tryd.func6 rfl (by kernel_rfl) _ _ _ rfl 42 rfl rfl (fun w F => ?_)
  refine hw_seq (fun Nh1 h1 => ?_)
  refine hw_region ?_
  refine hq_ 2 (hop_assign rfl) rfl rfl pre0 rfl rfl ?_
  refine hseq_nil ?_
  refine h1 _ ?_
  refine hw_seq (fun Nh2 h2 => ?_)
  refine hw_region ?_
  refine hq_ 3 (hop_assign rfl) rfl rfl pre0 rfl rfl ?_
  refine hseq_nil ?_
  refine h2 _ ?_
  refine hw_seq (fun Nh3 h3 => ?_)
  refine hw_seq (fun Nh4 h4 => ?_)
  refine hw_region ?_
  refine hq_ 4 (hop_assign rfl) rfl rfl pre0 rfl rfl ?_
  refine hseq_nil ?_
  refine h4 _ ?_
  refine hw_block ?_
  refine hw_own 3 3 5 41 ((sgsF [])) rfl (by decide) rfl (c' := 1) rfl ?_
  refine hw_loopc (α := Nat × Nat) (fun x c => ⟨42, [(0, .v (sgsV l)), (3, .v (.os 3 x.2 0 x.1)), (4, .v (intV x.1))], [(3, ⟨x.2, x.1, 5, 41, 0, sgsF (l.take x.1)⟩)], c⟩) (fun x => x.1 ≤ l.length ∧ x.1 ≤ 300 ∧ (∀ y ∈ l.take x.1, y.name.length ≤ 100)) (fun x => l.length - x.1) ((0, 0)) (by exact ⟨Nat.zero_le _, Nat.zero_le _, fun y h => by cases h⟩) (hsub_of rfl (Nat.le_refl _) (TmSub.cons rfl (Sb.refl _) (TmSub.cons rfl (Sb.refl _) (TmSub.cons rfl (Sb.refl _) TmSub.nil))) (HpSub.cons rfl (OSub.refl _) HpSub.nil)) (fun x c hx NhL5 hL5 => ?_)
  revert hx hL5; obtain ⟨i, g⟩ := x; intro hx hL5; dsimp only at hx hL5 ⊢
  obtain ⟨hi, hi3, hnm⟩ := hx
  refine hw_seq (fun Nh6 h6 => ?_)
  refine hw_seq (fun Nh7 h7 => ?_)
  refine hw_region ?_
  refine hq_ 5 (hop_move rfl) rfl rfl pre0 rfl rfl ?_
  refine hq_ 6 (hop_move rfl) rfl rfl pre0 rfl rfl ?_
  first
  | refine hq_ 7 (hop_len_sl (T := 36) rfl (elOf_spec el_36).1 rfl) rfl rfl pre0 rfl rfl ?_
  | refine hq_ 7 (hop_len_os (T := 36) rfl (elOf_spec el_36).1 rfl) rfl rfl pre0 rfl rfl ?_
  | refine hq_ 7 (hop_len_nil (T := 36) rfl (elOf_spec el_36).1 rfl) rfl rfl pre0 rfl rfl ?_
  refine hq_ 8 (hop_lss rfl rfl) rfl rfl pre0 rfl rfl ?_
  refine hq_ 9 (hop_move rfl) rfl rfl pre0 rfl rfl ?_
  first
  | refine hq_g 10 4 9 true _ (fun hb => hop_move rfl) rfl rfl rfl rfl pre0 rfl rfl rfl ?_
  | refine hq_g2 10 4 9 _ _ true _ (fun hb => hop_move rfl) rfl rfl rfl rfl pre0 rfl rfl rfl ?_
  first
  | refine hq_g 11 4 9 true _ (fun hb => hop_lss rfl rfl) rfl rfl rfl rfl pre0 rfl rfl rfl ?_
  | refine hq_g2 11 4 9 _ _ true _ (fun hb => hop_lss rfl rfl) rfl rfl rfl rfl pre0 rfl rfl rfl ?_
  first
  | refine hq_p 12 (hstep_and _ _ rfl rfl rfl) rfl rfl rfl ?_
  | refine hq_p 12 (hstep_or _ _ rfl rfl rfl) rfl rfl rfl ?_
  | refine hq_p 12 (hstep_ite _ _ _ rfl rfl rfl) rfl rfl rfl ?_
  | refine hq_p 12 (hstep_pick _ _ _ _ rfl rfl rfl (fun _ => .refl _) (fun _ => .refl _)) rfl rfl rfl ?_
  refine hseq_nilU (by rfl) (by simp only [dropUn, slots]; exact rfl) ?_
  refine h7 _ ?_
  refine hw_cond _ rfl (fun hc0 => ?_) (fun hc0 => ?_)
  · have hr0 := hc0; (try simp only [decide_eq_true_eq, decide_eq_false_iff_not, Bool.and_eq_true, Bool.or_eq_true, Bool.not_eq_true', Bool.or_eq_false_iff, beq_iff_eq, bne_iff_ne, ne_eq, beq_eq_false_iff_ne, bne_eq_false_iff_eq, Bool.not_eq_true, Bool.not_eq_false, Bool.not_eq_false', Int.toNat_natCast, Int.reduceToNat] at hc0)
    have hil : i < l.length := (by omega)
    refine hw_skip ?_
    refine h6 _ ?_
    refine hw_seq (fun Nh8 h8 => ?_)
    refine hw_block ?_
    refine hw_seq (fun Nh9 h9 => ?_)
    refine hw_seq (fun Nh10 h10 => ?_)
    refine hw_region ?_
    refine hq_ 15 (hop_move rfl) rfl rfl pre0 rfl rfl ?_
    refine hq_ 16 (hop_move rfl) rfl rfl pre0 rfl rfl ?_
    first
    | refine hq_ 17 (hop_ia_sl el_36 rfl rfl (by first | exact Nat.le_of_ble_eq_true rfl | omega | (dsimp only; omega) | (simp <;> omega)) (by first | exact Nat.le_of_ble_eq_true rfl | omega | (dsimp only; omega) | (simp <;> omega)) (by first | exact Nat.le_of_ble_eq_true rfl | omega | (dsimp only; omega) | (simp <;> omega))) rfl rfl pre0 rfl rfl ?_
    | refine hq_ 17 (hol_ia_os el_36 rfl rfl (by first | exact Nat.le_of_ble_eq_true rfl | omega | (dsimp only; omega) | (simp <;> omega)) (by first | exact Nat.le_of_ble_eq_true rfl | omega | (dsimp only; omega) | (simp <;> omega))) rfl rfl (pre1 rfl) rfl rfl ?_
    first
    | refine hq_ 18 (hop_fa fd_40_4 rfl) rfl rfl pre0 rfl rfl ?_
    | refine hq_ 18 (hop_fa_fp fd_40_4 rfl (by first | exact Nat.le_of_ble_eq_true rfl | omega | (dsimp only; omega) | (simp <;> omega))) rfl rfl pre0 rfl rfl ?_
    first
    | refine hq_ 19 (HOp.val (v' := strV (l.getD i default).name) (hol_load ty_9 rfl (by first | exact Nat.le_of_ble_eq_true rfl | omega | (dsimp only; omega) | (simp <;> omega)) (by first | exact Nat.le_of_ble_eq_true rfl | omega | (dsimp only; omega) | (simp <;> omega)) (fun h => by first | rfl | cases h)) (rfl)) rfl rfl (pre1 rfl) rfl rfl ?_
    | refine hq_ 19 (HOp.val (v' := strV (l.getD i default).name) (hop_load_fp ty_9 rfl (by first | exact Nat.le_of_ble_eq_true rfl | omega | (dsimp only; omega) | (simp <;> omega)) (fun h => by first | rfl | cases h)) (rfl)) rfl rfl pre0 rfl rfl ?_
    refine hq_ 20 (hop_len_strl (T := 9) rfl (by kernel_rfl) rfl) rfl rfl pre0 rfl rfl ?_
    refine hq_ 21 (hop_gtr rfl rfl) rfl rfl pre0 rfl rfl ?_
    refine hseq_nil ?_
    refine h10 _ ?_
    refine hw_cond _ rfl (fun hc1 => ?_) (fun hc1 => ?_)
    · have hr1 := hc1; (try simp only [decide_eq_true_eq, decide_eq_false_iff_not, Bool.and_eq_true, Bool.or_eq_true, Bool.not_eq_true', Bool.or_eq_false_iff, beq_iff_eq, bne_iff_ne, ne_eq, beq_eq_false_iff_ne, bne_eq_false_iff_eq, Bool.not_eq_true, Bool.not_eq_false, Bool.not_eq_false', Int.toNat_natCast, Int.reduceToNat] at hc1)
      refine hw_seq (fun Nh11 h11 => ?_)
      refine hw_region ?_
      refine hq_ 22 (hop_call0 (xs := []) (live_h05) trivial trivial) rfl rfl pre0 rfl rfl ?_
      refine hq_ 2 (hop_assign rfl) rfl rfl pre0 rfl rfl ?_
      refine hseq_nil ?_
      refine h11 _ ?_
      refine hw_ret ?_
      refine hq_then_ret ?_
      refine hq_block_ret ?_
      refine hq_then_ret ?_
      refine hq_then_ret ?_
      refine hq_block_ret ?_
      refine hq_then_ret ?_
      refine hq_ret1 rfl (rval_tmp rfl) [] rfl pre0 ?_
      exact .imm _
    · have hr1 := hc1; (try simp only [decide_eq_true_eq, decide_eq_false_iff_not, Bool.and_eq_true, Bool.or_eq_true, Bool.not_eq_true', Bool.or_eq_false_iff, beq_iff_eq, bne_iff_ne, ne_eq, beq_eq_false_iff_ne, bne_eq_false_iff_eq, Bool.not_eq_true, Bool.not_eq_false, Bool.not_eq_false', Int.toNat_natCast, Int.reduceToNat] at hc1)
      refine hw_skip ?_
      refine h9 _ ?_
      refine hw_region ?_
      refine hq_ 23 (hop_move rfl) rfl rfl pre0 rfl rfl ?_
      refine hq_ 24 (hop_move rfl) rfl rfl pre0 rfl rfl ?_
      refine hq_ 25 (hop_move rfl) rfl rfl pre0 rfl rfl ?_
      first
      | refine hq_ 26 (hop_ia_sl el_36 rfl rfl (by first | exact Nat.le_of_ble_eq_true rfl | omega | (dsimp only; omega) | (simp <;> omega)) (by first | exact Nat.le_of_ble_eq_true rfl | omega | (dsimp only; omega) | (simp <;> omega)) (by first | exact Nat.le_of_ble_eq_true rfl | omega | (dsimp only; omega) | (simp <;> omega))) rfl rfl pre0 rfl rfl ?_
      | refine hq_ 26 (hol_ia_os el_36 rfl rfl (by first | exact Nat.le_of_ble_eq_true rfl | omega | (dsimp only; omega) | (simp <;> omega)) (by first | exact Nat.le_of_ble_eq_true rfl | omega | (dsimp only; omega) | (simp <;> omega))) rfl rfl (pre1 rfl) rfl rfl ?_
      first
      | refine hq_ 27 (hol_load ty_40 rfl (by first | exact Nat.le_of_ble_eq_true rfl | omega | (dsimp only; omega) | (simp <;> omega)) (by first | exact Nat.le_of_ble_eq_true rfl | omega | (dsimp only; omega) | (simp <;> omega)) (fun h => by first | rfl | cases h)) rfl rfl (pre1 rfl) rfl rfl ?_
      | refine hq_ 27 (hop_load_fp ty_40 rfl (by first | exact Nat.le_of_ble_eq_true rfl | omega | (dsimp only; omega) | (simp <;> omega)) (fun h => by first | rfl | cases h)) rfl rfl pre0 rfl rfl ?_
      refine hm_1 28 (hop_buildSlice (id := 28) (hs := [_]) ei_33 (by first | exact Nat.le_of_ble_eq_true rfl | omega | (dsimp only; omega) | (simp <;> omega)) rfl (by first | exact Nat.le_of_ble_eq_true rfl | omega | (dsimp only; omega) | (simp <;> omega)) ⟨rfl, rfl, rfl, rfl, trivial⟩) rfl rfl pre0 rfl rfl (c' := c + 1) rfl ?_
      first
      | refine hm_1 29 (hol_append ei_33 (by first | exact Nat.le_of_ble_eq_true rfl | omega | (dsimp only; omega) | (simp <;> omega)) rfl (by first | exact Nat.le_of_ble_eq_true rfl | omega | (dsimp only; omega) | (simp <;> omega)) (by first | exact Nat.le_of_ble_eq_true rfl | omega | (dsimp only; omega) | (simp <;> omega)) (srl_os0 rfl (by first | exact Nat.le_of_ble_eq_true rfl | omega | (dsimp only; omega) | (simp <;> omega))) (by first | exact Nat.le_of_ble_eq_true rfl | omega | (dsimp only; omega) | (simp <;> omega)) rfl) rfl rfl (preC rfl (pre1 rfl)) rfl rfl (c' := c + 2) rfl ?_
      | refine hm_1 29 (hol_append ei_33 (by first | exact Nat.le_of_ble_eq_true rfl | omega | (dsimp only; omega) | (simp <;> omega)) rfl (by first | exact Nat.le_of_ble_eq_true rfl | omega | (dsimp only; omega) | (simp <;> omega)) (by first | exact Nat.le_of_ble_eq_true rfl | omega | (dsimp only; omega) | (simp <;> omega)) (srl_os rfl (by first | exact Nat.le_of_ble_eq_true rfl | omega | (dsimp only; omega) | (simp <;> omega))) (by first | exact Nat.le_of_ble_eq_true rfl | omega | (dsimp only; omega) | (simp <;> omega)) rfl) rfl rfl (preC rfl (pre1 rfl)) rfl rfl (c' := c + 2) rfl ?_
      | refine hm_1 29 (hol_append ei_33 (by first | exact Nat.le_of_ble_eq_true rfl | omega | (dsimp only; omega) | (simp <;> omega)) rfl (by first | exact Nat.le_of_ble_eq_true rfl | omega | (dsimp only; omega) | (simp <;> omega)) (by first | exact Nat.le_of_ble_eq_true rfl | omega | (dsimp only; omega) | (simp <;> omega)) (src_sl rfl) (by first | exact Nat.le_of_ble_eq_true rfl | omega | (dsimp only; omega) | (simp <;> omega)) rfl) rfl rfl (preC rfl pre0) rfl rfl (c' := c + 2) rfl ?_
      | refine hm_1 29 (hol_append ei_33 (by first | exact Nat.le_of_ble_eq_true rfl | omega | (dsimp only; omega) | (simp <;> omega)) rfl (by first | exact Nat.le_of_ble_eq_true rfl | omega | (dsimp only; omega) | (simp <;> omega)) (by first | exact Nat.le_of_ble_eq_true rfl | omega | (dsimp only; omega) | (simp <;> omega)) (src_nil 5 (fun _ _ => default) rfl) (by first | exact Nat.le_of_ble_eq_true rfl | omega | (dsimp only; omega) | (simp <;> omega)) rfl) rfl rfl (preC rfl pre0) rfl rfl (c' := c + 2) rfl ?_
      refine hq_ 3 (hop_assign rfl) rfl rfl pre0 rfl rfl ?_
      refine hseq_nil ?_
      refine hq_block ?_
      refine h8 _ ?_
      refine hw_region ?_
      refine hq_ 13 (hop_move rfl) rfl rfl pre0 rfl rfl ?_
      first
      | refine hq_ 14 (hop_addi rfl rfl rfl (by first | exact Nat.le_of_ble_eq_true rfl | omega | (dsimp only; omega) | (simp <;> omega)) (by first | exact Nat.le_of_ble_eq_true rfl | omega | (dsimp only; omega) | (simp <;> omega))) rfl rfl pre0 rfl rfl ?_
      | refine hq_ 14 (hop_add rfl rfl) rfl rfl pre0 rfl rfl ?_
      refine hq_ 4 (hop_assign rfl) rfl rfl pre0 rfl rfl ?_
      refine hseq_nil ?_
      exact hL5 ((i + 1, c + 1)) _ _ (by (try dsimp only); exact ⟨by omega, by omega, fun y h => by rw [take_succ_sg l hil] at h; rcases List.mem_append.1 h with h | h; exact hnm y h; simp only [List.mem_singleton] at h; subst h; omega⟩) (by (try dsimp only); omega) (hsub_of rfl (Nat.le_refl _) (TmSub.cons rfl (Sb.refl _) (TmSub.cons rfl (Sb.refl _) (TmSub.cons rfl (Sb.refl _) TmSub.nil))) (HpSub.cons rfl (OSub.of fun a j ha hj => by rw [take_succ_sg l hil]; exact sb_cat (l := l.take i) (k := [l.getD i default]) (enc := sgF) (d := default) (by rw [List.length_take]; omega) (fun i j _ _ => .refl _) (sb_one (x := l.getD i default) (enc := sgF) (d := default) (sb_sg (l.getD i default) (.refl _) (.refl _) (.refl _) (.refl _) (.refl _))) a j (by rw [List.length_append, List.length_take]; show a < min i l.length + 1; omega) hj) HpSub.nil))
  · have hr0 := hc0; (try simp only [decide_eq_true_eq, decide_eq_false_iff_not, Bool.and_eq_true, Bool.or_eq_true, Bool.not_eq_true', Bool.or_eq_false_iff, beq_iff_eq, bne_iff_ne, ne_eq, beq_eq_false_iff_ne, bne_eq_false_iff_eq, Bool.not_eq_true, Bool.not_eq_false, Bool.not_eq_false', Int.toNat_natCast, Int.reduceToNat] at hc0)
    have hex : ¬ ((i : Int) < l.length ∧ (i : Int) < 300) := (fun h => by have h2 := hr0; rw [decide_eq_true h.1, decide_eq_true h.2] at h2; cases h2)
    refine hw_exit ?_
    refine hq_then_exit ?_
    refine hq_then_exit ?_
    refine hq_block_here ?_
    refine h3 _ ?_
    refine hw_seq (fun Nh12 h12 => ?_)
    refine hw_seq (fun Nh13 h13 => ?_)
    refine hw_region ?_
    refine hq_ 30 (hop_move rfl) rfl rfl pre0 rfl rfl ?_
    first
    | refine hq_ 31 (hop_len_sl (T := 36) rfl (elOf_spec el_36).1 rfl) rfl rfl pre0 rfl rfl ?_
    | refine hq_ 31 (hop_len_os (T := 36) rfl (elOf_spec el_36).1 rfl) rfl rfl pre0 rfl rfl ?_
    | refine hq_ 31 (hop_len_nil (T := 36) rfl (elOf_spec el_36).1 rfl) rfl rfl pre0 rfl rfl ?_
    refine hq_ 32 (hop_gtr rfl rfl) rfl rfl pre0 rfl rfl ?_
    refine hseq_nil ?_
    refine h13 _ ?_
    refine hw_cond _ rfl (fun hc2 => ?_) (fun hc2 => ?_)
    · have hr2 := hc2; (try simp only [decide_eq_true_eq, decide_eq_false_iff_not, Bool.and_eq_true, Bool.or_eq_true, Bool.not_eq_true', Bool.or_eq_false_iff, beq_iff_eq, bne_iff_ne, ne_eq, beq_eq_false_iff_ne, bne_eq_false_iff_eq, Bool.not_eq_true, Bool.not_eq_false, Bool.not_eq_false', Int.toNat_natCast, Int.reduceToNat] at hc2)
      refine hw_seq (fun Nh14 h14 => ?_)
      refine hw_region ?_
      refine hq_ 33 (hop_call0 (xs := []) (live_h05) trivial trivial) rfl rfl pre0 rfl rfl ?_
      refine hq_ 2 (hop_assign rfl) rfl rfl pre0 rfl rfl ?_
      refine hseq_nil ?_
      refine h14 _ ?_
      refine hw_ret ?_
      refine hq_then_ret ?_
      refine hq_ret1 rfl (rval_tmp rfl) [] rfl pre0 ?_
      exact .imm _
    · have hr2 := hc2; (try simp only [decide_eq_true_eq, decide_eq_false_iff_not, Bool.and_eq_true, Bool.or_eq_true, Bool.not_eq_true', Bool.or_eq_false_iff, beq_iff_eq, bne_iff_ne, ne_eq, beq_eq_false_iff_ne, bne_eq_false_iff_eq, Bool.not_eq_true, Bool.not_eq_false, Bool.not_eq_false', Int.toNat_natCast, Int.reduceToNat] at hc2)
      refine hw_skip ?_
      refine h12 _ ?_
      refine hw_seq (fun Nh15 h15 => ?_)
      obtain rfl : i = l.length := (by omega); rw [List.take_length] at hnm ⊢; have hall : ∀ x ∈ l, SgOk x := (fun x h => ⟨hnm x h, (hok x h).1, (hok x h).2⟩)
      refine hw_region ?_
      refine hq_ 34 (hop_move rfl) rfl rfl pre0 rfl rfl ?_
      refine hm_ 35 (hop_call (xs := [_]) [(3, _)] (lexShow_h l (by omega) hall) ⟨rfl, trivial⟩ ⟨(fz_row (l := l) (enc := sgF) (d := default) (List.mem_cons_self ..) rfl rfl (Nat.le_refl _) (fun i j hi hj => sg_fz _ j)), trivial⟩ rfl) rfl rfl (preC rfl pre0) rfl rfl (c' := c + 1) rfl ?_
      refine hq_ 36 (hop_move rfl) rfl rfl pre0 rfl rfl ?_
      refine hq_ 37 (hop_call0 (xs := [_]) (refShowSg_h l (by omega) hall) ⟨rfl, trivial⟩ ⟨(Fz.eq rfl), trivial⟩) rfl rfl pre0 rfl rfl ?_
      refine hq_ 38 (hop_seq_l rfl rfl) rfl rfl pre0 rfl rfl ?_
      refine hq_ 39 (hop_move rfl) rfl rfl pre0 rfl rfl ?_
      first
      | refine hq_g 40 5 39 true _ (fun hb => hop_call0 (xs := []) (live_h05) trivial trivial) rfl rfl rfl rfl pre0 rfl rfl rfl ?_
      | refine hq_g2 40 5 39 _ _ true _ (fun hb => hop_call0 (xs := []) (live_h05) trivial trivial) rfl rfl rfl rfl pre0 rfl rfl rfl ?_
      first
      | refine hq_p 41 (hstep_and _ _ rfl rfl rfl) rfl rfl rfl ?_
      | refine hq_p 41 (hstep_or _ _ rfl rfl rfl) rfl rfl rfl ?_
      | refine hq_p 41 (hstep_ite _ _ _ rfl rfl rfl) rfl rfl rfl ?_
      | refine hq_p 41 (hstep_pick _ _ _ _ rfl rfl rfl (fun _ => .refl _) (fun _ => .refl _)) rfl rfl rfl ?_
      refine hq_ 2 (hop_assign rfl) rfl rfl pre0 rfl rfl ?_
      refine hseq_nilU (by rfl) (by simp only [dropUn, slots]; exact rfl) ?_
      refine h15 _ ?_
      refine hw_ret ?_
      refine hq_ret1 rfl (rval_tmp rfl) [] rfl pre0 ?_
      exact fz_bool (by simp)
end Go.Proofs.YtijpdbjcmnpobaaDoor
