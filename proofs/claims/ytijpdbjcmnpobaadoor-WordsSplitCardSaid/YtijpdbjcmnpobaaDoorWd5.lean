/-
  The document's lines; words joined; the laws WordsSplit and WordsLong.
-/
import Derived.Test.YtijpdbjcmnpobaaDoorWd4
namespace Go.Proofs.YtijpdbjcmnpobaaDoor
set_option linter.unusedSimpArgs false
set_option linter.unusedVariables false
set_option maxRecDepth 100000
open Go.RowKit

theorem refLines_h (l : List UInt8) (hl : l.length ≤ 10000) : HPure Tryd.prog 39 [strV l] (linesH (linesV l)) := by
  refine hpure_of Tryd.func39 rfl (by kernel_rfl) _ _ _ rfl 38 rfl rfl (fun w F => ?_)
  refine hw_seq (fun Nh1 h1 => ?_)
  refine hw_region ?_
  refine hq_ 2 (hop_assign rfl) rfl rfl pre0 rfl rfl ?_
  refine hq_ 3 (hop_assign rfl) rfl rfl pre0 rfl rfl ?_
  refine hq_ 4 (hop_assign rfl) rfl rfl pre0 rfl rfl ?_
  refine hseq_nil ?_
  refine h1 _ ?_
  refine hw_seq (fun Nh2 h2 => ?_)
  refine hw_seq (fun Nh3 h3 => ?_)
  refine hw_region ?_
  refine hq_ 8 (hop_move rfl) rfl rfl pre0 rfl rfl ?_
  refine hq_ 9 (hop_len_strl (T := 9) rfl (by kernel_rfl) rfl) rfl rfl pre0 rfl rfl ?_
  refine hq_ 10 (hop_gtr rfl rfl) rfl rfl pre0 rfl rfl ?_
  refine hseq_nil ?_
  refine h3 _ ?_
  refine hw_cond _ rfl (fun hc0 => ?_) (fun hc0 => ?_)
  · have hr0 := hc0; (try simp only [decide_eq_true_eq, decide_eq_false_iff_not, Bool.and_eq_true, Bool.or_eq_true, Bool.not_eq_true', Bool.or_eq_false_iff, beq_iff_eq, bne_iff_ne, ne_eq, beq_eq_false_iff_ne, bne_eq_false_iff_eq, Bool.not_eq_true, Bool.not_eq_false, Bool.not_eq_false', Int.toNat_natCast, Int.reduceToNat] at hc0)
    exfalso; omega
  · have hr0 := hc0; (try simp only [decide_eq_true_eq, decide_eq_false_iff_not, Bool.and_eq_true, Bool.or_eq_true, Bool.not_eq_true', Bool.or_eq_false_iff, beq_iff_eq, bne_iff_ne, ne_eq, beq_eq_false_iff_ne, bne_eq_false_iff_eq, Bool.not_eq_true, Bool.not_eq_false, Bool.not_eq_false', Int.toNat_natCast, Int.reduceToNat] at hc0)
    refine hw_skip ?_
    refine h2 _ ?_
    refine hw_seq (fun Nh4 h4 => ?_)
    refine hw_region ?_
    refine hq_ 5 (hop_assign rfl) rfl rfl pre0 rfl rfl ?_
    refine hseq_nil ?_
    refine h4 _ ?_
    refine hw_seq (fun Nh5 h5 => ?_)
    refine hw_region ?_
    refine hq_ 6 (hop_assign rfl) rfl rfl pre0 rfl rfl ?_
    refine hseq_nil ?_
    refine h5 _ ?_
    refine hw_seq (fun Nh6 h6 => ?_)
    refine hw_seq (fun Nh7 h7 => ?_)
    refine hw_region ?_
    refine hq_ 7 (hop_assign rfl) rfl rfl pre0 rfl rfl ?_
    refine hseq_nil ?_
    refine h7 _ ?_
    refine hw_block ?_
    refine hw_own 5 5 1 9 ((fun i j => strV (([] : List (List UInt8)).getD i []))) rfl (by decide) rfl (c' := 1) rfl ?_
    refine hw_loopc (α := Nat × List (List UInt8) × Nat × Nat × Nat) (fun x c => ⟨38, [(0, .v (strV l)), (6, .v (intV x.2.2.1)), (7, .v (intV x.1)), (5, .v (.os 5 x.2.2.2.2 0 x.2.2.2.1))], [(5, ⟨x.2.2.2.2, x.2.2.2.1, 1, 9, 0, fun i j => strV (x.2.1.getD i [])⟩)], c⟩) (fun x => splitL 10 l = x.2.1 ++ splitL 10 (l.drop x.2.2.1) ∧ x.2.2.2.1 = x.2.1.length ∧ x.1 ≤ l.length ∧ x.2.2.2.1 ≤ x.2.2.1 ∧ x.2.2.1 ≤ x.1 ∧ ∀ b ∈ (l.drop x.2.2.1).take (x.1 - x.2.2.1), b ≠ 10) (fun x => l.length - x.1) ((0, [], 0, 0, 0)) (by exact ⟨rfl, rfl, Nat.zero_le _, Nat.le_refl _, Nat.le_refl _, (fun b h => by simp at h)⟩) (hsub_of rfl (Nat.le_refl _) (TmSub.cons rfl (Sb.refl _) (TmSub.cons rfl (Sb.refl _) (TmSub.cons rfl (Sb.refl _) (TmSub.cons rfl (Sb.refl _) TmSub.nil)))) (HpSub.cons rfl (OSub.refl _) HpSub.nil)) (fun x c hx NhL8 hL8 => ?_)
    revert hx hL8; obtain ⟨p, out, f, n, g⟩ := x; intro hx hL8; dsimp only at hx hL8 ⊢
    obtain ⟨hL, hn, hp, hnf, hfp, hno⟩ := hx
    refine hw_seq (fun Nh9 h9 => ?_)
    refine hw_seq (fun Nh10 h10 => ?_)
    refine hw_region ?_
    refine hq_ 11 (hop_move rfl) rfl rfl pre0 rfl rfl ?_
    refine hq_ 12 (hop_move rfl) rfl rfl pre0 rfl rfl ?_
    refine hq_ 13 (hop_len_strl (T := 9) rfl (by kernel_rfl) rfl) rfl rfl pre0 rfl rfl ?_
    refine hq_ 14 (hop_lss rfl rfl) rfl rfl pre0 rfl rfl ?_
    refine hseq_nil ?_
    refine h10 _ ?_
    refine hw_cond _ rfl (fun hc1 => ?_) (fun hc1 => ?_)
    · have hr1 := hc1; (try simp only [decide_eq_true_eq, decide_eq_false_iff_not, Bool.and_eq_true, Bool.or_eq_true, Bool.not_eq_true', Bool.or_eq_false_iff, beq_iff_eq, bne_iff_ne, ne_eq, beq_eq_false_iff_ne, bne_eq_false_iff_eq, Bool.not_eq_true, Bool.not_eq_false, Bool.not_eq_false', Int.toNat_natCast, Int.reduceToNat] at hc1)
      refine hw_skip ?_
      refine h9 _ ?_
      refine hw_seq (fun Nh11 h11 => ?_)
      refine hw_block ?_
      refine hw_seq (fun Nh12 h12 => ?_)
      refine hw_region ?_
      refine hq_ 17 (hop_move rfl) rfl rfl pre0 rfl rfl ?_
      refine hq_ 18 (hop_move rfl) rfl rfl pre0 rfl rfl ?_
      refine hq_ 19 (hop_ix_strl (by kernel_rfl) rfl rfl (by first | exact Nat.le_of_ble_eq_true rfl | omega | (dsimp only; omega) | (simp <;> omega)) (by first | exact Nat.le_of_ble_eq_true rfl | omega | (dsimp only; omega) | (simp <;> omega))) rfl rfl pre0 rfl rfl ?_
      refine hq_ 20 (hop_eql rfl rfl) rfl rfl pre0 rfl rfl ?_
      refine hseq_nil ?_
      refine h12 _ ?_
      refine hw_cond _ rfl (fun hc2 => ?_) (fun hc2 => ?_)
      · have hr2 := hc2; (try simp only [decide_eq_true_eq, decide_eq_false_iff_not, Bool.and_eq_true, Bool.or_eq_true, Bool.not_eq_true', Bool.or_eq_false_iff, beq_iff_eq, bne_iff_ne, ne_eq, beq_eq_false_iff_ne, bne_eq_false_iff_eq, Bool.not_eq_true, Bool.not_eq_false, Bool.not_eq_false', Int.toNat_natCast, Int.reduceToNat] at hc2)
        have hb : l.getD p 0 = 10 := u8_ext (by show _ = 10; omega); have hst := lines_step hfp (by omega) hno hb; rw [hst] at hL
        refine hw_seq (fun Nh13 h13 => ?_)
        refine hw_region ?_
        refine hq_ 21 (hop_move rfl) rfl rfl pre0 rfl rfl ?_
        refine hq_ 22 (hop_move rfl) rfl rfl pre0 rfl rfl ?_
        refine hq_ 23 (hop_move rfl) rfl rfl pre0 rfl rfl ?_
        refine hq_ 24 (hop_move rfl) rfl rfl pre0 rfl rfl ?_
        refine hq_ 25 (HOp.val (v' := strV ((l.drop f).take (p - f))) (hop_cut_strl (by kernel_rfl) rfl (.inr ⟨_, _, rfl, rfl⟩) (.inr ⟨_, _, rfl, rfl⟩) (by first | exact Nat.le_of_ble_eq_true rfl | omega | (dsimp only; omega) | (simp <;> omega)) (by first | exact Nat.le_of_ble_eq_true rfl | omega | (dsimp only; omega) | (simp <;> omega)) (by first | exact Nat.le_of_ble_eq_true rfl | omega | (dsimp only; omega) | (simp <;> omega))) (rfl)) rfl rfl pre0 rfl rfl ?_
        refine hm_1 26 (hop_buildSlice (id := 26) (hs := [_]) ei_47 (by first | exact Nat.le_of_ble_eq_true rfl | omega | (dsimp only; omega) | (simp <;> omega)) rfl (by first | exact Nat.le_of_ble_eq_true rfl | omega | (dsimp only; omega) | (simp <;> omega)) ⟨rfl, rfl, rfl, rfl, trivial⟩) rfl rfl pre0 rfl rfl (c' := c + 1) rfl ?_
        first
        | refine hm_1 27 (hol_append ei_47 (by first | exact Nat.le_of_ble_eq_true rfl | omega | (dsimp only; omega) | (simp <;> omega)) rfl (by first | exact Nat.le_of_ble_eq_true rfl | omega | (dsimp only; omega) | (simp <;> omega)) (by first | exact Nat.le_of_ble_eq_true rfl | omega | (dsimp only; omega) | (simp <;> omega)) (srl_os0 rfl (by first | exact Nat.le_of_ble_eq_true rfl | omega | (dsimp only; omega) | (simp <;> omega))) (by first | exact Nat.le_of_ble_eq_true rfl | omega | (dsimp only; omega) | (simp <;> omega)) rfl) rfl rfl (preC rfl (pre1 rfl)) rfl rfl (c' := c + 2) rfl ?_
        | refine hm_1 27 (hol_append ei_47 (by first | exact Nat.le_of_ble_eq_true rfl | omega | (dsimp only; omega) | (simp <;> omega)) rfl (by first | exact Nat.le_of_ble_eq_true rfl | omega | (dsimp only; omega) | (simp <;> omega)) (by first | exact Nat.le_of_ble_eq_true rfl | omega | (dsimp only; omega) | (simp <;> omega)) (srl_os rfl (by first | exact Nat.le_of_ble_eq_true rfl | omega | (dsimp only; omega) | (simp <;> omega))) (by first | exact Nat.le_of_ble_eq_true rfl | omega | (dsimp only; omega) | (simp <;> omega)) rfl) rfl rfl (preC rfl (pre1 rfl)) rfl rfl (c' := c + 2) rfl ?_
        | refine hm_1 27 (hol_append ei_47 (by first | exact Nat.le_of_ble_eq_true rfl | omega | (dsimp only; omega) | (simp <;> omega)) rfl (by first | exact Nat.le_of_ble_eq_true rfl | omega | (dsimp only; omega) | (simp <;> omega)) (by first | exact Nat.le_of_ble_eq_true rfl | omega | (dsimp only; omega) | (simp <;> omega)) (src_sl rfl) (by first | exact Nat.le_of_ble_eq_true rfl | omega | (dsimp only; omega) | (simp <;> omega)) rfl) rfl rfl (preC rfl pre0) rfl rfl (c' := c + 2) rfl ?_
        | refine hm_1 27 (hol_append ei_47 (by first | exact Nat.le_of_ble_eq_true rfl | omega | (dsimp only; omega) | (simp <;> omega)) rfl (by first | exact Nat.le_of_ble_eq_true rfl | omega | (dsimp only; omega) | (simp <;> omega)) (by first | exact Nat.le_of_ble_eq_true rfl | omega | (dsimp only; omega) | (simp <;> omega)) (src_nil 1 (fun _ _ => default) rfl) (by first | exact Nat.le_of_ble_eq_true rfl | omega | (dsimp only; omega) | (simp <;> omega)) rfl) rfl rfl (preC rfl pre0) rfl rfl (c' := c + 2) rfl ?_
        refine hq_ 5 (hop_assign rfl) rfl rfl pre0 rfl rfl ?_
        refine hseq_nil ?_
        refine h13 _ ?_
        refine hw_region ?_
        refine hq_ 28 (hop_move rfl) rfl rfl pre0 rfl rfl ?_
        first
        | refine hq_ 29 (hop_addi rfl rfl rfl (by first | exact Nat.le_of_ble_eq_true rfl | omega | (dsimp only; omega) | (simp <;> omega)) (by first | exact Nat.le_of_ble_eq_true rfl | omega | (dsimp only; omega) | (simp <;> omega))) rfl rfl pre0 rfl rfl ?_
        | refine hq_ 29 (hop_add rfl rfl) rfl rfl pre0 rfl rfl ?_
        refine hq_ 6 (hop_assign rfl) rfl rfl pre0 rfl rfl ?_
        refine hseq_nil ?_
        refine hq_block ?_
        refine h11 _ ?_
        refine hw_region ?_
        refine hq_ 15 (hop_move rfl) rfl rfl pre0 rfl rfl ?_
        first
        | refine hq_ 16 (hop_addi rfl rfl rfl (by first | exact Nat.le_of_ble_eq_true rfl | omega | (dsimp only; omega) | (simp <;> omega)) (by first | exact Nat.le_of_ble_eq_true rfl | omega | (dsimp only; omega) | (simp <;> omega))) rfl rfl pre0 rfl rfl ?_
        | refine hq_ 16 (hop_add rfl rfl) rfl rfl pre0 rfl rfl ?_
        refine hq_ 7 (hop_assign rfl) rfl rfl pre0 rfl rfl ?_
        refine hseq_nil ?_
        exact hL8 ((p + 1, out ++ [(l.drop f).take (p - f)], p + 1, n + 1, _)) _ _ (by (try dsimp only); exact ⟨by rw [hL]; simp, by simp [hn], by omega, by omega, by omega, (fun b h => by simp at h)⟩) (by (try dsimp only); omega) (hsub_of rfl (Nat.le_refl _) (TmSub.cons rfl (Sb.refl _) (TmSub.cons rfl (Sb.refl _) (TmSub.cons rfl (Sb.refl _) (TmSub.cons rfl (Sb.refl _) TmSub.nil)))) (HpSub.cons rfl (OSub.of fun i j hi hj => sb_cat (l := out) (k := [(l.drop f).take (p - f)]) (enc := fun w _ => strV w) (d := []) hn (fun i j _ _ => .refl _) (sb_one (x := (l.drop f).take (p - f)) (enc := fun w _ => strV w) (d := []) (fun j hj => .refl _)) i j (by simp; omega) hj) HpSub.nil))
      · have hr2 := hc2; (try simp only [decide_eq_true_eq, decide_eq_false_iff_not, Bool.and_eq_true, Bool.or_eq_true, Bool.not_eq_true', Bool.or_eq_false_iff, beq_iff_eq, bne_iff_ne, ne_eq, beq_eq_false_iff_ne, bne_eq_false_iff_eq, Bool.not_eq_true, Bool.not_eq_false, Bool.not_eq_false', Int.toNat_natCast, Int.reduceToNat] at hc2)
        have hb : l.getD p 0 ≠ 10 := (fun h => hc2 (by rw [h]; rfl))
        refine hw_skip ?_
        refine hq_block ?_
        refine h11 _ ?_
        refine hw_region ?_
        refine hq_ 15 (hop_move rfl) rfl rfl pre0 rfl rfl ?_
        first
        | refine hq_ 16 (hop_addi rfl rfl rfl (by first | exact Nat.le_of_ble_eq_true rfl | omega | (dsimp only; omega) | (simp <;> omega)) (by first | exact Nat.le_of_ble_eq_true rfl | omega | (dsimp only; omega) | (simp <;> omega))) rfl rfl pre0 rfl rfl ?_
        | refine hq_ 16 (hop_add rfl rfl) rfl rfl pre0 rfl rfl ?_
        refine hq_ 7 (hop_assign rfl) rfl rfl pre0 rfl rfl ?_
        refine hseq_nil ?_
        exact hL8 ((p + 1, out, f, n, g)) _ _ (by (try dsimp only); exact ⟨hL, hn, by omega, hnf, by omega, lines_next hfp (by omega) hno hb⟩) (by (try dsimp only); omega) (hsub_of rfl (Nat.le_refl _) (TmSub.cons rfl (Sb.refl _) (TmSub.cons rfl (Sb.refl _) (TmSub.cons rfl (Sb.refl _) (TmSub.cons rfl (Sb.refl _) TmSub.nil)))) (HpSub.cons rfl (OSub.refl _) HpSub.nil))
    · have hr1 := hc1; (try simp only [decide_eq_true_eq, decide_eq_false_iff_not, Bool.and_eq_true, Bool.or_eq_true, Bool.not_eq_true', Bool.or_eq_false_iff, beq_iff_eq, bne_iff_ne, ne_eq, beq_eq_false_iff_ne, bne_eq_false_iff_eq, Bool.not_eq_true, Bool.not_eq_false, Bool.not_eq_false', Int.toNat_natCast, Int.reduceToNat] at hc1)
      refine hw_exit ?_
      refine hq_then_exit ?_
      refine hq_then_exit ?_
      refine hq_block_here ?_
      refine h6 _ ?_
      refine hw_seq (fun Nh14 h14 => ?_)
      refine hw_seq (fun Nh15 h15 => ?_)
      obtain rfl : p = l.length := (by omega); have hE := lines_end hL (fun b hb => hno b (by rw [List.take_of_length_le (by rw [List.length_drop]; exact Nat.le_refl _)]; exact hb))
      refine hw_region ?_
      refine hq_ 30 (hop_move rfl) rfl rfl pre0 rfl rfl ?_
      refine hq_ 31 (hop_move rfl) rfl rfl pre0 rfl rfl ?_
      refine hq_ 32 (hop_len_strl (T := 9) rfl (by kernel_rfl) rfl) rfl rfl pre0 rfl rfl ?_
      refine hq_ 33 (hop_lss rfl rfl) rfl rfl pre0 rfl rfl ?_
      refine hseq_nil ?_
      refine h15 _ ?_
      refine hw_cond _ rfl (fun hc3 => ?_) (fun hc3 => ?_)
      · have hr3 := hc3; (try simp only [decide_eq_true_eq, decide_eq_false_iff_not, Bool.and_eq_true, Bool.or_eq_true, Bool.not_eq_true', Bool.or_eq_false_iff, beq_iff_eq, bne_iff_ne, ne_eq, beq_eq_false_iff_ne, bne_eq_false_iff_eq, Bool.not_eq_true, Bool.not_eq_false, Bool.not_eq_false', Int.toNat_natCast, Int.reduceToNat] at hc3)
        refine hw_seq (fun Nh16 h16 => ?_)
        refine hw_region ?_
        refine hq_ 34 (hop_move rfl) rfl rfl pre0 rfl rfl ?_
        first
        | refine hq_ 35 (hop_len_sl (T := 47) rfl (elOf_spec el_47).1 rfl) rfl rfl pre0 rfl rfl ?_
        | refine hq_ 35 (hop_len_os (T := 47) rfl (elOf_spec el_47).1 rfl) rfl rfl pre0 rfl rfl ?_
        | refine hq_ 35 (hop_len_nil (T := 47) rfl (elOf_spec el_47).1 rfl) rfl rfl pre0 rfl rfl ?_
        first
        | refine hq_ 36 (hop_addi rfl rfl rfl (by first | exact Nat.le_of_ble_eq_true rfl | omega | (dsimp only; omega) | (simp <;> omega)) (by first | exact Nat.le_of_ble_eq_true rfl | omega | (dsimp only; omega) | (simp <;> omega))) rfl rfl pre0 rfl rfl ?_
        | refine hq_ 36 (hop_add rfl rfl) rfl rfl pre0 rfl rfl ?_
        refine hq_ 2 (hop_assign rfl) rfl rfl pre0 rfl rfl ?_
        refine hq_ 3 (hop_assign rfl) rfl rfl pre0 rfl rfl ?_
        refine hq_ 4 (hop_assign rfl) rfl rfl pre0 rfl rfl ?_
        refine hseq_nil ?_
        refine h16 _ ?_
        refine hw_ret ?_
        refine hq_then_ret ?_
        refine hq_ret3 rfl (rval_tmp rfl) (rval_tmp rfl) (rval_tmp rfl) [] rfl pre0 ?_
        have hne : l ≠ [] := (fun h => by rw [h] at hc3; simp only [List.length_nil] at hc3; omega); have e : linesV l = ([], out.length + 1, 2) := (by rw [linesV_of (by omega) hne hE, if_neg (fun h => by have := congrArg List.length h; rw [List.length_drop] at this; simp only [List.length_nil] at this; omega)]); rw [e]; exact fz_t3 (.nil 0 1 _ (by decide) none) (by rw [hn]; exact .imm _) (.imm _)
      · have hr3 := hc3; (try simp only [decide_eq_true_eq, decide_eq_false_iff_not, Bool.and_eq_true, Bool.or_eq_true, Bool.not_eq_true', Bool.or_eq_false_iff, beq_iff_eq, bne_iff_ne, ne_eq, beq_eq_false_iff_ne, bne_eq_false_iff_eq, Bool.not_eq_true, Bool.not_eq_false, Bool.not_eq_false', Int.toNat_natCast, Int.reduceToNat] at hc3)
        refine hw_skip ?_
        refine h14 _ ?_
        refine hw_seq (fun Nh17 h17 => ?_)
        refine hw_region ?_
        refine hq_ 37 (hop_move rfl) rfl rfl pre0 rfl rfl ?_
        refine hq_ 2 (hop_assign rfl) rfl rfl pre0 rfl rfl ?_
        refine hq_ 3 (hop_assign rfl) rfl rfl pre0 rfl rfl ?_
        refine hq_ 4 (hop_assign rfl) rfl rfl pre0 rfl rfl ?_
        refine hseq_nil ?_
        refine h17 _ ?_
        refine hw_ret ?_
        refine hq_ret3 rfl (rval_tmp rfl) (rval_tmp rfl) (rval_tmp rfl) [(5, _)] rfl (preC rfl pre0) ?_
        have e : linesV l = (out, 0, 0) := (by by_cases hne : l = []; (subst hne; have h0 : out = [] := (by simpa [splitL] using hE); rw [h0]; rfl); (rw [linesV_of (by omega) hne hE, if_pos (List.drop_eq_nil_of_le (by omega))])); rw [e]; exact fz_t3 (fz_row (l := out) (enc := fun w _ => strV w) (d := []) (List.mem_cons_self ..) rfl hn (Nat.le_refl _) (fun i j _ _ => .imm _)) (.imm _) (.imm _)
theorem strs_of {w : World} {E : Env} {v : Value} {ls : List (List UInt8)} (h : Rep w E v (strsV ls)) : ∃ A c, v = .slice A ls.length c ∧ ls.length ≤ c ∧ c ≤ maxLen ∧ Sl w w.heap.size 1 strC A ls := sl_of 1 strC (fun _ => rfl) (fun w _ => strV w) strF_imm [] ls h
theorem strC_flat : ∀ (ls : List (List UInt8)), ls.flatMap strC = ls.map (fun w => Value.string ⟨w.toArray⟩)
  | [] => rfl
  | a :: t => by rw [List.flatMap_cons, strC_flat t]; rfl
theorem join_h (ls : List (List UInt8)) (h1 : ls.length ≤ 1000000) (h2 : (joinL ls).length ≤ 1000000) : HPure Tryd.prog 71 [strsV ls, strV [32]] (strV (joinL ls)) := by
  refine ⟨⟨_, _, Tryd.func71, rfl, by kernel_rfl⟩, fun w F vs hF hr hw => ?_⟩
  obtain ⟨u, v, rfl, hu, hv⟩ := rep2 hr
  obtain ⟨A, c, rfl, hc, hm, hs⟩ := strs_of hu
  rw [hv.imm_inv]
  have hj : Lib.join ((ls.map (fun w : List UInt8 => (⟨w.toArray⟩ : ByteArray))).map (·.data.toList)) [32] = joinL ls := by
    rw [← lib_join, List.map_map]
    congr 1
    exact List.map_id _
  by_cases h0 : 0 < ls.length
  · obtain ⟨b, o, rfl, hlt⟩ := hs.addr h0 (by omega)
    have key := Tryd.strings_Join b o c (ls.map (fun w : List UInt8 => (⟨w.toArray⟩ : ByteArray))) ⟨#[32]⟩ w (fun j x hx => by
      rw [List.getElem?_map] at hx
      obtain ⟨y, hy, rfl⟩ := Option.map_eq_some_iff.1 hx
      have hj : j < ls.length := (List.getElem?_eq_some_iff.1 hy).1
      have := hs.cell1 hj
      rw [this]
      have e : ls[j] = y := (List.getElem?_eq_some_iff.1 hy).2
      rw [e]; rfl) hlt (by rw [List.length_map]; omega) (by rw [List.length_map]; exact hc) (by
      show (Lib.join _ [32]).length ≤ _
      rw [hj]; omega)
    rw [List.length_map] at key
    refine key.mono ?_
    rintro e w' ⟨rfl, hb⟩
    show PurePost w F _ (.returned (.string ⟨(Lib.join _ [32]).toArray⟩)) w'
    rw [hj]
    exact pure_imm hF hb
  · obtain rfl : ls = [] := List.eq_nil_of_length_eq_zero (by omega)
    refine (Tryd.strings_Join_none A c ⟨#[32]⟩ w).mono ?_
    rintro e w' ⟨rfl, rfl⟩
    exact pure_imm hF (Below.refl _ _)
theorem joinW_h (ls : List (List UInt8)) (u1 : ls.length ≤ 1000000) (u2 : (joinL ls).length ≤ 1000000) : HPure Tryd.prog 41 [strsV ls] (strV (joinL ls)) := by
  refine hpure_of Tryd.func41 rfl (by kernel_rfl) _ _ _ rfl 5 rfl rfl (fun w F => ?_)
  refine hw_seq (fun Nh1 h1 => ?_)
  refine hw_region ?_
  refine hq_ 2 (hop_assign rfl) rfl rfl pre0 rfl rfl ?_
  refine hseq_nil ?_
  refine h1 _ ?_
  refine hw_seq (fun Nh2 h2 => ?_)
  refine hw_region ?_
  refine hq_ 3 (hop_move rfl) rfl rfl pre0 rfl rfl ?_
  refine hq_ 4 (hop_call0 (xs := [_, _]) (join_h ls u1 u2) ⟨rfl, ⟨rfl, trivial⟩⟩ ⟨(Fz.eq rfl), ⟨(Fz.eq rfl), trivial⟩⟩) rfl rfl pre0 rfl rfl ?_
  refine hq_ 2 (hop_assign rfl) rfl rfl pre0 rfl rfl ?_
  refine hseq_nil ?_
  refine h2 _ ?_
  refine hw_ret ?_
  refine hq_ret1 rfl (rval_tmp rfl) [] rfl pre0 ?_
  exact Frz.fz
theorem wordsV_join {l : List UInt8} {ws : List (List UInt8)} (h : wordsV l = some ws) : joinL ws = l := by
  unfold wordsV at h
  by_cases h0 : l = []
  · rw [if_pos h0] at h; injection h with h; subst h; subst h0; rfl
  · rw [if_neg h0] at h
    split at h
    · injection h with h; subst h; exact join_split l
    · cases h
theorem wordsV_len {l : List UInt8} : ((wordsV l).getD []).length ≤ l.length + 1 := by
  have := splitL_len 32 l
  unfold wordsV
  split
  · simp
  · split
    · exact this
    · simp
theorem joinV_len {l : List UInt8} : (joinL ((wordsV l).getD [])).length ≤ l.length := by
  cases h : wordsV l with
  | none => simp [joinL]
  | some ws => simp only [Option.getD_some]; rw [wordsV_join h]; exact Nat.le_refl _
theorem linesV_len (l : List UInt8) : (linesV l).1.length ≤ l.length + 1 := by
  have := splitL_len 10 l
  unfold linesV
  split
  · simp
  · split
    · simp
    · split
      · simp only [List.length_dropLast]; omega
      · simp
theorem splitLaw_h (l : List UInt8) : HPure Tryd.prog 11 [strV l] (boolV true) := by
  have h1 := wordsV_len (l := l)
  have h2 := joinV_len (l := l)
  have h3 := linesV_len l
  refine hpure_of Tryd.func11 rfl (by kernel_rfl) _ _ _ rfl 75 rfl rfl (fun w F => ?_)
  refine hw_seq (fun Nh1 h1 => ?_)
  refine hw_region ?_
  refine hq_ 2 (hop_assign rfl) rfl rfl pre0 rfl rfl ?_
  refine hseq_nil ?_
  refine h1 _ ?_
  refine hw_seq (fun Nh2 h2 => ?_)
  refine hw_seq (fun Nh3 h3 => ?_)
  refine hw_region ?_
  refine hq_ 13 (hop_move rfl) rfl rfl pre0 rfl rfl ?_
  refine hq_ 14 (hop_len_strl (T := 9) rfl (by kernel_rfl) rfl) rfl rfl pre0 rfl rfl ?_
  refine hq_ 15 (hop_gtr rfl rfl) rfl rfl pre0 rfl rfl ?_
  refine hseq_nil ?_
  refine h3 _ ?_
  refine hw_cond _ rfl (fun hc0 => ?_) (fun hc0 => ?_)
  · have hr0 := hc0; (try simp only [decide_eq_true_eq, decide_eq_false_iff_not, Bool.and_eq_true, Bool.or_eq_true, Bool.not_eq_true', Bool.or_eq_false_iff, beq_iff_eq, bne_iff_ne, ne_eq, beq_eq_false_iff_ne, bne_eq_false_iff_eq, Bool.not_eq_true, Bool.not_eq_false, Bool.not_eq_false', Int.toNat_natCast, Int.reduceToNat] at hc0)
    refine hw_seq (fun Nh4 h4 => ?_)
    refine hw_region ?_
    refine hq_ 16 (hop_call0 (xs := []) (live_h) trivial trivial) rfl rfl pre0 rfl rfl ?_
    refine hq_ 2 (hop_assign rfl) rfl rfl pre0 rfl rfl ?_
    refine hseq_nil ?_
    refine h4 _ ?_
    refine hw_ret ?_
    refine hq_then_ret ?_
    refine hq_ret1 rfl (rval_tmp rfl) [] rfl pre0 ?_
    exact Frz.fz
  · have hr0 := hc0; (try simp only [decide_eq_true_eq, decide_eq_false_iff_not, Bool.and_eq_true, Bool.or_eq_true, Bool.not_eq_true', Bool.or_eq_false_iff, beq_iff_eq, bne_iff_ne, ne_eq, beq_eq_false_iff_ne, bne_eq_false_iff_eq, Bool.not_eq_true, Bool.not_eq_false, Bool.not_eq_false', Int.toNat_natCast, Int.reduceToNat] at hc0)
    refine hw_skip ?_
    refine h2 _ ?_
    refine hw_seq (fun Nh5 h5 => ?_)
    refine hw_region ?_
    refine hq_ 18 (hop_move rfl) rfl rfl pre0 rfl rfl ?_
    refine hq_ 19 (hop_call0 (xs := [_]) (split_w_h l (by omega)) ⟨rfl, trivial⟩ ⟨(Fz.eq rfl), trivial⟩) rfl rfl pre0 rfl rfl ?_
    refine hq_ 17 (hop_move rfl) rfl rfl pre0 rfl rfl ?_
    refine hq_ 20 (hop_extract rfl rfl) rfl rfl pre0 rfl rfl ?_
    refine hq_ 21 (hop_extract rfl rfl) rfl rfl pre0 rfl rfl ?_
    refine hq_ 3 (hop_assign rfl) rfl rfl pre0 rfl rfl ?_
    refine hq_ 4 (hop_assign rfl) rfl rfl pre0 rfl rfl ?_
    refine hseq_nil ?_
    refine h5 _ ?_
    refine hw_seq (fun Nh6 h6 => ?_)
    refine hw_region ?_
    refine hq_ 23 (hop_move rfl) rfl rfl pre0 rfl rfl ?_
    refine hq_ 24 (hop_call0 (xs := [_]) (refSplit_h l (by omega)) ⟨rfl, trivial⟩ ⟨(Fz.eq rfl), trivial⟩) rfl rfl pre0 rfl rfl ?_
    refine hq_ 22 (hop_move rfl) rfl rfl pre0 rfl rfl ?_
    refine hq_ 25 (hop_extract rfl rfl) rfl rfl pre0 rfl rfl ?_
    refine hq_ 26 (hop_extract rfl rfl) rfl rfl pre0 rfl rfl ?_
    refine hq_ 5 (hop_assign rfl) rfl rfl pre0 rfl rfl ?_
    refine hq_ 6 (hop_assign rfl) rfl rfl pre0 rfl rfl ?_
    refine hseq_nil ?_
    refine h6 _ ?_
    refine hw_seq (fun Nh7 h7 => ?_)
    refine hw_region ?_
    refine hq_ 28 (hop_move rfl) rfl rfl pre0 rfl rfl ?_
    refine hq_ 29 (hop_call0 (xs := [_]) (lines_h l (by omega)) ⟨rfl, trivial⟩ ⟨(Fz.eq rfl), trivial⟩) rfl rfl pre0 rfl rfl ?_
    refine hq_ 27 (hop_move rfl) rfl rfl pre0 rfl rfl ?_
    refine hq_ 30 (hop_extract rfl rfl) rfl rfl pre0 rfl rfl ?_
    refine hq_ 31 (hop_extract rfl rfl) rfl rfl pre0 rfl rfl ?_
    refine hq_ 32 (hop_extract rfl rfl) rfl rfl pre0 rfl rfl ?_
    refine hq_ 7 (hop_assign rfl) rfl rfl pre0 rfl rfl ?_
    refine hq_ 8 (hop_assign rfl) rfl rfl pre0 rfl rfl ?_
    refine hq_ 9 (hop_assign rfl) rfl rfl pre0 rfl rfl ?_
    refine hseq_nil ?_
    refine h7 _ ?_
    refine hw_seq (fun Nh8 h8 => ?_)
    refine hw_region ?_
    refine hq_ 34 (hop_move rfl) rfl rfl pre0 rfl rfl ?_
    refine hq_ 35 (hop_call0 (xs := [_]) (refLines_h l (by omega)) ⟨rfl, trivial⟩ ⟨(Fz.eq rfl), trivial⟩) rfl rfl pre0 rfl rfl ?_
    refine hq_ 33 (hop_move rfl) rfl rfl pre0 rfl rfl ?_
    refine hq_ 36 (hop_extract rfl rfl) rfl rfl pre0 rfl rfl ?_
    refine hq_ 37 (hop_extract rfl rfl) rfl rfl pre0 rfl rfl ?_
    refine hq_ 38 (hop_extract rfl rfl) rfl rfl pre0 rfl rfl ?_
    refine hq_ 10 (hop_assign rfl) rfl rfl pre0 rfl rfl ?_
    refine hq_ 11 (hop_assign rfl) rfl rfl pre0 rfl rfl ?_
    refine hq_ 12 (hop_assign rfl) rfl rfl pre0 rfl rfl ?_
    refine hseq_nil ?_
    refine h8 _ ?_
    refine hw_seq (fun Nh9 h9 => ?_)
    refine hw_seq (fun Nh10 h10 => ?_)
    refine hw_region ?_
    refine hq_ 39 (hop_move rfl) rfl rfl pre0 rfl rfl ?_
    refine hq_ 40 (hop_move rfl) rfl rfl pre0 rfl rfl ?_
    refine hq_ 41 (hop_call0 (xs := [_, _]) (same_h _ _ (by omega)) ⟨rfl, ⟨rfl, trivial⟩⟩ ⟨(Fz.eq rfl), ⟨(Fz.eq rfl), trivial⟩⟩) rfl rfl pre0 rfl rfl ?_
    refine hq_ 42 (hop_not rfl) rfl rfl pre0 rfl rfl ?_
    refine hq_ 43 (hop_move rfl) rfl rfl pre0 rfl rfl ?_
    first
    | refine hq_g 44 4 43 false _ (fun hb => hop_move rfl) rfl rfl rfl rfl pre0 rfl rfl rfl ?_
    | refine hq_g2 44 4 43 _ _ false _ (fun hb => hop_move rfl) rfl rfl rfl rfl pre0 rfl rfl rfl ?_
    first
    | refine hq_g 45 4 43 false _ (fun hb => hop_move rfl) rfl rfl rfl rfl pre0 rfl rfl rfl ?_
    | refine hq_g2 45 4 43 _ _ false _ (fun hb => hop_move rfl) rfl rfl rfl rfl pre0 rfl rfl rfl ?_
    first
    | refine hq_g 46 4 43 false _ (fun hb => hop_neq rfl rfl) rfl rfl rfl rfl pre0 rfl rfl rfl ?_
    | refine hq_g2 46 4 43 _ _ false _ (fun hb => hop_neq rfl rfl) rfl rfl rfl rfl pre0 rfl rfl rfl ?_
    first
    | refine hq_p 47 (hstep_and _ _ rfl rfl rfl) rfl rfl rfl ?_
    | refine hq_p 47 (hstep_or _ _ rfl rfl rfl) rfl rfl rfl ?_
    | refine hq_p 47 (hstep_ite _ _ _ rfl rfl rfl) rfl rfl rfl ?_
    | refine hq_p 47 (hstep_pick _ _ _ _ rfl rfl rfl (fun _ => .refl _) (fun _ => .refl _)) rfl rfl rfl ?_
    refine hq_ 48 (hop_move rfl) rfl rfl pre0 rfl rfl ?_
    first
    | refine hq_g 49 9 48 false _ (fun hb => hop_move rfl) rfl rfl rfl rfl pre0 rfl rfl rfl ?_
    | refine hq_g2 49 9 48 _ _ false _ (fun hb => hop_move rfl) rfl rfl rfl rfl pre0 rfl rfl rfl ?_
    first
    | refine hq_g 50 9 48 false _ (fun hb => hop_move rfl) rfl rfl rfl rfl pre0 rfl rfl rfl ?_
    | refine hq_g2 50 9 48 _ _ false _ (fun hb => hop_move rfl) rfl rfl rfl rfl pre0 rfl rfl rfl ?_
    first
    | refine hq_g 51 9 48 false _ (fun hb => hop_call0 (xs := [_, _]) (same_h _ _ (by omega)) ⟨rfl, ⟨rfl, trivial⟩⟩ ⟨(Fz.eq rfl), ⟨(Fz.eq rfl), trivial⟩⟩) rfl rfl rfl rfl pre0 rfl rfl rfl ?_
    | refine hq_g2 51 9 48 _ _ false _ (fun hb => hop_call0 (xs := [_, _]) (same_h _ _ (by omega)) ⟨rfl, ⟨rfl, trivial⟩⟩ ⟨(Fz.eq rfl), ⟨(Fz.eq rfl), trivial⟩⟩) rfl rfl rfl rfl pre0 rfl rfl rfl ?_
    first
    | refine hq_g 52 9 48 false _ (fun hb => hop_not rfl) rfl rfl rfl rfl pre0 rfl rfl rfl ?_
    | refine hq_g2 52 9 48 _ _ false _ (fun hb => hop_not rfl) rfl rfl rfl rfl pre0 rfl rfl rfl ?_
    first
    | refine hq_p 53 (hstep_and _ _ rfl rfl rfl) rfl rfl rfl ?_
    | refine hq_p 53 (hstep_or _ _ rfl rfl rfl) rfl rfl rfl ?_
    | refine hq_p 53 (hstep_ite _ _ _ rfl rfl rfl) rfl rfl rfl ?_
    | refine hq_p 53 (hstep_pick _ _ _ _ rfl rfl rfl (fun _ => .refl _) (fun _ => .refl _)) rfl rfl rfl ?_
    refine hq_ 54 (hop_move rfl) rfl rfl pre0 rfl rfl ?_
    first
    | refine hq_g 55 15 54 false _ (fun hb => hop_move rfl) rfl rfl rfl rfl pre0 rfl rfl rfl ?_
    | refine hq_g2 55 15 54 _ _ false _ (fun hb => hop_move rfl) rfl rfl rfl rfl pre0 rfl rfl rfl ?_
    first
    | refine hq_g 56 15 54 false _ (fun hb => hop_move rfl) rfl rfl rfl rfl pre0 rfl rfl rfl ?_
    | refine hq_g2 56 15 54 _ _ false _ (fun hb => hop_move rfl) rfl rfl rfl rfl pre0 rfl rfl rfl ?_
    first
    | refine hq_g 57 15 54 false _ (fun hb => hop_neq rfl rfl) rfl rfl rfl rfl pre0 rfl rfl rfl ?_
    | refine hq_g2 57 15 54 _ _ false _ (fun hb => hop_neq rfl rfl) rfl rfl rfl rfl pre0 rfl rfl rfl ?_
    first
    | refine hq_p 58 (hstep_and _ _ rfl rfl rfl) rfl rfl rfl ?_
    | refine hq_p 58 (hstep_or _ _ rfl rfl rfl) rfl rfl rfl ?_
    | refine hq_p 58 (hstep_ite _ _ _ rfl rfl rfl) rfl rfl rfl ?_
    | refine hq_p 58 (hstep_pick _ _ _ _ rfl rfl rfl (fun _ => .refl _) (fun _ => .refl _)) rfl rfl rfl ?_
    refine hq_ 59 (hop_move rfl) rfl rfl pre0 rfl rfl ?_
    first
    | refine hq_g 60 20 59 false _ (fun hb => hop_move rfl) rfl rfl rfl rfl pre0 rfl rfl rfl ?_
    | refine hq_g2 60 20 59 _ _ false _ (fun hb => hop_move rfl) rfl rfl rfl rfl pre0 rfl rfl rfl ?_
    first
    | refine hq_g 61 20 59 false _ (fun hb => hop_move rfl) rfl rfl rfl rfl pre0 rfl rfl rfl ?_
    | refine hq_g2 61 20 59 _ _ false _ (fun hb => hop_move rfl) rfl rfl rfl rfl pre0 rfl rfl rfl ?_
    first
    | refine hq_g 62 20 59 false _ (fun hb => hop_neq rfl rfl) rfl rfl rfl rfl pre0 rfl rfl rfl ?_
    | refine hq_g2 62 20 59 _ _ false _ (fun hb => hop_neq rfl rfl) rfl rfl rfl rfl pre0 rfl rfl rfl ?_
    first
    | refine hq_p 63 (hstep_and _ _ rfl rfl rfl) rfl rfl rfl ?_
    | refine hq_p 63 (hstep_or _ _ rfl rfl rfl) rfl rfl rfl ?_
    | refine hq_p 63 (hstep_ite _ _ _ rfl rfl rfl) rfl rfl rfl ?_
    | refine hq_p 63 (hstep_pick _ _ _ _ rfl rfl rfl (fun _ => .refl _) (fun _ => .refl _)) rfl rfl rfl ?_
    refine hseq_nilU (by rfl) (by simp only [dropUn, slots]; exact rfl) ?_
    refine h10 _ ?_
    refine hw_cond _ rfl (fun hc1 => ?_) (fun hc1 => ?_)
    · have hr1 := hc1; (try simp only [decide_eq_true_eq, decide_eq_false_iff_not, Bool.and_eq_true, Bool.or_eq_true, Bool.not_eq_true', Bool.or_eq_false_iff, beq_iff_eq, bne_iff_ne, ne_eq, beq_eq_false_iff_ne, bne_eq_false_iff_eq, Bool.not_eq_true, Bool.not_eq_false, Bool.not_eq_false', Int.toNat_natCast, Int.reduceToNat] at hc1)
      exfalso; simp at hr1
    · have hr1 := hc1; (try simp only [decide_eq_true_eq, decide_eq_false_iff_not, Bool.and_eq_true, Bool.or_eq_true, Bool.not_eq_true', Bool.or_eq_false_iff, beq_iff_eq, bne_iff_ne, ne_eq, beq_eq_false_iff_ne, bne_eq_false_iff_eq, Bool.not_eq_true, Bool.not_eq_false, Bool.not_eq_false', Int.toNat_natCast, Int.reduceToNat] at hc1)
      refine hw_skip ?_
      refine h9 _ ?_
      refine hw_seq (fun Nh11 h11 => ?_)
      refine hw_region ?_
      refine hq_ 64 (hop_move rfl) rfl rfl pre0 rfl rfl ?_
      refine hq_ 65 (hop_neq rfl rfl) rfl rfl pre0 rfl rfl ?_
      refine hq_ 66 (hop_move rfl) rfl rfl pre0 rfl rfl ?_
      first
      | refine hq_g 67 2 66 false _ (fun hb => hop_move rfl) rfl rfl rfl rfl pre0 rfl rfl rfl ?_
      | refine hq_g2 67 2 66 _ _ false _ (fun hb => hop_move rfl) rfl rfl rfl rfl pre0 rfl rfl rfl ?_
      first
      | refine hq_g 68 2 66 false _ (fun hb => hop_call0 (xs := [_]) (joinW_h ((wordsV l).getD []) (by omega) (by omega)) ⟨rfl, trivial⟩ ⟨(Fz.eq rfl), trivial⟩) rfl rfl rfl rfl pre0 rfl rfl rfl ?_
      | refine hq_g2 68 2 66 _ _ false _ (fun hb => hop_call0 (xs := [_]) (joinW_h ((wordsV l).getD []) (by omega) (by omega)) ⟨rfl, trivial⟩ ⟨(Fz.eq rfl), trivial⟩) rfl rfl rfl rfl pre0 rfl rfl rfl ?_
      first
      | refine hq_g 69 2 66 false _ (fun hb => hop_move rfl) rfl rfl rfl rfl pre0 rfl rfl rfl ?_
      | refine hq_g2 69 2 66 _ _ false _ (fun hb => hop_move rfl) rfl rfl rfl rfl pre0 rfl rfl rfl ?_
      first
      | refine hq_g 70 2 66 false _ (fun hb => hop_seq_l rfl rfl) rfl rfl rfl rfl pre0 rfl rfl rfl ?_
      | refine hq_g2 70 2 66 _ _ false _ (fun hb => hop_seq_l rfl rfl) rfl rfl rfl rfl pre0 rfl rfl rfl ?_
      first
      | refine hq_p 71 (hstep_and _ _ rfl rfl rfl) rfl rfl rfl ?_
      | refine hq_p 71 (hstep_or _ _ rfl rfl rfl) rfl rfl rfl ?_
      | refine hq_p 71 (hstep_ite _ _ _ rfl rfl rfl) rfl rfl rfl ?_
      | refine hq_p 71 (hstep_pick _ _ _ _ rfl rfl rfl (fun _ => .refl _) (fun _ => .refl _)) rfl rfl rfl ?_
      refine hq_ 72 (hop_move rfl) rfl rfl pre0 rfl rfl ?_
      first
      | refine hq_g 73 8 72 true _ (fun hb => hop_call0 (xs := []) (live_h) trivial trivial) rfl rfl rfl rfl pre0 rfl rfl rfl ?_
      | refine hq_g2 73 8 72 _ _ true _ (fun hb => hop_call0 (xs := []) (live_h) trivial trivial) rfl rfl rfl rfl pre0 rfl rfl rfl ?_
      first
      | refine hq_p 74 (hstep_and _ _ rfl rfl rfl) rfl rfl rfl ?_
      | refine hq_p 74 (hstep_or _ _ rfl rfl rfl) rfl rfl rfl ?_
      | refine hq_p 74 (hstep_ite _ _ _ rfl rfl rfl) rfl rfl rfl ?_
      | refine hq_p 74 (hstep_pick _ _ _ _ rfl rfl rfl (fun _ => .refl _) (fun _ => .refl _)) rfl rfl rfl ?_
      refine hq_ 2 (hop_assign rfl) rfl rfl pre0 rfl rfl ?_
      refine hseq_nilU (by rfl) (by simp only [dropUn, slots]; exact rfl) ?_
      refine h11 _ ?_
      refine hw_ret ?_
      refine hq_ret1 rfl (rval_tmp rfl) [] rfl pre0 ?_
      refine fz_bool ?_; cases h : wordsV l with | none => rfl | some x => (have h5 := wordsV_join h; simp [h5])
theorem lines_zero (n : Nat) : linesV (List.replicate n 0) = if 65536 < n then ([], 0, 4) else if n = 0 then ([], 0, 0) else ([], 1, 2) := by
  by_cases h0 : 65536 < n
  · unfold linesV; rw [if_pos (by simpa using h0), if_pos h0]
  · rw [if_neg h0]
    cases n with
    | zero => rfl
    | succ n =>
      have hs : splitL 10 (List.replicate (n + 1) 0) = [] ++ [List.replicate (n + 1) 0] := splitL_none 10 _ (fun b hb => by rw [List.mem_replicate] at hb; rw [hb.2]; decide)
      rw [linesV_of (by simpa using h0) (by simp) hs, if_neg (by simp), if_neg (by omega)]
      rfl
theorem rep_zero {n i : Nat} (h : i < n) : (List.replicate n (0 : UInt8)).getD i 0 = 0 := by rw [List.getD_eq_getElem?_getD, List.getElem?_replicate, if_pos h]; rfl
theorem longLaw_h (a : Nat) : HPure Tryd.prog 8 [.imm (.int .u32 (a : Int))] (boolV true) := by
  have hz := lines_zero (a % 70000)
  refine hpure_of Tryd.func8 rfl (by kernel_rfl) _ _ _ rfl 51 rfl rfl (fun w F => ?_)
  refine hw_seq (fun Nh1 h1 => ?_)
  refine hw_region ?_
  refine hq_ 2 (hop_assign rfl) rfl rfl pre0 rfl rfl ?_
  refine hseq_nil ?_
  refine h1 _ ?_
  refine hw_seq (fun Nh2 h2 => ?_)
  refine hw_region ?_
  refine hq_ 8 (hop_move rfl) rfl rfl pre0 rfl rfl ?_
  first
  | refine hq_ 9 (HOp.val (v' := .imm (.int .u32 ((a % 70000 : Nat) : Int))) (hop_remk rfl rfl rfl (by first | exact Nat.le_of_ble_eq_true rfl | omega | (dsimp only; omega) | (simp <;> omega)) (by first | exact Nat.le_of_ble_eq_true rfl | omega | (dsimp only; omega) | (simp <;> omega))) (congrArg (fun x => HV.imm (.int .u32 x)) (by omega))) rfl rfl pre0 rfl rfl ?_
  | refine hq_ 9 (HOp.val (v' := .imm (.int .u32 ((a % 70000 : Nat) : Int))) (hop_rem rfl rfl (by first | decide | omega)) (congrArg (fun x => HV.imm (.int .u32 x)) (by omega))) rfl rfl pre0 rfl rfl ?_
  first
  | refine hq_ 10 (hop_convk wok_i64 (by kernel_rfl) (by kernel_rfl) rfl (by first | exact Nat.le_of_ble_eq_true rfl | omega | (dsimp only; omega) | (simp <;> omega)) (by first | exact Nat.le_of_ble_eq_true rfl | omega | (dsimp only; omega) | (simp <;> omega))) rfl rfl pre0 rfl rfl ?_
  | refine hq_ 10 (hop_conv (k' := .i64) (by kernel_rfl) (by kernel_rfl) rfl) rfl rfl pre0 rfl rfl ?_
  refine hq_ 3 (hop_assign rfl) rfl rfl pre0 rfl rfl ?_
  refine hseq_nil ?_
  refine h2 _ ?_
  refine hw_seq (fun Nh3 h3 => ?_)
  refine hw_region ?_
  refine hq_ 11 (hop_move rfl) rfl rfl pre0 rfl rfl ?_
  refine hm_1 12 (hop_make (id := 12) (n := _) (m := _) ei_27 (by first | exact Nat.le_of_ble_eq_true rfl | omega | (dsimp only; omega) | (simp <;> omega)) (by first | exact Nat.le_of_ble_eq_true rfl | omega | (dsimp only; omega) | (simp <;> omega)) rfl rfl rfl rfl (by first | exact Nat.le_of_ble_eq_true rfl | omega | (dsimp only; omega) | (simp <;> omega)) (by first | exact Nat.le_of_ble_eq_true rfl | omega | (dsimp only; omega) | (simp <;> omega)) (by first | exact Nat.le_of_ble_eq_true rfl | omega | (dsimp only; omega) | (simp <;> omega)) rfl) rfl rfl pre0 rfl rfl (c' := 1) rfl ?_
  first
  | refine hq_ 13 (hop_conv_bs_sl (e := 5) (List.replicate (a % 70000) 0 ) (by kernel_rfl) (by kernel_rfl) (by kernel_rfl) rfl (by first | rfl | simp) (fun i hi => by rw [rep_zero hi]; rfl)) rfl rfl pre0 rfl rfl ?_
  | refine hq_ 13 (hop_conv_bs_os (e := 5) (List.replicate (a % 70000) 0 ) (by kernel_rfl) (by kernel_rfl) (by kernel_rfl) rfl (by first | exact Nat.le_of_ble_eq_true rfl | omega | (dsimp only; omega) | (simp <;> omega)) (by first | rfl | simp) (fun i hi => by (try rw [Nat.zero_add]); rw [rep_zero hi]; rfl)) rfl rfl (pre1 rfl) rfl rfl ?_
  refine hq_ 4 (hop_assign rfl) rfl rfl pre0 rfl rfl ?_
  refine hseq_nil ?_
  refine h3 _ ?_
  refine hw_seq (fun Nh4 h4 => ?_)
  refine hw_region ?_
  refine hq_ 15 (hop_move rfl) rfl rfl pre0 rfl rfl ?_
  refine hq_ 16 (hop_call0 (xs := [_]) (lines_h (List.replicate (a % 70000) 0) (by simp; omega)) ⟨rfl, trivial⟩ ⟨(Fz.eq rfl), trivial⟩) rfl rfl pre0 rfl rfl ?_
  refine hq_ 14 (hop_move rfl) rfl rfl pre0 rfl rfl ?_
  refine hq_ 17 (hop_extract rfl rfl) rfl rfl pre0 rfl rfl ?_
  refine hq_ 18 (hop_extract rfl rfl) rfl rfl pre0 rfl rfl ?_
  refine hq_ 19 (hop_extract rfl rfl) rfl rfl pre0 rfl rfl ?_
  refine hq_ 5 (hop_assign rfl) rfl rfl pre0 rfl rfl ?_
  refine hq_ 6 (hop_assign rfl) rfl rfl pre0 rfl rfl ?_
  refine hq_ 7 (hop_assign rfl) rfl rfl pre0 rfl rfl ?_
  refine hseq_nil ?_
  refine h4 _ ?_
  refine hw_seq (fun Nh5 h5 => ?_)
  refine hw_seq (fun Nh6 h6 => ?_)
  refine hw_region ?_
  refine hq_ 20 (hop_move rfl) rfl rfl pre0 rfl rfl ?_
  refine hq_ 21 (hop_gtr rfl rfl) rfl rfl pre0 rfl rfl ?_
  refine hseq_nil ?_
  refine h6 _ ?_
  refine hw_cond _ rfl (fun hc0 => ?_) (fun hc0 => ?_)
  · have hr0 := hc0; (try simp only [decide_eq_true_eq, decide_eq_false_iff_not, Bool.and_eq_true, Bool.or_eq_true, Bool.not_eq_true', Bool.or_eq_false_iff, beq_iff_eq, bne_iff_ne, ne_eq, beq_eq_false_iff_ne, bne_eq_false_iff_eq, Bool.not_eq_true, Bool.not_eq_false, Bool.not_eq_false', Int.toNat_natCast, Int.reduceToNat] at hc0)
    refine hw_seq (fun Nh7 h7 => ?_)
    refine hw_region ?_
    refine hq_ 22 (hop_move rfl) rfl rfl pre0 rfl rfl ?_
    refine hq_ 23 (hop_eql rfl rfl) rfl rfl pre0 rfl rfl ?_
    refine hq_ 24 (hop_move rfl) rfl rfl pre0 rfl rfl ?_
    first
    | refine hq_g 25 2 24 true _ (fun hb => hop_move rfl) rfl rfl rfl rfl pre0 rfl rfl rfl ?_
    | refine hq_g2 25 2 24 _ _ true _ (fun hb => hop_move rfl) rfl rfl rfl rfl pre0 rfl rfl rfl ?_
    first
    | refine hq_g 26 2 24 true _ (fun hb => hop_eql rfl rfl) rfl rfl rfl rfl pre0 rfl rfl rfl ?_
    | refine hq_g2 26 2 24 _ _ true _ (fun hb => hop_eql rfl rfl) rfl rfl rfl rfl pre0 rfl rfl rfl ?_
    first
    | refine hq_p 27 (hstep_and _ _ rfl rfl rfl) rfl rfl rfl ?_
    | refine hq_p 27 (hstep_or _ _ rfl rfl rfl) rfl rfl rfl ?_
    | refine hq_p 27 (hstep_ite _ _ _ rfl rfl rfl) rfl rfl rfl ?_
    | refine hq_p 27 (hstep_pick _ _ _ _ rfl rfl rfl (fun _ => .refl _) (fun _ => .refl _)) rfl rfl rfl ?_
    refine hq_ 28 (hop_move rfl) rfl rfl pre0 rfl rfl ?_
    first
    | refine hq_g 29 6 28 true _ (fun hb => hop_call0 (xs := []) (live_h) trivial trivial) rfl rfl rfl rfl pre0 rfl rfl rfl ?_
    | refine hq_g2 29 6 28 _ _ true _ (fun hb => hop_call0 (xs := []) (live_h) trivial trivial) rfl rfl rfl rfl pre0 rfl rfl rfl ?_
    first
    | refine hq_p 30 (hstep_and _ _ rfl rfl rfl) rfl rfl rfl ?_
    | refine hq_p 30 (hstep_or _ _ rfl rfl rfl) rfl rfl rfl ?_
    | refine hq_p 30 (hstep_ite _ _ _ rfl rfl rfl) rfl rfl rfl ?_
    | refine hq_p 30 (hstep_pick _ _ _ _ rfl rfl rfl (fun _ => .refl _) (fun _ => .refl _)) rfl rfl rfl ?_
    refine hq_ 2 (hop_assign rfl) rfl rfl pre0 rfl rfl ?_
    refine hseq_nilU (by rfl) (by simp only [dropUn, slots]; exact rfl) ?_
    refine h7 _ ?_
    refine hw_ret ?_
    refine hq_then_ret ?_
    refine hq_ret1 rfl (rval_tmp rfl) [] rfl pre0 ?_
    exact fz_bool (by rw [hz, if_pos (by omega)]; rfl)
  · have hr0 := hc0; (try simp only [decide_eq_true_eq, decide_eq_false_iff_not, Bool.and_eq_true, Bool.or_eq_true, Bool.not_eq_true', Bool.or_eq_false_iff, beq_iff_eq, bne_iff_ne, ne_eq, beq_eq_false_iff_ne, bne_eq_false_iff_eq, Bool.not_eq_true, Bool.not_eq_false, Bool.not_eq_false', Int.toNat_natCast, Int.reduceToNat] at hc0)
    refine hw_skip ?_
    refine h5 _ ?_
    refine hw_seq (fun Nh8 h8 => ?_)
    refine hw_seq (fun Nh9 h9 => ?_)
    refine hw_region ?_
    refine hq_ 31 (hop_move rfl) rfl rfl pre0 rfl rfl ?_
    refine hq_ 32 (hop_eql rfl rfl) rfl rfl pre0 rfl rfl ?_
    refine hseq_nil ?_
    refine h9 _ ?_
    refine hw_cond _ rfl (fun hc1 => ?_) (fun hc1 => ?_)
    · have hr1 := hc1; (try simp only [decide_eq_true_eq, decide_eq_false_iff_not, Bool.and_eq_true, Bool.or_eq_true, Bool.not_eq_true', Bool.or_eq_false_iff, beq_iff_eq, bne_iff_ne, ne_eq, beq_eq_false_iff_ne, bne_eq_false_iff_eq, Bool.not_eq_true, Bool.not_eq_false, Bool.not_eq_false', Int.toNat_natCast, Int.reduceToNat] at hc1)
      refine hw_seq (fun Nh10 h10 => ?_)
      refine hw_region ?_
      refine hq_ 33 (hop_move rfl) rfl rfl pre0 rfl rfl ?_
      refine hq_ 34 (hop_eql rfl rfl) rfl rfl pre0 rfl rfl ?_
      refine hq_ 35 (hop_move rfl) rfl rfl pre0 rfl rfl ?_
      first
      | refine hq_g 36 2 35 true _ (fun hb => hop_move rfl) rfl rfl rfl rfl pre0 rfl rfl rfl ?_
      | refine hq_g2 36 2 35 _ _ true _ (fun hb => hop_move rfl) rfl rfl rfl rfl pre0 rfl rfl rfl ?_
      first
      | refine hq_g 37 2 35 true _ (fun hb => hop_eql rfl rfl) rfl rfl rfl rfl pre0 rfl rfl rfl ?_
      | refine hq_g2 37 2 35 _ _ true _ (fun hb => hop_eql rfl rfl) rfl rfl rfl rfl pre0 rfl rfl rfl ?_
      first
      | refine hq_p 38 (hstep_and _ _ rfl rfl rfl) rfl rfl rfl ?_
      | refine hq_p 38 (hstep_or _ _ rfl rfl rfl) rfl rfl rfl ?_
      | refine hq_p 38 (hstep_ite _ _ _ rfl rfl rfl) rfl rfl rfl ?_
      | refine hq_p 38 (hstep_pick _ _ _ _ rfl rfl rfl (fun _ => .refl _) (fun _ => .refl _)) rfl rfl rfl ?_
      refine hq_ 39 (hop_move rfl) rfl rfl pre0 rfl rfl ?_
      first
      | refine hq_g 40 6 39 true _ (fun hb => hop_call0 (xs := []) (live_h) trivial trivial) rfl rfl rfl rfl pre0 rfl rfl rfl ?_
      | refine hq_g2 40 6 39 _ _ true _ (fun hb => hop_call0 (xs := []) (live_h) trivial trivial) rfl rfl rfl rfl pre0 rfl rfl rfl ?_
      first
      | refine hq_p 41 (hstep_and _ _ rfl rfl rfl) rfl rfl rfl ?_
      | refine hq_p 41 (hstep_or _ _ rfl rfl rfl) rfl rfl rfl ?_
      | refine hq_p 41 (hstep_ite _ _ _ rfl rfl rfl) rfl rfl rfl ?_
      | refine hq_p 41 (hstep_pick _ _ _ _ rfl rfl rfl (fun _ => .refl _) (fun _ => .refl _)) rfl rfl rfl ?_
      refine hq_ 2 (hop_assign rfl) rfl rfl pre0 rfl rfl ?_
      refine hseq_nilU (by rfl) (by simp only [dropUn, slots]; exact rfl) ?_
      refine h10 _ ?_
      refine hw_ret ?_
      refine hq_then_ret ?_
      refine hq_ret1 rfl (rval_tmp rfl) [] rfl pre0 ?_
      exact fz_bool (by rw [hz, if_neg (by omega), if_pos (by omega)]; rfl)
    · have hr1 := hc1; (try simp only [decide_eq_true_eq, decide_eq_false_iff_not, Bool.and_eq_true, Bool.or_eq_true, Bool.not_eq_true', Bool.or_eq_false_iff, beq_iff_eq, bne_iff_ne, ne_eq, beq_eq_false_iff_ne, bne_eq_false_iff_eq, Bool.not_eq_true, Bool.not_eq_false, Bool.not_eq_false', Int.toNat_natCast, Int.reduceToNat] at hc1)
      refine hw_skip ?_
      refine h8 _ ?_
      refine hw_seq (fun Nh11 h11 => ?_)
      refine hw_region ?_
      refine hq_ 42 (hop_move rfl) rfl rfl pre0 rfl rfl ?_
      refine hq_ 43 (hop_eql rfl rfl) rfl rfl pre0 rfl rfl ?_
      refine hq_ 44 (hop_move rfl) rfl rfl pre0 rfl rfl ?_
      first
      | refine hq_g 45 2 44 true _ (fun hb => hop_move rfl) rfl rfl rfl rfl pre0 rfl rfl rfl ?_
      | refine hq_g2 45 2 44 _ _ true _ (fun hb => hop_move rfl) rfl rfl rfl rfl pre0 rfl rfl rfl ?_
      first
      | refine hq_g 46 2 44 true _ (fun hb => hop_eql rfl rfl) rfl rfl rfl rfl pre0 rfl rfl rfl ?_
      | refine hq_g2 46 2 44 _ _ true _ (fun hb => hop_eql rfl rfl) rfl rfl rfl rfl pre0 rfl rfl rfl ?_
      first
      | refine hq_p 47 (hstep_and _ _ rfl rfl rfl) rfl rfl rfl ?_
      | refine hq_p 47 (hstep_or _ _ rfl rfl rfl) rfl rfl rfl ?_
      | refine hq_p 47 (hstep_ite _ _ _ rfl rfl rfl) rfl rfl rfl ?_
      | refine hq_p 47 (hstep_pick _ _ _ _ rfl rfl rfl (fun _ => .refl _) (fun _ => .refl _)) rfl rfl rfl ?_
      refine hq_ 48 (hop_move rfl) rfl rfl pre0 rfl rfl ?_
      first
      | refine hq_g 49 6 48 true _ (fun hb => hop_call0 (xs := []) (live_h) trivial trivial) rfl rfl rfl rfl pre0 rfl rfl rfl ?_
      | refine hq_g2 49 6 48 _ _ true _ (fun hb => hop_call0 (xs := []) (live_h) trivial trivial) rfl rfl rfl rfl pre0 rfl rfl rfl ?_
      first
      | refine hq_p 50 (hstep_and _ _ rfl rfl rfl) rfl rfl rfl ?_
      | refine hq_p 50 (hstep_or _ _ rfl rfl rfl) rfl rfl rfl ?_
      | refine hq_p 50 (hstep_ite _ _ _ rfl rfl rfl) rfl rfl rfl ?_
      | refine hq_p 50 (hstep_pick _ _ _ _ rfl rfl rfl (fun _ => .refl _) (fun _ => .refl _)) rfl rfl rfl ?_
      refine hq_ 2 (hop_assign rfl) rfl rfl pre0 rfl rfl ?_
      refine hseq_nilU (by rfl) (by simp only [dropUn, slots]; exact rfl) ?_
      refine h11 _ ?_
      refine hw_ret ?_
      refine hq_ret1 rfl (rval_tmp rfl) [] rfl pre0 ?_
      exact fz_bool (by rw [hz, if_neg (by omega), if_neg (by omega)]; rfl)
end Go.Proofs.YtijpdbjcmnpobaaDoor
