/-
  The text of signs, by the document; the law on it.
-/
import Derived.Test.YtijpdbjcmnpobaaDoorLx10
namespace Go.Proofs.YtijpdbjcmnpobaaDoor
set_option linter.unusedSimpArgs false
set_option linter.unusedVariables false
set_option maxRecDepth 100000
open Go.RowKit

@[reducible] def namF : Nat → Nat → HV := fun i _ => strV (([[], [], [40], [41], [124]] : List (List UInt8)).getD i [])
theorem kind234 {x : Sg} (h1 : 1 < x.kind) (h2 : x.kind < 5) : (x.kind = 2 ∧ pieceL x = [40]) ∨ (x.kind = 3 ∧ pieceL x = [41]) ∨ (x.kind = 4 ∧ pieceL x = [124]) := by
  have : x.kind = 2 ∨ x.kind = 3 ∨ x.kind = 4 := by omega
  unfold pieceL
  rcases this with h | h | h
  · exact .inl ⟨h, by rw [h]; rfl⟩
  · exact .inr (.inl ⟨h, by rw [h]; rfl⟩)
  · exact .inr (.inr ⟨h, by rw [h]; rfl⟩)
theorem nam_piece {x : Sg} (h1 : 1 < x.kind) (h2 : x.kind < 5) : strV (([[], [], [40], [41], [124]] : List (List UInt8)).getD (0 + x.kind.toNat) []) = strV (pieceL x) := by
  rcases kind234 h1 h2 with ⟨h, e⟩ | ⟨h, e⟩ | ⟨h, e⟩ <;> rw [e, h] <;> rfl
theorem piece_short {x : Sg} (h1 : 1 < x.kind) (h2 : x.kind < 5) : (pieceL x).length ≤ 1 := by
  rcases kind234 h1 h2 with ⟨h, e⟩ | ⟨h, e⟩ | ⟨h, e⟩ <;> rw [e] <;> decide
theorem refShowSg_h (l : List Sg) (hl : l.length ≤ 1000) (hok : ∀ x ∈ l, SgOk x) : HPure Tryd.prog 25 [sgsV l] (strV (showL l)) := by
  refine hpure_of Tryd.func25 rfl (by kernel_rfl) _ _ _ rfl 60 rfl rfl (fun w F => ?_)
  refine hw_seq (fun Nh1 h1 => ?_)
  refine hw_region ?_
  refine hq_ 2 (hop_assign rfl) rfl rfl pre0 rfl rfl ?_
  refine hseq_nil ?_
  refine h1 _ ?_
  refine hw_seq (fun Nh2 h2 => ?_)
  refine hw_region ?_
  refine hm_1 7 (hop_buildSlice (id := 7) (hs := [_, _, _, _, _]) ei_47 (by first | exact Nat.le_of_ble_eq_true rfl | omega | (dsimp only; omega) | (simp <;> omega)) rfl (by first | exact Nat.le_of_ble_eq_true rfl | omega | (dsimp only; omega) | (simp <;> omega)) ⟨rfl, rfl, rfl, rfl, ⟨rfl, rfl, rfl, rfl, ⟨rfl, rfl, rfl, rfl, ⟨rfl, rfl, rfl, rfl, ⟨rfl, rfl, rfl, rfl, trivial⟩⟩⟩⟩⟩) rfl rfl pre0 rfl rfl (c' := 1) rfl ?_
  refine hq_ 3 (hop_assign rfl) rfl rfl pre0 rfl rfl ?_
  refine hseq_nil ?_
  refine h2 _ ?_
  refine hw_seq (fun Nh3 h3 => ?_)
  refine hw_region ?_
  refine hq_ 4 (hop_assign rfl) rfl rfl pre0 rfl rfl ?_
  refine hseq_nil ?_
  refine h3 _ ?_
  refine hw_seq (fun Nh4 h4 => ?_)
  refine hw_seq (fun Nh5 h5 => ?_)
  refine hw_region ?_
  refine hq_ 5 (hop_assign rfl) rfl rfl pre0 rfl rfl ?_
  refine hseq_nil ?_
  refine h5 _ ?_
  refine hw_block ?_
  refine hw_loopc (α := Nat × List UInt8) (fun x c => ⟨60, [(0, .v (sgsV l)), (3, .v (.os 7 0 0 5)), (4, .v (strV x.2)), (5, .v (intV x.1))], [(7, ⟨0, 5, 1, 9, 0, namF⟩)], c⟩) (fun x => x.1 ≤ l.length ∧ x.2.length ≤ 200 * x.1 ∧ x.2 ++ showG (decide (x.1 = 0)) (l.drop x.1) = showL l) (fun x => l.length - x.1) ((0, [])) (by exact ⟨Nat.zero_le _, Nat.zero_le _, rfl⟩) (hsub_of rfl (Nat.le_refl _) (TmSub.cons rfl (Sb.refl _) (TmSub.cons rfl (Sb.refl _) (TmSub.cons rfl (Sb.refl _) (TmSub.cons rfl (Sb.refl _) TmSub.nil)))) (HpSub.cons rfl (OSub.of fun i j hi hj => by match i, hi, j, hj with | 0, _, 0, _ => exact .refl _ | 1, _, 0, _ => exact .refl _ | 2, _, 0, _ => exact .refl _ | 3, _, 0, _ => exact .refl _ | 4, _, 0, _ => exact .refl _) HpSub.nil)) (fun x c hx NhL6 hL6 => ?_)
  revert hx hL6; obtain ⟨k, acc⟩ := x; intro hx hL6; dsimp only at hx hL6 ⊢
  obtain ⟨hk, hb, hL⟩ := hx
  refine hw_seq (fun Nh7 h7 => ?_)
  refine hw_seq (fun Nh8 h8 => ?_)
  refine hw_region ?_
  refine hq_ 8 (hop_move rfl) rfl rfl pre0 rfl rfl ?_
  refine hq_ 9 (hop_move rfl) rfl rfl pre0 rfl rfl ?_
  first
  | refine hq_ 10 (hop_len_sl (T := 36) rfl (elOf_spec el_36).1 rfl) rfl rfl pre0 rfl rfl ?_
  | refine hq_ 10 (hop_len_os (T := 36) rfl (elOf_spec el_36).1 rfl) rfl rfl pre0 rfl rfl ?_
  | refine hq_ 10 (hop_len_nil (T := 36) rfl (elOf_spec el_36).1 rfl) rfl rfl pre0 rfl rfl ?_
  refine hq_ 11 (hop_lss rfl rfl) rfl rfl pre0 rfl rfl ?_
  refine hseq_nil ?_
  refine h8 _ ?_
  refine hw_cond _ rfl (fun hc0 => ?_) (fun hc0 => ?_)
  · have hr0 := hc0; (try simp only [decide_eq_true_eq, decide_eq_false_iff_not, Bool.and_eq_true, Bool.or_eq_true, Bool.not_eq_true', Bool.or_eq_false_iff, beq_iff_eq, bne_iff_ne, ne_eq, beq_eq_false_iff_ne, bne_eq_false_iff_eq, Bool.not_eq_true, Bool.not_eq_false, Bool.not_eq_false', Int.toNat_natCast, Int.reduceToNat] at hc0)
    have hkl : k < l.length := (by omega); have hx := getD_ok hok hkl; have hnm := hx.name; have htl := times_len _ _ hx.low hx.high
    refine hw_skip ?_
    refine h7 _ ?_
    refine hw_seq (fun Nh9 h9 => ?_)
    refine hw_block ?_
    refine hw_seq (fun Nh10 h10 => ?_)
    refine hw_region ?_
    refine hq_ 14 (hop_move rfl) rfl rfl pre0 rfl rfl ?_
    refine hq_ 15 (hop_move rfl) rfl rfl pre0 rfl rfl ?_
    first
    | refine hq_ 16 (hop_ia_sl el_36 rfl rfl (by first | exact Nat.le_of_ble_eq_true rfl | omega | (dsimp only; omega) | (simp <;> omega)) (by first | exact Nat.le_of_ble_eq_true rfl | omega | (dsimp only; omega) | (simp <;> omega)) (by first | exact Nat.le_of_ble_eq_true rfl | omega | (dsimp only; omega) | (simp <;> omega))) rfl rfl pre0 rfl rfl ?_
    | refine hq_ 16 (hol_ia_os el_36 rfl rfl (by first | exact Nat.le_of_ble_eq_true rfl | omega | (dsimp only; omega) | (simp <;> omega)) (by first | exact Nat.le_of_ble_eq_true rfl | omega | (dsimp only; omega) | (simp <;> omega))) rfl rfl (pre1 rfl) rfl rfl ?_
    first
    | refine hq_ 17 (hol_load ty_40 rfl (by first | exact Nat.le_of_ble_eq_true rfl | omega | (dsimp only; omega) | (simp <;> omega)) (by first | exact Nat.le_of_ble_eq_true rfl | omega | (dsimp only; omega) | (simp <;> omega)) (fun h => by first | rfl | cases h)) rfl rfl (pre1 rfl) rfl rfl ?_
    | refine hq_ 17 (hop_load_fp ty_40 rfl (by first | exact Nat.le_of_ble_eq_true rfl | omega | (dsimp only; omega) | (simp <;> omega)) (fun h => by first | rfl | cases h)) rfl rfl pre0 rfl rfl ?_
    refine hm_1 6 (hop_alloc (id := 6) (sz := 5) zc_40 rfl rfl (by first | exact Nat.le_of_ble_eq_true rfl | omega | (dsimp only; omega) | (simp <;> omega)) (by first | exact Nat.le_of_ble_eq_true rfl | omega | (dsimp only; omega) | (simp <;> omega))) rfl rfl pre0 rfl rfl (c' := c + 1) rfl ?_
    first
    | refine hm_s1 (hol_storeW ty_40 rfl rfl rfl rfl) rfl rfl (pre1 rfl) (c' := c + 2) rfl ?_
    | refine hm_s1 (hol_store ty_40 rfl rfl rfl rfl (by first | exact Nat.le_of_ble_eq_true rfl | omega | (dsimp only; omega) | (simp <;> omega)) (by first | exact Nat.le_of_ble_eq_true rfl | omega | (dsimp only; omega) | (simp <;> omega)) (by first | exact Nat.le_of_ble_eq_true rfl | omega | (dsimp only; omega) | (simp <;> omega))) rfl rfl (pre1 rfl) (c' := c + 2) rfl ?_
    refine hseq_nil ?_
    refine h10 _ ?_
    refine hw_seq (fun Nh11 h11 => ?_)
    refine hw_seq (fun Nh12 h12 => ?_)
    refine hw_region ?_
    refine hq_ 18 (hop_move rfl) rfl rfl pre0 rfl rfl ?_
    refine hq_ 19 (hop_gtr rfl rfl) rfl rfl pre0 rfl rfl ?_
    refine hq_ 20 (hop_move rfl) rfl rfl pre0 rfl rfl ?_
    first
    | refine hq_g 21 2 20 true _ (fun hb => hop_fa fd_40_0 rfl) rfl rfl rfl rfl pre0 rfl rfl rfl ?_
    | refine hq_g2 21 2 20 _ _ true _ (fun hb => hop_fa fd_40_0 rfl) rfl rfl rfl rfl pre0 rfl rfl rfl ?_
    | refine hq_g 21 2 20 true _ (fun hb => hop_fa_fp fd_40_0 rfl (by first | exact Nat.le_of_ble_eq_true rfl | (simp at hb; first | omega | (dsimp only; omega) | (simp <;> omega)))) rfl rfl rfl rfl pre0 rfl rfl rfl ?_
    | refine hq_g2 21 2 20 _ _ true _ (fun hb => hop_fa_fp fd_40_0 rfl (by first | exact Nat.le_of_ble_eq_true rfl | (simp at hb; first | omega | (dsimp only; omega) | (simp <;> omega)))) rfl rfl rfl rfl pre0 rfl rfl rfl ?_
    first
    | refine hq_g 22 2 20 true _ (fun hb => hol_load ty_3 rfl (by first | exact Nat.le_of_ble_eq_true rfl | (simp at hb; first | omega | (dsimp only; omega) | (simp <;> omega))) (by first | exact Nat.le_of_ble_eq_true rfl | (simp at hb; first | omega | (dsimp only; omega) | (simp <;> omega))) (fun h => by first | rfl | cases h)) rfl rfl rfl rfl (pre1 rfl) rfl rfl rfl ?_
    | refine hq_g2 22 2 20 _ _ true _ (fun hb => hol_load ty_3 rfl (by first | exact Nat.le_of_ble_eq_true rfl | (simp at hb; first | omega | (dsimp only; omega) | (simp <;> omega))) (by first | exact Nat.le_of_ble_eq_true rfl | (simp at hb; first | omega | (dsimp only; omega) | (simp <;> omega))) (fun h => by first | rfl | cases h)) rfl rfl rfl rfl (pre1 rfl) rfl rfl rfl ?_
    | refine hq_g 22 2 20 true _ (fun hb => hop_load_fp ty_3 rfl (by first | exact Nat.le_of_ble_eq_true rfl | (simp at hb; first | omega | (dsimp only; omega) | (simp <;> omega))) (fun h => by first | rfl | cases h)) rfl rfl rfl rfl pre0 rfl rfl rfl ?_
    | refine hq_g2 22 2 20 _ _ true _ (fun hb => hop_load_fp ty_3 rfl (by first | exact Nat.le_of_ble_eq_true rfl | (simp at hb; first | omega | (dsimp only; omega) | (simp <;> omega))) (fun h => by first | rfl | cases h)) rfl rfl rfl rfl pre0 rfl rfl rfl ?_
    first
    | refine hq_g 23 2 20 true _ (fun hb => hop_neq rfl rfl) rfl rfl rfl rfl pre0 rfl rfl rfl ?_
    | refine hq_g2 23 2 20 _ _ true _ (fun hb => hop_neq rfl rfl) rfl rfl rfl rfl pre0 rfl rfl rfl ?_
    first
    | refine hq_p 24 (hstep_and _ _ rfl rfl rfl) rfl rfl rfl ?_
    | refine hq_p 24 (hstep_or _ _ rfl rfl rfl) rfl rfl rfl ?_
    | refine hq_p 24 (hstep_ite _ _ _ rfl rfl rfl) rfl rfl rfl ?_
    | refine hq_p 24 (hstep_pick _ _ _ _ rfl rfl rfl (fun _ => .refl _) (fun _ => .refl _)) rfl rfl rfl ?_
    refine hseq_nilU (by rfl) (by simp only [dropUn, slots]; exact rfl) ?_
    refine h12 _ ?_
    refine hw_cond _ rfl (fun hc1 => ?_) (fun hc1 => ?_)
    · have hr1 := hc1; (try simp only [decide_eq_true_eq, decide_eq_false_iff_not, Bool.and_eq_true, Bool.or_eq_true, Bool.not_eq_true', Bool.or_eq_false_iff, beq_iff_eq, bne_iff_ne, ne_eq, beq_eq_false_iff_ne, bne_eq_false_iff_eq, Bool.not_eq_true, Bool.not_eq_false, Bool.not_eq_false', Int.toNat_natCast, Int.reduceToNat] at hc1)
      have ha1 : (acc ++ [32]).length = acc.length + 1 := List.length_append; have hsep : sepL (decide (k = 0)) (l.getD k default) = [32] := (by unfold sepL; rw [if_pos ⟨decide_eq_false (by omega), hc1.2⟩])
      refine hw_region ?_
      refine hq_ 25 (hop_move rfl) rfl rfl pre0 rfl rfl ?_
      refine hq_ 26 (hop_catl rfl rfl (by first | exact Nat.le_of_ble_eq_true rfl | omega | (dsimp only; omega) | (simp <;> omega))) rfl rfl pre0 rfl rfl ?_
      refine hq_ 4 (hop_assign rfl) rfl rfl pre0 rfl rfl ?_
      refine hseq_nil ?_
      refine h11 _ ?_
      refine hw_seq (fun Nh13 h13 => ?_)
      refine hw_seq (fun Nh14 h14 => ?_)
      refine hw_region ?_
      first
      | refine hq_ 27 (hop_fa fd_40_0 rfl) rfl rfl pre0 rfl rfl ?_
      | refine hq_ 27 (hop_fa_fp fd_40_0 rfl (by first | exact Nat.le_of_ble_eq_true rfl | omega | (dsimp only; omega) | (simp <;> omega))) rfl rfl pre0 rfl rfl ?_
      first
      | refine hq_ 28 (HOp.val (v' := intV (l.getD k default).kind) (hol_load ty_3 rfl (by first | exact Nat.le_of_ble_eq_true rfl | omega | (dsimp only; omega) | (simp <;> omega)) (by first | exact Nat.le_of_ble_eq_true rfl | omega | (dsimp only; omega) | (simp <;> omega)) (fun h => by first | rfl | cases h)) (rfl)) rfl rfl (pre1 rfl) rfl rfl ?_
      | refine hq_ 28 (HOp.val (v' := intV (l.getD k default).kind) (hop_load_fp ty_3 rfl (by first | exact Nat.le_of_ble_eq_true rfl | omega | (dsimp only; omega) | (simp <;> omega)) (fun h => by first | rfl | cases h)) (rfl)) rfl rfl pre0 rfl rfl ?_
      refine hq_ 29 (hop_eql rfl rfl) rfl rfl pre0 rfl rfl ?_
      refine hseq_nil ?_
      refine h14 _ ?_
      refine hw_cond _ rfl (fun hc2 => ?_) (fun hc2 => ?_)
      · have hr2 := hc2; (try simp only [decide_eq_true_eq, decide_eq_false_iff_not, Bool.and_eq_true, Bool.or_eq_true, Bool.not_eq_true', Bool.or_eq_false_iff, beq_iff_eq, bne_iff_ne, ne_eq, beq_eq_false_iff_ne, bne_eq_false_iff_eq, Bool.not_eq_true, Bool.not_eq_false, Bool.not_eq_false', Int.toNat_natCast, Int.reduceToNat] at hc2)
        refine hw_region ?_
        refine hq_ 30 (hop_move rfl) rfl rfl pre0 rfl rfl ?_
        first
        | refine hq_ 31 (hop_fa fd_40_4 rfl) rfl rfl pre0 rfl rfl ?_
        | refine hq_ 31 (hop_fa_fp fd_40_4 rfl (by first | exact Nat.le_of_ble_eq_true rfl | omega | (dsimp only; omega) | (simp <;> omega))) rfl rfl pre0 rfl rfl ?_
        first
        | refine hq_ 32 (HOp.val (v' := strV (l.getD k default).name) (hol_load ty_9 rfl (by first | exact Nat.le_of_ble_eq_true rfl | omega | (dsimp only; omega) | (simp <;> omega)) (by first | exact Nat.le_of_ble_eq_true rfl | omega | (dsimp only; omega) | (simp <;> omega)) (fun h => by first | rfl | cases h)) (rfl)) rfl rfl (pre1 rfl) rfl rfl ?_
        | refine hq_ 32 (HOp.val (v' := strV (l.getD k default).name) (hop_load_fp ty_9 rfl (by first | exact Nat.le_of_ble_eq_true rfl | omega | (dsimp only; omega) | (simp <;> omega)) (fun h => by first | rfl | cases h)) (rfl)) rfl rfl pre0 rfl rfl ?_
        refine hq_ 33 (hop_catl rfl rfl (by first | exact Nat.le_of_ble_eq_true rfl | omega | (dsimp only; omega) | (simp <;> omega))) rfl rfl pre0 rfl rfl ?_
        refine hq_ 4 (hop_assign rfl) rfl rfl pre0 rfl rfl ?_
        refine hseq_nil ?_
        refine h13 _ ?_
        refine hw_seq (fun Nh15 h15 => ?_)
        refine hw_seq (fun Nh16 h16 => ?_)
        refine hw_region ?_
        first
        | refine hq_ 34 (hop_fa fd_40_0 rfl) rfl rfl pre0 rfl rfl ?_
        | refine hq_ 34 (hop_fa_fp fd_40_0 rfl (by first | exact Nat.le_of_ble_eq_true rfl | omega | (dsimp only; omega) | (simp <;> omega))) rfl rfl pre0 rfl rfl ?_
        first
        | refine hq_ 35 (HOp.val (v' := intV (l.getD k default).kind) (hol_load ty_3 rfl (by first | exact Nat.le_of_ble_eq_true rfl | omega | (dsimp only; omega) | (simp <;> omega)) (by first | exact Nat.le_of_ble_eq_true rfl | omega | (dsimp only; omega) | (simp <;> omega)) (fun h => by first | rfl | cases h)) (rfl)) rfl rfl (pre1 rfl) rfl rfl ?_
        | refine hq_ 35 (HOp.val (v' := intV (l.getD k default).kind) (hop_load_fp ty_3 rfl (by first | exact Nat.le_of_ble_eq_true rfl | omega | (dsimp only; omega) | (simp <;> omega)) (fun h => by first | rfl | cases h)) (rfl)) rfl rfl pre0 rfl rfl ?_
        refine hq_ 36 (hop_gtr rfl rfl) rfl rfl pre0 rfl rfl ?_
        refine hq_ 37 (hop_move rfl) rfl rfl pre0 rfl rfl ?_
        first
        | refine hq_g 38 3 37 true _ (fun hb => hop_fa fd_40_0 rfl) rfl rfl rfl rfl pre0 rfl rfl rfl ?_
        | refine hq_g2 38 3 37 _ _ true _ (fun hb => hop_fa fd_40_0 rfl) rfl rfl rfl rfl pre0 rfl rfl rfl ?_
        | refine hq_g 38 3 37 true _ (fun hb => hop_fa_fp fd_40_0 rfl (by first | exact Nat.le_of_ble_eq_true rfl | (simp at hb; first | omega | (dsimp only; omega) | (simp <;> omega)))) rfl rfl rfl rfl pre0 rfl rfl rfl ?_
        | refine hq_g2 38 3 37 _ _ true _ (fun hb => hop_fa_fp fd_40_0 rfl (by first | exact Nat.le_of_ble_eq_true rfl | (simp at hb; first | omega | (dsimp only; omega) | (simp <;> omega)))) rfl rfl rfl rfl pre0 rfl rfl rfl ?_
        first
        | refine hq_g 39 3 37 true _ (fun hb => HOp.val (v' := intV (l.getD k default).kind) (hol_load ty_3 rfl (by first | exact Nat.le_of_ble_eq_true rfl | (simp at hb; first | omega | (dsimp only; omega) | (simp <;> omega))) (by first | exact Nat.le_of_ble_eq_true rfl | (simp at hb; first | omega | (dsimp only; omega) | (simp <;> omega))) (fun h => by first | rfl | cases h)) (rfl)) rfl rfl rfl rfl (pre1 rfl) rfl rfl rfl ?_
        | refine hq_g2 39 3 37 _ _ true _ (fun hb => HOp.val (v' := intV (l.getD k default).kind) (hol_load ty_3 rfl (by first | exact Nat.le_of_ble_eq_true rfl | (simp at hb; first | omega | (dsimp only; omega) | (simp <;> omega))) (by first | exact Nat.le_of_ble_eq_true rfl | (simp at hb; first | omega | (dsimp only; omega) | (simp <;> omega))) (fun h => by first | rfl | cases h)) (rfl)) rfl rfl rfl rfl (pre1 rfl) rfl rfl rfl ?_
        | refine hq_g 39 3 37 true _ (fun hb => HOp.val (v' := intV (l.getD k default).kind) (hop_load_fp ty_3 rfl (by first | exact Nat.le_of_ble_eq_true rfl | (simp at hb; first | omega | (dsimp only; omega) | (simp <;> omega))) (fun h => by first | rfl | cases h)) (rfl)) rfl rfl rfl rfl pre0 rfl rfl rfl ?_
        | refine hq_g2 39 3 37 _ _ true _ (fun hb => HOp.val (v' := intV (l.getD k default).kind) (hop_load_fp ty_3 rfl (by first | exact Nat.le_of_ble_eq_true rfl | (simp at hb; first | omega | (dsimp only; omega) | (simp <;> omega))) (fun h => by first | rfl | cases h)) (rfl)) rfl rfl rfl rfl pre0 rfl rfl rfl ?_
        first
        | refine hq_g 40 3 37 true _ (fun hb => hop_lss rfl rfl) rfl rfl rfl rfl pre0 rfl rfl rfl ?_
        | refine hq_g2 40 3 37 _ _ true _ (fun hb => hop_lss rfl rfl) rfl rfl rfl rfl pre0 rfl rfl rfl ?_
        first
        | refine hq_p 41 (hstep_and _ _ rfl rfl rfl) rfl rfl rfl ?_
        | refine hq_p 41 (hstep_or _ _ rfl rfl rfl) rfl rfl rfl ?_
        | refine hq_p 41 (hstep_ite _ _ _ rfl rfl rfl) rfl rfl rfl ?_
        | refine hq_p 41 (hstep_pick _ _ _ _ rfl rfl rfl (fun _ => .refl _) (fun _ => .refl _)) rfl rfl rfl ?_
        refine hseq_nilU (by rfl) (by simp only [dropUn, slots]; exact rfl) ?_
        refine h16 _ ?_
        refine hw_cond _ rfl (fun hc3 => ?_) (fun hc3 => ?_)
        · have hr3 := hc3; (try simp only [decide_eq_true_eq, decide_eq_false_iff_not, Bool.and_eq_true, Bool.or_eq_true, Bool.not_eq_true', Bool.or_eq_false_iff, beq_iff_eq, bne_iff_ne, ne_eq, beq_eq_false_iff_ne, bne_eq_false_iff_eq, Bool.not_eq_true, Bool.not_eq_false, Bool.not_eq_false', Int.toNat_natCast, Int.reduceToNat] at hc3)
          exfalso; omega
        · have hr3 := hc3; (try simp only [decide_eq_true_eq, decide_eq_false_iff_not, Bool.and_eq_true, Bool.or_eq_true, Bool.not_eq_true', Bool.or_eq_false_iff, beq_iff_eq, bne_iff_ne, ne_eq, beq_eq_false_iff_ne, bne_eq_false_iff_eq, Bool.not_eq_true, Bool.not_eq_false, Bool.not_eq_false', Int.toNat_natCast, Int.reduceToNat] at hc3)
          refine hw_skip ?_
          refine h15 _ ?_
          refine hw_seq (fun Nh17 h17 => ?_)
          refine hw_region ?_
          first
          | refine hq_ 49 (hop_fa fd_40_0 rfl) rfl rfl pre0 rfl rfl ?_
          | refine hq_ 49 (hop_fa_fp fd_40_0 rfl (by first | exact Nat.le_of_ble_eq_true rfl | omega | (dsimp only; omega) | (simp <;> omega))) rfl rfl pre0 rfl rfl ?_
          first
          | refine hq_ 50 (HOp.val (v' := intV (l.getD k default).kind) (hol_load ty_3 rfl (by first | exact Nat.le_of_ble_eq_true rfl | omega | (dsimp only; omega) | (simp <;> omega)) (by first | exact Nat.le_of_ble_eq_true rfl | omega | (dsimp only; omega) | (simp <;> omega)) (fun h => by first | rfl | cases h)) (rfl)) rfl rfl (pre1 rfl) rfl rfl ?_
          | refine hq_ 50 (HOp.val (v' := intV (l.getD k default).kind) (hop_load_fp ty_3 rfl (by first | exact Nat.le_of_ble_eq_true rfl | omega | (dsimp only; omega) | (simp <;> omega)) (fun h => by first | rfl | cases h)) (rfl)) rfl rfl pre0 rfl rfl ?_
          refine hq_ 51 (hop_eql rfl rfl) rfl rfl pre0 rfl rfl ?_
          refine hseq_nil ?_
          refine h17 _ ?_
          refine hw_cond _ rfl (fun hc4 => ?_) (fun hc4 => ?_)
          · have hr4 := hc4; (try simp only [decide_eq_true_eq, decide_eq_false_iff_not, Bool.and_eq_true, Bool.or_eq_true, Bool.not_eq_true', Bool.or_eq_false_iff, beq_iff_eq, bne_iff_ne, ne_eq, beq_eq_false_iff_ne, bne_eq_false_iff_eq, Bool.not_eq_true, Bool.not_eq_false, Bool.not_eq_false', Int.toNat_natCast, Int.reduceToNat] at hc4)
            exfalso; omega
          · have hr4 := hc4; (try simp only [decide_eq_true_eq, decide_eq_false_iff_not, Bool.and_eq_true, Bool.or_eq_true, Bool.not_eq_true', Bool.or_eq_false_iff, beq_iff_eq, bne_iff_ne, ne_eq, beq_eq_false_iff_ne, bne_eq_false_iff_eq, Bool.not_eq_true, Bool.not_eq_false, Bool.not_eq_false', Int.toNat_natCast, Int.reduceToNat] at hc4)
            refine hw_skip ?_
            refine hq_block ?_
            refine h9 _ ?_
            refine hw_region ?_
            refine hq_ 12 (hop_move rfl) rfl rfl pre0 rfl rfl ?_
            first
            | refine hq_ 13 (hop_addi rfl rfl rfl (by first | exact Nat.le_of_ble_eq_true rfl | omega | (dsimp only; omega) | (simp <;> omega)) (by first | exact Nat.le_of_ble_eq_true rfl | omega | (dsimp only; omega) | (simp <;> omega))) rfl rfl pre0 rfl rfl ?_
            | refine hq_ 13 (hop_add rfl rfl) rfl rfl pre0 rfl rfl ?_
            refine hq_ 5 (hop_assign rfl) rfl rfl pre0 rfl rfl ?_
            refine hseq_nil ?_
            exact hL6 ((k + 1, (acc ++ [32]) ++ (l.getD k default).name)) _ _ (by (try dsimp only); exact ⟨by omega, by (try simp only [List.length_append, List.length_cons, List.length_nil]); omega, by have h := show_next (p := (l.getD k default).name) hkl hL hsep (if_pos hc2); simpa only [List.append_nil, List.append_assoc] using h⟩) (by (try dsimp only); omega) (hsub_of rfl (Nat.le_refl _) (TmSub.cons rfl (Sb.refl _) (TmSub.cons rfl (Sb.refl _) (TmSub.cons rfl (Sb.refl _) (TmSub.cons rfl (Sb.refl _) TmSub.nil)))) (HpSub.cons rfl (OSub.refl _) HpSub.nil))
      · have hr2 := hc2; (try simp only [decide_eq_true_eq, decide_eq_false_iff_not, Bool.and_eq_true, Bool.or_eq_true, Bool.not_eq_true', Bool.or_eq_false_iff, beq_iff_eq, bne_iff_ne, ne_eq, beq_eq_false_iff_ne, bne_eq_false_iff_eq, Bool.not_eq_true, Bool.not_eq_false, Bool.not_eq_false', Int.toNat_natCast, Int.reduceToNat] at hc2)
        refine hw_skip ?_
        refine h13 _ ?_
        refine hw_seq (fun Nh18 h18 => ?_)
        refine hw_seq (fun Nh19 h19 => ?_)
        refine hw_region ?_
        first
        | refine hq_ 34 (hop_fa fd_40_0 rfl) rfl rfl pre0 rfl rfl ?_
        | refine hq_ 34 (hop_fa_fp fd_40_0 rfl (by first | exact Nat.le_of_ble_eq_true rfl | omega | (dsimp only; omega) | (simp <;> omega))) rfl rfl pre0 rfl rfl ?_
        first
        | refine hq_ 35 (HOp.val (v' := intV (l.getD k default).kind) (hol_load ty_3 rfl (by first | exact Nat.le_of_ble_eq_true rfl | omega | (dsimp only; omega) | (simp <;> omega)) (by first | exact Nat.le_of_ble_eq_true rfl | omega | (dsimp only; omega) | (simp <;> omega)) (fun h => by first | rfl | cases h)) (rfl)) rfl rfl (pre1 rfl) rfl rfl ?_
        | refine hq_ 35 (HOp.val (v' := intV (l.getD k default).kind) (hop_load_fp ty_3 rfl (by first | exact Nat.le_of_ble_eq_true rfl | omega | (dsimp only; omega) | (simp <;> omega)) (fun h => by first | rfl | cases h)) (rfl)) rfl rfl pre0 rfl rfl ?_
        refine hq_ 36 (hop_gtr rfl rfl) rfl rfl pre0 rfl rfl ?_
        refine hq_ 37 (hop_move rfl) rfl rfl pre0 rfl rfl ?_
        first
        | refine hq_g 38 3 37 true _ (fun hb => hop_fa fd_40_0 rfl) rfl rfl rfl rfl pre0 rfl rfl rfl ?_
        | refine hq_g2 38 3 37 _ _ true _ (fun hb => hop_fa fd_40_0 rfl) rfl rfl rfl rfl pre0 rfl rfl rfl ?_
        | refine hq_g 38 3 37 true _ (fun hb => hop_fa_fp fd_40_0 rfl (by first | exact Nat.le_of_ble_eq_true rfl | (simp at hb; first | omega | (dsimp only; omega) | (simp <;> omega)))) rfl rfl rfl rfl pre0 rfl rfl rfl ?_
        | refine hq_g2 38 3 37 _ _ true _ (fun hb => hop_fa_fp fd_40_0 rfl (by first | exact Nat.le_of_ble_eq_true rfl | (simp at hb; first | omega | (dsimp only; omega) | (simp <;> omega)))) rfl rfl rfl rfl pre0 rfl rfl rfl ?_
        first
        | refine hq_g 39 3 37 true _ (fun hb => HOp.val (v' := intV (l.getD k default).kind) (hol_load ty_3 rfl (by first | exact Nat.le_of_ble_eq_true rfl | (simp at hb; first | omega | (dsimp only; omega) | (simp <;> omega))) (by first | exact Nat.le_of_ble_eq_true rfl | (simp at hb; first | omega | (dsimp only; omega) | (simp <;> omega))) (fun h => by first | rfl | cases h)) (rfl)) rfl rfl rfl rfl (pre1 rfl) rfl rfl rfl ?_
        | refine hq_g2 39 3 37 _ _ true _ (fun hb => HOp.val (v' := intV (l.getD k default).kind) (hol_load ty_3 rfl (by first | exact Nat.le_of_ble_eq_true rfl | (simp at hb; first | omega | (dsimp only; omega) | (simp <;> omega))) (by first | exact Nat.le_of_ble_eq_true rfl | (simp at hb; first | omega | (dsimp only; omega) | (simp <;> omega))) (fun h => by first | rfl | cases h)) (rfl)) rfl rfl rfl rfl (pre1 rfl) rfl rfl rfl ?_
        | refine hq_g 39 3 37 true _ (fun hb => HOp.val (v' := intV (l.getD k default).kind) (hop_load_fp ty_3 rfl (by first | exact Nat.le_of_ble_eq_true rfl | (simp at hb; first | omega | (dsimp only; omega) | (simp <;> omega))) (fun h => by first | rfl | cases h)) (rfl)) rfl rfl rfl rfl pre0 rfl rfl rfl ?_
        | refine hq_g2 39 3 37 _ _ true _ (fun hb => HOp.val (v' := intV (l.getD k default).kind) (hop_load_fp ty_3 rfl (by first | exact Nat.le_of_ble_eq_true rfl | (simp at hb; first | omega | (dsimp only; omega) | (simp <;> omega))) (fun h => by first | rfl | cases h)) (rfl)) rfl rfl rfl rfl pre0 rfl rfl rfl ?_
        first
        | refine hq_g 40 3 37 true _ (fun hb => hop_lss rfl rfl) rfl rfl rfl rfl pre0 rfl rfl rfl ?_
        | refine hq_g2 40 3 37 _ _ true _ (fun hb => hop_lss rfl rfl) rfl rfl rfl rfl pre0 rfl rfl rfl ?_
        first
        | refine hq_p 41 (hstep_and _ _ rfl rfl rfl) rfl rfl rfl ?_
        | refine hq_p 41 (hstep_or _ _ rfl rfl rfl) rfl rfl rfl ?_
        | refine hq_p 41 (hstep_ite _ _ _ rfl rfl rfl) rfl rfl rfl ?_
        | refine hq_p 41 (hstep_pick _ _ _ _ rfl rfl rfl (fun _ => .refl _) (fun _ => .refl _)) rfl rfl rfl ?_
        refine hseq_nilU (by rfl) (by simp only [dropUn, slots]; exact rfl) ?_
        refine h19 _ ?_
        refine hw_cond _ rfl (fun hc3 => ?_) (fun hc3 => ?_)
        · have hr3 := hc3; (try simp only [decide_eq_true_eq, decide_eq_false_iff_not, Bool.and_eq_true, Bool.or_eq_true, Bool.not_eq_true', Bool.or_eq_false_iff, beq_iff_eq, bne_iff_ne, ne_eq, beq_eq_false_iff_ne, bne_eq_false_iff_eq, Bool.not_eq_true, Bool.not_eq_false, Bool.not_eq_false', Int.toNat_natCast, Int.reduceToNat] at hc3)
          have hpl : (pieceL (l.getD k default)).length ≤ 1 := piece_short hc3.1 hc3.2
          refine hw_region ?_
          refine hq_ 42 (hop_move rfl) rfl rfl pre0 rfl rfl ?_
          refine hq_ 43 (hop_move rfl) rfl rfl pre0 rfl rfl ?_
          first
          | refine hq_ 44 (hop_fa fd_40_0 rfl) rfl rfl pre0 rfl rfl ?_
          | refine hq_ 44 (hop_fa_fp fd_40_0 rfl (by first | exact Nat.le_of_ble_eq_true rfl | omega | (dsimp only; omega) | (simp <;> omega))) rfl rfl pre0 rfl rfl ?_
          first
          | refine hq_ 45 (HOp.val (v' := intV (l.getD k default).kind) (hol_load ty_3 rfl (by first | exact Nat.le_of_ble_eq_true rfl | omega | (dsimp only; omega) | (simp <;> omega)) (by first | exact Nat.le_of_ble_eq_true rfl | omega | (dsimp only; omega) | (simp <;> omega)) (fun h => by first | rfl | cases h)) (rfl)) rfl rfl (pre1 rfl) rfl rfl ?_
          | refine hq_ 45 (HOp.val (v' := intV (l.getD k default).kind) (hop_load_fp ty_3 rfl (by first | exact Nat.le_of_ble_eq_true rfl | omega | (dsimp only; omega) | (simp <;> omega)) (fun h => by first | rfl | cases h)) (rfl)) rfl rfl pre0 rfl rfl ?_
          first
          | refine hq_ 46 (hop_ia_sl el_47 rfl rfl (by first | exact Nat.le_of_ble_eq_true rfl | omega | (dsimp only; omega) | (simp <;> omega)) (by first | exact Nat.le_of_ble_eq_true rfl | omega | (dsimp only; omega) | (simp <;> omega)) (by first | exact Nat.le_of_ble_eq_true rfl | omega | (dsimp only; omega) | (simp <;> omega))) rfl rfl pre0 rfl rfl ?_
          | refine hq_ 46 (hol_ia_os el_47 rfl rfl (by first | exact Nat.le_of_ble_eq_true rfl | omega | (dsimp only; omega) | (simp <;> omega)) (by first | exact Nat.le_of_ble_eq_true rfl | omega | (dsimp only; omega) | (simp <;> omega))) rfl rfl (pre1 rfl) rfl rfl ?_
          first
          | refine hq_ 47 (HOp.val (v' := strV (pieceL (l.getD k default))) (hol_load ty_9 rfl (by first | exact Nat.le_of_ble_eq_true rfl | omega | (dsimp only; omega) | (simp <;> omega)) (by first | exact Nat.le_of_ble_eq_true rfl | omega | (dsimp only; omega) | (simp <;> omega)) (fun h => by first | rfl | cases h)) ((by exact nam_piece hc3.1 hc3.2))) rfl rfl (pre1 rfl) rfl rfl ?_
          | refine hq_ 47 (HOp.val (v' := strV (pieceL (l.getD k default))) (hop_load_fp ty_9 rfl (by first | exact Nat.le_of_ble_eq_true rfl | omega | (dsimp only; omega) | (simp <;> omega)) (fun h => by first | rfl | cases h)) ((by exact nam_piece hc3.1 hc3.2))) rfl rfl pre0 rfl rfl ?_
          refine hq_ 48 (hop_catl rfl rfl (by first | exact Nat.le_of_ble_eq_true rfl | omega | (dsimp only; omega) | (simp <;> omega))) rfl rfl pre0 rfl rfl ?_
          refine hq_ 4 (hop_assign rfl) rfl rfl pre0 rfl rfl ?_
          refine hseq_nil ?_
          refine h18 _ ?_
          refine hw_seq (fun Nh20 h20 => ?_)
          refine hw_region ?_
          first
          | refine hq_ 49 (hop_fa fd_40_0 rfl) rfl rfl pre0 rfl rfl ?_
          | refine hq_ 49 (hop_fa_fp fd_40_0 rfl (by first | exact Nat.le_of_ble_eq_true rfl | omega | (dsimp only; omega) | (simp <;> omega))) rfl rfl pre0 rfl rfl ?_
          first
          | refine hq_ 50 (HOp.val (v' := intV (l.getD k default).kind) (hol_load ty_3 rfl (by first | exact Nat.le_of_ble_eq_true rfl | omega | (dsimp only; omega) | (simp <;> omega)) (by first | exact Nat.le_of_ble_eq_true rfl | omega | (dsimp only; omega) | (simp <;> omega)) (fun h => by first | rfl | cases h)) (rfl)) rfl rfl (pre1 rfl) rfl rfl ?_
          | refine hq_ 50 (HOp.val (v' := intV (l.getD k default).kind) (hop_load_fp ty_3 rfl (by first | exact Nat.le_of_ble_eq_true rfl | omega | (dsimp only; omega) | (simp <;> omega)) (fun h => by first | rfl | cases h)) (rfl)) rfl rfl pre0 rfl rfl ?_
          refine hq_ 51 (hop_eql rfl rfl) rfl rfl pre0 rfl rfl ?_
          refine hseq_nil ?_
          refine h20 _ ?_
          refine hw_cond _ rfl (fun hc4 => ?_) (fun hc4 => ?_)
          · have hr4 := hc4; (try simp only [decide_eq_true_eq, decide_eq_false_iff_not, Bool.and_eq_true, Bool.or_eq_true, Bool.not_eq_true', Bool.or_eq_false_iff, beq_iff_eq, bne_iff_ne, ne_eq, beq_eq_false_iff_ne, bne_eq_false_iff_eq, Bool.not_eq_true, Bool.not_eq_false, Bool.not_eq_false', Int.toNat_natCast, Int.reduceToNat] at hc4)
            exfalso; omega
          · have hr4 := hc4; (try simp only [decide_eq_true_eq, decide_eq_false_iff_not, Bool.and_eq_true, Bool.or_eq_true, Bool.not_eq_true', Bool.or_eq_false_iff, beq_iff_eq, bne_iff_ne, ne_eq, beq_eq_false_iff_ne, bne_eq_false_iff_eq, Bool.not_eq_true, Bool.not_eq_false, Bool.not_eq_false', Int.toNat_natCast, Int.reduceToNat] at hc4)
            refine hw_skip ?_
            refine hq_block ?_
            refine h9 _ ?_
            refine hw_region ?_
            refine hq_ 12 (hop_move rfl) rfl rfl pre0 rfl rfl ?_
            first
            | refine hq_ 13 (hop_addi rfl rfl rfl (by first | exact Nat.le_of_ble_eq_true rfl | omega | (dsimp only; omega) | (simp <;> omega)) (by first | exact Nat.le_of_ble_eq_true rfl | omega | (dsimp only; omega) | (simp <;> omega))) rfl rfl pre0 rfl rfl ?_
            | refine hq_ 13 (hop_add rfl rfl) rfl rfl pre0 rfl rfl ?_
            refine hq_ 5 (hop_assign rfl) rfl rfl pre0 rfl rfl ?_
            refine hseq_nil ?_
            exact hL6 ((k + 1, (acc ++ [32]) ++ pieceL (l.getD k default))) _ _ (by (try dsimp only); exact ⟨by omega, by (try simp only [List.length_append, List.length_cons, List.length_nil]); omega, by have h := show_next (p := pieceL (l.getD k default)) hkl hL hsep (rfl); simpa only [List.append_nil, List.append_assoc] using h⟩) (by (try dsimp only); omega) (hsub_of rfl (Nat.le_refl _) (TmSub.cons rfl (Sb.refl _) (TmSub.cons rfl (Sb.refl _) (TmSub.cons rfl (Sb.refl _) (TmSub.cons rfl (Sb.refl _) TmSub.nil)))) (HpSub.cons rfl (OSub.refl _) HpSub.nil))
        · have hr3 := hc3; (try simp only [decide_eq_true_eq, decide_eq_false_iff_not, Bool.and_eq_true, Bool.or_eq_true, Bool.not_eq_true', Bool.or_eq_false_iff, beq_iff_eq, bne_iff_ne, ne_eq, beq_eq_false_iff_ne, bne_eq_false_iff_eq, Bool.not_eq_true, Bool.not_eq_false, Bool.not_eq_false', Int.toNat_natCast, Int.reduceToNat] at hc3)
          refine hw_skip ?_
          refine h18 _ ?_
          refine hw_seq (fun Nh21 h21 => ?_)
          refine hw_region ?_
          first
          | refine hq_ 49 (hop_fa fd_40_0 rfl) rfl rfl pre0 rfl rfl ?_
          | refine hq_ 49 (hop_fa_fp fd_40_0 rfl (by first | exact Nat.le_of_ble_eq_true rfl | omega | (dsimp only; omega) | (simp <;> omega))) rfl rfl pre0 rfl rfl ?_
          first
          | refine hq_ 50 (HOp.val (v' := intV (l.getD k default).kind) (hol_load ty_3 rfl (by first | exact Nat.le_of_ble_eq_true rfl | omega | (dsimp only; omega) | (simp <;> omega)) (by first | exact Nat.le_of_ble_eq_true rfl | omega | (dsimp only; omega) | (simp <;> omega)) (fun h => by first | rfl | cases h)) (rfl)) rfl rfl (pre1 rfl) rfl rfl ?_
          | refine hq_ 50 (HOp.val (v' := intV (l.getD k default).kind) (hop_load_fp ty_3 rfl (by first | exact Nat.le_of_ble_eq_true rfl | omega | (dsimp only; omega) | (simp <;> omega)) (fun h => by first | rfl | cases h)) (rfl)) rfl rfl pre0 rfl rfl ?_
          refine hq_ 51 (hop_eql rfl rfl) rfl rfl pre0 rfl rfl ?_
          refine hseq_nil ?_
          refine h21 _ ?_
          refine hw_cond _ rfl (fun hc4 => ?_) (fun hc4 => ?_)
          · have hr4 := hc4; (try simp only [decide_eq_true_eq, decide_eq_false_iff_not, Bool.and_eq_true, Bool.or_eq_true, Bool.not_eq_true', Bool.or_eq_false_iff, beq_iff_eq, bne_iff_ne, ne_eq, beq_eq_false_iff_ne, bne_eq_false_iff_eq, Bool.not_eq_true, Bool.not_eq_false, Bool.not_eq_false', Int.toNat_natCast, Int.reduceToNat] at hc4)
            refine hw_region ?_
            refine hq_ 52 (hop_move rfl) rfl rfl pre0 rfl rfl ?_
            first
            | refine hq_ 53 (hop_fa fd_40_2 rfl) rfl rfl pre0 rfl rfl ?_
            | refine hq_ 53 (hop_fa_fp fd_40_2 rfl (by first | exact Nat.le_of_ble_eq_true rfl | omega | (dsimp only; omega) | (simp <;> omega))) rfl rfl pre0 rfl rfl ?_
            first
            | refine hq_ 54 (HOp.val (v' := intV (l.getD k default).low) (hol_load ty_3 rfl (by first | exact Nat.le_of_ble_eq_true rfl | omega | (dsimp only; omega) | (simp <;> omega)) (by first | exact Nat.le_of_ble_eq_true rfl | omega | (dsimp only; omega) | (simp <;> omega)) (fun h => by first | rfl | cases h)) (rfl)) rfl rfl (pre1 rfl) rfl rfl ?_
            | refine hq_ 54 (HOp.val (v' := intV (l.getD k default).low) (hop_load_fp ty_3 rfl (by first | exact Nat.le_of_ble_eq_true rfl | omega | (dsimp only; omega) | (simp <;> omega)) (fun h => by first | rfl | cases h)) (rfl)) rfl rfl pre0 rfl rfl ?_
            first
            | refine hq_ 55 (hop_fa fd_40_3 rfl) rfl rfl pre0 rfl rfl ?_
            | refine hq_ 55 (hop_fa_fp fd_40_3 rfl (by first | exact Nat.le_of_ble_eq_true rfl | omega | (dsimp only; omega) | (simp <;> omega))) rfl rfl pre0 rfl rfl ?_
            first
            | refine hq_ 56 (HOp.val (v' := intV (l.getD k default).high) (hol_load ty_3 rfl (by first | exact Nat.le_of_ble_eq_true rfl | omega | (dsimp only; omega) | (simp <;> omega)) (by first | exact Nat.le_of_ble_eq_true rfl | omega | (dsimp only; omega) | (simp <;> omega)) (fun h => by first | rfl | cases h)) (rfl)) rfl rfl (pre1 rfl) rfl rfl ?_
            | refine hq_ 56 (HOp.val (v' := intV (l.getD k default).high) (hop_load_fp ty_3 rfl (by first | exact Nat.le_of_ble_eq_true rfl | omega | (dsimp only; omega) | (simp <;> omega)) (fun h => by first | rfl | cases h)) (rfl)) rfl rfl pre0 rfl rfl ?_
            refine hq_ 57 (hop_call0 (xs := [_, _]) (refTimes_h _ _ hx.low hx.high) ⟨rfl, ⟨rfl, trivial⟩⟩ ⟨(Fz.eq rfl), ⟨(Fz.eq rfl), trivial⟩⟩) rfl rfl pre0 rfl rfl ?_
            refine hq_ 58 (hop_catl rfl rfl (by first | exact Nat.le_of_ble_eq_true rfl | omega | (dsimp only; omega) | (simp <;> omega))) rfl rfl pre0 rfl rfl ?_
            refine hq_ 4 (hop_assign rfl) rfl rfl pre0 rfl rfl ?_
            refine hseq_nil ?_
            refine hq_block ?_
            refine h9 _ ?_
            refine hw_region ?_
            refine hq_ 12 (hop_move rfl) rfl rfl pre0 rfl rfl ?_
            first
            | refine hq_ 13 (hop_addi rfl rfl rfl (by first | exact Nat.le_of_ble_eq_true rfl | omega | (dsimp only; omega) | (simp <;> omega)) (by first | exact Nat.le_of_ble_eq_true rfl | omega | (dsimp only; omega) | (simp <;> omega))) rfl rfl pre0 rfl rfl ?_
            | refine hq_ 13 (hop_add rfl rfl) rfl rfl pre0 rfl rfl ?_
            refine hq_ 5 (hop_assign rfl) rfl rfl pre0 rfl rfl ?_
            refine hseq_nil ?_
            exact hL6 ((k + 1, (acc ++ [32]) ++ timesL (l.getD k default).low (l.getD k default).high)) _ _ (by (try dsimp only); exact ⟨by omega, by (try simp only [List.length_append, List.length_cons, List.length_nil]); omega, by have h := show_next (p := timesL (l.getD k default).low (l.getD k default).high) hkl hL hsep (by unfold pieceL; rw [if_neg hc2, if_neg (fun h => by have h3 := hr3; rw [h] at h3; simp at h3), if_neg (fun h => by have h3 := hr3; rw [h] at h3; simp at h3), if_neg (fun h => by have h3 := hr3; rw [h] at h3; simp at h3), if_pos hc4]); simpa only [List.append_nil, List.append_assoc] using h⟩) (by (try dsimp only); omega) (hsub_of rfl (Nat.le_refl _) (TmSub.cons rfl (Sb.refl _) (TmSub.cons rfl (Sb.refl _) (TmSub.cons rfl (Sb.refl _) (TmSub.cons rfl (Sb.refl _) TmSub.nil)))) (HpSub.cons rfl (OSub.refl _) HpSub.nil))
          · have hr4 := hc4; (try simp only [decide_eq_true_eq, decide_eq_false_iff_not, Bool.and_eq_true, Bool.or_eq_true, Bool.not_eq_true', Bool.or_eq_false_iff, beq_iff_eq, bne_iff_ne, ne_eq, beq_eq_false_iff_ne, bne_eq_false_iff_eq, Bool.not_eq_true, Bool.not_eq_false, Bool.not_eq_false', Int.toNat_natCast, Int.reduceToNat] at hc4)
            refine hw_skip ?_
            refine hq_block ?_
            refine h9 _ ?_
            refine hw_region ?_
            refine hq_ 12 (hop_move rfl) rfl rfl pre0 rfl rfl ?_
            first
            | refine hq_ 13 (hop_addi rfl rfl rfl (by first | exact Nat.le_of_ble_eq_true rfl | omega | (dsimp only; omega) | (simp <;> omega)) (by first | exact Nat.le_of_ble_eq_true rfl | omega | (dsimp only; omega) | (simp <;> omega))) rfl rfl pre0 rfl rfl ?_
            | refine hq_ 13 (hop_add rfl rfl) rfl rfl pre0 rfl rfl ?_
            refine hq_ 5 (hop_assign rfl) rfl rfl pre0 rfl rfl ?_
            refine hseq_nil ?_
            exact hL6 ((k + 1, acc ++ [32])) _ _ (by (try dsimp only); exact ⟨by omega, by (try simp only [List.length_append, List.length_cons, List.length_nil]); omega, by have h := show_next (p := []) hkl hL hsep (by unfold pieceL; rw [if_neg hc2, if_neg (fun h => by have h3 := hr3; rw [h] at h3; simp at h3), if_neg (fun h => by have h3 := hr3; rw [h] at h3; simp at h3), if_neg (fun h => by have h3 := hr3; rw [h] at h3; simp at h3), if_neg hc4]); simpa only [List.append_nil, List.append_assoc] using h⟩) (by (try dsimp only); omega) (hsub_of rfl (Nat.le_refl _) (TmSub.cons rfl (Sb.refl _) (TmSub.cons rfl (Sb.refl _) (TmSub.cons rfl (Sb.refl _) (TmSub.cons rfl (Sb.refl _) TmSub.nil)))) (HpSub.cons rfl (OSub.refl _) HpSub.nil))
    · have hr1 := hc1; (try simp only [decide_eq_true_eq, decide_eq_false_iff_not, Bool.and_eq_true, Bool.or_eq_true, Bool.not_eq_true', Bool.or_eq_false_iff, beq_iff_eq, bne_iff_ne, ne_eq, beq_eq_false_iff_ne, bne_eq_false_iff_eq, Bool.not_eq_true, Bool.not_eq_false, Bool.not_eq_false', Int.toNat_natCast, Int.reduceToNat] at hc1)
      have hsep : sepL (decide (k = 0)) (l.getD k default) = [] := (by unfold sepL; rw [if_neg (fun h => by have h1 := of_decide_eq_false h.1; have h2 := hr1; rw [show decide ((0 : Int) < (k : Int)) = true from decide_eq_true (by omega), Bool.true_and] at h2; simp only [bne_eq_false_iff_eq] at h2; exact h.2 h2)])
      refine hw_skip ?_
      refine h11 _ ?_
      refine hw_seq (fun Nh22 h22 => ?_)
      refine hw_seq (fun Nh23 h23 => ?_)
      refine hw_region ?_
      first
      | refine hq_ 27 (hop_fa fd_40_0 rfl) rfl rfl pre0 rfl rfl ?_
      | refine hq_ 27 (hop_fa_fp fd_40_0 rfl (by first | exact Nat.le_of_ble_eq_true rfl | omega | (dsimp only; omega) | (simp <;> omega))) rfl rfl pre0 rfl rfl ?_
      first
      | refine hq_ 28 (HOp.val (v' := intV (l.getD k default).kind) (hol_load ty_3 rfl (by first | exact Nat.le_of_ble_eq_true rfl | omega | (dsimp only; omega) | (simp <;> omega)) (by first | exact Nat.le_of_ble_eq_true rfl | omega | (dsimp only; omega) | (simp <;> omega)) (fun h => by first | rfl | cases h)) (rfl)) rfl rfl (pre1 rfl) rfl rfl ?_
      | refine hq_ 28 (HOp.val (v' := intV (l.getD k default).kind) (hop_load_fp ty_3 rfl (by first | exact Nat.le_of_ble_eq_true rfl | omega | (dsimp only; omega) | (simp <;> omega)) (fun h => by first | rfl | cases h)) (rfl)) rfl rfl pre0 rfl rfl ?_
      refine hq_ 29 (hop_eql rfl rfl) rfl rfl pre0 rfl rfl ?_
      refine hseq_nil ?_
      refine h23 _ ?_
      refine hw_cond _ rfl (fun hc2 => ?_) (fun hc2 => ?_)
      · have hr2 := hc2; (try simp only [decide_eq_true_eq, decide_eq_false_iff_not, Bool.and_eq_true, Bool.or_eq_true, Bool.not_eq_true', Bool.or_eq_false_iff, beq_iff_eq, bne_iff_ne, ne_eq, beq_eq_false_iff_ne, bne_eq_false_iff_eq, Bool.not_eq_true, Bool.not_eq_false, Bool.not_eq_false', Int.toNat_natCast, Int.reduceToNat] at hc2)
        refine hw_region ?_
        refine hq_ 30 (hop_move rfl) rfl rfl pre0 rfl rfl ?_
        first
        | refine hq_ 31 (hop_fa fd_40_4 rfl) rfl rfl pre0 rfl rfl ?_
        | refine hq_ 31 (hop_fa_fp fd_40_4 rfl (by first | exact Nat.le_of_ble_eq_true rfl | omega | (dsimp only; omega) | (simp <;> omega))) rfl rfl pre0 rfl rfl ?_
        first
        | refine hq_ 32 (HOp.val (v' := strV (l.getD k default).name) (hol_load ty_9 rfl (by first | exact Nat.le_of_ble_eq_true rfl | omega | (dsimp only; omega) | (simp <;> omega)) (by first | exact Nat.le_of_ble_eq_true rfl | omega | (dsimp only; omega) | (simp <;> omega)) (fun h => by first | rfl | cases h)) (rfl)) rfl rfl (pre1 rfl) rfl rfl ?_
        | refine hq_ 32 (HOp.val (v' := strV (l.getD k default).name) (hop_load_fp ty_9 rfl (by first | exact Nat.le_of_ble_eq_true rfl | omega | (dsimp only; omega) | (simp <;> omega)) (fun h => by first | rfl | cases h)) (rfl)) rfl rfl pre0 rfl rfl ?_
        refine hq_ 33 (hop_catl rfl rfl (by first | exact Nat.le_of_ble_eq_true rfl | omega | (dsimp only; omega) | (simp <;> omega))) rfl rfl pre0 rfl rfl ?_
        refine hq_ 4 (hop_assign rfl) rfl rfl pre0 rfl rfl ?_
        refine hseq_nil ?_
        refine h22 _ ?_
        refine hw_seq (fun Nh24 h24 => ?_)
        refine hw_seq (fun Nh25 h25 => ?_)
        refine hw_region ?_
        first
        | refine hq_ 34 (hop_fa fd_40_0 rfl) rfl rfl pre0 rfl rfl ?_
        | refine hq_ 34 (hop_fa_fp fd_40_0 rfl (by first | exact Nat.le_of_ble_eq_true rfl | omega | (dsimp only; omega) | (simp <;> omega))) rfl rfl pre0 rfl rfl ?_
        first
        | refine hq_ 35 (HOp.val (v' := intV (l.getD k default).kind) (hol_load ty_3 rfl (by first | exact Nat.le_of_ble_eq_true rfl | omega | (dsimp only; omega) | (simp <;> omega)) (by first | exact Nat.le_of_ble_eq_true rfl | omega | (dsimp only; omega) | (simp <;> omega)) (fun h => by first | rfl | cases h)) (rfl)) rfl rfl (pre1 rfl) rfl rfl ?_
        | refine hq_ 35 (HOp.val (v' := intV (l.getD k default).kind) (hop_load_fp ty_3 rfl (by first | exact Nat.le_of_ble_eq_true rfl | omega | (dsimp only; omega) | (simp <;> omega)) (fun h => by first | rfl | cases h)) (rfl)) rfl rfl pre0 rfl rfl ?_
        refine hq_ 36 (hop_gtr rfl rfl) rfl rfl pre0 rfl rfl ?_
        refine hq_ 37 (hop_move rfl) rfl rfl pre0 rfl rfl ?_
        first
        | refine hq_g 38 3 37 true _ (fun hb => hop_fa fd_40_0 rfl) rfl rfl rfl rfl pre0 rfl rfl rfl ?_
        | refine hq_g2 38 3 37 _ _ true _ (fun hb => hop_fa fd_40_0 rfl) rfl rfl rfl rfl pre0 rfl rfl rfl ?_
        | refine hq_g 38 3 37 true _ (fun hb => hop_fa_fp fd_40_0 rfl (by first | exact Nat.le_of_ble_eq_true rfl | (simp at hb; first | omega | (dsimp only; omega) | (simp <;> omega)))) rfl rfl rfl rfl pre0 rfl rfl rfl ?_
        | refine hq_g2 38 3 37 _ _ true _ (fun hb => hop_fa_fp fd_40_0 rfl (by first | exact Nat.le_of_ble_eq_true rfl | (simp at hb; first | omega | (dsimp only; omega) | (simp <;> omega)))) rfl rfl rfl rfl pre0 rfl rfl rfl ?_
        first
        | refine hq_g 39 3 37 true _ (fun hb => HOp.val (v' := intV (l.getD k default).kind) (hol_load ty_3 rfl (by first | exact Nat.le_of_ble_eq_true rfl | (simp at hb; first | omega | (dsimp only; omega) | (simp <;> omega))) (by first | exact Nat.le_of_ble_eq_true rfl | (simp at hb; first | omega | (dsimp only; omega) | (simp <;> omega))) (fun h => by first | rfl | cases h)) (rfl)) rfl rfl rfl rfl (pre1 rfl) rfl rfl rfl ?_
        | refine hq_g2 39 3 37 _ _ true _ (fun hb => HOp.val (v' := intV (l.getD k default).kind) (hol_load ty_3 rfl (by first | exact Nat.le_of_ble_eq_true rfl | (simp at hb; first | omega | (dsimp only; omega) | (simp <;> omega))) (by first | exact Nat.le_of_ble_eq_true rfl | (simp at hb; first | omega | (dsimp only; omega) | (simp <;> omega))) (fun h => by first | rfl | cases h)) (rfl)) rfl rfl rfl rfl (pre1 rfl) rfl rfl rfl ?_
        | refine hq_g 39 3 37 true _ (fun hb => HOp.val (v' := intV (l.getD k default).kind) (hop_load_fp ty_3 rfl (by first | exact Nat.le_of_ble_eq_true rfl | (simp at hb; first | omega | (dsimp only; omega) | (simp <;> omega))) (fun h => by first | rfl | cases h)) (rfl)) rfl rfl rfl rfl pre0 rfl rfl rfl ?_
        | refine hq_g2 39 3 37 _ _ true _ (fun hb => HOp.val (v' := intV (l.getD k default).kind) (hop_load_fp ty_3 rfl (by first | exact Nat.le_of_ble_eq_true rfl | (simp at hb; first | omega | (dsimp only; omega) | (simp <;> omega))) (fun h => by first | rfl | cases h)) (rfl)) rfl rfl rfl rfl pre0 rfl rfl rfl ?_
        first
        | refine hq_g 40 3 37 true _ (fun hb => hop_lss rfl rfl) rfl rfl rfl rfl pre0 rfl rfl rfl ?_
        | refine hq_g2 40 3 37 _ _ true _ (fun hb => hop_lss rfl rfl) rfl rfl rfl rfl pre0 rfl rfl rfl ?_
        first
        | refine hq_p 41 (hstep_and _ _ rfl rfl rfl) rfl rfl rfl ?_
        | refine hq_p 41 (hstep_or _ _ rfl rfl rfl) rfl rfl rfl ?_
        | refine hq_p 41 (hstep_ite _ _ _ rfl rfl rfl) rfl rfl rfl ?_
        | refine hq_p 41 (hstep_pick _ _ _ _ rfl rfl rfl (fun _ => .refl _) (fun _ => .refl _)) rfl rfl rfl ?_
        refine hseq_nilU (by rfl) (by simp only [dropUn, slots]; exact rfl) ?_
        refine h25 _ ?_
        refine hw_cond _ rfl (fun hc3 => ?_) (fun hc3 => ?_)
        · have hr3 := hc3; (try simp only [decide_eq_true_eq, decide_eq_false_iff_not, Bool.and_eq_true, Bool.or_eq_true, Bool.not_eq_true', Bool.or_eq_false_iff, beq_iff_eq, bne_iff_ne, ne_eq, beq_eq_false_iff_ne, bne_eq_false_iff_eq, Bool.not_eq_true, Bool.not_eq_false, Bool.not_eq_false', Int.toNat_natCast, Int.reduceToNat] at hc3)
          exfalso; omega
        · have hr3 := hc3; (try simp only [decide_eq_true_eq, decide_eq_false_iff_not, Bool.and_eq_true, Bool.or_eq_true, Bool.not_eq_true', Bool.or_eq_false_iff, beq_iff_eq, bne_iff_ne, ne_eq, beq_eq_false_iff_ne, bne_eq_false_iff_eq, Bool.not_eq_true, Bool.not_eq_false, Bool.not_eq_false', Int.toNat_natCast, Int.reduceToNat] at hc3)
          refine hw_skip ?_
          refine h24 _ ?_
          refine hw_seq (fun Nh26 h26 => ?_)
          refine hw_region ?_
          first
          | refine hq_ 49 (hop_fa fd_40_0 rfl) rfl rfl pre0 rfl rfl ?_
          | refine hq_ 49 (hop_fa_fp fd_40_0 rfl (by first | exact Nat.le_of_ble_eq_true rfl | omega | (dsimp only; omega) | (simp <;> omega))) rfl rfl pre0 rfl rfl ?_
          first
          | refine hq_ 50 (HOp.val (v' := intV (l.getD k default).kind) (hol_load ty_3 rfl (by first | exact Nat.le_of_ble_eq_true rfl | omega | (dsimp only; omega) | (simp <;> omega)) (by first | exact Nat.le_of_ble_eq_true rfl | omega | (dsimp only; omega) | (simp <;> omega)) (fun h => by first | rfl | cases h)) (rfl)) rfl rfl (pre1 rfl) rfl rfl ?_
          | refine hq_ 50 (HOp.val (v' := intV (l.getD k default).kind) (hop_load_fp ty_3 rfl (by first | exact Nat.le_of_ble_eq_true rfl | omega | (dsimp only; omega) | (simp <;> omega)) (fun h => by first | rfl | cases h)) (rfl)) rfl rfl pre0 rfl rfl ?_
          refine hq_ 51 (hop_eql rfl rfl) rfl rfl pre0 rfl rfl ?_
          refine hseq_nil ?_
          refine h26 _ ?_
          refine hw_cond _ rfl (fun hc4 => ?_) (fun hc4 => ?_)
          · have hr4 := hc4; (try simp only [decide_eq_true_eq, decide_eq_false_iff_not, Bool.and_eq_true, Bool.or_eq_true, Bool.not_eq_true', Bool.or_eq_false_iff, beq_iff_eq, bne_iff_ne, ne_eq, beq_eq_false_iff_ne, bne_eq_false_iff_eq, Bool.not_eq_true, Bool.not_eq_false, Bool.not_eq_false', Int.toNat_natCast, Int.reduceToNat] at hc4)
            exfalso; omega
          · have hr4 := hc4; (try simp only [decide_eq_true_eq, decide_eq_false_iff_not, Bool.and_eq_true, Bool.or_eq_true, Bool.not_eq_true', Bool.or_eq_false_iff, beq_iff_eq, bne_iff_ne, ne_eq, beq_eq_false_iff_ne, bne_eq_false_iff_eq, Bool.not_eq_true, Bool.not_eq_false, Bool.not_eq_false', Int.toNat_natCast, Int.reduceToNat] at hc4)
            refine hw_skip ?_
            refine hq_block ?_
            refine h9 _ ?_
            refine hw_region ?_
            refine hq_ 12 (hop_move rfl) rfl rfl pre0 rfl rfl ?_
            first
            | refine hq_ 13 (hop_addi rfl rfl rfl (by first | exact Nat.le_of_ble_eq_true rfl | omega | (dsimp only; omega) | (simp <;> omega)) (by first | exact Nat.le_of_ble_eq_true rfl | omega | (dsimp only; omega) | (simp <;> omega))) rfl rfl pre0 rfl rfl ?_
            | refine hq_ 13 (hop_add rfl rfl) rfl rfl pre0 rfl rfl ?_
            refine hq_ 5 (hop_assign rfl) rfl rfl pre0 rfl rfl ?_
            refine hseq_nil ?_
            exact hL6 ((k + 1, (acc) ++ (l.getD k default).name)) _ _ (by (try dsimp only); exact ⟨by omega, by (try simp only [List.length_append, List.length_cons, List.length_nil]); omega, by have h := show_next (p := (l.getD k default).name) hkl hL hsep (if_pos hc2); simpa only [List.append_nil, List.append_assoc] using h⟩) (by (try dsimp only); omega) (hsub_of rfl (Nat.le_refl _) (TmSub.cons rfl (Sb.refl _) (TmSub.cons rfl (Sb.refl _) (TmSub.cons rfl (Sb.refl _) (TmSub.cons rfl (Sb.refl _) TmSub.nil)))) (HpSub.cons rfl (OSub.refl _) HpSub.nil))
      · have hr2 := hc2; (try simp only [decide_eq_true_eq, decide_eq_false_iff_not, Bool.and_eq_true, Bool.or_eq_true, Bool.not_eq_true', Bool.or_eq_false_iff, beq_iff_eq, bne_iff_ne, ne_eq, beq_eq_false_iff_ne, bne_eq_false_iff_eq, Bool.not_eq_true, Bool.not_eq_false, Bool.not_eq_false', Int.toNat_natCast, Int.reduceToNat] at hc2)
        refine hw_skip ?_
        refine h22 _ ?_
        refine hw_seq (fun Nh27 h27 => ?_)
        refine hw_seq (fun Nh28 h28 => ?_)
        refine hw_region ?_
        first
        | refine hq_ 34 (hop_fa fd_40_0 rfl) rfl rfl pre0 rfl rfl ?_
        | refine hq_ 34 (hop_fa_fp fd_40_0 rfl (by first | exact Nat.le_of_ble_eq_true rfl | omega | (dsimp only; omega) | (simp <;> omega))) rfl rfl pre0 rfl rfl ?_
        first
        | refine hq_ 35 (HOp.val (v' := intV (l.getD k default).kind) (hol_load ty_3 rfl (by first | exact Nat.le_of_ble_eq_true rfl | omega | (dsimp only; omega) | (simp <;> omega)) (by first | exact Nat.le_of_ble_eq_true rfl | omega | (dsimp only; omega) | (simp <;> omega)) (fun h => by first | rfl | cases h)) (rfl)) rfl rfl (pre1 rfl) rfl rfl ?_
        | refine hq_ 35 (HOp.val (v' := intV (l.getD k default).kind) (hop_load_fp ty_3 rfl (by first | exact Nat.le_of_ble_eq_true rfl | omega | (dsimp only; omega) | (simp <;> omega)) (fun h => by first | rfl | cases h)) (rfl)) rfl rfl pre0 rfl rfl ?_
        refine hq_ 36 (hop_gtr rfl rfl) rfl rfl pre0 rfl rfl ?_
        refine hq_ 37 (hop_move rfl) rfl rfl pre0 rfl rfl ?_
        first
        | refine hq_g 38 3 37 true _ (fun hb => hop_fa fd_40_0 rfl) rfl rfl rfl rfl pre0 rfl rfl rfl ?_
        | refine hq_g2 38 3 37 _ _ true _ (fun hb => hop_fa fd_40_0 rfl) rfl rfl rfl rfl pre0 rfl rfl rfl ?_
        | refine hq_g 38 3 37 true _ (fun hb => hop_fa_fp fd_40_0 rfl (by first | exact Nat.le_of_ble_eq_true rfl | (simp at hb; first | omega | (dsimp only; omega) | (simp <;> omega)))) rfl rfl rfl rfl pre0 rfl rfl rfl ?_
        | refine hq_g2 38 3 37 _ _ true _ (fun hb => hop_fa_fp fd_40_0 rfl (by first | exact Nat.le_of_ble_eq_true rfl | (simp at hb; first | omega | (dsimp only; omega) | (simp <;> omega)))) rfl rfl rfl rfl pre0 rfl rfl rfl ?_
        first
        | refine hq_g 39 3 37 true _ (fun hb => HOp.val (v' := intV (l.getD k default).kind) (hol_load ty_3 rfl (by first | exact Nat.le_of_ble_eq_true rfl | (simp at hb; first | omega | (dsimp only; omega) | (simp <;> omega))) (by first | exact Nat.le_of_ble_eq_true rfl | (simp at hb; first | omega | (dsimp only; omega) | (simp <;> omega))) (fun h => by first | rfl | cases h)) (rfl)) rfl rfl rfl rfl (pre1 rfl) rfl rfl rfl ?_
        | refine hq_g2 39 3 37 _ _ true _ (fun hb => HOp.val (v' := intV (l.getD k default).kind) (hol_load ty_3 rfl (by first | exact Nat.le_of_ble_eq_true rfl | (simp at hb; first | omega | (dsimp only; omega) | (simp <;> omega))) (by first | exact Nat.le_of_ble_eq_true rfl | (simp at hb; first | omega | (dsimp only; omega) | (simp <;> omega))) (fun h => by first | rfl | cases h)) (rfl)) rfl rfl rfl rfl (pre1 rfl) rfl rfl rfl ?_
        | refine hq_g 39 3 37 true _ (fun hb => HOp.val (v' := intV (l.getD k default).kind) (hop_load_fp ty_3 rfl (by first | exact Nat.le_of_ble_eq_true rfl | (simp at hb; first | omega | (dsimp only; omega) | (simp <;> omega))) (fun h => by first | rfl | cases h)) (rfl)) rfl rfl rfl rfl pre0 rfl rfl rfl ?_
        | refine hq_g2 39 3 37 _ _ true _ (fun hb => HOp.val (v' := intV (l.getD k default).kind) (hop_load_fp ty_3 rfl (by first | exact Nat.le_of_ble_eq_true rfl | (simp at hb; first | omega | (dsimp only; omega) | (simp <;> omega))) (fun h => by first | rfl | cases h)) (rfl)) rfl rfl rfl rfl pre0 rfl rfl rfl ?_
        first
        | refine hq_g 40 3 37 true _ (fun hb => hop_lss rfl rfl) rfl rfl rfl rfl pre0 rfl rfl rfl ?_
        | refine hq_g2 40 3 37 _ _ true _ (fun hb => hop_lss rfl rfl) rfl rfl rfl rfl pre0 rfl rfl rfl ?_
        first
        | refine hq_p 41 (hstep_and _ _ rfl rfl rfl) rfl rfl rfl ?_
        | refine hq_p 41 (hstep_or _ _ rfl rfl rfl) rfl rfl rfl ?_
        | refine hq_p 41 (hstep_ite _ _ _ rfl rfl rfl) rfl rfl rfl ?_
        | refine hq_p 41 (hstep_pick _ _ _ _ rfl rfl rfl (fun _ => .refl _) (fun _ => .refl _)) rfl rfl rfl ?_
        refine hseq_nilU (by rfl) (by simp only [dropUn, slots]; exact rfl) ?_
        refine h28 _ ?_
        refine hw_cond _ rfl (fun hc3 => ?_) (fun hc3 => ?_)
        · have hr3 := hc3; (try simp only [decide_eq_true_eq, decide_eq_false_iff_not, Bool.and_eq_true, Bool.or_eq_true, Bool.not_eq_true', Bool.or_eq_false_iff, beq_iff_eq, bne_iff_ne, ne_eq, beq_eq_false_iff_ne, bne_eq_false_iff_eq, Bool.not_eq_true, Bool.not_eq_false, Bool.not_eq_false', Int.toNat_natCast, Int.reduceToNat] at hc3)
          have hpl : (pieceL (l.getD k default)).length ≤ 1 := piece_short hc3.1 hc3.2
          refine hw_region ?_
          refine hq_ 42 (hop_move rfl) rfl rfl pre0 rfl rfl ?_
          refine hq_ 43 (hop_move rfl) rfl rfl pre0 rfl rfl ?_
          first
          | refine hq_ 44 (hop_fa fd_40_0 rfl) rfl rfl pre0 rfl rfl ?_
          | refine hq_ 44 (hop_fa_fp fd_40_0 rfl (by first | exact Nat.le_of_ble_eq_true rfl | omega | (dsimp only; omega) | (simp <;> omega))) rfl rfl pre0 rfl rfl ?_
          first
          | refine hq_ 45 (HOp.val (v' := intV (l.getD k default).kind) (hol_load ty_3 rfl (by first | exact Nat.le_of_ble_eq_true rfl | omega | (dsimp only; omega) | (simp <;> omega)) (by first | exact Nat.le_of_ble_eq_true rfl | omega | (dsimp only; omega) | (simp <;> omega)) (fun h => by first | rfl | cases h)) (rfl)) rfl rfl (pre1 rfl) rfl rfl ?_
          | refine hq_ 45 (HOp.val (v' := intV (l.getD k default).kind) (hop_load_fp ty_3 rfl (by first | exact Nat.le_of_ble_eq_true rfl | omega | (dsimp only; omega) | (simp <;> omega)) (fun h => by first | rfl | cases h)) (rfl)) rfl rfl pre0 rfl rfl ?_
          first
          | refine hq_ 46 (hop_ia_sl el_47 rfl rfl (by first | exact Nat.le_of_ble_eq_true rfl | omega | (dsimp only; omega) | (simp <;> omega)) (by first | exact Nat.le_of_ble_eq_true rfl | omega | (dsimp only; omega) | (simp <;> omega)) (by first | exact Nat.le_of_ble_eq_true rfl | omega | (dsimp only; omega) | (simp <;> omega))) rfl rfl pre0 rfl rfl ?_
          | refine hq_ 46 (hol_ia_os el_47 rfl rfl (by first | exact Nat.le_of_ble_eq_true rfl | omega | (dsimp only; omega) | (simp <;> omega)) (by first | exact Nat.le_of_ble_eq_true rfl | omega | (dsimp only; omega) | (simp <;> omega))) rfl rfl (pre1 rfl) rfl rfl ?_
          first
          | refine hq_ 47 (HOp.val (v' := strV (pieceL (l.getD k default))) (hol_load ty_9 rfl (by first | exact Nat.le_of_ble_eq_true rfl | omega | (dsimp only; omega) | (simp <;> omega)) (by first | exact Nat.le_of_ble_eq_true rfl | omega | (dsimp only; omega) | (simp <;> omega)) (fun h => by first | rfl | cases h)) ((by exact nam_piece hc3.1 hc3.2))) rfl rfl (pre1 rfl) rfl rfl ?_
          | refine hq_ 47 (HOp.val (v' := strV (pieceL (l.getD k default))) (hop_load_fp ty_9 rfl (by first | exact Nat.le_of_ble_eq_true rfl | omega | (dsimp only; omega) | (simp <;> omega)) (fun h => by first | rfl | cases h)) ((by exact nam_piece hc3.1 hc3.2))) rfl rfl pre0 rfl rfl ?_
          refine hq_ 48 (hop_catl rfl rfl (by first | exact Nat.le_of_ble_eq_true rfl | omega | (dsimp only; omega) | (simp <;> omega))) rfl rfl pre0 rfl rfl ?_
          refine hq_ 4 (hop_assign rfl) rfl rfl pre0 rfl rfl ?_
          refine hseq_nil ?_
          refine h27 _ ?_
          refine hw_seq (fun Nh29 h29 => ?_)
          refine hw_region ?_
          first
          | refine hq_ 49 (hop_fa fd_40_0 rfl) rfl rfl pre0 rfl rfl ?_
          | refine hq_ 49 (hop_fa_fp fd_40_0 rfl (by first | exact Nat.le_of_ble_eq_true rfl | omega | (dsimp only; omega) | (simp <;> omega))) rfl rfl pre0 rfl rfl ?_
          first
          | refine hq_ 50 (HOp.val (v' := intV (l.getD k default).kind) (hol_load ty_3 rfl (by first | exact Nat.le_of_ble_eq_true rfl | omega | (dsimp only; omega) | (simp <;> omega)) (by first | exact Nat.le_of_ble_eq_true rfl | omega | (dsimp only; omega) | (simp <;> omega)) (fun h => by first | rfl | cases h)) (rfl)) rfl rfl (pre1 rfl) rfl rfl ?_
          | refine hq_ 50 (HOp.val (v' := intV (l.getD k default).kind) (hop_load_fp ty_3 rfl (by first | exact Nat.le_of_ble_eq_true rfl | omega | (dsimp only; omega) | (simp <;> omega)) (fun h => by first | rfl | cases h)) (rfl)) rfl rfl pre0 rfl rfl ?_
          refine hq_ 51 (hop_eql rfl rfl) rfl rfl pre0 rfl rfl ?_
          refine hseq_nil ?_
          refine h29 _ ?_
          refine hw_cond _ rfl (fun hc4 => ?_) (fun hc4 => ?_)
          · have hr4 := hc4; (try simp only [decide_eq_true_eq, decide_eq_false_iff_not, Bool.and_eq_true, Bool.or_eq_true, Bool.not_eq_true', Bool.or_eq_false_iff, beq_iff_eq, bne_iff_ne, ne_eq, beq_eq_false_iff_ne, bne_eq_false_iff_eq, Bool.not_eq_true, Bool.not_eq_false, Bool.not_eq_false', Int.toNat_natCast, Int.reduceToNat] at hc4)
            exfalso; omega
          · have hr4 := hc4; (try simp only [decide_eq_true_eq, decide_eq_false_iff_not, Bool.and_eq_true, Bool.or_eq_true, Bool.not_eq_true', Bool.or_eq_false_iff, beq_iff_eq, bne_iff_ne, ne_eq, beq_eq_false_iff_ne, bne_eq_false_iff_eq, Bool.not_eq_true, Bool.not_eq_false, Bool.not_eq_false', Int.toNat_natCast, Int.reduceToNat] at hc4)
            refine hw_skip ?_
            refine hq_block ?_
            refine h9 _ ?_
            refine hw_region ?_
            refine hq_ 12 (hop_move rfl) rfl rfl pre0 rfl rfl ?_
            first
            | refine hq_ 13 (hop_addi rfl rfl rfl (by first | exact Nat.le_of_ble_eq_true rfl | omega | (dsimp only; omega) | (simp <;> omega)) (by first | exact Nat.le_of_ble_eq_true rfl | omega | (dsimp only; omega) | (simp <;> omega))) rfl rfl pre0 rfl rfl ?_
            | refine hq_ 13 (hop_add rfl rfl) rfl rfl pre0 rfl rfl ?_
            refine hq_ 5 (hop_assign rfl) rfl rfl pre0 rfl rfl ?_
            refine hseq_nil ?_
            exact hL6 ((k + 1, (acc) ++ pieceL (l.getD k default))) _ _ (by (try dsimp only); exact ⟨by omega, by (try simp only [List.length_append, List.length_cons, List.length_nil]); omega, by have h := show_next (p := pieceL (l.getD k default)) hkl hL hsep (rfl); simpa only [List.append_nil, List.append_assoc] using h⟩) (by (try dsimp only); omega) (hsub_of rfl (Nat.le_refl _) (TmSub.cons rfl (Sb.refl _) (TmSub.cons rfl (Sb.refl _) (TmSub.cons rfl (Sb.refl _) (TmSub.cons rfl (Sb.refl _) TmSub.nil)))) (HpSub.cons rfl (OSub.refl _) HpSub.nil))
        · have hr3 := hc3; (try simp only [decide_eq_true_eq, decide_eq_false_iff_not, Bool.and_eq_true, Bool.or_eq_true, Bool.not_eq_true', Bool.or_eq_false_iff, beq_iff_eq, bne_iff_ne, ne_eq, beq_eq_false_iff_ne, bne_eq_false_iff_eq, Bool.not_eq_true, Bool.not_eq_false, Bool.not_eq_false', Int.toNat_natCast, Int.reduceToNat] at hc3)
          refine hw_skip ?_
          refine h27 _ ?_
          refine hw_seq (fun Nh30 h30 => ?_)
          refine hw_region ?_
          first
          | refine hq_ 49 (hop_fa fd_40_0 rfl) rfl rfl pre0 rfl rfl ?_
          | refine hq_ 49 (hop_fa_fp fd_40_0 rfl (by first | exact Nat.le_of_ble_eq_true rfl | omega | (dsimp only; omega) | (simp <;> omega))) rfl rfl pre0 rfl rfl ?_
          first
          | refine hq_ 50 (HOp.val (v' := intV (l.getD k default).kind) (hol_load ty_3 rfl (by first | exact Nat.le_of_ble_eq_true rfl | omega | (dsimp only; omega) | (simp <;> omega)) (by first | exact Nat.le_of_ble_eq_true rfl | omega | (dsimp only; omega) | (simp <;> omega)) (fun h => by first | rfl | cases h)) (rfl)) rfl rfl (pre1 rfl) rfl rfl ?_
          | refine hq_ 50 (HOp.val (v' := intV (l.getD k default).kind) (hop_load_fp ty_3 rfl (by first | exact Nat.le_of_ble_eq_true rfl | omega | (dsimp only; omega) | (simp <;> omega)) (fun h => by first | rfl | cases h)) (rfl)) rfl rfl pre0 rfl rfl ?_
          refine hq_ 51 (hop_eql rfl rfl) rfl rfl pre0 rfl rfl ?_
          refine hseq_nil ?_
          refine h30 _ ?_
          refine hw_cond _ rfl (fun hc4 => ?_) (fun hc4 => ?_)
          · have hr4 := hc4; (try simp only [decide_eq_true_eq, decide_eq_false_iff_not, Bool.and_eq_true, Bool.or_eq_true, Bool.not_eq_true', Bool.or_eq_false_iff, beq_iff_eq, bne_iff_ne, ne_eq, beq_eq_false_iff_ne, bne_eq_false_iff_eq, Bool.not_eq_true, Bool.not_eq_false, Bool.not_eq_false', Int.toNat_natCast, Int.reduceToNat] at hc4)
            refine hw_region ?_
            refine hq_ 52 (hop_move rfl) rfl rfl pre0 rfl rfl ?_
            first
            | refine hq_ 53 (hop_fa fd_40_2 rfl) rfl rfl pre0 rfl rfl ?_
            | refine hq_ 53 (hop_fa_fp fd_40_2 rfl (by first | exact Nat.le_of_ble_eq_true rfl | omega | (dsimp only; omega) | (simp <;> omega))) rfl rfl pre0 rfl rfl ?_
            first
            | refine hq_ 54 (HOp.val (v' := intV (l.getD k default).low) (hol_load ty_3 rfl (by first | exact Nat.le_of_ble_eq_true rfl | omega | (dsimp only; omega) | (simp <;> omega)) (by first | exact Nat.le_of_ble_eq_true rfl | omega | (dsimp only; omega) | (simp <;> omega)) (fun h => by first | rfl | cases h)) (rfl)) rfl rfl (pre1 rfl) rfl rfl ?_
            | refine hq_ 54 (HOp.val (v' := intV (l.getD k default).low) (hop_load_fp ty_3 rfl (by first | exact Nat.le_of_ble_eq_true rfl | omega | (dsimp only; omega) | (simp <;> omega)) (fun h => by first | rfl | cases h)) (rfl)) rfl rfl pre0 rfl rfl ?_
            first
            | refine hq_ 55 (hop_fa fd_40_3 rfl) rfl rfl pre0 rfl rfl ?_
            | refine hq_ 55 (hop_fa_fp fd_40_3 rfl (by first | exact Nat.le_of_ble_eq_true rfl | omega | (dsimp only; omega) | (simp <;> omega))) rfl rfl pre0 rfl rfl ?_
            first
            | refine hq_ 56 (HOp.val (v' := intV (l.getD k default).high) (hol_load ty_3 rfl (by first | exact Nat.le_of_ble_eq_true rfl | omega | (dsimp only; omega) | (simp <;> omega)) (by first | exact Nat.le_of_ble_eq_true rfl | omega | (dsimp only; omega) | (simp <;> omega)) (fun h => by first | rfl | cases h)) (rfl)) rfl rfl (pre1 rfl) rfl rfl ?_
            | refine hq_ 56 (HOp.val (v' := intV (l.getD k default).high) (hop_load_fp ty_3 rfl (by first | exact Nat.le_of_ble_eq_true rfl | omega | (dsimp only; omega) | (simp <;> omega)) (fun h => by first | rfl | cases h)) (rfl)) rfl rfl pre0 rfl rfl ?_
            refine hq_ 57 (hop_call0 (xs := [_, _]) (refTimes_h _ _ hx.low hx.high) ⟨rfl, ⟨rfl, trivial⟩⟩ ⟨(Fz.eq rfl), ⟨(Fz.eq rfl), trivial⟩⟩) rfl rfl pre0 rfl rfl ?_
            refine hq_ 58 (hop_catl rfl rfl (by first | exact Nat.le_of_ble_eq_true rfl | omega | (dsimp only; omega) | (simp <;> omega))) rfl rfl pre0 rfl rfl ?_
            refine hq_ 4 (hop_assign rfl) rfl rfl pre0 rfl rfl ?_
            refine hseq_nil ?_
            refine hq_block ?_
            refine h9 _ ?_
            refine hw_region ?_
            refine hq_ 12 (hop_move rfl) rfl rfl pre0 rfl rfl ?_
            first
            | refine hq_ 13 (hop_addi rfl rfl rfl (by first | exact Nat.le_of_ble_eq_true rfl | omega | (dsimp only; omega) | (simp <;> omega)) (by first | exact Nat.le_of_ble_eq_true rfl | omega | (dsimp only; omega) | (simp <;> omega))) rfl rfl pre0 rfl rfl ?_
            | refine hq_ 13 (hop_add rfl rfl) rfl rfl pre0 rfl rfl ?_
            refine hq_ 5 (hop_assign rfl) rfl rfl pre0 rfl rfl ?_
            refine hseq_nil ?_
            exact hL6 ((k + 1, (acc) ++ timesL (l.getD k default).low (l.getD k default).high)) _ _ (by (try dsimp only); exact ⟨by omega, by (try simp only [List.length_append, List.length_cons, List.length_nil]); omega, by have h := show_next (p := timesL (l.getD k default).low (l.getD k default).high) hkl hL hsep (by unfold pieceL; rw [if_neg hc2, if_neg (fun h => by have h3 := hr3; rw [h] at h3; simp at h3), if_neg (fun h => by have h3 := hr3; rw [h] at h3; simp at h3), if_neg (fun h => by have h3 := hr3; rw [h] at h3; simp at h3), if_pos hc4]); simpa only [List.append_nil, List.append_assoc] using h⟩) (by (try dsimp only); omega) (hsub_of rfl (Nat.le_refl _) (TmSub.cons rfl (Sb.refl _) (TmSub.cons rfl (Sb.refl _) (TmSub.cons rfl (Sb.refl _) (TmSub.cons rfl (Sb.refl _) TmSub.nil)))) (HpSub.cons rfl (OSub.refl _) HpSub.nil))
          · have hr4 := hc4; (try simp only [decide_eq_true_eq, decide_eq_false_iff_not, Bool.and_eq_true, Bool.or_eq_true, Bool.not_eq_true', Bool.or_eq_false_iff, beq_iff_eq, bne_iff_ne, ne_eq, beq_eq_false_iff_ne, bne_eq_false_iff_eq, Bool.not_eq_true, Bool.not_eq_false, Bool.not_eq_false', Int.toNat_natCast, Int.reduceToNat] at hc4)
            refine hw_skip ?_
            refine hq_block ?_
            refine h9 _ ?_
            refine hw_region ?_
            refine hq_ 12 (hop_move rfl) rfl rfl pre0 rfl rfl ?_
            first
            | refine hq_ 13 (hop_addi rfl rfl rfl (by first | exact Nat.le_of_ble_eq_true rfl | omega | (dsimp only; omega) | (simp <;> omega)) (by first | exact Nat.le_of_ble_eq_true rfl | omega | (dsimp only; omega) | (simp <;> omega))) rfl rfl pre0 rfl rfl ?_
            | refine hq_ 13 (hop_add rfl rfl) rfl rfl pre0 rfl rfl ?_
            refine hq_ 5 (hop_assign rfl) rfl rfl pre0 rfl rfl ?_
            refine hseq_nil ?_
            exact hL6 ((k + 1, acc)) _ _ (by (try dsimp only); exact ⟨by omega, by (try simp only [List.length_append, List.length_cons, List.length_nil]); omega, by have h := show_next (p := []) hkl hL hsep (by unfold pieceL; rw [if_neg hc2, if_neg (fun h => by have h3 := hr3; rw [h] at h3; simp at h3), if_neg (fun h => by have h3 := hr3; rw [h] at h3; simp at h3), if_neg (fun h => by have h3 := hr3; rw [h] at h3; simp at h3), if_neg hc4]); simpa only [List.append_nil, List.append_assoc] using h⟩) (by (try dsimp only); omega) (hsub_of rfl (Nat.le_refl _) (TmSub.cons rfl (Sb.refl _) (TmSub.cons rfl (Sb.refl _) (TmSub.cons rfl (Sb.refl _) (TmSub.cons rfl (Sb.refl _) TmSub.nil)))) (HpSub.cons rfl (OSub.refl _) HpSub.nil))
  · have hr0 := hc0; (try simp only [decide_eq_true_eq, decide_eq_false_iff_not, Bool.and_eq_true, Bool.or_eq_true, Bool.not_eq_true', Bool.or_eq_false_iff, beq_iff_eq, bne_iff_ne, ne_eq, beq_eq_false_iff_ne, bne_eq_false_iff_eq, Bool.not_eq_true, Bool.not_eq_false, Bool.not_eq_false', Int.toNat_natCast, Int.reduceToNat] at hc0)
    refine hw_exit ?_
    refine hq_then_exit ?_
    refine hq_then_exit ?_
    refine hq_block_here ?_
    refine h4 _ ?_
    refine hw_seq (fun Nh31 h31 => ?_)
    refine hw_region ?_
    refine hq_ 59 (hop_move rfl) rfl rfl pre0 rfl rfl ?_
    refine hq_ 2 (hop_assign rfl) rfl rfl pre0 rfl rfl ?_
    refine hseq_nil ?_
    refine h31 _ ?_
    refine hw_ret ?_
    refine hq_ret1 rfl (rval_tmp rfl) [] rfl pre0 ?_
    have e := show_end (by omega) hL; rw [e]; exact .imm _
end Go.Proofs.YtijpdbjcmnpobaaDoor
