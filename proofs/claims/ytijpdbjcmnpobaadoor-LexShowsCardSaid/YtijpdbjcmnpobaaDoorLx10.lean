/-
  The laws of signs.
-/
import Derived.Test.YtijpdbjcmnpobaaDoorLx9
namespace Go.Proofs.YtijpdbjcmnpobaaDoor
set_option linter.unusedSimpArgs false
set_option linter.unusedVariables false
set_option maxRecDepth 100000
open Go.RowKit

theorem lexEx_h : HPure Tryd.prog 22 [strV exL] (lexH (exS, 0, 0)) := by
  have h := lex_h exL (by decide)
  rw [ex_lex2] at h
  exact h
theorem sg_ldv (l : List Sg) (k : Nat) : ldv true 5 (sgsF l k) 0 = sgH (l.getD k default) := by
  unfold ldv
  first
  | rfl
  | (congr 1; funext j; rw [Nat.zero_add])
  | (simp)
theorem exS_ok : ∀ x ∈ exS, SgOk x := by
  intro x hx
  simp only [exS, List.mem_cons, List.not_mem_nil, or_false] at hx
  rcases hx with rfl | rfl | rfl | rfl | rfl | rfl | rfl | rfl <;> exact ⟨by decide, by decide, by decide⟩
theorem showEx_h : HPure Tryd.prog 24 [sgsV exS] (strV [97, 43, 32, 40, 32, 98, 32, 124, 32, 99, 32, 41, 123, 50, 44, 125]) := by
  have h := lexShow_h exS (by decide) exS_ok
  rw [ex_show] at h
  exact h
instance frz_sgs (l : List Sg) : Frz (sgsV l) := ⟨.sl _ _ _ _ fun i j _ _ => sg_fz _ j⟩
theorem j5 {f g : Nat → HV} (h0 : f 0 = g 0) (h1 : f 1 = g 1) (h2 : f 2 = g 2) (h3 : f 3 = g 3) (h4 : f 4 = g 4) : ∀ j, j < 5 → f j = g j := fun j hj => by
  match j, hj with
  | 0, _ => exact h0
  | 1, _ => exact h1
  | 2, _ => exact h2
  | 3, _ => exact h3
  | 4, _ => exact h4
theorem live_h05 : HPure Tryd.prog 21 [] (boolV true) := by
  refine hpure_of Tryd.func21 rfl (by kernel_rfl) _ _ _ rfl 49 rfl rfl (fun w F => ?_)
  refine hw_seq (fun Nh1 h1 => ?_)
  refine hw_region ?_
  refine hq_ 0 (hop_assign rfl) rfl rfl pre0 rfl rfl ?_
  refine hseq_nil ?_
  refine h1 _ ?_
  refine hw_seq (fun Nh2 h2 => ?_)
  refine hw_region ?_
  refine hq_ 5 (hop_call0 (xs := [_]) (lexEx_h) ⟨rfl, trivial⟩ ⟨(Fz.eq rfl), trivial⟩) rfl rfl pre0 rfl rfl ?_
  refine hq_ 4 (hop_move rfl) rfl rfl pre0 rfl rfl ?_
  refine hq_ 6 (hop_extract rfl rfl) rfl rfl pre0 rfl rfl ?_
  refine hq_ 7 (hop_extract rfl rfl) rfl rfl pre0 rfl rfl ?_
  refine hq_ 8 (hop_extract rfl rfl) rfl rfl pre0 rfl rfl ?_
  refine hq_ 1 (hop_assign rfl) rfl rfl pre0 rfl rfl ?_
  refine hq_ 2 (hop_assign rfl) rfl rfl pre0 rfl rfl ?_
  refine hq_ 3 (hop_assign rfl) rfl rfl pre0 rfl rfl ?_
  refine hseq_nil ?_
  refine h2 _ ?_
  refine hw_seq (fun Nh3 h3 => ?_)
  refine hw_region ?_
  refine hq_ 9 (hop_move rfl) rfl rfl pre0 rfl rfl ?_
  refine hq_ 10 (hop_eql rfl rfl) rfl rfl pre0 rfl rfl ?_
  refine hq_ 11 (hop_move rfl) rfl rfl pre0 rfl rfl ?_
  first
  | refine hq_g 12 2 11 true _ (fun hb => hop_move rfl) rfl rfl rfl rfl pre0 rfl rfl rfl ?_
  | refine hq_g2 12 2 11 _ _ true _ (fun hb => hop_move rfl) rfl rfl rfl rfl pre0 rfl rfl rfl ?_
  first
  | refine hq_g 13 2 11 true _ (fun hb => hop_len_sl (T := 33) rfl (elOf_spec el_33).1 rfl) rfl rfl rfl rfl pre0 rfl rfl rfl ?_
  | refine hq_g2 13 2 11 _ _ true _ (fun hb => hop_len_sl (T := 33) rfl (elOf_spec el_33).1 rfl) rfl rfl rfl rfl pre0 rfl rfl rfl ?_
  | refine hq_g 13 2 11 true _ (fun hb => hop_len_os (T := 33) rfl (elOf_spec el_33).1 rfl) rfl rfl rfl rfl pre0 rfl rfl rfl ?_
  | refine hq_g2 13 2 11 _ _ true _ (fun hb => hop_len_os (T := 33) rfl (elOf_spec el_33).1 rfl) rfl rfl rfl rfl pre0 rfl rfl rfl ?_
  | refine hq_g 13 2 11 true _ (fun hb => hop_len_nil (T := 33) rfl (elOf_spec el_33).1 rfl) rfl rfl rfl rfl pre0 rfl rfl rfl ?_
  | refine hq_g2 13 2 11 _ _ true _ (fun hb => hop_len_nil (T := 33) rfl (elOf_spec el_33).1 rfl) rfl rfl rfl rfl pre0 rfl rfl rfl ?_
  first
  | refine hq_g 14 2 11 true _ (fun hb => hop_eql rfl rfl) rfl rfl rfl rfl pre0 rfl rfl rfl ?_
  | refine hq_g2 14 2 11 _ _ true _ (fun hb => hop_eql rfl rfl) rfl rfl rfl rfl pre0 rfl rfl rfl ?_
  first
  | refine hq_p 15 (hstep_and _ _ rfl rfl rfl) rfl rfl rfl ?_
  | refine hq_p 15 (hstep_or _ _ rfl rfl rfl) rfl rfl rfl ?_
  | refine hq_p 15 (hstep_ite _ _ _ rfl rfl rfl) rfl rfl rfl ?_
  | refine hq_p 15 (hstep_pick _ _ _ _ rfl rfl rfl (fun _ => .refl _) (fun _ => .refl _)) rfl rfl rfl ?_
  refine hq_ 16 (hop_move rfl) rfl rfl pre0 rfl rfl ?_
  first
  | refine hq_g 17 7 16 true _ (fun hb => hop_move rfl) rfl rfl rfl rfl pre0 rfl rfl rfl ?_
  | refine hq_g2 17 7 16 _ _ true _ (fun hb => hop_move rfl) rfl rfl rfl rfl pre0 rfl rfl rfl ?_
  first
  | refine hq_g 18 7 16 true _ (fun hb => hop_ia_sl el_33 rfl rfl (by first | exact Nat.le_of_ble_eq_true rfl | (simp at hb; first | omega | (dsimp only; omega) | (simp <;> omega))) (by first | exact Nat.le_of_ble_eq_true rfl | (simp at hb; first | omega | (dsimp only; omega) | (simp <;> omega))) (by first | exact Nat.le_of_ble_eq_true rfl | (simp at hb; first | omega | (dsimp only; omega) | (simp <;> omega)))) rfl rfl rfl rfl pre0 rfl rfl rfl ?_
  | refine hq_g2 18 7 16 _ _ true _ (fun hb => hop_ia_sl el_33 rfl rfl (by first | exact Nat.le_of_ble_eq_true rfl | (simp at hb; first | omega | (dsimp only; omega) | (simp <;> omega))) (by first | exact Nat.le_of_ble_eq_true rfl | (simp at hb; first | omega | (dsimp only; omega) | (simp <;> omega))) (by first | exact Nat.le_of_ble_eq_true rfl | (simp at hb; first | omega | (dsimp only; omega) | (simp <;> omega)))) rfl rfl rfl rfl pre0 rfl rfl rfl ?_
  | refine hq_g 18 7 16 true _ (fun hb => hol_ia_os el_33 rfl rfl (by first | exact Nat.le_of_ble_eq_true rfl | (simp at hb; first | omega | (dsimp only; omega) | (simp <;> omega))) (by first | exact Nat.le_of_ble_eq_true rfl | (simp at hb; first | omega | (dsimp only; omega) | (simp <;> omega)))) rfl rfl rfl rfl (pre1 rfl) rfl rfl rfl ?_
  | refine hq_g2 18 7 16 _ _ true _ (fun hb => hol_ia_os el_33 rfl rfl (by first | exact Nat.le_of_ble_eq_true rfl | (simp at hb; first | omega | (dsimp only; omega) | (simp <;> omega))) (by first | exact Nat.le_of_ble_eq_true rfl | (simp at hb; first | omega | (dsimp only; omega) | (simp <;> omega)))) rfl rfl rfl rfl (pre1 rfl) rfl rfl rfl ?_
  first
  | refine hq_g 19 7 16 true _ (fun hb => hop_fa fd_41_4 rfl) rfl rfl rfl rfl pre0 rfl rfl rfl ?_
  | refine hq_g2 19 7 16 _ _ true _ (fun hb => hop_fa fd_41_4 rfl) rfl rfl rfl rfl pre0 rfl rfl rfl ?_
  | refine hq_g 19 7 16 true _ (fun hb => hop_fa_fp fd_41_4 rfl (by first | exact Nat.le_of_ble_eq_true rfl | (simp at hb; first | omega | (dsimp only; omega) | (simp <;> omega)))) rfl rfl rfl rfl pre0 rfl rfl rfl ?_
  | refine hq_g2 19 7 16 _ _ true _ (fun hb => hop_fa_fp fd_41_4 rfl (by first | exact Nat.le_of_ble_eq_true rfl | (simp at hb; first | omega | (dsimp only; omega) | (simp <;> omega)))) rfl rfl rfl rfl pre0 rfl rfl rfl ?_
  first
  | refine hq_g 20 7 16 true _ (fun hb => hol_load ty_9 rfl (by first | exact Nat.le_of_ble_eq_true rfl | (simp at hb; first | omega | (dsimp only; omega) | (simp <;> omega))) (by first | exact Nat.le_of_ble_eq_true rfl | (simp at hb; first | omega | (dsimp only; omega) | (simp <;> omega))) (fun h => by first | rfl | cases h)) rfl rfl rfl rfl (pre1 rfl) rfl rfl rfl ?_
  | refine hq_g2 20 7 16 _ _ true _ (fun hb => hol_load ty_9 rfl (by first | exact Nat.le_of_ble_eq_true rfl | (simp at hb; first | omega | (dsimp only; omega) | (simp <;> omega))) (by first | exact Nat.le_of_ble_eq_true rfl | (simp at hb; first | omega | (dsimp only; omega) | (simp <;> omega))) (fun h => by first | rfl | cases h)) rfl rfl rfl rfl (pre1 rfl) rfl rfl rfl ?_
  | refine hq_g 20 7 16 true _ (fun hb => hop_load_fp ty_9 rfl (by first | exact Nat.le_of_ble_eq_true rfl | (simp at hb; first | omega | (dsimp only; omega) | (simp <;> omega))) (fun h => by first | rfl | cases h)) rfl rfl rfl rfl pre0 rfl rfl rfl ?_
  | refine hq_g2 20 7 16 _ _ true _ (fun hb => hop_load_fp ty_9 rfl (by first | exact Nat.le_of_ble_eq_true rfl | (simp at hb; first | omega | (dsimp only; omega) | (simp <;> omega))) (fun h => by first | rfl | cases h)) rfl rfl rfl rfl pre0 rfl rfl rfl ?_
  first
  | refine hq_g 21 7 16 true _ (fun hb => hop_seq_l rfl rfl) rfl rfl rfl rfl pre0 rfl rfl rfl ?_
  | refine hq_g2 21 7 16 _ _ true _ (fun hb => hop_seq_l rfl rfl) rfl rfl rfl rfl pre0 rfl rfl rfl ?_
  first
  | refine hq_p 22 (hstep_and _ _ rfl rfl rfl) rfl rfl rfl ?_
  | refine hq_p 22 (hstep_or _ _ rfl rfl rfl) rfl rfl rfl ?_
  | refine hq_p 22 (hstep_ite _ _ _ rfl rfl rfl) rfl rfl rfl ?_
  | refine hq_p 22 (hstep_pick _ _ _ _ rfl rfl rfl (fun _ => .refl _) (fun _ => .refl _)) rfl rfl rfl ?_
  refine hq_ 23 (hop_move rfl) rfl rfl pre0 rfl rfl ?_
  first
  | refine hq_g 24 14 23 true _ (fun hb => hop_move rfl) rfl rfl rfl rfl pre0 rfl rfl rfl ?_
  | refine hq_g2 24 14 23 _ _ true _ (fun hb => hop_move rfl) rfl rfl rfl rfl pre0 rfl rfl rfl ?_
  first
  | refine hq_g 25 14 23 true _ (fun hb => hop_ia_sl el_33 rfl rfl (by first | exact Nat.le_of_ble_eq_true rfl | (simp at hb; first | omega | (dsimp only; omega) | (simp <;> omega))) (by first | exact Nat.le_of_ble_eq_true rfl | (simp at hb; first | omega | (dsimp only; omega) | (simp <;> omega))) (by first | exact Nat.le_of_ble_eq_true rfl | (simp at hb; first | omega | (dsimp only; omega) | (simp <;> omega)))) rfl rfl rfl rfl pre0 rfl rfl rfl ?_
  | refine hq_g2 25 14 23 _ _ true _ (fun hb => hop_ia_sl el_33 rfl rfl (by first | exact Nat.le_of_ble_eq_true rfl | (simp at hb; first | omega | (dsimp only; omega) | (simp <;> omega))) (by first | exact Nat.le_of_ble_eq_true rfl | (simp at hb; first | omega | (dsimp only; omega) | (simp <;> omega))) (by first | exact Nat.le_of_ble_eq_true rfl | (simp at hb; first | omega | (dsimp only; omega) | (simp <;> omega)))) rfl rfl rfl rfl pre0 rfl rfl rfl ?_
  | refine hq_g 25 14 23 true _ (fun hb => hol_ia_os el_33 rfl rfl (by first | exact Nat.le_of_ble_eq_true rfl | (simp at hb; first | omega | (dsimp only; omega) | (simp <;> omega))) (by first | exact Nat.le_of_ble_eq_true rfl | (simp at hb; first | omega | (dsimp only; omega) | (simp <;> omega)))) rfl rfl rfl rfl (pre1 rfl) rfl rfl rfl ?_
  | refine hq_g2 25 14 23 _ _ true _ (fun hb => hol_ia_os el_33 rfl rfl (by first | exact Nat.le_of_ble_eq_true rfl | (simp at hb; first | omega | (dsimp only; omega) | (simp <;> omega))) (by first | exact Nat.le_of_ble_eq_true rfl | (simp at hb; first | omega | (dsimp only; omega) | (simp <;> omega)))) rfl rfl rfl rfl (pre1 rfl) rfl rfl rfl ?_
  first
  | refine hq_g 26 14 23 true _ (fun hb => HOp.val (v' := sgH (exS.getD 1 default)) (hol_load ty_41 rfl (by first | exact Nat.le_of_ble_eq_true rfl | (simp at hb; first | omega | (dsimp only; omega) | (simp <;> omega))) (by first | exact Nat.le_of_ble_eq_true rfl | (simp at hb; first | omega | (dsimp only; omega) | (simp <;> omega))) (fun h => by first | rfl | cases h)) (sg_ldv _ _)) rfl rfl rfl rfl (pre1 rfl) rfl rfl rfl ?_
  | refine hq_g2 26 14 23 _ _ true _ (fun hb => HOp.val (v' := sgH (exS.getD 1 default)) (hol_load ty_41 rfl (by first | exact Nat.le_of_ble_eq_true rfl | (simp at hb; first | omega | (dsimp only; omega) | (simp <;> omega))) (by first | exact Nat.le_of_ble_eq_true rfl | (simp at hb; first | omega | (dsimp only; omega) | (simp <;> omega))) (fun h => by first | rfl | cases h)) (sg_ldv _ _)) rfl rfl rfl rfl (pre1 rfl) rfl rfl rfl ?_
  | refine hq_g 26 14 23 true _ (fun hb => HOp.val (v' := sgH (exS.getD 1 default)) (hop_load_fp ty_41 rfl (by first | exact Nat.le_of_ble_eq_true rfl | (simp at hb; first | omega | (dsimp only; omega) | (simp <;> omega))) (fun h => by first | rfl | cases h)) (sg_ldv _ _)) rfl rfl rfl rfl pre0 rfl rfl rfl ?_
  | refine hq_g2 26 14 23 _ _ true _ (fun hb => HOp.val (v' := sgH (exS.getD 1 default)) (hop_load_fp ty_41 rfl (by first | exact Nat.le_of_ble_eq_true rfl | (simp at hb; first | omega | (dsimp only; omega) | (simp <;> omega))) (fun h => by first | rfl | cases h)) (sg_ldv _ _)) rfl rfl rfl rfl pre0 rfl rfl rfl ?_
  first
  | refine hq_g 27 14 23 true _ (fun hb => hop_build (hs := [(0, 1, _), (1, 1, _), (2, 1, _), (3, 1, _)]) st_41 rfl rfl ⟨rfl, rfl, rfl, rfl, rfl, ⟨rfl, rfl, rfl, rfl, rfl, ⟨rfl, rfl, rfl, rfl, rfl, ⟨rfl, rfl, rfl, rfl, rfl, trivial⟩⟩⟩⟩) rfl rfl rfl rfl pre0 rfl rfl rfl ?_
  | refine hq_g2 27 14 23 _ _ true _ (fun hb => hop_build (hs := [(0, 1, _), (1, 1, _), (2, 1, _), (3, 1, _)]) st_41 rfl rfl ⟨rfl, rfl, rfl, rfl, rfl, ⟨rfl, rfl, rfl, rfl, rfl, ⟨rfl, rfl, rfl, rfl, rfl, ⟨rfl, rfl, rfl, rfl, rfl, trivial⟩⟩⟩⟩) rfl rfl rfl rfl pre0 rfl rfl rfl ?_
  refine hq_g 28 14 23 true _ (fun hb => hop_eql_sg (exS.getD 1 default) ⟨5, 1, 1, -1, []⟩ (eql41 _ _) guard41 rfl rfl (fun _ _ => rfl) (j5 rfl rfl rfl rfl rfl)) rfl rfl rfl rfl pre0 rfl rfl rfl ?_
  first
  | refine hq_p 29 (hstep_and _ _ rfl rfl rfl) rfl rfl rfl ?_
  | refine hq_p 29 (hstep_or _ _ rfl rfl rfl) rfl rfl rfl ?_
  | refine hq_p 29 (hstep_ite _ _ _ rfl rfl rfl) rfl rfl rfl ?_
  | refine hq_p 29 (hstep_pick _ _ _ _ rfl rfl rfl (fun _ => .refl _) (fun _ => .refl _)) rfl rfl rfl ?_
  refine hq_ 30 (hop_move rfl) rfl rfl pre0 rfl rfl ?_
  first
  | refine hq_g 31 21 30 true _ (fun hb => hop_move rfl) rfl rfl rfl rfl pre0 rfl rfl rfl ?_
  | refine hq_g2 31 21 30 _ _ true _ (fun hb => hop_move rfl) rfl rfl rfl rfl pre0 rfl rfl rfl ?_
  first
  | refine hq_g 32 21 30 true _ (fun hb => hop_ia_sl el_33 rfl rfl (by first | exact Nat.le_of_ble_eq_true rfl | (simp at hb; first | omega | (dsimp only; omega) | (simp <;> omega))) (by first | exact Nat.le_of_ble_eq_true rfl | (simp at hb; first | omega | (dsimp only; omega) | (simp <;> omega))) (by first | exact Nat.le_of_ble_eq_true rfl | (simp at hb; first | omega | (dsimp only; omega) | (simp <;> omega)))) rfl rfl rfl rfl pre0 rfl rfl rfl ?_
  | refine hq_g2 32 21 30 _ _ true _ (fun hb => hop_ia_sl el_33 rfl rfl (by first | exact Nat.le_of_ble_eq_true rfl | (simp at hb; first | omega | (dsimp only; omega) | (simp <;> omega))) (by first | exact Nat.le_of_ble_eq_true rfl | (simp at hb; first | omega | (dsimp only; omega) | (simp <;> omega))) (by first | exact Nat.le_of_ble_eq_true rfl | (simp at hb; first | omega | (dsimp only; omega) | (simp <;> omega)))) rfl rfl rfl rfl pre0 rfl rfl rfl ?_
  | refine hq_g 32 21 30 true _ (fun hb => hol_ia_os el_33 rfl rfl (by first | exact Nat.le_of_ble_eq_true rfl | (simp at hb; first | omega | (dsimp only; omega) | (simp <;> omega))) (by first | exact Nat.le_of_ble_eq_true rfl | (simp at hb; first | omega | (dsimp only; omega) | (simp <;> omega)))) rfl rfl rfl rfl (pre1 rfl) rfl rfl rfl ?_
  | refine hq_g2 32 21 30 _ _ true _ (fun hb => hol_ia_os el_33 rfl rfl (by first | exact Nat.le_of_ble_eq_true rfl | (simp at hb; first | omega | (dsimp only; omega) | (simp <;> omega))) (by first | exact Nat.le_of_ble_eq_true rfl | (simp at hb; first | omega | (dsimp only; omega) | (simp <;> omega)))) rfl rfl rfl rfl (pre1 rfl) rfl rfl rfl ?_
  first
  | refine hq_g 33 21 30 true _ (fun hb => hop_fa fd_41_2 rfl) rfl rfl rfl rfl pre0 rfl rfl rfl ?_
  | refine hq_g2 33 21 30 _ _ true _ (fun hb => hop_fa fd_41_2 rfl) rfl rfl rfl rfl pre0 rfl rfl rfl ?_
  | refine hq_g 33 21 30 true _ (fun hb => hop_fa_fp fd_41_2 rfl (by first | exact Nat.le_of_ble_eq_true rfl | (simp at hb; first | omega | (dsimp only; omega) | (simp <;> omega)))) rfl rfl rfl rfl pre0 rfl rfl rfl ?_
  | refine hq_g2 33 21 30 _ _ true _ (fun hb => hop_fa_fp fd_41_2 rfl (by first | exact Nat.le_of_ble_eq_true rfl | (simp at hb; first | omega | (dsimp only; omega) | (simp <;> omega)))) rfl rfl rfl rfl pre0 rfl rfl rfl ?_
  first
  | refine hq_g 34 21 30 true _ (fun hb => hol_load ty_3 rfl (by first | exact Nat.le_of_ble_eq_true rfl | (simp at hb; first | omega | (dsimp only; omega) | (simp <;> omega))) (by first | exact Nat.le_of_ble_eq_true rfl | (simp at hb; first | omega | (dsimp only; omega) | (simp <;> omega))) (fun h => by first | rfl | cases h)) rfl rfl rfl rfl (pre1 rfl) rfl rfl rfl ?_
  | refine hq_g2 34 21 30 _ _ true _ (fun hb => hol_load ty_3 rfl (by first | exact Nat.le_of_ble_eq_true rfl | (simp at hb; first | omega | (dsimp only; omega) | (simp <;> omega))) (by first | exact Nat.le_of_ble_eq_true rfl | (simp at hb; first | omega | (dsimp only; omega) | (simp <;> omega))) (fun h => by first | rfl | cases h)) rfl rfl rfl rfl (pre1 rfl) rfl rfl rfl ?_
  | refine hq_g 34 21 30 true _ (fun hb => hop_load_fp ty_3 rfl (by first | exact Nat.le_of_ble_eq_true rfl | (simp at hb; first | omega | (dsimp only; omega) | (simp <;> omega))) (fun h => by first | rfl | cases h)) rfl rfl rfl rfl pre0 rfl rfl rfl ?_
  | refine hq_g2 34 21 30 _ _ true _ (fun hb => hop_load_fp ty_3 rfl (by first | exact Nat.le_of_ble_eq_true rfl | (simp at hb; first | omega | (dsimp only; omega) | (simp <;> omega))) (fun h => by first | rfl | cases h)) rfl rfl rfl rfl pre0 rfl rfl rfl ?_
  first
  | refine hq_g 35 21 30 true _ (fun hb => hop_eql rfl rfl) rfl rfl rfl rfl pre0 rfl rfl rfl ?_
  | refine hq_g2 35 21 30 _ _ true _ (fun hb => hop_eql rfl rfl) rfl rfl rfl rfl pre0 rfl rfl rfl ?_
  first
  | refine hq_p 36 (hstep_and _ _ rfl rfl rfl) rfl rfl rfl ?_
  | refine hq_p 36 (hstep_or _ _ rfl rfl rfl) rfl rfl rfl ?_
  | refine hq_p 36 (hstep_ite _ _ _ rfl rfl rfl) rfl rfl rfl ?_
  | refine hq_p 36 (hstep_pick _ _ _ _ rfl rfl rfl (fun _ => .refl _) (fun _ => .refl _)) rfl rfl rfl ?_
  refine hq_ 37 (hop_move rfl) rfl rfl pre0 rfl rfl ?_
  first
  | refine hq_g 38 28 37 true _ (fun hb => hop_move rfl) rfl rfl rfl rfl pre0 rfl rfl rfl ?_
  | refine hq_g2 38 28 37 _ _ true _ (fun hb => hop_move rfl) rfl rfl rfl rfl pre0 rfl rfl rfl ?_
  first
  | refine hq_g 39 28 37 true _ (fun hb => hop_ia_sl el_33 rfl rfl (by first | exact Nat.le_of_ble_eq_true rfl | (simp at hb; first | omega | (dsimp only; omega) | (simp <;> omega))) (by first | exact Nat.le_of_ble_eq_true rfl | (simp at hb; first | omega | (dsimp only; omega) | (simp <;> omega))) (by first | exact Nat.le_of_ble_eq_true rfl | (simp at hb; first | omega | (dsimp only; omega) | (simp <;> omega)))) rfl rfl rfl rfl pre0 rfl rfl rfl ?_
  | refine hq_g2 39 28 37 _ _ true _ (fun hb => hop_ia_sl el_33 rfl rfl (by first | exact Nat.le_of_ble_eq_true rfl | (simp at hb; first | omega | (dsimp only; omega) | (simp <;> omega))) (by first | exact Nat.le_of_ble_eq_true rfl | (simp at hb; first | omega | (dsimp only; omega) | (simp <;> omega))) (by first | exact Nat.le_of_ble_eq_true rfl | (simp at hb; first | omega | (dsimp only; omega) | (simp <;> omega)))) rfl rfl rfl rfl pre0 rfl rfl rfl ?_
  | refine hq_g 39 28 37 true _ (fun hb => hol_ia_os el_33 rfl rfl (by first | exact Nat.le_of_ble_eq_true rfl | (simp at hb; first | omega | (dsimp only; omega) | (simp <;> omega))) (by first | exact Nat.le_of_ble_eq_true rfl | (simp at hb; first | omega | (dsimp only; omega) | (simp <;> omega)))) rfl rfl rfl rfl (pre1 rfl) rfl rfl rfl ?_
  | refine hq_g2 39 28 37 _ _ true _ (fun hb => hol_ia_os el_33 rfl rfl (by first | exact Nat.le_of_ble_eq_true rfl | (simp at hb; first | omega | (dsimp only; omega) | (simp <;> omega))) (by first | exact Nat.le_of_ble_eq_true rfl | (simp at hb; first | omega | (dsimp only; omega) | (simp <;> omega)))) rfl rfl rfl rfl (pre1 rfl) rfl rfl rfl ?_
  first
  | refine hq_g 40 28 37 true _ (fun hb => hop_fa fd_41_3 rfl) rfl rfl rfl rfl pre0 rfl rfl rfl ?_
  | refine hq_g2 40 28 37 _ _ true _ (fun hb => hop_fa fd_41_3 rfl) rfl rfl rfl rfl pre0 rfl rfl rfl ?_
  | refine hq_g 40 28 37 true _ (fun hb => hop_fa_fp fd_41_3 rfl (by first | exact Nat.le_of_ble_eq_true rfl | (simp at hb; first | omega | (dsimp only; omega) | (simp <;> omega)))) rfl rfl rfl rfl pre0 rfl rfl rfl ?_
  | refine hq_g2 40 28 37 _ _ true _ (fun hb => hop_fa_fp fd_41_3 rfl (by first | exact Nat.le_of_ble_eq_true rfl | (simp at hb; first | omega | (dsimp only; omega) | (simp <;> omega)))) rfl rfl rfl rfl pre0 rfl rfl rfl ?_
  first
  | refine hq_g 41 28 37 true _ (fun hb => hol_load ty_3 rfl (by first | exact Nat.le_of_ble_eq_true rfl | (simp at hb; first | omega | (dsimp only; omega) | (simp <;> omega))) (by first | exact Nat.le_of_ble_eq_true rfl | (simp at hb; first | omega | (dsimp only; omega) | (simp <;> omega))) (fun h => by first | rfl | cases h)) rfl rfl rfl rfl (pre1 rfl) rfl rfl rfl ?_
  | refine hq_g2 41 28 37 _ _ true _ (fun hb => hol_load ty_3 rfl (by first | exact Nat.le_of_ble_eq_true rfl | (simp at hb; first | omega | (dsimp only; omega) | (simp <;> omega))) (by first | exact Nat.le_of_ble_eq_true rfl | (simp at hb; first | omega | (dsimp only; omega) | (simp <;> omega))) (fun h => by first | rfl | cases h)) rfl rfl rfl rfl (pre1 rfl) rfl rfl rfl ?_
  | refine hq_g 41 28 37 true _ (fun hb => hop_load_fp ty_3 rfl (by first | exact Nat.le_of_ble_eq_true rfl | (simp at hb; first | omega | (dsimp only; omega) | (simp <;> omega))) (fun h => by first | rfl | cases h)) rfl rfl rfl rfl pre0 rfl rfl rfl ?_
  | refine hq_g2 41 28 37 _ _ true _ (fun hb => hop_load_fp ty_3 rfl (by first | exact Nat.le_of_ble_eq_true rfl | (simp at hb; first | omega | (dsimp only; omega) | (simp <;> omega))) (fun h => by first | rfl | cases h)) rfl rfl rfl rfl pre0 rfl rfl rfl ?_
  first
  | refine hq_g 42 28 37 true _ (fun hb => hop_eql rfl rfl) rfl rfl rfl rfl pre0 rfl rfl rfl ?_
  | refine hq_g2 42 28 37 _ _ true _ (fun hb => hop_eql rfl rfl) rfl rfl rfl rfl pre0 rfl rfl rfl ?_
  first
  | refine hq_p 43 (hstep_and _ _ rfl rfl rfl) rfl rfl rfl ?_
  | refine hq_p 43 (hstep_or _ _ rfl rfl rfl) rfl rfl rfl ?_
  | refine hq_p 43 (hstep_ite _ _ _ rfl rfl rfl) rfl rfl rfl ?_
  | refine hq_p 43 (hstep_pick _ _ _ _ rfl rfl rfl (fun _ => .refl _) (fun _ => .refl _)) rfl rfl rfl ?_
  refine hq_ 44 (hop_move rfl) rfl rfl pre0 rfl rfl ?_
  first
  | refine hq_g 45 35 44 true _ (fun hb => hop_move rfl) rfl rfl rfl rfl pre0 rfl rfl rfl ?_
  | refine hq_g2 45 35 44 _ _ true _ (fun hb => hop_move rfl) rfl rfl rfl rfl pre0 rfl rfl rfl ?_
  first
  | refine hq_g 46 35 44 true _ (fun hb => hop_call0 (xs := [_]) (showEx_h) ⟨rfl, trivial⟩ ⟨(Fz.eq rfl), trivial⟩) rfl rfl rfl rfl pre0 rfl rfl rfl ?_
  | refine hq_g2 46 35 44 _ _ true _ (fun hb => hop_call0 (xs := [_]) (showEx_h) ⟨rfl, trivial⟩ ⟨(Fz.eq rfl), trivial⟩) rfl rfl rfl rfl pre0 rfl rfl rfl ?_
  first
  | refine hq_g 47 35 44 true _ (fun hb => hop_seq_l rfl rfl) rfl rfl rfl rfl pre0 rfl rfl rfl ?_
  | refine hq_g2 47 35 44 _ _ true _ (fun hb => hop_seq_l rfl rfl) rfl rfl rfl rfl pre0 rfl rfl rfl ?_
  first
  | refine hq_p 48 (hstep_and _ _ rfl rfl rfl) rfl rfl rfl ?_
  | refine hq_p 48 (hstep_or _ _ rfl rfl rfl) rfl rfl rfl ?_
  | refine hq_p 48 (hstep_ite _ _ _ rfl rfl rfl) rfl rfl rfl ?_
  | refine hq_p 48 (hstep_pick _ _ _ _ rfl rfl rfl (fun _ => .refl _) (fun _ => .refl _)) rfl rfl rfl ?_
  refine hq_ 0 (hop_assign rfl) rfl rfl pre0 rfl rfl ?_
  refine hseq_nilU (by rfl) (by simp only [dropUn, slots]; exact rfl) ?_
  refine h3 _ ?_
  refine hw_ret ?_
  refine hq_ret1 rfl (rval_tmp rfl) [] rfl pre0 ?_
  exact fz_bool (by decide)
theorem lexR_len {s : List UInt8} : ∀ {f i : Nat} {out l : List Sg}, out.length ≤ 200 → lexR s f i out = .ok l → l.length ≤ 200
  | 0, i, out, l, h, e => by injection e with e; subst e; exact h
  | f + 1, i, out, l, h, e => by
    simp only [lexR] at e
    split at e
    · injection e with e; subst e; exact h
    split at e
    · exact lexR_len h e
    split at e
    · split at e <;> cases e
    · rename_i hne
      split at e
      · cases e
      · exact lexR_len (by rw [List.length_append]; show out.length + 1 ≤ 200; omega) e
theorem lexO_len (s : List UInt8) : (lexO (lexV s)).1.length ≤ 200 := by
  cases h : lexV s with
  | error e => exact Nat.zero_le _
  | ok l => exact lexR_len (Nat.zero_le _) h
theorem lexSigns_h (s : List UInt8) : HPure Tryd.prog 5 [strV s] (boolV true) := by
  have hlen := lexO_len s
  generalize hr : lexO (lexV s) = r at hlen
  refine hpure_of Tryd.func5 rfl (by kernel_rfl) _ _ _ rfl 57 rfl rfl (fun w F => ?_)
  refine hw_seq (fun Nh1 h1 => ?_)
  refine hw_region ?_
  refine hq_ 2 (hop_assign rfl) rfl rfl pre0 rfl rfl ?_
  refine hseq_nil ?_
  refine h1 _ ?_
  refine hw_seq (fun Nh2 h2 => ?_)
  refine hw_seq (fun Nh3 h3 => ?_)
  refine hw_region ?_
  refine hq_ 10 (hop_move rfl) rfl rfl pre0 rfl rfl ?_
  refine hq_ 11 (hop_len_strl (T := 9) rfl (by kernel_rfl) rfl) rfl rfl pre0 rfl rfl ?_
  refine hq_ 12 (hop_gtr rfl rfl) rfl rfl pre0 rfl rfl ?_
  refine hseq_nil ?_
  refine h3 _ ?_
  refine hw_cond _ rfl (fun hc0 => ?_) (fun hc0 => ?_)
  · have hr0 := hc0; (try simp only [decide_eq_true_eq, decide_eq_false_iff_not, Bool.and_eq_true, Bool.or_eq_true, Bool.not_eq_true', Bool.or_eq_false_iff, beq_iff_eq, bne_iff_ne, ne_eq, beq_eq_false_iff_ne, bne_eq_false_iff_eq, Bool.not_eq_true, Bool.not_eq_false, Bool.not_eq_false', Int.toNat_natCast, Int.reduceToNat] at hc0)
    refine hw_seq (fun Nh4 h4 => ?_)
    refine hw_region ?_
    refine hq_ 13 (hop_call0 (xs := []) (live_h05) trivial trivial) rfl rfl pre0 rfl rfl ?_
    refine hq_ 2 (hop_assign rfl) rfl rfl pre0 rfl rfl ?_
    refine hseq_nil ?_
    refine h4 _ ?_
    refine hw_ret ?_
    refine hq_then_ret ?_
    refine hq_ret1 rfl (rval_tmp rfl) [] rfl pre0 ?_
    exact .imm _
  · have hr0 := hc0; (try simp only [decide_eq_true_eq, decide_eq_false_iff_not, Bool.and_eq_true, Bool.or_eq_true, Bool.not_eq_true', Bool.or_eq_false_iff, beq_iff_eq, bne_iff_ne, ne_eq, beq_eq_false_iff_ne, bne_eq_false_iff_eq, Bool.not_eq_true, Bool.not_eq_false, Bool.not_eq_false', Int.toNat_natCast, Int.reduceToNat] at hc0)
    refine hw_skip ?_
    refine h2 _ ?_
    refine hw_seq (fun Nh5 h5 => ?_)
    refine hw_region ?_
    refine hq_ 15 (hop_move rfl) rfl rfl pre0 rfl rfl ?_
    refine hq_ 16 (hop_call0 (xs := [_]) ((show HPure Tryd.prog 22 [strV s] (lexH r) from (by rw [← hr]; exact lex_h s (by omega)))) ⟨rfl, trivial⟩ ⟨(Fz.eq rfl), trivial⟩) rfl rfl pre0 rfl rfl ?_
    refine hq_ 14 (hop_move rfl) rfl rfl pre0 rfl rfl ?_
    refine hq_ 17 (hop_extract rfl rfl) rfl rfl pre0 rfl rfl ?_
    refine hq_ 18 (hop_extract rfl rfl) rfl rfl pre0 rfl rfl ?_
    refine hq_ 19 (hop_extract rfl rfl) rfl rfl pre0 rfl rfl ?_
    refine hq_ 3 (hop_assign rfl) rfl rfl pre0 rfl rfl ?_
    refine hq_ 4 (hop_assign rfl) rfl rfl pre0 rfl rfl ?_
    refine hq_ 5 (hop_assign rfl) rfl rfl pre0 rfl rfl ?_
    refine hseq_nil ?_
    refine h5 _ ?_
    refine hw_seq (fun Nh6 h6 => ?_)
    refine hw_region ?_
    refine hq_ 21 (hop_move rfl) rfl rfl pre0 rfl rfl ?_
    refine hq_ 22 (hop_call0 (xs := [_]) ((show HPure Tryd.prog 23 [strV s] (lexH r) from (by rw [← hr]; exact refLex_h s (by omega)))) ⟨rfl, trivial⟩ ⟨(Fz.eq rfl), trivial⟩) rfl rfl pre0 rfl rfl ?_
    refine hq_ 20 (hop_move rfl) rfl rfl pre0 rfl rfl ?_
    refine hq_ 23 (hop_extract rfl rfl) rfl rfl pre0 rfl rfl ?_
    refine hq_ 24 (hop_extract rfl rfl) rfl rfl pre0 rfl rfl ?_
    refine hq_ 25 (hop_extract rfl rfl) rfl rfl pre0 rfl rfl ?_
    refine hq_ 6 (hop_assign rfl) rfl rfl pre0 rfl rfl ?_
    refine hq_ 7 (hop_assign rfl) rfl rfl pre0 rfl rfl ?_
    refine hq_ 8 (hop_assign rfl) rfl rfl pre0 rfl rfl ?_
    refine hseq_nil ?_
    refine h6 _ ?_
    refine hw_seq (fun Nh7 h7 => ?_)
    refine hw_seq (fun Nh8 h8 => ?_)
    refine hw_region ?_
    refine hq_ 26 (hop_move rfl) rfl rfl pre0 rfl rfl ?_
    refine hq_ 27 (hop_move rfl) rfl rfl pre0 rfl rfl ?_
    refine hq_ 28 (hop_neq rfl rfl) rfl rfl pre0 rfl rfl ?_
    refine hq_ 29 (hop_move rfl) rfl rfl pre0 rfl rfl ?_
    first
    | refine hq_g 30 3 29 false _ (fun hb => hop_move rfl) rfl rfl rfl rfl pre0 rfl rfl rfl ?_
    | refine hq_g2 30 3 29 _ _ false _ (fun hb => hop_move rfl) rfl rfl rfl rfl pre0 rfl rfl rfl ?_
    first
    | refine hq_g 31 3 29 false _ (fun hb => hop_move rfl) rfl rfl rfl rfl pre0 rfl rfl rfl ?_
    | refine hq_g2 31 3 29 _ _ false _ (fun hb => hop_move rfl) rfl rfl rfl rfl pre0 rfl rfl rfl ?_
    first
    | refine hq_g 32 3 29 false _ (fun hb => hop_neq rfl rfl) rfl rfl rfl rfl pre0 rfl rfl rfl ?_
    | refine hq_g2 32 3 29 _ _ false _ (fun hb => hop_neq rfl rfl) rfl rfl rfl rfl pre0 rfl rfl rfl ?_
    first
    | refine hq_p 33 (hstep_and _ _ rfl rfl rfl) rfl rfl rfl ?_
    | refine hq_p 33 (hstep_or _ _ rfl rfl rfl) rfl rfl rfl ?_
    | refine hq_p 33 (hstep_ite _ _ _ rfl rfl rfl) rfl rfl rfl ?_
    | refine hq_p 33 (hstep_pick _ _ _ _ rfl rfl rfl (fun _ => .refl _) (fun _ => .refl _)) rfl rfl rfl ?_
    refine hq_ 34 (hop_move rfl) rfl rfl pre0 rfl rfl ?_
    first
    | refine hq_g 35 8 34 false _ (fun hb => hop_move rfl) rfl rfl rfl rfl pre0 rfl rfl rfl ?_
    | refine hq_g2 35 8 34 _ _ false _ (fun hb => hop_move rfl) rfl rfl rfl rfl pre0 rfl rfl rfl ?_
    first
    | refine hq_g 36 8 34 false _ (fun hb => hop_len_sl (T := 33) rfl (elOf_spec el_33).1 rfl) rfl rfl rfl rfl pre0 rfl rfl rfl ?_
    | refine hq_g2 36 8 34 _ _ false _ (fun hb => hop_len_sl (T := 33) rfl (elOf_spec el_33).1 rfl) rfl rfl rfl rfl pre0 rfl rfl rfl ?_
    | refine hq_g 36 8 34 false _ (fun hb => hop_len_os (T := 33) rfl (elOf_spec el_33).1 rfl) rfl rfl rfl rfl pre0 rfl rfl rfl ?_
    | refine hq_g2 36 8 34 _ _ false _ (fun hb => hop_len_os (T := 33) rfl (elOf_spec el_33).1 rfl) rfl rfl rfl rfl pre0 rfl rfl rfl ?_
    | refine hq_g 36 8 34 false _ (fun hb => hop_len_nil (T := 33) rfl (elOf_spec el_33).1 rfl) rfl rfl rfl rfl pre0 rfl rfl rfl ?_
    | refine hq_g2 36 8 34 _ _ false _ (fun hb => hop_len_nil (T := 33) rfl (elOf_spec el_33).1 rfl) rfl rfl rfl rfl pre0 rfl rfl rfl ?_
    first
    | refine hq_g 37 8 34 false _ (fun hb => hop_move rfl) rfl rfl rfl rfl pre0 rfl rfl rfl ?_
    | refine hq_g2 37 8 34 _ _ false _ (fun hb => hop_move rfl) rfl rfl rfl rfl pre0 rfl rfl rfl ?_
    first
    | refine hq_g 38 8 34 false _ (fun hb => hop_len_sl (T := 36) rfl (elOf_spec el_36).1 rfl) rfl rfl rfl rfl pre0 rfl rfl rfl ?_
    | refine hq_g2 38 8 34 _ _ false _ (fun hb => hop_len_sl (T := 36) rfl (elOf_spec el_36).1 rfl) rfl rfl rfl rfl pre0 rfl rfl rfl ?_
    | refine hq_g 38 8 34 false _ (fun hb => hop_len_os (T := 36) rfl (elOf_spec el_36).1 rfl) rfl rfl rfl rfl pre0 rfl rfl rfl ?_
    | refine hq_g2 38 8 34 _ _ false _ (fun hb => hop_len_os (T := 36) rfl (elOf_spec el_36).1 rfl) rfl rfl rfl rfl pre0 rfl rfl rfl ?_
    | refine hq_g 38 8 34 false _ (fun hb => hop_len_nil (T := 36) rfl (elOf_spec el_36).1 rfl) rfl rfl rfl rfl pre0 rfl rfl rfl ?_
    | refine hq_g2 38 8 34 _ _ false _ (fun hb => hop_len_nil (T := 36) rfl (elOf_spec el_36).1 rfl) rfl rfl rfl rfl pre0 rfl rfl rfl ?_
    first
    | refine hq_g 39 8 34 false _ (fun hb => hop_neq rfl rfl) rfl rfl rfl rfl pre0 rfl rfl rfl ?_
    | refine hq_g2 39 8 34 _ _ false _ (fun hb => hop_neq rfl rfl) rfl rfl rfl rfl pre0 rfl rfl rfl ?_
    first
    | refine hq_p 40 (hstep_and _ _ rfl rfl rfl) rfl rfl rfl ?_
    | refine hq_p 40 (hstep_or _ _ rfl rfl rfl) rfl rfl rfl ?_
    | refine hq_p 40 (hstep_ite _ _ _ rfl rfl rfl) rfl rfl rfl ?_
    | refine hq_p 40 (hstep_pick _ _ _ _ rfl rfl rfl (fun _ => .refl _) (fun _ => .refl _)) rfl rfl rfl ?_
    refine hseq_nilU (by rfl) (by simp only [dropUn, slots]; exact rfl) ?_
    refine h8 _ ?_
    refine hw_cond _ rfl (fun hc1 => ?_) (fun hc1 => ?_)
    · have hr1 := hc1; (try simp only [decide_eq_true_eq, decide_eq_false_iff_not, Bool.and_eq_true, Bool.or_eq_true, Bool.not_eq_true', Bool.or_eq_false_iff, beq_iff_eq, bne_iff_ne, ne_eq, beq_eq_false_iff_ne, bne_eq_false_iff_eq, Bool.not_eq_true, Bool.not_eq_false, Bool.not_eq_false', Int.toNat_natCast, Int.reduceToNat] at hc1)
      exfalso; simp at hr1
    · have hr1 := hc1; (try simp only [decide_eq_true_eq, decide_eq_false_iff_not, Bool.and_eq_true, Bool.or_eq_true, Bool.not_eq_true', Bool.or_eq_false_iff, beq_iff_eq, bne_iff_ne, ne_eq, beq_eq_false_iff_ne, bne_eq_false_iff_eq, Bool.not_eq_true, Bool.not_eq_false, Bool.not_eq_false', Int.toNat_natCast, Int.reduceToNat] at hc1)
      refine hw_skip ?_
      refine h7 _ ?_
      refine hw_seq (fun Nh9 h9 => ?_)
      refine hw_seq (fun Nh10 h10 => ?_)
      refine hw_region ?_
      refine hq_ 9 (hop_assign rfl) rfl rfl pre0 rfl rfl ?_
      refine hseq_nil ?_
      refine h10 _ ?_
      refine hw_block ?_
      refine hw_loopc (α := Nat) (fun x c => ⟨57, [(3, .v (sgsV r.1)), (6, .v (sgsV r.1)), (9, .v (intV x))], [], c⟩) (fun x => x ≤ r.1.length) (fun x => r.1.length - x) (0) (by exact Nat.zero_le _) (hsub_of rfl (Nat.le_refl _) (TmSub.cons rfl (Sb.refl _) (TmSub.cons rfl (Sb.refl _) (TmSub.cons rfl (Sb.refl _) TmSub.nil))) HpSub.nil) (fun k c hx NhL11 hL11 => ?_)
      (try dsimp only at hx hL11 ⊢)
      refine hw_seq (fun Nh12 h12 => ?_)
      refine hw_seq (fun Nh13 h13 => ?_)
      refine hw_region ?_
      refine hq_ 41 (hop_move rfl) rfl rfl pre0 rfl rfl ?_
      refine hq_ 42 (hop_move rfl) rfl rfl pre0 rfl rfl ?_
      first
      | refine hq_ 43 (hop_len_sl (T := 33) rfl (elOf_spec el_33).1 rfl) rfl rfl pre0 rfl rfl ?_
      | refine hq_ 43 (hop_len_os (T := 33) rfl (elOf_spec el_33).1 rfl) rfl rfl pre0 rfl rfl ?_
      | refine hq_ 43 (hop_len_nil (T := 33) rfl (elOf_spec el_33).1 rfl) rfl rfl pre0 rfl rfl ?_
      refine hq_ 44 (hop_lss rfl rfl) rfl rfl pre0 rfl rfl ?_
      refine hseq_nil ?_
      refine h13 _ ?_
      refine hw_cond _ rfl (fun hc2 => ?_) (fun hc2 => ?_)
      · have hr2 := hc2; (try simp only [decide_eq_true_eq, decide_eq_false_iff_not, Bool.and_eq_true, Bool.or_eq_true, Bool.not_eq_true', Bool.or_eq_false_iff, beq_iff_eq, bne_iff_ne, ne_eq, beq_eq_false_iff_ne, bne_eq_false_iff_eq, Bool.not_eq_true, Bool.not_eq_false, Bool.not_eq_false', Int.toNat_natCast, Int.reduceToNat] at hc2)
        refine hw_skip ?_
        refine h12 _ ?_
        refine hw_seq (fun Nh14 h14 => ?_)
        refine hw_block ?_
        refine hw_seq (fun Nh15 h15 => ?_)
        refine hd_start ?_
        refine hd_q 47 (hop_move rfl) rfl rfl pre0 rfl rfl (k' := 1) rfl ?_
        refine hd_q 48 (hop_move rfl) rfl rfl pre0 rfl rfl (k' := 2) rfl ?_
        first
        | refine hd_q 49 (hop_ia_sl el_33 rfl rfl (by first | exact Nat.le_of_ble_eq_true rfl | omega | (dsimp only; omega) | (simp <;> omega)) (by first | exact Nat.le_of_ble_eq_true rfl | omega | (dsimp only; omega) | (simp <;> omega)) (by first | exact Nat.le_of_ble_eq_true rfl | omega | (dsimp only; omega) | (simp <;> omega))) rfl rfl pre0 rfl rfl (k' := 3) rfl ?_
        | refine hd_q 49 (hol_ia_os el_33 rfl rfl (by first | exact Nat.le_of_ble_eq_true rfl | omega | (dsimp only; omega) | (simp <;> omega)) (by first | exact Nat.le_of_ble_eq_true rfl | omega | (dsimp only; omega) | (simp <;> omega))) rfl rfl (pre1 rfl) rfl rfl (k' := 3) rfl ?_
        first
        | refine hd_q 50 (HOp.val (v' := sgH (r.1.getD k default)) (hol_load ty_41 rfl (by first | exact Nat.le_of_ble_eq_true rfl | omega | (dsimp only; omega) | (simp <;> omega)) (by first | exact Nat.le_of_ble_eq_true rfl | omega | (dsimp only; omega) | (simp <;> omega)) (fun h => by first | rfl | cases h)) (sg_ldv _ _)) rfl rfl (pre1 rfl) rfl rfl (k' := 4) rfl ?_
        | refine hd_q 50 (HOp.val (v' := sgH (r.1.getD k default)) (hop_load_fp ty_41 rfl (by first | exact Nat.le_of_ble_eq_true rfl | omega | (dsimp only; omega) | (simp <;> omega)) (fun h => by first | rfl | cases h)) (sg_ldv _ _)) rfl rfl pre0 rfl rfl (k' := 4) rfl ?_
        refine hd_q 51 (hop_move rfl) rfl rfl pre0 rfl rfl (k' := 5) rfl ?_
        refine hd_q 52 (hop_move rfl) rfl rfl pre0 rfl rfl (k' := 6) rfl ?_
        first
        | refine hd_q 53 (hop_ia_sl el_36 rfl rfl (by first | exact Nat.le_of_ble_eq_true rfl | omega | (dsimp only; omega) | (simp <;> omega)) (by first | exact Nat.le_of_ble_eq_true rfl | omega | (dsimp only; omega) | (simp <;> omega)) (by first | exact Nat.le_of_ble_eq_true rfl | omega | (dsimp only; omega) | (simp <;> omega))) rfl rfl pre0 rfl rfl (k' := 7) rfl ?_
        | refine hd_q 53 (hol_ia_os el_36 rfl rfl (by first | exact Nat.le_of_ble_eq_true rfl | omega | (dsimp only; omega) | (simp <;> omega)) (by first | exact Nat.le_of_ble_eq_true rfl | omega | (dsimp only; omega) | (simp <;> omega))) rfl rfl (pre1 rfl) rfl rfl (k' := 7) rfl ?_
        first
        | refine hd_q 54 (HOp.val (v' := sgH (r.1.getD k default)) (hol_load ty_40 rfl (by first | exact Nat.le_of_ble_eq_true rfl | omega | (dsimp only; omega) | (simp <;> omega)) (by first | exact Nat.le_of_ble_eq_true rfl | omega | (dsimp only; omega) | (simp <;> omega)) (fun h => by first | rfl | cases h)) (sg_ldv _ _)) rfl rfl (pre1 rfl) rfl rfl (k' := 8) rfl ?_
        | refine hd_q 54 (HOp.val (v' := sgH (r.1.getD k default)) (hop_load_fp ty_40 rfl (by first | exact Nat.le_of_ble_eq_true rfl | omega | (dsimp only; omega) | (simp <;> omega)) (fun h => by first | rfl | cases h)) (sg_ldv _ _)) rfl rfl pre0 rfl rfl (k' := 8) rfl ?_
        refine hd_q 55 (hop_neq_sg _ _ (neq40 _ _) guard40 rfl rfl (fun _ _ => rfl) (fun _ _ => rfl)) rfl rfl pre0 rfl rfl (k' := 9) rfl ?_
        refine hd_nil (by kernel_rfl) (by kernel_rfl) (c' := c + 9) rfl ?_
        refine h15 _ ?_
        refine hw_cond _ rfl (fun hc3 => ?_) (fun hc3 => ?_)
        · have hr3 := hc3; (try simp only [decide_eq_true_eq, decide_eq_false_iff_not, Bool.and_eq_true, Bool.or_eq_true, Bool.not_eq_true', Bool.or_eq_false_iff, beq_iff_eq, bne_iff_ne, ne_eq, beq_eq_false_iff_ne, bne_eq_false_iff_eq, Bool.not_eq_true, Bool.not_eq_false, Bool.not_eq_false', Int.toNat_natCast, Int.reduceToNat] at hc3)
          exfalso; simp at hr3
        · have hr3 := hc3; (try simp only [decide_eq_true_eq, decide_eq_false_iff_not, Bool.and_eq_true, Bool.or_eq_true, Bool.not_eq_true', Bool.or_eq_false_iff, beq_iff_eq, bne_iff_ne, ne_eq, beq_eq_false_iff_ne, bne_eq_false_iff_eq, Bool.not_eq_true, Bool.not_eq_false, Bool.not_eq_false', Int.toNat_natCast, Int.reduceToNat] at hc3)
          refine hw_skip ?_
          refine hq_block ?_
          refine h14 _ ?_
          refine hw_region ?_
          refine hq_ 45 (hop_move rfl) rfl rfl pre0 rfl rfl ?_
          first
          | refine hq_ 46 (hop_addi rfl rfl rfl (by first | exact Nat.le_of_ble_eq_true rfl | omega | (dsimp only; omega) | (simp <;> omega)) (by first | exact Nat.le_of_ble_eq_true rfl | omega | (dsimp only; omega) | (simp <;> omega))) rfl rfl pre0 rfl rfl ?_
          | refine hq_ 46 (hop_add rfl rfl) rfl rfl pre0 rfl rfl ?_
          refine hq_ 9 (hop_assign rfl) rfl rfl pre0 rfl rfl ?_
          refine hseq_nil ?_
          exact hL11 (k + 1) _ _ (by (try dsimp only); omega) (by (try dsimp only); omega) (hsub_of rfl (Nat.le_refl _) (TmSub.cons rfl (Sb.refl _) (TmSub.cons rfl (Sb.refl _) (TmSub.cons rfl (Sb.refl _) TmSub.nil))) HpSub.nil)
      · have hr2 := hc2; (try simp only [decide_eq_true_eq, decide_eq_false_iff_not, Bool.and_eq_true, Bool.or_eq_true, Bool.not_eq_true', Bool.or_eq_false_iff, beq_iff_eq, bne_iff_ne, ne_eq, beq_eq_false_iff_ne, bne_eq_false_iff_eq, Bool.not_eq_true, Bool.not_eq_false, Bool.not_eq_false', Int.toNat_natCast, Int.reduceToNat] at hc2)
        refine hw_exit ?_
        refine hq_then_exit ?_
        refine hq_then_exit ?_
        refine hq_block_here ?_
        refine h9 _ ?_
        refine hw_seq (fun Nh16 h16 => ?_)
        refine hw_region ?_
        refine hq_ 56 (hop_call0 (xs := []) (live_h05) trivial trivial) rfl rfl pre0 rfl rfl ?_
        refine hq_ 2 (hop_assign rfl) rfl rfl pre0 rfl rfl ?_
        refine hseq_nil ?_
        refine h16 _ ?_
        refine hw_ret ?_
        refine hq_ret1 rfl (rval_tmp rfl) [] rfl pre0 ?_
        exact .imm _
end Go.Proofs.YtijpdbjcmnpobaaDoor
