/-
  stetref27.All, Steps, Few; the law WeldTwo in the reader's words.
-/
import Derived.Test.YtkeeipfglmpgjaaHw5
namespace Go.Proofs.Ytkeeipfglmpgjaa
set_option linter.unusedSimpArgs false
set_option linter.unusedVariables false
set_option maxRecDepth 100000
open Go.RowKit

theorem set_last {L : List St} {z : St} (h : 0 < L.length) : L.set (L.length - 1) z = L.take (L.length - 1) ++ [z] := by
  apply List.ext_getElem?
  intro i
  rw [List.getElem?_set]
  by_cases hi : L.length - 1 = i
  · subst hi; rw [if_pos rfl, if_pos (by omega), List.getElem?_append_right (by simp)]; simp
  · rw [if_neg hi]
    by_cases hlt : i < L.length - 1
    · rw [List.getElem?_append_left (by simp; omega), List.getElem?_take, if_pos hlt]
    · rw [List.getElem?_eq_none (by omega), List.getElem?_eq_none (by simp; omega)]
theorem getD_take {α : Type} {L : List α} {d : α} {m i : Nat} (h : i < (L.take m).length) : (L.take m).getD i d = L.getD i d := by
  rw [List.length_take] at h
  rw [List.getD_eq_getElem?_getD, List.getD_eq_getElem?_getD, List.getElem?_take, if_pos (by omega)]
theorem Two27_h' (a b : St) (o : Option St) (ho : a.two b = o) (l : fewS a) (m : fewS b) : HPure Try.prog 31 [stV a, stV b] (optV o) := Two27_h a b o ho l.1 m.1 l.2 m.2
theorem All27_h (l : List St) (hl : ∀ s ∈ l, fewS s) (hn : l.length ≤ 1000) : HPure Try.prog 35 [stsV l] (stsV (allV_ l)) := by
  refine hpure_of Try.func35 rfl (by kernel_rfl) _ _ _ rfl 49 rfl rfl (fun w F => ?_)
  refine hw_seq (fun Nh1 h1 => ?_)
  refine hw_region ?_
  refine hq_ 2 (hop_assign rfl) rfl rfl pre0 rfl rfl ?_
  refine hseq_nil ?_
  refine h1 _ ?_
  refine hw_seq (fun Nh2 h2 => ?_)
  refine hw_region ?_
  refine hq_ 3 (hop_assign rfl) rfl rfl pre0 rfl rfl ?_
  refine hseq_nil ?_
  refine h2 _ ?_
  refine hw_seq (fun Nh3 h3 => ?_)
  refine hw_seq (fun Nh4 h4 => ?_)
  refine hw_region ?_
  refine hq_ 4 (hop_assign rfl) rfl rfl pre0 rfl rfl ?_
  refine hseq_nil ?_
  refine h4 _ ?_
  refine hw_block ?_
  refine hw_own 3 3 10 77 ((fun i => stF (([] : List St).getD i St.none))) rfl (by decide) rfl (c' := 1) rfl ?_
  refine hw_loopc (α := Nat × List St × Nat × Nat) (fun x c => ⟨49, [(0, .v (stsV l)), (4, .v (intV x.1)), (3, .v (.os 3 x.2.2.2 0 x.2.2.1))], [(3, ⟨x.2.2.2, x.2.2.1, 10, 77, 0, fun i => stF (x.2.1.getD i St.none)⟩)], c⟩) (fun x => x.1 ≤ l.length ∧ x.2.2.1 = x.2.1.length ∧ x.2.1 = (l.take x.1).foldl stPut [] ∧ x.2.2.1 ≤ x.1 ∧ ∀ s ∈ x.2.1, fewS s) (fun x => l.length - x.1) ((0, [], 0, 0)) (by exact ⟨Nat.zero_le _, rfl, rfl, Nat.le_refl _, fun s h => by cases h⟩) (hsub_of rfl (Nat.le_refl _) (TmSub.cons rfl (Sb.refl _) (TmSub.cons rfl (Sb.refl _) (TmSub.cons rfl (Sb.refl _) TmSub.nil))) (HpSub.cons rfl (OSub.refl _) HpSub.nil)) (fun x c hx NhL5 hL5 => ?_)
  revert hx hL5; obtain ⟨k, L, n, g⟩ := x; intro hx hL5; dsimp only at hx hL5 ⊢
  obtain ⟨hk, hnL, hL, hnk, hfew⟩ := hx
  refine hw_seq (fun Nh6 h6 => ?_)
  refine hw_seq (fun Nh7 h7 => ?_)
  refine hw_region ?_
  refine hq_ 8 (hop_move rfl) rfl rfl pre0 rfl rfl ?_
  refine hq_ 9 (hop_move rfl) rfl rfl pre0 rfl rfl ?_
  first
  | refine hq_ 10 (hop_len_sl (T := 73) rfl (elOf_spec el_73).1 rfl) rfl rfl pre0 rfl rfl ?_
  | refine hq_ 10 (hop_len_os (T := 73) rfl (elOf_spec el_73).1 rfl) rfl rfl pre0 rfl rfl ?_
  | refine hq_ 10 (hop_len_nil (T := 73) rfl (elOf_spec el_73).1 rfl) rfl rfl pre0 rfl rfl ?_
  refine hq_ 11 (hop_lss rfl rfl) rfl rfl pre0 rfl rfl ?_
  refine hseq_nil ?_
  refine h7 _ ?_
  refine hw_cond _ rfl (fun hc0 => ?_) (fun hc0 => ?_)
  · have hr0 := hc0; (try simp only [decide_eq_true_eq, decide_eq_false_iff_not, Bool.and_eq_true, Bool.or_eq_true, Bool.not_eq_true', Bool.or_eq_false_iff, beq_iff_eq, bne_iff_ne, ne_eq, beq_eq_false_iff_ne, bne_eq_false_iff_eq, Bool.not_eq_true, Bool.not_eq_false, Bool.not_eq_false', Int.toNat_natCast, Int.reduceToNat] at hc0)
    refine hw_skip ?_
    refine h6 _ ?_
    refine hw_seq (fun Nh8 h8 => ?_)
    refine hw_block ?_
    refine hw_seq (fun Nh9 h9 => ?_)
    refine hw_region ?_
    refine hq_ 14 (hop_move rfl) rfl rfl pre0 rfl rfl ?_
    first
    | refine hq_ 15 (hop_len_sl (T := 73) rfl (elOf_spec el_73).1 rfl) rfl rfl pre0 rfl rfl ?_
    | refine hq_ 15 (hop_len_os (T := 73) rfl (elOf_spec el_73).1 rfl) rfl rfl pre0 rfl rfl ?_
    | refine hq_ 15 (hop_len_nil (T := 73) rfl (elOf_spec el_73).1 rfl) rfl rfl pre0 rfl rfl ?_
    refine hq_ 5 (hop_assign rfl) rfl rfl pre0 rfl rfl ?_
    refine hseq_nil ?_
    refine h9 _ ?_
    refine hw_seq (fun Nh10 h10 => ?_)
    refine hw_seq (fun Nh11 h11 => ?_)
    refine hw_region ?_
    refine hq_ 16 (hop_move rfl) rfl rfl pre0 rfl rfl ?_
    refine hq_ 17 (hop_gtr rfl rfl) rfl rfl pre0 rfl rfl ?_
    refine hseq_nil ?_
    refine h11 _ ?_
    refine hw_cond _ rfl (fun hc1 => ?_) (fun hc1 => ?_)
    · have hr1 := hc1; (try simp only [decide_eq_true_eq, decide_eq_false_iff_not, Bool.and_eq_true, Bool.or_eq_true, Bool.not_eq_true', Bool.or_eq_false_iff, beq_iff_eq, bne_iff_ne, ne_eq, beq_eq_false_iff_ne, bne_eq_false_iff_eq, Bool.not_eq_true, Bool.not_eq_false, Bool.not_eq_false', Int.toNat_natCast, Int.reduceToNat] at hc1)
      refine hw_seq (fun Nh12 h12 => ?_)
      have hlast := few_get hfew (L.length - 1) (by omega); have hix : (0 + ((n : Int) - 1).toNat) = L.length - 1 := (by omega); rcases htw : (L.getD (0 + ((n : Int) - 1).toNat) St.none).two (l.getD k St.none) with _ | val
      · skip
        refine hd_start ?_
        refine hd_q 19 (hop_move rfl) rfl rfl pre0 rfl rfl (k' := 1) rfl ?_
        refine hd_q 20 (hop_move rfl) rfl rfl pre0 rfl rfl (k' := 2) rfl ?_
        first
        | refine hd_q 21 (hop_subi rfl rfl rfl (by first | exact Nat.le_of_ble_eq_true rfl | omega | (dsimp only; omega) | (simp <;> omega)) (by first | exact Nat.le_of_ble_eq_true rfl | omega | (dsimp only; omega) | (simp <;> omega))) rfl rfl pre0 rfl rfl (k' := 3) rfl ?_
        | refine hd_q 21 (hop_sub rfl rfl) rfl rfl pre0 rfl rfl (k' := 3) rfl ?_
        first
        | refine hd_q 22 (hop_ia_sl el_73 rfl rfl (by first | exact Nat.le_of_ble_eq_true rfl | omega | (dsimp only; omega) | (simp <;> omega)) (by first | exact Nat.le_of_ble_eq_true rfl | omega | (dsimp only; omega) | (simp <;> omega)) (by first | exact Nat.le_of_ble_eq_true rfl | omega | (dsimp only; omega) | (simp <;> omega))) rfl rfl pre0 rfl rfl (k' := 4) rfl ?_
        | refine hd_q 22 (hol_ia_os el_73 rfl rfl (by first | exact Nat.le_of_ble_eq_true rfl | omega | (dsimp only; omega) | (simp <;> omega)) (by first | exact Nat.le_of_ble_eq_true rfl | omega | (dsimp only; omega) | (simp <;> omega))) rfl rfl (pre1 rfl) rfl rfl (k' := 4) rfl ?_
        first
        | refine hd_q 23 (hol_load ty_77 rfl (by first | exact Nat.le_of_ble_eq_true rfl | omega | (dsimp only; omega) | (simp <;> omega)) (by first | exact Nat.le_of_ble_eq_true rfl | omega | (dsimp only; omega) | (simp <;> omega)) (fun h => by first | rfl | cases h)) rfl rfl (pre1 rfl) rfl rfl (k' := 5) rfl ?_
        | refine hd_q 23 (hop_load_fp ty_77 rfl (by first | exact Nat.le_of_ble_eq_true rfl | omega | (dsimp only; omega) | (simp <;> omega)) (fun h => by first | rfl | cases h)) rfl rfl pre0 rfl rfl (k' := 5) rfl ?_
        refine hd_q 24 (hop_move rfl) rfl rfl pre0 rfl rfl (k' := 6) rfl ?_
        refine hd_q 25 (hop_move rfl) rfl rfl pre0 rfl rfl (k' := 7) rfl ?_
        first
        | refine hd_q 26 (hop_ia_sl el_73 rfl rfl (by first | exact Nat.le_of_ble_eq_true rfl | omega | (dsimp only; omega) | (simp <;> omega)) (by first | exact Nat.le_of_ble_eq_true rfl | omega | (dsimp only; omega) | (simp <;> omega)) (by first | exact Nat.le_of_ble_eq_true rfl | omega | (dsimp only; omega) | (simp <;> omega))) rfl rfl pre0 rfl rfl (k' := 8) rfl ?_
        | refine hd_q 26 (hol_ia_os el_73 rfl rfl (by first | exact Nat.le_of_ble_eq_true rfl | omega | (dsimp only; omega) | (simp <;> omega)) (by first | exact Nat.le_of_ble_eq_true rfl | omega | (dsimp only; omega) | (simp <;> omega))) rfl rfl (pre1 rfl) rfl rfl (k' := 8) rfl ?_
        first
        | refine hd_q 27 (hol_load ty_77 rfl (by first | exact Nat.le_of_ble_eq_true rfl | omega | (dsimp only; omega) | (simp <;> omega)) (by first | exact Nat.le_of_ble_eq_true rfl | omega | (dsimp only; omega) | (simp <;> omega)) (fun h => by first | rfl | cases h)) rfl rfl (pre1 rfl) rfl rfl (k' := 9) rfl ?_
        | refine hd_q 27 (hop_load_fp ty_77 rfl (by first | exact Nat.le_of_ble_eq_true rfl | omega | (dsimp only; omega) | (simp <;> omega)) (fun h => by first | rfl | cases h)) rfl rfl pre0 rfl rfl (k' := 9) rfl ?_
        refine hd_q 28 (hop_call0 (xs := [_, _]) (Two27_h' _ _ _ htw (by rw [hix]; exact hlast) (few_get hl k (by omega))) ⟨rfl, ⟨rfl, trivial⟩⟩ ⟨(Fz.eq rfl), ⟨(Fz.eq rfl), trivial⟩⟩) rfl rfl pre0 rfl rfl (k' := 10) rfl ?_
        refine hd_q 18 (hop_move rfl) rfl rfl pre0 rfl rfl (k' := 11) rfl ?_
        refine hd_q 29 (hop_extract rfl rfl) rfl rfl pre0 rfl rfl (k' := 12) rfl ?_
        refine hd_q 30 (hop_extract rfl rfl) rfl rfl pre0 rfl rfl (k' := 13) rfl ?_
        refine hd_1 6 (hop_alloc (id := 6) (sz := 10) zc_77 rfl rfl (by first | exact Nat.le_of_ble_eq_true rfl | omega | (dsimp only; omega) | (simp <;> omega)) (by first | exact Nat.le_of_ble_eq_true rfl | omega | (dsimp only; omega) | (simp <;> omega))) rfl rfl pre0 rfl rfl (k' := 14) rfl ?_
        first
        | refine hd_s1 (hol_storeW ty_77 rfl rfl rfl rfl) rfl rfl (pre1 rfl) (k' := 15) rfl ?_
        | refine hd_s1 (hol_store ty_77 rfl rfl rfl rfl (by first | exact Nat.le_of_ble_eq_true rfl | omega | (dsimp only; omega) | (simp <;> omega)) (by first | exact Nat.le_of_ble_eq_true rfl | omega | (dsimp only; omega) | (simp <;> omega)) (by first | exact Nat.le_of_ble_eq_true rfl | omega | (dsimp only; omega) | (simp <;> omega))) rfl rfl (pre1 rfl) (k' := 15) rfl ?_
        refine hd_q 7 (hop_assign rfl) rfl rfl pre0 rfl rfl (k' := 16) rfl ?_
        refine hd_nil (by kernel_rfl) (by kernel_rfl) (c' := c + 16) rfl ?_
        refine h12 _ ?_
        refine hw_seq (fun Nh13 h13 => ?_)
        refine hw_region ?_
        refine hq_ 31 (hop_move rfl) rfl rfl pre0 rfl rfl ?_
        refine hseq_nil ?_
        refine h13 _ ?_
        refine hw_cond _ rfl (fun hc2 => ?_) (fun hc2 => ?_)
        · have hr2 := hc2; (try simp only [decide_eq_true_eq, decide_eq_false_iff_not, Bool.and_eq_true, Bool.or_eq_true, Bool.not_eq_true', Bool.or_eq_false_iff, beq_iff_eq, bne_iff_ne, ne_eq, beq_eq_false_iff_ne, bne_eq_false_iff_eq, Bool.not_eq_true, Bool.not_eq_false, Bool.not_eq_false', Int.toNat_natCast, Int.reduceToNat] at hc2)
          exfalso; cases hr2
        · have hr2 := hc2; (try simp only [decide_eq_true_eq, decide_eq_false_iff_not, Bool.and_eq_true, Bool.or_eq_true, Bool.not_eq_true', Bool.or_eq_false_iff, beq_iff_eq, bne_iff_ne, ne_eq, beq_eq_false_iff_ne, bne_eq_false_iff_eq, Bool.not_eq_true, Bool.not_eq_false, Bool.not_eq_false', Int.toNat_natCast, Int.reduceToNat] at hc2)
          refine hw_skip ?_
          refine h10 _ ?_
          refine hw_region ?_
          refine hq_ 41 (hop_move rfl) rfl rfl pre0 rfl rfl ?_
          refine hq_ 42 (hop_move rfl) rfl rfl pre0 rfl rfl ?_
          refine hq_ 43 (hop_move rfl) rfl rfl pre0 rfl rfl ?_
          first
          | refine hq_ 44 (hop_ia_sl el_73 rfl rfl (by first | exact Nat.le_of_ble_eq_true rfl | omega | (dsimp only; omega) | (simp <;> omega)) (by first | exact Nat.le_of_ble_eq_true rfl | omega | (dsimp only; omega) | (simp <;> omega)) (by first | exact Nat.le_of_ble_eq_true rfl | omega | (dsimp only; omega) | (simp <;> omega))) rfl rfl pre0 rfl rfl ?_
          | refine hq_ 44 (hol_ia_os el_73 rfl rfl (by first | exact Nat.le_of_ble_eq_true rfl | omega | (dsimp only; omega) | (simp <;> omega)) (by first | exact Nat.le_of_ble_eq_true rfl | omega | (dsimp only; omega) | (simp <;> omega))) rfl rfl (pre1 rfl) rfl rfl ?_
          first
          | refine hq_ 45 (hol_load ty_77 rfl (by first | exact Nat.le_of_ble_eq_true rfl | omega | (dsimp only; omega) | (simp <;> omega)) (by first | exact Nat.le_of_ble_eq_true rfl | omega | (dsimp only; omega) | (simp <;> omega)) (fun h => by first | rfl | cases h)) rfl rfl (pre1 rfl) rfl rfl ?_
          | refine hq_ 45 (hop_load_fp ty_77 rfl (by first | exact Nat.le_of_ble_eq_true rfl | omega | (dsimp only; omega) | (simp <;> omega)) (fun h => by first | rfl | cases h)) rfl rfl pre0 rfl rfl ?_
          refine hm_1 46 (hop_buildSlice (id := 46) (hs := [_]) ei_73 (by first | exact Nat.le_of_ble_eq_true rfl | omega | (dsimp only; omega) | (simp <;> omega)) rfl (by first | exact Nat.le_of_ble_eq_true rfl | omega | (dsimp only; omega) | (simp <;> omega)) ⟨rfl, rfl, rfl, rfl, trivial⟩) rfl rfl pre0 rfl rfl (c' := c + 17) rfl ?_
          first
          | refine hm_1 47 (hol_append ei_73 (by first | exact Nat.le_of_ble_eq_true rfl | omega | (dsimp only; omega) | (simp <;> omega)) rfl (by first | exact Nat.le_of_ble_eq_true rfl | omega | (dsimp only; omega) | (simp <;> omega)) (by first | exact Nat.le_of_ble_eq_true rfl | omega | (dsimp only; omega) | (simp <;> omega)) (srl_os0 rfl (by first | exact Nat.le_of_ble_eq_true rfl | omega | (dsimp only; omega) | (simp <;> omega))) (by first | exact Nat.le_of_ble_eq_true rfl | omega | (dsimp only; omega) | (simp <;> omega)) rfl) rfl rfl (preC rfl (pre1 rfl)) rfl rfl (c' := c + 18) rfl ?_
          | refine hm_1 47 (hol_append ei_73 (by first | exact Nat.le_of_ble_eq_true rfl | omega | (dsimp only; omega) | (simp <;> omega)) rfl (by first | exact Nat.le_of_ble_eq_true rfl | omega | (dsimp only; omega) | (simp <;> omega)) (by first | exact Nat.le_of_ble_eq_true rfl | omega | (dsimp only; omega) | (simp <;> omega)) (srl_os rfl (by first | exact Nat.le_of_ble_eq_true rfl | omega | (dsimp only; omega) | (simp <;> omega))) (by first | exact Nat.le_of_ble_eq_true rfl | omega | (dsimp only; omega) | (simp <;> omega)) rfl) rfl rfl (preC rfl (pre1 rfl)) rfl rfl (c' := c + 18) rfl ?_
          | refine hm_1 47 (hol_append ei_73 (by first | exact Nat.le_of_ble_eq_true rfl | omega | (dsimp only; omega) | (simp <;> omega)) rfl (by first | exact Nat.le_of_ble_eq_true rfl | omega | (dsimp only; omega) | (simp <;> omega)) (by first | exact Nat.le_of_ble_eq_true rfl | omega | (dsimp only; omega) | (simp <;> omega)) (src_sl rfl) (by first | exact Nat.le_of_ble_eq_true rfl | omega | (dsimp only; omega) | (simp <;> omega)) rfl) rfl rfl (preC rfl pre0) rfl rfl (c' := c + 18) rfl ?_
          | refine hm_1 47 (hol_append ei_73 (by first | exact Nat.le_of_ble_eq_true rfl | omega | (dsimp only; omega) | (simp <;> omega)) rfl (by first | exact Nat.le_of_ble_eq_true rfl | omega | (dsimp only; omega) | (simp <;> omega)) (by first | exact Nat.le_of_ble_eq_true rfl | omega | (dsimp only; omega) | (simp <;> omega)) (src_nil 10 (fun _ _ => default) rfl) (by first | exact Nat.le_of_ble_eq_true rfl | omega | (dsimp only; omega) | (simp <;> omega)) rfl) rfl rfl (preC rfl pre0) rfl rfl (c' := c + 18) rfl ?_
          refine hq_ 3 (hop_assign rfl) rfl rfl pre0 rfl rfl ?_
          refine hseq_nil ?_
          refine hq_block ?_
          refine h8 _ ?_
          refine hw_region ?_
          refine hq_ 12 (hop_move rfl) rfl rfl pre0 rfl rfl ?_
          first
          | refine hq_ 13 (hop_addi rfl rfl rfl (by first | exact Nat.le_of_ble_eq_true rfl | omega | (dsimp only; omega) | (simp <;> omega)) (by first | exact Nat.le_of_ble_eq_true rfl | omega | (dsimp only; omega) | (simp <;> omega))) rfl rfl pre0 rfl rfl ?_
          | refine hq_ 13 (hop_add rfl rfl) rfl rfl pre0 rfl rfl ?_
          refine hq_ 4 (hop_assign rfl) rfl rfl pre0 rfl rfl ?_
          refine hseq_nil ?_
          exact hL5 ((k + 1, L ++ [l.getD k St.none], n + 1, _)) _ _ (by (try dsimp only); exact ⟨by omega, by simp [hnL], by rw [all_take l k (by omega), ← hL, stPut_no (by omega) (by rw [hix] at htw; exact htw)], by omega, by rw [← stPut_no (x := l.getD k St.none) (L := L) (by omega) (by rw [hix] at htw; exact htw)]; exact stPut_len hfew (few_get hl k (by omega))⟩) (by (try dsimp only); omega) (hsub_of rfl (Nat.le_refl _) (TmSub.cons rfl (Sb.refl _) (TmSub.cons rfl (Sb.refl _) (TmSub.cons rfl (Sb.refl _) TmSub.nil))) (HpSub.cons rfl (OSub.of fun i j hi hj => sb_cat (l := L) (k := [l.getD k St.none]) hnL (fun i j _ _ => .refl _) (sb_one (fun j hj => (sb10 (by exact .refl _) (by exact .refl _) (by exact .refl _) (by exact .refl _) (by exact .refl _) (by exact .refl _) (by exact .refl _) (by exact .refl _) (by exact .refl _) (by exact .refl _)) j hj)) i j (by simp; omega) hj) HpSub.nil))
      · skip
        refine hd_start ?_
        refine hd_q 19 (hop_move rfl) rfl rfl pre0 rfl rfl (k' := 1) rfl ?_
        refine hd_q 20 (hop_move rfl) rfl rfl pre0 rfl rfl (k' := 2) rfl ?_
        first
        | refine hd_q 21 (hop_subi rfl rfl rfl (by first | exact Nat.le_of_ble_eq_true rfl | omega | (dsimp only; omega) | (simp <;> omega)) (by first | exact Nat.le_of_ble_eq_true rfl | omega | (dsimp only; omega) | (simp <;> omega))) rfl rfl pre0 rfl rfl (k' := 3) rfl ?_
        | refine hd_q 21 (hop_sub rfl rfl) rfl rfl pre0 rfl rfl (k' := 3) rfl ?_
        first
        | refine hd_q 22 (hop_ia_sl el_73 rfl rfl (by first | exact Nat.le_of_ble_eq_true rfl | omega | (dsimp only; omega) | (simp <;> omega)) (by first | exact Nat.le_of_ble_eq_true rfl | omega | (dsimp only; omega) | (simp <;> omega)) (by first | exact Nat.le_of_ble_eq_true rfl | omega | (dsimp only; omega) | (simp <;> omega))) rfl rfl pre0 rfl rfl (k' := 4) rfl ?_
        | refine hd_q 22 (hol_ia_os el_73 rfl rfl (by first | exact Nat.le_of_ble_eq_true rfl | omega | (dsimp only; omega) | (simp <;> omega)) (by first | exact Nat.le_of_ble_eq_true rfl | omega | (dsimp only; omega) | (simp <;> omega))) rfl rfl (pre1 rfl) rfl rfl (k' := 4) rfl ?_
        first
        | refine hd_q 23 (hol_load ty_77 rfl (by first | exact Nat.le_of_ble_eq_true rfl | omega | (dsimp only; omega) | (simp <;> omega)) (by first | exact Nat.le_of_ble_eq_true rfl | omega | (dsimp only; omega) | (simp <;> omega)) (fun h => by first | rfl | cases h)) rfl rfl (pre1 rfl) rfl rfl (k' := 5) rfl ?_
        | refine hd_q 23 (hop_load_fp ty_77 rfl (by first | exact Nat.le_of_ble_eq_true rfl | omega | (dsimp only; omega) | (simp <;> omega)) (fun h => by first | rfl | cases h)) rfl rfl pre0 rfl rfl (k' := 5) rfl ?_
        refine hd_q 24 (hop_move rfl) rfl rfl pre0 rfl rfl (k' := 6) rfl ?_
        refine hd_q 25 (hop_move rfl) rfl rfl pre0 rfl rfl (k' := 7) rfl ?_
        first
        | refine hd_q 26 (hop_ia_sl el_73 rfl rfl (by first | exact Nat.le_of_ble_eq_true rfl | omega | (dsimp only; omega) | (simp <;> omega)) (by first | exact Nat.le_of_ble_eq_true rfl | omega | (dsimp only; omega) | (simp <;> omega)) (by first | exact Nat.le_of_ble_eq_true rfl | omega | (dsimp only; omega) | (simp <;> omega))) rfl rfl pre0 rfl rfl (k' := 8) rfl ?_
        | refine hd_q 26 (hol_ia_os el_73 rfl rfl (by first | exact Nat.le_of_ble_eq_true rfl | omega | (dsimp only; omega) | (simp <;> omega)) (by first | exact Nat.le_of_ble_eq_true rfl | omega | (dsimp only; omega) | (simp <;> omega))) rfl rfl (pre1 rfl) rfl rfl (k' := 8) rfl ?_
        first
        | refine hd_q 27 (hol_load ty_77 rfl (by first | exact Nat.le_of_ble_eq_true rfl | omega | (dsimp only; omega) | (simp <;> omega)) (by first | exact Nat.le_of_ble_eq_true rfl | omega | (dsimp only; omega) | (simp <;> omega)) (fun h => by first | rfl | cases h)) rfl rfl (pre1 rfl) rfl rfl (k' := 9) rfl ?_
        | refine hd_q 27 (hop_load_fp ty_77 rfl (by first | exact Nat.le_of_ble_eq_true rfl | omega | (dsimp only; omega) | (simp <;> omega)) (fun h => by first | rfl | cases h)) rfl rfl pre0 rfl rfl (k' := 9) rfl ?_
        refine hd_q 28 (hop_call0 (xs := [_, _]) (Two27_h' _ _ _ htw (by rw [hix]; exact hlast) (few_get hl k (by omega))) ⟨rfl, ⟨rfl, trivial⟩⟩ ⟨(Fz.eq rfl), ⟨(Fz.eq rfl), trivial⟩⟩) rfl rfl pre0 rfl rfl (k' := 10) rfl ?_
        refine hd_q 18 (hop_move rfl) rfl rfl pre0 rfl rfl (k' := 11) rfl ?_
        refine hd_q 29 (hop_extract rfl rfl) rfl rfl pre0 rfl rfl (k' := 12) rfl ?_
        refine hd_q 30 (hop_extract rfl rfl) rfl rfl pre0 rfl rfl (k' := 13) rfl ?_
        refine hd_1 6 (hop_alloc (id := 6) (sz := 10) zc_77 rfl rfl (by first | exact Nat.le_of_ble_eq_true rfl | omega | (dsimp only; omega) | (simp <;> omega)) (by first | exact Nat.le_of_ble_eq_true rfl | omega | (dsimp only; omega) | (simp <;> omega))) rfl rfl pre0 rfl rfl (k' := 14) rfl ?_
        first
        | refine hd_s1 (hol_storeW ty_77 rfl rfl rfl rfl) rfl rfl (pre1 rfl) (k' := 15) rfl ?_
        | refine hd_s1 (hol_store ty_77 rfl rfl rfl rfl (by first | exact Nat.le_of_ble_eq_true rfl | omega | (dsimp only; omega) | (simp <;> omega)) (by first | exact Nat.le_of_ble_eq_true rfl | omega | (dsimp only; omega) | (simp <;> omega)) (by first | exact Nat.le_of_ble_eq_true rfl | omega | (dsimp only; omega) | (simp <;> omega))) rfl rfl (pre1 rfl) (k' := 15) rfl ?_
        refine hd_q 7 (hop_assign rfl) rfl rfl pre0 rfl rfl (k' := 16) rfl ?_
        refine hd_nil (by kernel_rfl) (by kernel_rfl) (c' := c + 16) rfl ?_
        refine h12 _ ?_
        refine hw_seq (fun Nh14 h14 => ?_)
        refine hw_region ?_
        refine hq_ 31 (hop_move rfl) rfl rfl pre0 rfl rfl ?_
        refine hseq_nil ?_
        refine h14 _ ?_
        refine hw_cond _ rfl (fun hc2 => ?_) (fun hc2 => ?_)
        · have hr2 := hc2; (try simp only [decide_eq_true_eq, decide_eq_false_iff_not, Bool.and_eq_true, Bool.or_eq_true, Bool.not_eq_true', Bool.or_eq_false_iff, beq_iff_eq, bne_iff_ne, ne_eq, beq_eq_false_iff_ne, bne_eq_false_iff_eq, Bool.not_eq_true, Bool.not_eq_false, Bool.not_eq_false', Int.toNat_natCast, Int.reduceToNat] at hc2)
          refine hw_seq (fun Nh15 h15 => ?_)
          refine hd_start ?_
          refine hd_1 32 (hop_buildSlice (id := 32) (hs := []) ei_73 (by first | exact Nat.le_of_ble_eq_true rfl | omega | (dsimp only; omega) | (simp <;> omega)) rfl (by first | exact Nat.le_of_ble_eq_true rfl | omega | (dsimp only; omega) | (simp <;> omega)) trivial) rfl rfl pre0 rfl rfl (k' := 1) rfl ?_
          refine hd_q 33 (hop_move rfl) rfl rfl pre0 rfl rfl (k' := 2) rfl ?_
          refine hd_q 34 (hop_move rfl) rfl rfl pre0 rfl rfl (k' := 3) rfl ?_
          first
          | refine hd_q 35 (hop_subi rfl rfl rfl (by first | exact Nat.le_of_ble_eq_true rfl | omega | (dsimp only; omega) | (simp <;> omega)) (by first | exact Nat.le_of_ble_eq_true rfl | omega | (dsimp only; omega) | (simp <;> omega))) rfl rfl pre0 rfl rfl (k' := 4) rfl ?_
          | refine hd_q 35 (hop_sub rfl rfl) rfl rfl pre0 rfl rfl (k' := 4) rfl ?_
          first
          | refine hd_q 36 (hop_cut_sl el_73 rfl (.inl ⟨rfl, rfl⟩) (.inr ⟨_, _, rfl, rfl⟩) (by first | exact Nat.le_of_ble_eq_true rfl | omega | (dsimp only; omega) | (simp <;> omega)) (by first | exact Nat.le_of_ble_eq_true rfl | omega | (dsimp only; omega) | (simp <;> omega)) (by first | exact Nat.le_of_ble_eq_true rfl | omega | (dsimp only; omega) | (simp <;> omega))) rfl rfl pre0 rfl rfl (k' := 5) rfl ?_
          | refine hd_q 36 (hol_cut_os el_73 rfl (.inl ⟨rfl, rfl⟩) (.inr ⟨_, _, rfl, rfl⟩) (by first | exact Nat.le_of_ble_eq_true rfl | omega | (dsimp only; omega) | (simp <;> omega)) (by first | exact Nat.le_of_ble_eq_true rfl | omega | (dsimp only; omega) | (simp <;> omega)) (by first | exact Nat.le_of_ble_eq_true rfl | omega | (dsimp only; omega) | (simp <;> omega))) rfl rfl (pre1 rfl) rfl rfl (k' := 5) rfl ?_
          first
          | refine hd_1 37 (hol_append ei_73 (by first | exact Nat.le_of_ble_eq_true rfl | omega | (dsimp only; omega) | (simp <;> omega)) rfl (by first | exact Nat.le_of_ble_eq_true rfl | omega | (dsimp only; omega) | (simp <;> omega)) (by first | exact Nat.le_of_ble_eq_true rfl | omega | (dsimp only; omega) | (simp <;> omega)) (srl_os0 rfl (by first | exact Nat.le_of_ble_eq_true rfl | omega | (dsimp only; omega) | (simp <;> omega))) (by first | exact Nat.le_of_ble_eq_true rfl | omega | (dsimp only; omega) | (simp <;> omega)) rfl) rfl rfl (preC rfl (pre1 rfl)) rfl rfl (k' := 6) rfl ?_
          | refine hd_1 37 (hol_append ei_73 (by first | exact Nat.le_of_ble_eq_true rfl | omega | (dsimp only; omega) | (simp <;> omega)) rfl (by first | exact Nat.le_of_ble_eq_true rfl | omega | (dsimp only; omega) | (simp <;> omega)) (by first | exact Nat.le_of_ble_eq_true rfl | omega | (dsimp only; omega) | (simp <;> omega)) (srl_os rfl (by first | exact Nat.le_of_ble_eq_true rfl | omega | (dsimp only; omega) | (simp <;> omega))) (by first | exact Nat.le_of_ble_eq_true rfl | omega | (dsimp only; omega) | (simp <;> omega)) rfl) rfl rfl (preC rfl (pre1 rfl)) rfl rfl (k' := 6) rfl ?_
          | refine hd_1 37 (hol_append ei_73 (by first | exact Nat.le_of_ble_eq_true rfl | omega | (dsimp only; omega) | (simp <;> omega)) rfl (by first | exact Nat.le_of_ble_eq_true rfl | omega | (dsimp only; omega) | (simp <;> omega)) (by first | exact Nat.le_of_ble_eq_true rfl | omega | (dsimp only; omega) | (simp <;> omega)) (src_sl rfl) (by first | exact Nat.le_of_ble_eq_true rfl | omega | (dsimp only; omega) | (simp <;> omega)) rfl) rfl rfl (preC rfl pre0) rfl rfl (k' := 6) rfl ?_
          | refine hd_1 37 (hol_append ei_73 (by first | exact Nat.le_of_ble_eq_true rfl | omega | (dsimp only; omega) | (simp <;> omega)) rfl (by first | exact Nat.le_of_ble_eq_true rfl | omega | (dsimp only; omega) | (simp <;> omega)) (by first | exact Nat.le_of_ble_eq_true rfl | omega | (dsimp only; omega) | (simp <;> omega)) (src_nil 10 (fun _ _ => default) rfl) (by first | exact Nat.le_of_ble_eq_true rfl | omega | (dsimp only; omega) | (simp <;> omega)) rfl) rfl rfl (preC rfl pre0) rfl rfl (k' := 6) rfl ?_
          first
          | refine hd_q 38 (hol_load ty_77 rfl (by first | exact Nat.le_of_ble_eq_true rfl | omega | (dsimp only; omega) | (simp <;> omega)) (by first | exact Nat.le_of_ble_eq_true rfl | omega | (dsimp only; omega) | (simp <;> omega)) (fun h => by first | rfl | cases h)) rfl rfl (pre1 rfl) rfl rfl (k' := 7) rfl ?_
          | refine hd_q 38 (hop_load_fp ty_77 rfl (by first | exact Nat.le_of_ble_eq_true rfl | omega | (dsimp only; omega) | (simp <;> omega)) (fun h => by first | rfl | cases h)) rfl rfl pre0 rfl rfl (k' := 7) rfl ?_
          refine hd_1 39 (hop_buildSlice (id := 39) (hs := [_]) ei_73 (by first | exact Nat.le_of_ble_eq_true rfl | omega | (dsimp only; omega) | (simp <;> omega)) rfl (by first | exact Nat.le_of_ble_eq_true rfl | omega | (dsimp only; omega) | (simp <;> omega)) ⟨rfl, rfl, rfl, rfl, trivial⟩) rfl rfl pre0 rfl rfl (k' := 8) rfl ?_
          first
          | refine hd_1 40 (hol_append ei_73 (by first | exact Nat.le_of_ble_eq_true rfl | omega | (dsimp only; omega) | (simp <;> omega)) rfl (by first | exact Nat.le_of_ble_eq_true rfl | omega | (dsimp only; omega) | (simp <;> omega)) (by first | exact Nat.le_of_ble_eq_true rfl | omega | (dsimp only; omega) | (simp <;> omega)) (srl_os0 rfl (by first | exact Nat.le_of_ble_eq_true rfl | omega | (dsimp only; omega) | (simp <;> omega))) (by first | exact Nat.le_of_ble_eq_true rfl | omega | (dsimp only; omega) | (simp <;> omega)) rfl) rfl rfl (preC rfl (pre1 rfl)) rfl rfl (k' := 9) rfl ?_
          | refine hd_1 40 (hol_append ei_73 (by first | exact Nat.le_of_ble_eq_true rfl | omega | (dsimp only; omega) | (simp <;> omega)) rfl (by first | exact Nat.le_of_ble_eq_true rfl | omega | (dsimp only; omega) | (simp <;> omega)) (by first | exact Nat.le_of_ble_eq_true rfl | omega | (dsimp only; omega) | (simp <;> omega)) (srl_os rfl (by first | exact Nat.le_of_ble_eq_true rfl | omega | (dsimp only; omega) | (simp <;> omega))) (by first | exact Nat.le_of_ble_eq_true rfl | omega | (dsimp only; omega) | (simp <;> omega)) rfl) rfl rfl (preC rfl (pre1 rfl)) rfl rfl (k' := 9) rfl ?_
          | refine hd_1 40 (hol_append ei_73 (by first | exact Nat.le_of_ble_eq_true rfl | omega | (dsimp only; omega) | (simp <;> omega)) rfl (by first | exact Nat.le_of_ble_eq_true rfl | omega | (dsimp only; omega) | (simp <;> omega)) (by first | exact Nat.le_of_ble_eq_true rfl | omega | (dsimp only; omega) | (simp <;> omega)) (src_sl rfl) (by first | exact Nat.le_of_ble_eq_true rfl | omega | (dsimp only; omega) | (simp <;> omega)) rfl) rfl rfl (preC rfl pre0) rfl rfl (k' := 9) rfl ?_
          | refine hd_1 40 (hol_append ei_73 (by first | exact Nat.le_of_ble_eq_true rfl | omega | (dsimp only; omega) | (simp <;> omega)) rfl (by first | exact Nat.le_of_ble_eq_true rfl | omega | (dsimp only; omega) | (simp <;> omega)) (by first | exact Nat.le_of_ble_eq_true rfl | omega | (dsimp only; omega) | (simp <;> omega)) (src_nil 10 (fun _ _ => default) rfl) (by first | exact Nat.le_of_ble_eq_true rfl | omega | (dsimp only; omega) | (simp <;> omega)) rfl) rfl rfl (preC rfl pre0) rfl rfl (k' := 9) rfl ?_
          refine hd_q 3 (hop_assign rfl) rfl rfl pre0 rfl rfl (k' := 10) rfl ?_
          refine hd_nil (by kernel_rfl) (by kernel_rfl) (c' := c + 26) rfl ?_
          refine h15 _ ?_
          refine hw_exit ?_
          refine hq_then_exit ?_
          refine hq_block_here ?_
          refine h8 _ ?_
          refine hw_region ?_
          refine hq_ 12 (hop_move rfl) rfl rfl pre0 rfl rfl ?_
          first
          | refine hq_ 13 (hop_addi rfl rfl rfl (by first | exact Nat.le_of_ble_eq_true rfl | omega | (dsimp only; omega) | (simp <;> omega)) (by first | exact Nat.le_of_ble_eq_true rfl | omega | (dsimp only; omega) | (simp <;> omega))) rfl rfl pre0 rfl rfl ?_
          | refine hq_ 13 (hop_add rfl rfl) rfl rfl pre0 rfl rfl ?_
          refine hq_ 4 (hop_assign rfl) rfl rfl pre0 rfl rfl ?_
          refine hseq_nil ?_
          exact hL5 ((k + 1, L.take (L.length - 1) ++ [val], 0 + ((n : Int) - 1 - 0).toNat + 1, _)) _ _ (by (try dsimp only); exact ⟨by omega, by simp; omega, by rw [all_take l k (by omega), ← hL, stPut_yes (by omega) (by rw [hix] at htw; exact htw), set_last (by omega)], by omega, by rw [← set_last (by omega), ← stPut_yes (x := l.getD k St.none) (L := L) (by omega) (by rw [hix] at htw; exact htw)]; exact stPut_len hfew (few_get hl k (by omega))⟩) (by (try dsimp only); omega) (HSub.trans (hsub_ren 3 32 3 [] rfl rfl rfl (fun k o h => by cases h) (c' := c + 27) rfl) (hsub_of rfl (Nat.le_refl _) (TmSub.cons rfl (Sb.refl _) (TmSub.cons rfl (Sb.refl _) (TmSub.cons rfl (Sb.refl _) TmSub.nil))) (HpSub.cons rfl (OSub.of fun i j hi hj => sb_cat (l := L.take (L.length - 1)) (k := [val]) (by simp; omega) (sb_cat (l := []) (k := L.take (L.length - 1)) rfl sb_none (fun i j hi hj => by rw [getD_take hi]; exact .refl _)) (sb_one (fun j hj => (sb10 (by exact .refl _) (by exact .refl _) (by exact .refl _) (by exact .refl _) (by exact .refl _) (by exact .refl _) (by exact .refl _) (by exact .refl _) (by exact .refl _) (by exact .refl _)) j hj)) i j (by simp at hi ⊢; omega) hj) HpSub.nil)))
        · have hr2 := hc2; (try simp only [decide_eq_true_eq, decide_eq_false_iff_not, Bool.and_eq_true, Bool.or_eq_true, Bool.not_eq_true', Bool.or_eq_false_iff, beq_iff_eq, bne_iff_ne, ne_eq, beq_eq_false_iff_ne, bne_eq_false_iff_eq, Bool.not_eq_true, Bool.not_eq_false, Bool.not_eq_false', Int.toNat_natCast, Int.reduceToNat] at hc2)
          exfalso; cases hr2
    · have hr1 := hc1; (try simp only [decide_eq_true_eq, decide_eq_false_iff_not, Bool.and_eq_true, Bool.or_eq_true, Bool.not_eq_true', Bool.or_eq_false_iff, beq_iff_eq, bne_iff_ne, ne_eq, beq_eq_false_iff_ne, bne_eq_false_iff_eq, Bool.not_eq_true, Bool.not_eq_false, Bool.not_eq_false', Int.toNat_natCast, Int.reduceToNat] at hc1)
      refine hw_skip ?_
      refine h10 _ ?_
      refine hw_region ?_
      refine hq_ 41 (hop_move rfl) rfl rfl pre0 rfl rfl ?_
      refine hq_ 42 (hop_move rfl) rfl rfl pre0 rfl rfl ?_
      refine hq_ 43 (hop_move rfl) rfl rfl pre0 rfl rfl ?_
      first
      | refine hq_ 44 (hop_ia_sl el_73 rfl rfl (by first | exact Nat.le_of_ble_eq_true rfl | omega | (dsimp only; omega) | (simp <;> omega)) (by first | exact Nat.le_of_ble_eq_true rfl | omega | (dsimp only; omega) | (simp <;> omega)) (by first | exact Nat.le_of_ble_eq_true rfl | omega | (dsimp only; omega) | (simp <;> omega))) rfl rfl pre0 rfl rfl ?_
      | refine hq_ 44 (hol_ia_os el_73 rfl rfl (by first | exact Nat.le_of_ble_eq_true rfl | omega | (dsimp only; omega) | (simp <;> omega)) (by first | exact Nat.le_of_ble_eq_true rfl | omega | (dsimp only; omega) | (simp <;> omega))) rfl rfl (pre1 rfl) rfl rfl ?_
      first
      | refine hq_ 45 (hol_load ty_77 rfl (by first | exact Nat.le_of_ble_eq_true rfl | omega | (dsimp only; omega) | (simp <;> omega)) (by first | exact Nat.le_of_ble_eq_true rfl | omega | (dsimp only; omega) | (simp <;> omega)) (fun h => by first | rfl | cases h)) rfl rfl (pre1 rfl) rfl rfl ?_
      | refine hq_ 45 (hop_load_fp ty_77 rfl (by first | exact Nat.le_of_ble_eq_true rfl | omega | (dsimp only; omega) | (simp <;> omega)) (fun h => by first | rfl | cases h)) rfl rfl pre0 rfl rfl ?_
      refine hm_1 46 (hop_buildSlice (id := 46) (hs := [_]) ei_73 (by first | exact Nat.le_of_ble_eq_true rfl | omega | (dsimp only; omega) | (simp <;> omega)) rfl (by first | exact Nat.le_of_ble_eq_true rfl | omega | (dsimp only; omega) | (simp <;> omega)) ⟨rfl, rfl, rfl, rfl, trivial⟩) rfl rfl pre0 rfl rfl (c' := c + 1) rfl ?_
      first
      | refine hm_1 47 (hol_append ei_73 (by first | exact Nat.le_of_ble_eq_true rfl | omega | (dsimp only; omega) | (simp <;> omega)) rfl (by first | exact Nat.le_of_ble_eq_true rfl | omega | (dsimp only; omega) | (simp <;> omega)) (by first | exact Nat.le_of_ble_eq_true rfl | omega | (dsimp only; omega) | (simp <;> omega)) (srl_os0 rfl (by first | exact Nat.le_of_ble_eq_true rfl | omega | (dsimp only; omega) | (simp <;> omega))) (by first | exact Nat.le_of_ble_eq_true rfl | omega | (dsimp only; omega) | (simp <;> omega)) rfl) rfl rfl (preC rfl (pre1 rfl)) rfl rfl (c' := c + 2) rfl ?_
      | refine hm_1 47 (hol_append ei_73 (by first | exact Nat.le_of_ble_eq_true rfl | omega | (dsimp only; omega) | (simp <;> omega)) rfl (by first | exact Nat.le_of_ble_eq_true rfl | omega | (dsimp only; omega) | (simp <;> omega)) (by first | exact Nat.le_of_ble_eq_true rfl | omega | (dsimp only; omega) | (simp <;> omega)) (srl_os rfl (by first | exact Nat.le_of_ble_eq_true rfl | omega | (dsimp only; omega) | (simp <;> omega))) (by first | exact Nat.le_of_ble_eq_true rfl | omega | (dsimp only; omega) | (simp <;> omega)) rfl) rfl rfl (preC rfl (pre1 rfl)) rfl rfl (c' := c + 2) rfl ?_
      | refine hm_1 47 (hol_append ei_73 (by first | exact Nat.le_of_ble_eq_true rfl | omega | (dsimp only; omega) | (simp <;> omega)) rfl (by first | exact Nat.le_of_ble_eq_true rfl | omega | (dsimp only; omega) | (simp <;> omega)) (by first | exact Nat.le_of_ble_eq_true rfl | omega | (dsimp only; omega) | (simp <;> omega)) (src_sl rfl) (by first | exact Nat.le_of_ble_eq_true rfl | omega | (dsimp only; omega) | (simp <;> omega)) rfl) rfl rfl (preC rfl pre0) rfl rfl (c' := c + 2) rfl ?_
      | refine hm_1 47 (hol_append ei_73 (by first | exact Nat.le_of_ble_eq_true rfl | omega | (dsimp only; omega) | (simp <;> omega)) rfl (by first | exact Nat.le_of_ble_eq_true rfl | omega | (dsimp only; omega) | (simp <;> omega)) (by first | exact Nat.le_of_ble_eq_true rfl | omega | (dsimp only; omega) | (simp <;> omega)) (src_nil 10 (fun _ _ => default) rfl) (by first | exact Nat.le_of_ble_eq_true rfl | omega | (dsimp only; omega) | (simp <;> omega)) rfl) rfl rfl (preC rfl pre0) rfl rfl (c' := c + 2) rfl ?_
      refine hq_ 3 (hop_assign rfl) rfl rfl pre0 rfl rfl ?_
      refine hseq_nil ?_
      refine hq_block ?_
      refine h8 _ ?_
      refine hw_region ?_
      refine hq_ 12 (hop_move rfl) rfl rfl pre0 rfl rfl ?_
      first
      | refine hq_ 13 (hop_addi rfl rfl rfl (by first | exact Nat.le_of_ble_eq_true rfl | omega | (dsimp only; omega) | (simp <;> omega)) (by first | exact Nat.le_of_ble_eq_true rfl | omega | (dsimp only; omega) | (simp <;> omega))) rfl rfl pre0 rfl rfl ?_
      | refine hq_ 13 (hop_add rfl rfl) rfl rfl pre0 rfl rfl ?_
      refine hq_ 4 (hop_assign rfl) rfl rfl pre0 rfl rfl ?_
      refine hseq_nil ?_
      exact hL5 ((k + 1, L ++ [l.getD k St.none], n + 1, _)) _ _ (by (try dsimp only); exact ⟨by omega, by simp [hnL], by rw [all_take l k (by omega), ← hL, stPut_none (by omega)], by omega, by rw [← stPut_none (x := l.getD k St.none) (L := L) (by omega)]; exact stPut_len hfew (few_get hl k (by omega))⟩) (by (try dsimp only); omega) (hsub_of rfl (Nat.le_refl _) (TmSub.cons rfl (Sb.refl _) (TmSub.cons rfl (Sb.refl _) (TmSub.cons rfl (Sb.refl _) TmSub.nil))) (HpSub.cons rfl (OSub.of fun i j hi hj => sb_cat (l := L) (k := [l.getD k St.none]) hnL (fun i j _ _ => .refl _) (sb_one (fun j hj => (sb10 (by exact .refl _) (by exact .refl _) (by exact .refl _) (by exact .refl _) (by exact .refl _) (by exact .refl _) (by exact .refl _) (by exact .refl _) (by exact .refl _) (by exact .refl _)) j hj)) i j (by simp; omega) hj) HpSub.nil))
  · have hr0 := hc0; (try simp only [decide_eq_true_eq, decide_eq_false_iff_not, Bool.and_eq_true, Bool.or_eq_true, Bool.not_eq_true', Bool.or_eq_false_iff, beq_iff_eq, bne_iff_ne, ne_eq, beq_eq_false_iff_ne, bne_eq_false_iff_eq, Bool.not_eq_true, Bool.not_eq_false, Bool.not_eq_false', Int.toNat_natCast, Int.reduceToNat] at hc0)
    refine hw_exit ?_
    refine hq_then_exit ?_
    refine hq_then_exit ?_
    refine hq_block_here ?_
    refine h3 _ ?_
    refine hw_seq (fun Nh16 h16 => ?_)
    refine hw_region ?_
    refine hq_ 48 (hop_move rfl) rfl rfl pre0 rfl rfl ?_
    refine hq_ 2 (hop_assign rfl) rfl rfl pre0 rfl rfl ?_
    refine hseq_nil ?_
    refine h16 _ ?_
    refine hw_ret ?_
    refine hq_ret1 rfl (rval_tmp rfl) [(3, _)] rfl (preC rfl pre0) ?_
    have hkl : k = l.length := (by omega); subst hkl; rw [List.take_length] at hL; have e : allV_ l = L := hL.symm; rw [e]; exact fz_row (l := L) (enc := stF) (d := St.none) (List.mem_cons_self ..) rfl hnL (Nat.le_refl _) (fun i j _ _ => fz_stF _ _)
theorem same25_h (a b : St) (l : fewS a) (m : fewS b) : HPure Try.prog 32 [stV a, stV b] (boolV (decide (a = b))) := by
  refine ⟨⟨_, _, Try.func32, rfl, by kernel_rfl⟩, fun w F vs hF hr hw => ?_⟩
  obtain ⟨u, v, rfl, hu, hv⟩ := rep2 hr
  obtain ⟨x, rfl, rfl, hx⟩ := stp_of hu
  obtain ⟨y, rfl, rfl, hy⟩ := stp_of hv
  obtain ⟨l1, l2⟩ := l
  obtain ⟨m1, m2⟩ := m
  refine (Same25_any x y _ _ w hx hy (Nat.le_refl _) (Nat.le_refl _) (by rw [← hx.1]; omega) (by rw [← hy.1]; omega) (by rw [← hx.2.1]; omega) (by rw [← hy.2.1]; omega)).mono ?_
  rintro e w' ⟨rfl, hb⟩
  exact pure_imm hF hb
def stepsEq (a b : List St) : Bool := decide (a.length = b.length) && (List.range a.length).all fun i => decide (a.getD i St.none = b.getD i St.none)
theorem stepsEq_self (a : List St) : stepsEq a a = true := by simp [stepsEq]
theorem Steps_h (a b : List St) (ha : ∀ s ∈ a, fewS s) (hb : ∀ s ∈ b, fewS s) (ln : a.length ≤ 100000) (lm : b.length ≤ 100000) (r : Bool) (hr : stepsEq a b = r) : HPure Try.prog 33 [stsV a, stsV b] (boolV r) := by
  refine hpure_of Try.func33 rfl (by kernel_rfl) _ _ _ rfl 27 rfl rfl (fun w F => ?_)
  refine hw_seq (fun Nh1 h1 => ?_)
  refine hw_region ?_
  refine hq_ 4 (hop_assign rfl) rfl rfl pre0 rfl rfl ?_
  refine hseq_nil ?_
  refine h1 _ ?_
  refine hw_seq (fun Nh2 h2 => ?_)
  refine hw_seq (fun Nh3 h3 => ?_)
  refine hw_region ?_
  refine hq_ 6 (hop_move rfl) rfl rfl pre0 rfl rfl ?_
  first
  | refine hq_ 7 (hop_len_sl (T := 73) rfl (elOf_spec el_73).1 rfl) rfl rfl pre0 rfl rfl ?_
  | refine hq_ 7 (hop_len_os (T := 73) rfl (elOf_spec el_73).1 rfl) rfl rfl pre0 rfl rfl ?_
  | refine hq_ 7 (hop_len_nil (T := 73) rfl (elOf_spec el_73).1 rfl) rfl rfl pre0 rfl rfl ?_
  refine hq_ 8 (hop_move rfl) rfl rfl pre0 rfl rfl ?_
  first
  | refine hq_ 9 (hop_len_sl (T := 73) rfl (elOf_spec el_73).1 rfl) rfl rfl pre0 rfl rfl ?_
  | refine hq_ 9 (hop_len_os (T := 73) rfl (elOf_spec el_73).1 rfl) rfl rfl pre0 rfl rfl ?_
  | refine hq_ 9 (hop_len_nil (T := 73) rfl (elOf_spec el_73).1 rfl) rfl rfl pre0 rfl rfl ?_
  refine hq_ 10 (hop_neq rfl rfl) rfl rfl pre0 rfl rfl ?_
  refine hseq_nil ?_
  refine h3 _ ?_
  refine hw_cond _ rfl (fun hc0 => ?_) (fun hc0 => ?_)
  · have hr0 := hc0; (try simp only [decide_eq_true_eq, decide_eq_false_iff_not, Bool.and_eq_true, Bool.or_eq_true, Bool.not_eq_true', Bool.or_eq_false_iff, beq_iff_eq, bne_iff_ne, ne_eq, beq_eq_false_iff_ne, bne_eq_false_iff_eq, Bool.not_eq_true, Bool.not_eq_false, Bool.not_eq_false', Int.toNat_natCast, Int.reduceToNat] at hc0)
    refine hw_seq (fun Nh4 h4 => ?_)
    refine hw_region ?_
    refine hq_ 4 (hop_assign rfl) rfl rfl pre0 rfl rfl ?_
    refine hseq_nil ?_
    refine h4 _ ?_
    refine hw_ret ?_
    refine hq_then_ret ?_
    refine hq_ret1 rfl (rval_tmp rfl) [] rfl pre0 ?_
    obtain rfl : false = r := (by rw [← hr]; unfold stepsEq; rw [decide_eq_false (by omega)]; rfl); exact .imm _
  · have hr0 := hc0; (try simp only [decide_eq_true_eq, decide_eq_false_iff_not, Bool.and_eq_true, Bool.or_eq_true, Bool.not_eq_true', Bool.or_eq_false_iff, beq_iff_eq, bne_iff_ne, ne_eq, beq_eq_false_iff_ne, bne_eq_false_iff_eq, Bool.not_eq_true, Bool.not_eq_false, Bool.not_eq_false', Int.toNat_natCast, Int.reduceToNat] at hc0)
    have hab : a.length = b.length := (by omega)
    refine hw_skip ?_
    refine h2 _ ?_
    refine hw_seq (fun Nh5 h5 => ?_)
    refine hw_seq (fun Nh6 h6 => ?_)
    refine hw_region ?_
    refine hq_ 5 (hop_assign rfl) rfl rfl pre0 rfl rfl ?_
    refine hseq_nil ?_
    refine h6 _ ?_
    refine hw_block ?_
    refine hw_loopc (α := Nat) (fun x c => ⟨27, [(0, .v (stsV a)), (1, .v (stsV b)), (5, .v (intV x))], [], c⟩) (fun x => x ≤ a.length ∧ ∀ i, i < x → a.getD i St.none = b.getD i St.none) (fun x => a.length - x) (0) (by exact ⟨Nat.zero_le _, fun i h => by omega⟩) (hsub_of rfl (Nat.le_refl _) (TmSub.cons rfl (Sb.refl _) (TmSub.cons rfl (Sb.refl _) (TmSub.cons rfl (Sb.refl _) TmSub.nil))) HpSub.nil) (fun k c hx NhL7 hL7 => ?_)
    (try dsimp only at hx hL7 ⊢)
    obtain ⟨hk, heq⟩ := hx
    refine hw_seq (fun Nh8 h8 => ?_)
    refine hw_seq (fun Nh9 h9 => ?_)
    refine hw_region ?_
    refine hq_ 11 (hop_move rfl) rfl rfl pre0 rfl rfl ?_
    refine hq_ 12 (hop_move rfl) rfl rfl pre0 rfl rfl ?_
    first
    | refine hq_ 13 (hop_len_sl (T := 73) rfl (elOf_spec el_73).1 rfl) rfl rfl pre0 rfl rfl ?_
    | refine hq_ 13 (hop_len_os (T := 73) rfl (elOf_spec el_73).1 rfl) rfl rfl pre0 rfl rfl ?_
    | refine hq_ 13 (hop_len_nil (T := 73) rfl (elOf_spec el_73).1 rfl) rfl rfl pre0 rfl rfl ?_
    refine hq_ 14 (hop_lss rfl rfl) rfl rfl pre0 rfl rfl ?_
    refine hseq_nil ?_
    refine h9 _ ?_
    refine hw_cond _ rfl (fun hc1 => ?_) (fun hc1 => ?_)
    · have hr1 := hc1; (try simp only [decide_eq_true_eq, decide_eq_false_iff_not, Bool.and_eq_true, Bool.or_eq_true, Bool.not_eq_true', Bool.or_eq_false_iff, beq_iff_eq, bne_iff_ne, ne_eq, beq_eq_false_iff_ne, bne_eq_false_iff_eq, Bool.not_eq_true, Bool.not_eq_false, Bool.not_eq_false', Int.toNat_natCast, Int.reduceToNat] at hc1)
      refine hw_skip ?_
      refine h8 _ ?_
      refine hw_seq (fun Nh10 h10 => ?_)
      refine hw_block ?_
      refine hw_seq (fun Nh11 h11 => ?_)
      refine hd_start ?_
      refine hd_q 17 (hop_move rfl) rfl rfl pre0 rfl rfl (k' := 1) rfl ?_
      refine hd_q 18 (hop_move rfl) rfl rfl pre0 rfl rfl (k' := 2) rfl ?_
      first
      | refine hd_q 19 (hop_ia_sl el_73 rfl rfl (by first | exact Nat.le_of_ble_eq_true rfl | omega | (dsimp only; omega) | (simp <;> omega)) (by first | exact Nat.le_of_ble_eq_true rfl | omega | (dsimp only; omega) | (simp <;> omega)) (by first | exact Nat.le_of_ble_eq_true rfl | omega | (dsimp only; omega) | (simp <;> omega))) rfl rfl pre0 rfl rfl (k' := 3) rfl ?_
      | refine hd_q 19 (hol_ia_os el_73 rfl rfl (by first | exact Nat.le_of_ble_eq_true rfl | omega | (dsimp only; omega) | (simp <;> omega)) (by first | exact Nat.le_of_ble_eq_true rfl | omega | (dsimp only; omega) | (simp <;> omega))) rfl rfl (pre1 rfl) rfl rfl (k' := 3) rfl ?_
      first
      | refine hd_q 20 (hol_load ty_77 rfl (by first | exact Nat.le_of_ble_eq_true rfl | omega | (dsimp only; omega) | (simp <;> omega)) (by first | exact Nat.le_of_ble_eq_true rfl | omega | (dsimp only; omega) | (simp <;> omega)) (fun h => by first | rfl | cases h)) rfl rfl (pre1 rfl) rfl rfl (k' := 4) rfl ?_
      | refine hd_q 20 (hop_load_fp ty_77 rfl (by first | exact Nat.le_of_ble_eq_true rfl | omega | (dsimp only; omega) | (simp <;> omega)) (fun h => by first | rfl | cases h)) rfl rfl pre0 rfl rfl (k' := 4) rfl ?_
      refine hd_q 21 (hop_move rfl) rfl rfl pre0 rfl rfl (k' := 5) rfl ?_
      refine hd_q 22 (hop_move rfl) rfl rfl pre0 rfl rfl (k' := 6) rfl ?_
      first
      | refine hd_q 23 (hop_ia_sl el_73 rfl rfl (by first | exact Nat.le_of_ble_eq_true rfl | omega | (dsimp only; omega) | (simp <;> omega)) (by first | exact Nat.le_of_ble_eq_true rfl | omega | (dsimp only; omega) | (simp <;> omega)) (by first | exact Nat.le_of_ble_eq_true rfl | omega | (dsimp only; omega) | (simp <;> omega))) rfl rfl pre0 rfl rfl (k' := 7) rfl ?_
      | refine hd_q 23 (hol_ia_os el_73 rfl rfl (by first | exact Nat.le_of_ble_eq_true rfl | omega | (dsimp only; omega) | (simp <;> omega)) (by first | exact Nat.le_of_ble_eq_true rfl | omega | (dsimp only; omega) | (simp <;> omega))) rfl rfl (pre1 rfl) rfl rfl (k' := 7) rfl ?_
      first
      | refine hd_q 24 (hol_load ty_77 rfl (by first | exact Nat.le_of_ble_eq_true rfl | omega | (dsimp only; omega) | (simp <;> omega)) (by first | exact Nat.le_of_ble_eq_true rfl | omega | (dsimp only; omega) | (simp <;> omega)) (fun h => by first | rfl | cases h)) rfl rfl (pre1 rfl) rfl rfl (k' := 8) rfl ?_
      | refine hd_q 24 (hop_load_fp ty_77 rfl (by first | exact Nat.le_of_ble_eq_true rfl | omega | (dsimp only; omega) | (simp <;> omega)) (fun h => by first | rfl | cases h)) rfl rfl pre0 rfl rfl (k' := 8) rfl ?_
      refine hd_q 25 (hop_call0 (xs := [_, _]) (same25_h (a.getD k St.none) (b.getD k St.none) (few_get ha k (by omega)) (few_get hb k (by omega))) ⟨rfl, ⟨rfl, trivial⟩⟩ ⟨(Fz.eq rfl), ⟨(Fz.eq rfl), trivial⟩⟩) rfl rfl pre0 rfl rfl (k' := 9) rfl ?_
      refine hd_q 26 (hop_not rfl) rfl rfl pre0 rfl rfl (k' := 10) rfl ?_
      refine hd_nil (by kernel_rfl) (by kernel_rfl) (c' := c + 10) rfl ?_
      refine h11 _ ?_
      refine hw_cond _ rfl (fun hc2 => ?_) (fun hc2 => ?_)
      · have hr2 := hc2; (try simp only [decide_eq_true_eq, decide_eq_false_iff_not, Bool.and_eq_true, Bool.or_eq_true, Bool.not_eq_true', Bool.or_eq_false_iff, beq_iff_eq, bne_iff_ne, ne_eq, beq_eq_false_iff_ne, bne_eq_false_iff_eq, Bool.not_eq_true, Bool.not_eq_false, Bool.not_eq_false', Int.toNat_natCast, Int.reduceToNat] at hc2)
        refine hw_seq (fun Nh12 h12 => ?_)
        refine hw_region ?_
        refine hq_ 4 (hop_assign rfl) rfl rfl pre0 rfl rfl ?_
        refine hseq_nil ?_
        refine h12 _ ?_
        refine hw_ret ?_
        refine hq_block_ret ?_
        refine hq_then_ret ?_
        refine hq_then_ret ?_
        refine hq_block_ret ?_
        refine hq_then_ret ?_
        refine hq_ret1 rfl (rval_tmp rfl) [] rfl pre0 ?_
        obtain rfl : false = r := (by rw [← hr]; unfold stepsEq; symm; rw [Bool.and_eq_false_iff]; right; rw [List.all_eq_false]; exact ⟨k, by simp; omega, by simpa using hc2⟩); exact .imm _
      · have hr2 := hc2; (try simp only [decide_eq_true_eq, decide_eq_false_iff_not, Bool.and_eq_true, Bool.or_eq_true, Bool.not_eq_true', Bool.or_eq_false_iff, beq_iff_eq, bne_iff_ne, ne_eq, beq_eq_false_iff_ne, bne_eq_false_iff_eq, Bool.not_eq_true, Bool.not_eq_false, Bool.not_eq_false', Int.toNat_natCast, Int.reduceToNat] at hc2)
        refine hw_skip ?_
        refine hq_block ?_
        refine h10 _ ?_
        refine hw_region ?_
        refine hq_ 15 (hop_move rfl) rfl rfl pre0 rfl rfl ?_
        first
        | refine hq_ 16 (hop_addi rfl rfl rfl (by first | exact Nat.le_of_ble_eq_true rfl | omega | (dsimp only; omega) | (simp <;> omega)) (by first | exact Nat.le_of_ble_eq_true rfl | omega | (dsimp only; omega) | (simp <;> omega))) rfl rfl pre0 rfl rfl ?_
        | refine hq_ 16 (hop_add rfl rfl) rfl rfl pre0 rfl rfl ?_
        refine hq_ 5 (hop_assign rfl) rfl rfl pre0 rfl rfl ?_
        refine hseq_nil ?_
        exact hL7 (k + 1) _ _ (by (try dsimp only); exact ⟨by omega, fun i hi => by rcases Nat.lt_or_eq_of_le (Nat.le_of_lt_succ hi) with h | h; exact heq i h; subst h; exact hc2⟩) (by (try dsimp only); omega) (hsub_of rfl (Nat.le_refl _) (TmSub.cons rfl (Sb.refl _) (TmSub.cons rfl (Sb.refl _) (TmSub.cons rfl (Sb.refl _) TmSub.nil))) HpSub.nil)
    · have hr1 := hc1; (try simp only [decide_eq_true_eq, decide_eq_false_iff_not, Bool.and_eq_true, Bool.or_eq_true, Bool.not_eq_true', Bool.or_eq_false_iff, beq_iff_eq, bne_iff_ne, ne_eq, beq_eq_false_iff_ne, bne_eq_false_iff_eq, Bool.not_eq_true, Bool.not_eq_false, Bool.not_eq_false', Int.toNat_natCast, Int.reduceToNat] at hc1)
      refine hw_exit ?_
      refine hq_then_exit ?_
      refine hq_then_exit ?_
      refine hq_block_here ?_
      refine h5 _ ?_
      refine hw_seq (fun Nh13 h13 => ?_)
      refine hw_region ?_
      refine hq_ 4 (hop_assign rfl) rfl rfl pre0 rfl rfl ?_
      refine hseq_nil ?_
      refine h13 _ ?_
      refine hw_ret ?_
      refine hq_ret1 rfl (rval_tmp rfl) [] rfl pre0 ?_
      obtain rfl : true = r := (by rw [← hr]; unfold stepsEq; rw [decide_eq_true hab, Bool.true_and]; symm; rw [List.all_eq_true]; intro i hi; simp at hi; simpa using heq i (by omega)); exact .imm _
def few25 (s : St) : Bool := decide ((s.sl.length : Int) ≤ 60) && decide ((s.sets.length : Int) ≤ 150)
def few27 (l : List St) : Bool := ((List.range (min 20 l.length)).all fun i => few25 (l.getD i St.none)) && decide (l.length ≤ 20)
theorem few27_yes {l : List St} (h : few27 l = true) : l.length ≤ 20 ∧ ∀ s ∈ l, s.sl.length ≤ 60 ∧ s.sets.length ≤ 150 := by
  unfold few27 at h
  rw [Bool.and_eq_true, decide_eq_true_eq, List.all_eq_true] at h
  refine ⟨h.2, fun s hs => ?_⟩
  obtain ⟨i, hi, rfl⟩ := List.mem_iff_getElem.1 hs
  have := h.1 i (List.mem_range.2 (by omega))
  rw [List.getD_eq_getElem?_getD, List.getElem?_eq_getElem hi] at this
  unfold few25 at this
  simp at this
  omega
theorem few27_end {l : List St} {k : Nat} (h : ∀ i, i < k → few25 (l.getD i St.none) = true) (hk : k < l.length → 20 ≤ k) : decide ((l.length : Int) ≤ 20) = few27 l := by
  unfold few27
  by_cases h20 : l.length ≤ 20
  · rw [decide_eq_true (show (l.length : Int) ≤ 20 by omega), decide_eq_true h20, Bool.and_true]
    symm
    rw [List.all_eq_true]
    intro i hi
    rw [List.mem_range] at hi
    exact h i (by omega)
  · rw [decide_eq_false (show ¬ (l.length : Int) ≤ 20 by omega), decide_eq_false h20, Bool.and_false]
theorem all_few {l : List St} (h : ∀ s ∈ l, fewS s) : (∀ s ∈ allV_ l, fewS s) ∧ (allV_ l).length ≤ l.length := by
  have key : ∀ (l out : List St), (∀ s ∈ l, fewS s) → (∀ s ∈ out, fewS s) → (∀ s ∈ l.foldl stPut out, fewS s) ∧ (l.foldl stPut out).length ≤ out.length + l.length := by
    intro l
    induction l with
    | nil => intro out _ ho; exact ⟨ho, by simp⟩
    | cons x l ih =>
      intro out hl ho
      have := ih (stPut out x) (fun s hs => hl s (List.mem_cons_of_mem _ hs)) (stPut_len ho (hl x (List.mem_cons_self ..)))
      refine ⟨this.1, ?_⟩
      have h2 := this.2
      have h3 := stPut_ne (L := out) (x := x)
      simp only [List.foldl_cons, List.length_cons]
      omega
  have := key l [] h (fun s h => by cases h)
  exact ⟨this.1, by have h2 := this.2; simp at h2; exact h2⟩
theorem few27_h (l : List St) (r : Bool) (hr : few27 l = r) : HPure Try.prog 28 [stsV l] (boolV r) := by
  refine hpure_of Try.func28 rfl (by kernel_rfl) _ _ _ rfl 23 rfl rfl (fun w F => ?_)
  refine hw_seq (fun Nh1 h1 => ?_)
  refine hw_region ?_
  refine hq_ 2 (hop_assign rfl) rfl rfl pre0 rfl rfl ?_
  refine hseq_nil ?_
  refine h1 _ ?_
  refine hw_seq (fun Nh2 h2 => ?_)
  refine hw_seq (fun Nh3 h3 => ?_)
  refine hw_region ?_
  refine hq_ 3 (hop_assign rfl) rfl rfl pre0 rfl rfl ?_
  refine hseq_nil ?_
  refine h3 _ ?_
  refine hw_block ?_
  refine hw_loopc (α := Nat) (fun x c => ⟨23, [(0, .v (stsV l)), (3, .v (intV x))], [], c⟩) (fun x => x ≤ l.length ∧ x ≤ 20 ∧ ∀ i, i < x → few25 (l.getD i St.none) = true) (fun x => l.length - x) (0) (by exact ⟨Nat.zero_le _, Nat.zero_le _, fun i h => by omega⟩) (hsub_of rfl (Nat.le_refl _) (TmSub.cons rfl (Sb.refl _) (TmSub.cons rfl (Sb.refl _) TmSub.nil)) HpSub.nil) (fun k c hx NhL4 hL4 => ?_)
  (try dsimp only at hx hL4 ⊢)
  obtain ⟨hk, hk2, heq⟩ := hx
  refine hw_seq (fun Nh5 h5 => ?_)
  refine hw_seq (fun Nh6 h6 => ?_)
  refine hw_region ?_
  refine hq_ 4 (hop_move rfl) rfl rfl pre0 rfl rfl ?_
  refine hq_ 5 (hop_move rfl) rfl rfl pre0 rfl rfl ?_
  first
  | refine hq_ 6 (hop_len_sl (T := 73) rfl (elOf_spec el_73).1 rfl) rfl rfl pre0 rfl rfl ?_
  | refine hq_ 6 (hop_len_os (T := 73) rfl (elOf_spec el_73).1 rfl) rfl rfl pre0 rfl rfl ?_
  | refine hq_ 6 (hop_len_nil (T := 73) rfl (elOf_spec el_73).1 rfl) rfl rfl pre0 rfl rfl ?_
  refine hq_ 7 (hop_lss rfl rfl) rfl rfl pre0 rfl rfl ?_
  refine hq_ 8 (hop_move rfl) rfl rfl pre0 rfl rfl ?_
  first
  | refine hq_g 9 4 8 true _ (fun hb => hop_move rfl) rfl rfl rfl rfl pre0 rfl rfl rfl ?_
  | refine hq_g2 9 4 8 _ _ true _ (fun hb => hop_move rfl) rfl rfl rfl rfl pre0 rfl rfl rfl ?_
  first
  | refine hq_g 10 4 8 true _ (fun hb => hop_lss rfl rfl) rfl rfl rfl rfl pre0 rfl rfl rfl ?_
  | refine hq_g2 10 4 8 _ _ true _ (fun hb => hop_lss rfl rfl) rfl rfl rfl rfl pre0 rfl rfl rfl ?_
  first
  | refine hq_p 11 (hstep_and _ _ rfl rfl rfl) rfl rfl rfl ?_
  | refine hq_p 11 (hstep_or _ _ rfl rfl rfl) rfl rfl rfl ?_
  | refine hq_p 11 (hstep_ite _ _ _ rfl rfl rfl) rfl rfl rfl ?_
  | refine hq_p 11 (hstep_pick _ _ _ _ rfl rfl rfl (fun _ => .refl _) (fun _ => .refl _)) rfl rfl rfl ?_
  refine hseq_nilU (by rfl) (by simp only [dropUn, slots]; exact rfl) ?_
  refine h6 _ ?_
  refine hw_cond _ rfl (fun hc0 => ?_) (fun hc0 => ?_)
  · have hr0 := hc0; (try simp only [decide_eq_true_eq, decide_eq_false_iff_not, Bool.and_eq_true, Bool.or_eq_true, Bool.not_eq_true', Bool.or_eq_false_iff, beq_iff_eq, bne_iff_ne, ne_eq, beq_eq_false_iff_ne, bne_eq_false_iff_eq, Bool.not_eq_true, Bool.not_eq_false, Bool.not_eq_false', Int.toNat_natCast, Int.reduceToNat] at hc0)
    refine hw_skip ?_
    refine h5 _ ?_
    refine hw_seq (fun Nh7 h7 => ?_)
    refine hw_block ?_
    refine hw_seq (fun Nh8 h8 => ?_)
    refine hw_region ?_
    refine hq_ 14 (hop_move rfl) rfl rfl pre0 rfl rfl ?_
    refine hq_ 15 (hop_move rfl) rfl rfl pre0 rfl rfl ?_
    first
    | refine hq_ 16 (hop_ia_sl el_73 rfl rfl (by first | exact Nat.le_of_ble_eq_true rfl | omega | (dsimp only; omega) | (simp <;> omega)) (by first | exact Nat.le_of_ble_eq_true rfl | omega | (dsimp only; omega) | (simp <;> omega)) (by first | exact Nat.le_of_ble_eq_true rfl | omega | (dsimp only; omega) | (simp <;> omega))) rfl rfl pre0 rfl rfl ?_
    | refine hq_ 16 (hol_ia_os el_73 rfl rfl (by first | exact Nat.le_of_ble_eq_true rfl | omega | (dsimp only; omega) | (simp <;> omega)) (by first | exact Nat.le_of_ble_eq_true rfl | omega | (dsimp only; omega) | (simp <;> omega))) rfl rfl (pre1 rfl) rfl rfl ?_
    first
    | refine hq_ 17 (hol_load ty_77 rfl (by first | exact Nat.le_of_ble_eq_true rfl | omega | (dsimp only; omega) | (simp <;> omega)) (by first | exact Nat.le_of_ble_eq_true rfl | omega | (dsimp only; omega) | (simp <;> omega)) (fun h => by first | rfl | cases h)) rfl rfl (pre1 rfl) rfl rfl ?_
    | refine hq_ 17 (hop_load_fp ty_77 rfl (by first | exact Nat.le_of_ble_eq_true rfl | omega | (dsimp only; omega) | (simp <;> omega)) (fun h => by first | rfl | cases h)) rfl rfl pre0 rfl rfl ?_
    refine hq_ 18 (hop_call0 (xs := [_]) (Few25h (l.getD k St.none)) ⟨rfl, trivial⟩ ⟨(Fz.eq rfl), trivial⟩) rfl rfl pre0 rfl rfl ?_
    refine hq_ 19 (hop_not rfl) rfl rfl pre0 rfl rfl ?_
    refine hseq_nil ?_
    refine h8 _ ?_
    refine hw_cond _ rfl (fun hc1 => ?_) (fun hc1 => ?_)
    · have hr1 := hc1; (try simp only [decide_eq_true_eq, decide_eq_false_iff_not, Bool.and_eq_true, Bool.or_eq_true, Bool.not_eq_true', Bool.or_eq_false_iff, beq_iff_eq, bne_iff_ne, ne_eq, beq_eq_false_iff_ne, bne_eq_false_iff_eq, Bool.not_eq_true, Bool.not_eq_false, Bool.not_eq_false', Int.toNat_natCast, Int.reduceToNat] at hc1)
      refine hw_seq (fun Nh9 h9 => ?_)
      refine hw_region ?_
      refine hq_ 2 (hop_assign rfl) rfl rfl pre0 rfl rfl ?_
      refine hseq_nil ?_
      refine h9 _ ?_
      refine hw_ret ?_
      refine hq_block_ret ?_
      refine hq_then_ret ?_
      refine hq_then_ret ?_
      refine hq_block_ret ?_
      refine hq_then_ret ?_
      refine hq_ret1 rfl (rval_tmp rfl) [] rfl pre0 ?_
      obtain rfl : false = r := (by rw [← hr]; unfold few27; symm; rw [Bool.and_eq_false_iff]; left; rw [List.all_eq_false]; exact ⟨k, List.mem_range.2 (by omega), by unfold few25; simp at hr1 ⊢; omega⟩); exact .imm _
    · have hr1 := hc1; (try simp only [decide_eq_true_eq, decide_eq_false_iff_not, Bool.and_eq_true, Bool.or_eq_true, Bool.not_eq_true', Bool.or_eq_false_iff, beq_iff_eq, bne_iff_ne, ne_eq, beq_eq_false_iff_ne, bne_eq_false_iff_eq, Bool.not_eq_true, Bool.not_eq_false, Bool.not_eq_false', Int.toNat_natCast, Int.reduceToNat] at hc1)
      refine hw_skip ?_
      refine hq_block ?_
      refine h7 _ ?_
      refine hw_region ?_
      refine hq_ 12 (hop_move rfl) rfl rfl pre0 rfl rfl ?_
      first
      | refine hq_ 13 (hop_addi rfl rfl rfl (by first | exact Nat.le_of_ble_eq_true rfl | omega | (dsimp only; omega) | (simp <;> omega)) (by first | exact Nat.le_of_ble_eq_true rfl | omega | (dsimp only; omega) | (simp <;> omega))) rfl rfl pre0 rfl rfl ?_
      | refine hq_ 13 (hop_add rfl rfl) rfl rfl pre0 rfl rfl ?_
      refine hq_ 3 (hop_assign rfl) rfl rfl pre0 rfl rfl ?_
      refine hseq_nil ?_
      exact hL4 (k + 1) _ _ (by (try dsimp only); exact ⟨by omega, by omega, fun i hi => by rcases Nat.lt_or_eq_of_le (Nat.le_of_lt_succ hi) with h | h; exact heq i h; subst h; unfold few25; simpa using hr1⟩) (by (try dsimp only); omega) (hsub_of rfl (Nat.le_refl _) (TmSub.cons rfl (Sb.refl _) (TmSub.cons rfl (Sb.refl _) TmSub.nil)) HpSub.nil)
  · have hr0 := hc0; (try simp only [decide_eq_true_eq, decide_eq_false_iff_not, Bool.and_eq_true, Bool.or_eq_true, Bool.not_eq_true', Bool.or_eq_false_iff, beq_iff_eq, bne_iff_ne, ne_eq, beq_eq_false_iff_ne, bne_eq_false_iff_eq, Bool.not_eq_true, Bool.not_eq_false, Bool.not_eq_false', Int.toNat_natCast, Int.reduceToNat] at hc0)
    refine hw_exit ?_
    refine hq_then_exit ?_
    refine hq_then_exit ?_
    refine hq_block_here ?_
    refine h2 _ ?_
    refine hw_seq (fun Nh10 h10 => ?_)
    refine hw_region ?_
    refine hq_ 20 (hop_move rfl) rfl rfl pre0 rfl rfl ?_
    first
    | refine hq_ 21 (hop_len_sl (T := 73) rfl (elOf_spec el_73).1 rfl) rfl rfl pre0 rfl rfl ?_
    | refine hq_ 21 (hop_len_os (T := 73) rfl (elOf_spec el_73).1 rfl) rfl rfl pre0 rfl rfl ?_
    | refine hq_ 21 (hop_len_nil (T := 73) rfl (elOf_spec el_73).1 rfl) rfl rfl pre0 rfl rfl ?_
    refine hq_ 22 (hop_leq rfl rfl) rfl rfl pre0 rfl rfl ?_
    refine hq_ 2 (hop_assign rfl) rfl rfl pre0 rfl rfl ?_
    refine hseq_nil ?_
    refine h10 _ ?_
    refine hw_ret ?_
    refine hq_ret1 rfl (rval_tmp rfl) [] rfl pre0 ?_
    obtain rfl : decide ((l.length : Int) ≤ 20) = r := (by rw [← hr]; exact few27_end heq (by simp at hr0; omega)); exact .imm _
@[reducible] def runesV (l : List Int) : HV := .sl 1 l.length (fun i _ => .imm (.int .i32 (l.getD i 0)))
theorem text_h (l : List Int) (hl : l.length ≤ 1000000) : HPure Try.prog 37 [runesV l] (toksV (l.map chr)) := by
  refine ⟨⟨_, _, Try.func37, rfl, by kernel_rfl⟩, fun w F vs hF hr hw => ?_⟩
  obtain ⟨v, rfl, hv⟩ := rep1 hr
  obtain ⟨A, c, rfl, hc, hm, hs⟩ := sl_of 1 runeC (fun _ => rfl) (fun x _ => .imm (.int .i32 x)) (fun x j hj => by obtain rfl : j = 0 := (by omega); rfl) 0 l hv
  refine (Text_any A c _ l w hs (Nat.le_refl _) hl).mono fun en w' hg => ?_
  exact gives_pure hF tokF tokF_imm tok_one tok0 hg
def la : St := ⟨1, 5, 5, 0, 0, 0, 0, 0, [chr 97], []⟩
def lb : St := ⟨1, 6, 6, 0, 0, 0, 0, 0, [chr 98], []⟩
def lc : St := ⟨1, 5, 5, 0, 0, 0, 0, 0, [chr 97, chr 98], []⟩
theorem lab : la.two lb = some lc := by decide
theorem live_h : HPure Try.prog 29 [] (boolV true) := by
  refine hpure_of Try.func29 rfl (by kernel_rfl) _ _ _ rfl 42 rfl rfl (fun w F => ?_)
  refine hw_seq (fun Nh1 h1 => ?_)
  refine hw_region ?_
  refine hq_ 0 (hop_assign rfl) rfl rfl pre0 rfl rfl ?_
  refine hseq_nil ?_
  refine h1 _ ?_
  refine hw_seq (fun Nh2 h2 => ?_)
  refine hw_region ?_
  refine hm_1 5 (hop_buildSlice (id := 5) (hs := [_]) ei_104 (by first | exact Nat.le_of_ble_eq_true rfl | omega | (dsimp only; omega) | (simp <;> omega)) rfl (by first | exact Nat.le_of_ble_eq_true rfl | omega | (dsimp only; omega) | (simp <;> omega)) ⟨rfl, rfl, rfl, rfl, trivial⟩) rfl rfl pre0 rfl rfl (c' := 1) rfl ?_
  refine hm_ 6 (hop_call (xs := [_]) [(5, _)] (text_h [97] (by simp)) ⟨rfl, trivial⟩ ⟨fz_row (l := [97]) (enc := fun x _ => .imm (.int .i32 x)) (d := 0) (List.mem_cons_self ..) rfl rfl (Nat.le_refl _) (fun i j hi hj => by match i, hi with | 0, _ => exact .imm _), trivial⟩ rfl) rfl rfl (preC rfl pre0) rfl rfl (c' := 2) rfl ?_
  refine hq_ 7 (hop_build (hs := [(0, 1, _), (1, 1, _), (2, 1, _), (8, 1, _)]) st_77 rfl rfl ⟨rfl, rfl, rfl, rfl, rfl, ⟨rfl, rfl, rfl, rfl, rfl, ⟨rfl, rfl, rfl, rfl, rfl, ⟨rfl, rfl, rfl, rfl, rfl, trivial⟩⟩⟩⟩) rfl rfl pre0 rfl rfl ?_
  refine hm_1 1 (hop_alloc (id := 1) (sz := 10) zc_77 rfl rfl (by first | exact Nat.le_of_ble_eq_true rfl | omega | (dsimp only; omega) | (simp <;> omega)) (by first | exact Nat.le_of_ble_eq_true rfl | omega | (dsimp only; omega) | (simp <;> omega))) rfl rfl pre0 rfl rfl (c' := 3) rfl ?_
  first
  | refine hm_s1 (hol_storeW ty_77 rfl rfl rfl rfl) rfl rfl (pre1 rfl) (c' := 4) rfl ?_
  | refine hm_s1 (hol_store ty_77 rfl rfl rfl rfl (by first | exact Nat.le_of_ble_eq_true rfl | omega | (dsimp only; omega) | (simp <;> omega)) (by first | exact Nat.le_of_ble_eq_true rfl | omega | (dsimp only; omega) | (simp <;> omega)) (by first | exact Nat.le_of_ble_eq_true rfl | omega | (dsimp only; omega) | (simp <;> omega))) rfl rfl (pre1 rfl) (c' := 4) rfl ?_
  refine hseq_nil ?_
  refine h2 _ ?_
  refine hw_seq (fun Nh3 h3 => ?_)
  refine hw_region ?_
  refine hm_1 8 (hop_buildSlice (id := 8) (hs := [_]) ei_104 (by first | exact Nat.le_of_ble_eq_true rfl | omega | (dsimp only; omega) | (simp <;> omega)) rfl (by first | exact Nat.le_of_ble_eq_true rfl | omega | (dsimp only; omega) | (simp <;> omega)) ⟨rfl, rfl, rfl, rfl, trivial⟩) rfl rfl pre0 rfl rfl (c' := 5) rfl ?_
  refine hm_ 9 (hop_call (xs := [_]) [(8, _)] (text_h [98] (by simp)) ⟨rfl, trivial⟩ ⟨fz_row (l := [98]) (enc := fun x _ => .imm (.int .i32 x)) (d := 0) (List.mem_cons_self ..) rfl rfl (Nat.le_refl _) (fun i j hi hj => by match i, hi with | 0, _ => exact .imm _), trivial⟩ rfl) rfl rfl (preC rfl pre0) rfl rfl (c' := 6) rfl ?_
  refine hq_ 10 (hop_build (hs := [(0, 1, _), (1, 1, _), (2, 1, _), (8, 1, _)]) st_77 rfl rfl ⟨rfl, rfl, rfl, rfl, rfl, ⟨rfl, rfl, rfl, rfl, rfl, ⟨rfl, rfl, rfl, rfl, rfl, ⟨rfl, rfl, rfl, rfl, rfl, trivial⟩⟩⟩⟩) rfl rfl pre0 rfl rfl ?_
  refine hm_1 2 (hop_alloc (id := 2) (sz := 10) zc_77 rfl rfl (by first | exact Nat.le_of_ble_eq_true rfl | omega | (dsimp only; omega) | (simp <;> omega)) (by first | exact Nat.le_of_ble_eq_true rfl | omega | (dsimp only; omega) | (simp <;> omega))) rfl rfl pre0 rfl rfl (c' := 7) rfl ?_
  first
  | refine hm_s1 (hol_storeW ty_77 rfl rfl rfl rfl) rfl rfl (pre1 rfl) (c' := 8) rfl ?_
  | refine hm_s1 (hol_store ty_77 rfl rfl rfl rfl (by first | exact Nat.le_of_ble_eq_true rfl | omega | (dsimp only; omega) | (simp <;> omega)) (by first | exact Nat.le_of_ble_eq_true rfl | omega | (dsimp only; omega) | (simp <;> omega)) (by first | exact Nat.le_of_ble_eq_true rfl | omega | (dsimp only; omega) | (simp <;> omega))) rfl rfl (pre1 rfl) (c' := 8) rfl ?_
  refine hseq_nil ?_
  refine h3 _ ?_
  refine hw_seq (fun Nh4 h4 => ?_)
  refine hw_region ?_
  first
  | refine hq_ 12 (hol_load ty_77 rfl (by first | exact Nat.le_of_ble_eq_true rfl | omega | (dsimp only; omega) | (simp <;> omega)) (by first | exact Nat.le_of_ble_eq_true rfl | omega | (dsimp only; omega) | (simp <;> omega)) (fun h => by first | rfl | cases h)) rfl rfl (pre1 rfl) rfl rfl ?_
  | refine hq_ 12 (hop_load_fp ty_77 rfl (by first | exact Nat.le_of_ble_eq_true rfl | omega | (dsimp only; omega) | (simp <;> omega)) (fun h => by first | rfl | cases h)) rfl rfl pre0 rfl rfl ?_
  first
  | refine hq_ 13 (hol_load ty_77 rfl (by first | exact Nat.le_of_ble_eq_true rfl | omega | (dsimp only; omega) | (simp <;> omega)) (by first | exact Nat.le_of_ble_eq_true rfl | omega | (dsimp only; omega) | (simp <;> omega)) (fun h => by first | rfl | cases h)) rfl rfl (pre1 rfl) rfl rfl ?_
  | refine hq_ 13 (hop_load_fp ty_77 rfl (by first | exact Nat.le_of_ble_eq_true rfl | omega | (dsimp only; omega) | (simp <;> omega)) (fun h => by first | rfl | cases h)) rfl rfl pre0 rfl rfl ?_
  refine hq_ 14 (hop_call0 (xs := [_, _]) (two_h' la lb (some lc) lab (by decide) (by decide) (by decide) (by decide)) ⟨rfl, ⟨rfl, trivial⟩⟩ ⟨(fz_agg10 (by first | exact .imm _ | exact .nil _ _ _ (by decide) _ | exact fz_toks _ | exact fz_mkss _ | exact Frz.fz) (by first | exact .imm _ | exact .nil _ _ _ (by decide) _ | exact fz_toks _ | exact fz_mkss _ | exact Frz.fz) (by first | exact .imm _ | exact .nil _ _ _ (by decide) _ | exact fz_toks _ | exact fz_mkss _ | exact Frz.fz) (by first | exact .imm _ | exact .nil _ _ _ (by decide) _ | exact fz_toks _ | exact fz_mkss _ | exact Frz.fz) (by first | exact .imm _ | exact .nil _ _ _ (by decide) _ | exact fz_toks _ | exact fz_mkss _ | exact Frz.fz) (by first | exact .imm _ | exact .nil _ _ _ (by decide) _ | exact fz_toks _ | exact fz_mkss _ | exact Frz.fz) (by first | exact .imm _ | exact .nil _ _ _ (by decide) _ | exact fz_toks _ | exact fz_mkss _ | exact Frz.fz) (by first | exact .imm _ | exact .nil _ _ _ (by decide) _ | exact fz_toks _ | exact fz_mkss _ | exact Frz.fz) (by first | exact .imm _ | exact .nil _ _ _ (by decide) _ | exact fz_toks _ | exact fz_mkss _ | exact Frz.fz) (by first | exact .imm _ | exact .nil _ _ _ (by decide) _ | exact fz_toks _ | exact fz_mkss _ | exact Frz.fz)), ⟨(fz_agg10 (by first | exact .imm _ | exact .nil _ _ _ (by decide) _ | exact fz_toks _ | exact fz_mkss _ | exact Frz.fz) (by first | exact .imm _ | exact .nil _ _ _ (by decide) _ | exact fz_toks _ | exact fz_mkss _ | exact Frz.fz) (by first | exact .imm _ | exact .nil _ _ _ (by decide) _ | exact fz_toks _ | exact fz_mkss _ | exact Frz.fz) (by first | exact .imm _ | exact .nil _ _ _ (by decide) _ | exact fz_toks _ | exact fz_mkss _ | exact Frz.fz) (by first | exact .imm _ | exact .nil _ _ _ (by decide) _ | exact fz_toks _ | exact fz_mkss _ | exact Frz.fz) (by first | exact .imm _ | exact .nil _ _ _ (by decide) _ | exact fz_toks _ | exact fz_mkss _ | exact Frz.fz) (by first | exact .imm _ | exact .nil _ _ _ (by decide) _ | exact fz_toks _ | exact fz_mkss _ | exact Frz.fz) (by first | exact .imm _ | exact .nil _ _ _ (by decide) _ | exact fz_toks _ | exact fz_mkss _ | exact Frz.fz) (by first | exact .imm _ | exact .nil _ _ _ (by decide) _ | exact fz_toks _ | exact fz_mkss _ | exact Frz.fz) (by first | exact .imm _ | exact .nil _ _ _ (by decide) _ | exact fz_toks _ | exact fz_mkss _ | exact Frz.fz)), trivial⟩⟩) rfl rfl pre0 rfl rfl ?_
  refine hq_ 11 (hop_move rfl) rfl rfl pre0 rfl rfl ?_
  refine hq_ 15 (hop_extract rfl rfl) rfl rfl pre0 rfl rfl ?_
  refine hq_ 16 (hop_extract rfl rfl) rfl rfl pre0 rfl rfl ?_
  refine hm_1 3 (hop_alloc (id := 3) (sz := 10) zc_77 rfl rfl (by first | exact Nat.le_of_ble_eq_true rfl | omega | (dsimp only; omega) | (simp <;> omega)) (by first | exact Nat.le_of_ble_eq_true rfl | omega | (dsimp only; omega) | (simp <;> omega))) rfl rfl pre0 rfl rfl (c' := 9) rfl ?_
  first
  | refine hm_s1 (hol_storeW ty_77 rfl rfl rfl rfl) rfl rfl (pre1 rfl) (c' := 10) rfl ?_
  | refine hm_s1 (hol_store ty_77 rfl rfl rfl rfl (by first | exact Nat.le_of_ble_eq_true rfl | omega | (dsimp only; omega) | (simp <;> omega)) (by first | exact Nat.le_of_ble_eq_true rfl | omega | (dsimp only; omega) | (simp <;> omega)) (by first | exact Nat.le_of_ble_eq_true rfl | omega | (dsimp only; omega) | (simp <;> omega))) rfl rfl (pre1 rfl) (c' := 10) rfl ?_
  refine hq_ 4 (hop_assign rfl) rfl rfl pre0 rfl rfl ?_
  refine hseq_nil ?_
  refine h4 _ ?_
  refine hw_seq (fun Nh5 h5 => ?_)
  refine hw_region ?_
  refine hq_ 17 (hop_move rfl) rfl rfl pre0 rfl rfl ?_
  refine hq_ 18 (hop_move rfl) rfl rfl pre0 rfl rfl ?_
  first
  | refine hq_g 19 1 18 true _ (fun hb => hop_fa fd_77_1 rfl) rfl rfl rfl rfl pre0 rfl rfl rfl ?_
  | refine hq_g2 19 1 18 _ _ true _ (fun hb => hop_fa fd_77_1 rfl) rfl rfl rfl rfl pre0 rfl rfl rfl ?_
  | refine hq_g 19 1 18 true _ (fun hb => hop_fa_fp fd_77_1 rfl (by first | exact Nat.le_of_ble_eq_true rfl | (simp at hb; first | omega | (dsimp only; omega) | (simp <;> omega)))) rfl rfl rfl rfl pre0 rfl rfl rfl ?_
  | refine hq_g2 19 1 18 _ _ true _ (fun hb => hop_fa_fp fd_77_1 rfl (by first | exact Nat.le_of_ble_eq_true rfl | (simp at hb; first | omega | (dsimp only; omega) | (simp <;> omega)))) rfl rfl rfl rfl pre0 rfl rfl rfl ?_
  first
  | refine hq_g 20 1 18 true _ (fun hb => hol_load ty_3 rfl (by first | exact Nat.le_of_ble_eq_true rfl | (simp at hb; first | omega | (dsimp only; omega) | (simp <;> omega))) (by first | exact Nat.le_of_ble_eq_true rfl | (simp at hb; first | omega | (dsimp only; omega) | (simp <;> omega))) (fun h => by first | rfl | cases h)) rfl rfl rfl rfl (pre1 rfl) rfl rfl rfl ?_
  | refine hq_g2 20 1 18 _ _ true _ (fun hb => hol_load ty_3 rfl (by first | exact Nat.le_of_ble_eq_true rfl | (simp at hb; first | omega | (dsimp only; omega) | (simp <;> omega))) (by first | exact Nat.le_of_ble_eq_true rfl | (simp at hb; first | omega | (dsimp only; omega) | (simp <;> omega))) (fun h => by first | rfl | cases h)) rfl rfl rfl rfl (pre1 rfl) rfl rfl rfl ?_
  | refine hq_g 20 1 18 true _ (fun hb => hop_load_fp ty_3 rfl (by first | exact Nat.le_of_ble_eq_true rfl | (simp at hb; first | omega | (dsimp only; omega) | (simp <;> omega))) (fun h => by first | rfl | cases h)) rfl rfl rfl rfl pre0 rfl rfl rfl ?_
  | refine hq_g2 20 1 18 _ _ true _ (fun hb => hop_load_fp ty_3 rfl (by first | exact Nat.le_of_ble_eq_true rfl | (simp at hb; first | omega | (dsimp only; omega) | (simp <;> omega))) (fun h => by first | rfl | cases h)) rfl rfl rfl rfl pre0 rfl rfl rfl ?_
  first
  | refine hq_g 21 1 18 true _ (fun hb => hop_eql rfl rfl) rfl rfl rfl rfl pre0 rfl rfl rfl ?_
  | refine hq_g2 21 1 18 _ _ true _ (fun hb => hop_eql rfl rfl) rfl rfl rfl rfl pre0 rfl rfl rfl ?_
  first
  | refine hq_p 22 (hstep_and _ _ rfl rfl rfl) rfl rfl rfl ?_
  | refine hq_p 22 (hstep_or _ _ rfl rfl rfl) rfl rfl rfl ?_
  | refine hq_p 22 (hstep_ite _ _ _ rfl rfl rfl) rfl rfl rfl ?_
  | refine hq_p 22 (hstep_pick _ _ _ _ rfl rfl rfl (fun _ => .refl _) (fun _ => .refl _)) rfl rfl rfl ?_
  refine hq_ 23 (hop_move rfl) rfl rfl pre0 rfl rfl ?_
  first
  | refine hq_g 24 6 23 true _ (fun hb => hop_fa fd_77_2 rfl) rfl rfl rfl rfl pre0 rfl rfl rfl ?_
  | refine hq_g2 24 6 23 _ _ true _ (fun hb => hop_fa fd_77_2 rfl) rfl rfl rfl rfl pre0 rfl rfl rfl ?_
  | refine hq_g 24 6 23 true _ (fun hb => hop_fa_fp fd_77_2 rfl (by first | exact Nat.le_of_ble_eq_true rfl | (simp at hb; first | omega | (dsimp only; omega) | (simp <;> omega)))) rfl rfl rfl rfl pre0 rfl rfl rfl ?_
  | refine hq_g2 24 6 23 _ _ true _ (fun hb => hop_fa_fp fd_77_2 rfl (by first | exact Nat.le_of_ble_eq_true rfl | (simp at hb; first | omega | (dsimp only; omega) | (simp <;> omega)))) rfl rfl rfl rfl pre0 rfl rfl rfl ?_
  first
  | refine hq_g 25 6 23 true _ (fun hb => hol_load ty_3 rfl (by first | exact Nat.le_of_ble_eq_true rfl | (simp at hb; first | omega | (dsimp only; omega) | (simp <;> omega))) (by first | exact Nat.le_of_ble_eq_true rfl | (simp at hb; first | omega | (dsimp only; omega) | (simp <;> omega))) (fun h => by first | rfl | cases h)) rfl rfl rfl rfl (pre1 rfl) rfl rfl rfl ?_
  | refine hq_g2 25 6 23 _ _ true _ (fun hb => hol_load ty_3 rfl (by first | exact Nat.le_of_ble_eq_true rfl | (simp at hb; first | omega | (dsimp only; omega) | (simp <;> omega))) (by first | exact Nat.le_of_ble_eq_true rfl | (simp at hb; first | omega | (dsimp only; omega) | (simp <;> omega))) (fun h => by first | rfl | cases h)) rfl rfl rfl rfl (pre1 rfl) rfl rfl rfl ?_
  | refine hq_g 25 6 23 true _ (fun hb => hop_load_fp ty_3 rfl (by first | exact Nat.le_of_ble_eq_true rfl | (simp at hb; first | omega | (dsimp only; omega) | (simp <;> omega))) (fun h => by first | rfl | cases h)) rfl rfl rfl rfl pre0 rfl rfl rfl ?_
  | refine hq_g2 25 6 23 _ _ true _ (fun hb => hop_load_fp ty_3 rfl (by first | exact Nat.le_of_ble_eq_true rfl | (simp at hb; first | omega | (dsimp only; omega) | (simp <;> omega))) (fun h => by first | rfl | cases h)) rfl rfl rfl rfl pre0 rfl rfl rfl ?_
  first
  | refine hq_g 26 6 23 true _ (fun hb => hop_eql rfl rfl) rfl rfl rfl rfl pre0 rfl rfl rfl ?_
  | refine hq_g2 26 6 23 _ _ true _ (fun hb => hop_eql rfl rfl) rfl rfl rfl rfl pre0 rfl rfl rfl ?_
  first
  | refine hq_p 27 (hstep_and _ _ rfl rfl rfl) rfl rfl rfl ?_
  | refine hq_p 27 (hstep_or _ _ rfl rfl rfl) rfl rfl rfl ?_
  | refine hq_p 27 (hstep_ite _ _ _ rfl rfl rfl) rfl rfl rfl ?_
  | refine hq_p 27 (hstep_pick _ _ _ _ rfl rfl rfl (fun _ => .refl _) (fun _ => .refl _)) rfl rfl rfl ?_
  refine hq_ 28 (hop_move rfl) rfl rfl pre0 rfl rfl ?_
  first
  | refine hq_g 29 11 28 true _ (fun hb => hop_fa fd_77_8 rfl) rfl rfl rfl rfl pre0 rfl rfl rfl ?_
  | refine hq_g2 29 11 28 _ _ true _ (fun hb => hop_fa fd_77_8 rfl) rfl rfl rfl rfl pre0 rfl rfl rfl ?_
  | refine hq_g 29 11 28 true _ (fun hb => hop_fa_fp fd_77_8 rfl (by first | exact Nat.le_of_ble_eq_true rfl | (simp at hb; first | omega | (dsimp only; omega) | (simp <;> omega)))) rfl rfl rfl rfl pre0 rfl rfl rfl ?_
  | refine hq_g2 29 11 28 _ _ true _ (fun hb => hop_fa_fp fd_77_8 rfl (by first | exact Nat.le_of_ble_eq_true rfl | (simp at hb; first | omega | (dsimp only; omega) | (simp <;> omega)))) rfl rfl rfl rfl pre0 rfl rfl rfl ?_
  first
  | refine hq_g 30 11 28 true _ (fun hb => hol_load ty_26 rfl (by first | exact Nat.le_of_ble_eq_true rfl | (simp at hb; first | omega | (dsimp only; omega) | (simp <;> omega))) (by first | exact Nat.le_of_ble_eq_true rfl | (simp at hb; first | omega | (dsimp only; omega) | (simp <;> omega))) (fun h => by first | rfl | cases h)) rfl rfl rfl rfl (pre1 rfl) rfl rfl rfl ?_
  | refine hq_g2 30 11 28 _ _ true _ (fun hb => hol_load ty_26 rfl (by first | exact Nat.le_of_ble_eq_true rfl | (simp at hb; first | omega | (dsimp only; omega) | (simp <;> omega))) (by first | exact Nat.le_of_ble_eq_true rfl | (simp at hb; first | omega | (dsimp only; omega) | (simp <;> omega))) (fun h => by first | rfl | cases h)) rfl rfl rfl rfl (pre1 rfl) rfl rfl rfl ?_
  | refine hq_g 30 11 28 true _ (fun hb => hop_load_fp ty_26 rfl (by first | exact Nat.le_of_ble_eq_true rfl | (simp at hb; first | omega | (dsimp only; omega) | (simp <;> omega))) (fun h => by first | rfl | cases h)) rfl rfl rfl rfl pre0 rfl rfl rfl ?_
  | refine hq_g2 30 11 28 _ _ true _ (fun hb => hop_load_fp ty_26 rfl (by first | exact Nat.le_of_ble_eq_true rfl | (simp at hb; first | omega | (dsimp only; omega) | (simp <;> omega))) (fun h => by first | rfl | cases h)) rfl rfl rfl rfl pre0 rfl rfl rfl ?_
  first
  | refine hq_g 31 11 28 true _ (fun hb => hop_len_sl (T := 26) rfl (elOf_spec el_26).1 rfl) rfl rfl rfl rfl pre0 rfl rfl rfl ?_
  | refine hq_g2 31 11 28 _ _ true _ (fun hb => hop_len_sl (T := 26) rfl (elOf_spec el_26).1 rfl) rfl rfl rfl rfl pre0 rfl rfl rfl ?_
  | refine hq_g 31 11 28 true _ (fun hb => hop_len_os (T := 26) rfl (elOf_spec el_26).1 rfl) rfl rfl rfl rfl pre0 rfl rfl rfl ?_
  | refine hq_g2 31 11 28 _ _ true _ (fun hb => hop_len_os (T := 26) rfl (elOf_spec el_26).1 rfl) rfl rfl rfl rfl pre0 rfl rfl rfl ?_
  | refine hq_g 31 11 28 true _ (fun hb => hop_len_nil (T := 26) rfl (elOf_spec el_26).1 rfl) rfl rfl rfl rfl pre0 rfl rfl rfl ?_
  | refine hq_g2 31 11 28 _ _ true _ (fun hb => hop_len_nil (T := 26) rfl (elOf_spec el_26).1 rfl) rfl rfl rfl rfl pre0 rfl rfl rfl ?_
  first
  | refine hq_g 32 11 28 true _ (fun hb => hop_eql rfl rfl) rfl rfl rfl rfl pre0 rfl rfl rfl ?_
  | refine hq_g2 32 11 28 _ _ true _ (fun hb => hop_eql rfl rfl) rfl rfl rfl rfl pre0 rfl rfl rfl ?_
  first
  | refine hq_p 33 (hstep_and _ _ rfl rfl rfl) rfl rfl rfl ?_
  | refine hq_p 33 (hstep_or _ _ rfl rfl rfl) rfl rfl rfl ?_
  | refine hq_p 33 (hstep_ite _ _ _ rfl rfl rfl) rfl rfl rfl ?_
  | refine hq_p 33 (hstep_pick _ _ _ _ rfl rfl rfl (fun _ => .refl _) (fun _ => .refl _)) rfl rfl rfl ?_
  refine hq_ 34 (hop_move rfl) rfl rfl pre0 rfl rfl ?_
  first
  | refine hq_g 35 17 34 true _ (fun hb => hop_fa fd_77_8 rfl) rfl rfl rfl rfl pre0 rfl rfl rfl ?_
  | refine hq_g2 35 17 34 _ _ true _ (fun hb => hop_fa fd_77_8 rfl) rfl rfl rfl rfl pre0 rfl rfl rfl ?_
  | refine hq_g 35 17 34 true _ (fun hb => hop_fa_fp fd_77_8 rfl (by first | exact Nat.le_of_ble_eq_true rfl | (simp at hb; first | omega | (dsimp only; omega) | (simp <;> omega)))) rfl rfl rfl rfl pre0 rfl rfl rfl ?_
  | refine hq_g2 35 17 34 _ _ true _ (fun hb => hop_fa_fp fd_77_8 rfl (by first | exact Nat.le_of_ble_eq_true rfl | (simp at hb; first | omega | (dsimp only; omega) | (simp <;> omega)))) rfl rfl rfl rfl pre0 rfl rfl rfl ?_
  first
  | refine hq_g 36 17 34 true _ (fun hb => hol_load ty_26 rfl (by first | exact Nat.le_of_ble_eq_true rfl | (simp at hb; first | omega | (dsimp only; omega) | (simp <;> omega))) (by first | exact Nat.le_of_ble_eq_true rfl | (simp at hb; first | omega | (dsimp only; omega) | (simp <;> omega))) (fun h => by first | rfl | cases h)) rfl rfl rfl rfl (pre1 rfl) rfl rfl rfl ?_
  | refine hq_g2 36 17 34 _ _ true _ (fun hb => hol_load ty_26 rfl (by first | exact Nat.le_of_ble_eq_true rfl | (simp at hb; first | omega | (dsimp only; omega) | (simp <;> omega))) (by first | exact Nat.le_of_ble_eq_true rfl | (simp at hb; first | omega | (dsimp only; omega) | (simp <;> omega))) (fun h => by first | rfl | cases h)) rfl rfl rfl rfl (pre1 rfl) rfl rfl rfl ?_
  | refine hq_g 36 17 34 true _ (fun hb => hop_load_fp ty_26 rfl (by first | exact Nat.le_of_ble_eq_true rfl | (simp at hb; first | omega | (dsimp only; omega) | (simp <;> omega))) (fun h => by first | rfl | cases h)) rfl rfl rfl rfl pre0 rfl rfl rfl ?_
  | refine hq_g2 36 17 34 _ _ true _ (fun hb => hop_load_fp ty_26 rfl (by first | exact Nat.le_of_ble_eq_true rfl | (simp at hb; first | omega | (dsimp only; omega) | (simp <;> omega))) (fun h => by first | rfl | cases h)) rfl rfl rfl rfl pre0 rfl rfl rfl ?_
  first
  | refine hq_g 37 17 34 true _ (fun hb => hop_ia_sl el_26 rfl rfl (by first | exact Nat.le_of_ble_eq_true rfl | (simp at hb; first | omega | (dsimp only; omega) | (simp <;> omega))) (by first | exact Nat.le_of_ble_eq_true rfl | (simp at hb; first | omega | (dsimp only; omega) | (simp <;> omega))) (by first | exact Nat.le_of_ble_eq_true rfl | (simp at hb; first | omega | (dsimp only; omega) | (simp <;> omega)))) rfl rfl rfl rfl pre0 rfl rfl rfl ?_
  | refine hq_g2 37 17 34 _ _ true _ (fun hb => hop_ia_sl el_26 rfl rfl (by first | exact Nat.le_of_ble_eq_true rfl | (simp at hb; first | omega | (dsimp only; omega) | (simp <;> omega))) (by first | exact Nat.le_of_ble_eq_true rfl | (simp at hb; first | omega | (dsimp only; omega) | (simp <;> omega))) (by first | exact Nat.le_of_ble_eq_true rfl | (simp at hb; first | omega | (dsimp only; omega) | (simp <;> omega)))) rfl rfl rfl rfl pre0 rfl rfl rfl ?_
  | refine hq_g 37 17 34 true _ (fun hb => hol_ia_os el_26 rfl rfl (by first | exact Nat.le_of_ble_eq_true rfl | (simp at hb; first | omega | (dsimp only; omega) | (simp <;> omega))) (by first | exact Nat.le_of_ble_eq_true rfl | (simp at hb; first | omega | (dsimp only; omega) | (simp <;> omega)))) rfl rfl rfl rfl (pre1 rfl) rfl rfl rfl ?_
  | refine hq_g2 37 17 34 _ _ true _ (fun hb => hol_ia_os el_26 rfl rfl (by first | exact Nat.le_of_ble_eq_true rfl | (simp at hb; first | omega | (dsimp only; omega) | (simp <;> omega))) (by first | exact Nat.le_of_ble_eq_true rfl | (simp at hb; first | omega | (dsimp only; omega) | (simp <;> omega)))) rfl rfl rfl rfl (pre1 rfl) rfl rfl rfl ?_
  first
  | refine hq_g 38 17 34 true _ (fun hb => hop_fa fd_43_3 rfl) rfl rfl rfl rfl pre0 rfl rfl rfl ?_
  | refine hq_g2 38 17 34 _ _ true _ (fun hb => hop_fa fd_43_3 rfl) rfl rfl rfl rfl pre0 rfl rfl rfl ?_
  | refine hq_g 38 17 34 true _ (fun hb => hop_fa_fp fd_43_3 rfl (by first | exact Nat.le_of_ble_eq_true rfl | (simp at hb; first | omega | (dsimp only; omega) | (simp <;> omega)))) rfl rfl rfl rfl pre0 rfl rfl rfl ?_
  | refine hq_g2 38 17 34 _ _ true _ (fun hb => hop_fa_fp fd_43_3 rfl (by first | exact Nat.le_of_ble_eq_true rfl | (simp at hb; first | omega | (dsimp only; omega) | (simp <;> omega)))) rfl rfl rfl rfl pre0 rfl rfl rfl ?_
  first
  | refine hq_g 39 17 34 true _ (fun hb => hol_load ty_21 rfl (by first | exact Nat.le_of_ble_eq_true rfl | (simp at hb; first | omega | (dsimp only; omega) | (simp <;> omega))) (by first | exact Nat.le_of_ble_eq_true rfl | (simp at hb; first | omega | (dsimp only; omega) | (simp <;> omega))) (fun h => by first | rfl | cases h)) rfl rfl rfl rfl (pre1 rfl) rfl rfl rfl ?_
  | refine hq_g2 39 17 34 _ _ true _ (fun hb => hol_load ty_21 rfl (by first | exact Nat.le_of_ble_eq_true rfl | (simp at hb; first | omega | (dsimp only; omega) | (simp <;> omega))) (by first | exact Nat.le_of_ble_eq_true rfl | (simp at hb; first | omega | (dsimp only; omega) | (simp <;> omega))) (fun h => by first | rfl | cases h)) rfl rfl rfl rfl (pre1 rfl) rfl rfl rfl ?_
  | refine hq_g 39 17 34 true _ (fun hb => hop_load_fp ty_21 rfl (by first | exact Nat.le_of_ble_eq_true rfl | (simp at hb; first | omega | (dsimp only; omega) | (simp <;> omega))) (fun h => by first | rfl | cases h)) rfl rfl rfl rfl pre0 rfl rfl rfl ?_
  | refine hq_g2 39 17 34 _ _ true _ (fun hb => hop_load_fp ty_21 rfl (by first | exact Nat.le_of_ble_eq_true rfl | (simp at hb; first | omega | (dsimp only; omega) | (simp <;> omega))) (fun h => by first | rfl | cases h)) rfl rfl rfl rfl pre0 rfl rfl rfl ?_
  first
  | refine hq_g 40 17 34 true _ (fun hb => hop_eql rfl rfl) rfl rfl rfl rfl pre0 rfl rfl rfl ?_
  | refine hq_g2 40 17 34 _ _ true _ (fun hb => hop_eql rfl rfl) rfl rfl rfl rfl pre0 rfl rfl rfl ?_
  first
  | refine hq_p 41 (hstep_and _ _ rfl rfl rfl) rfl rfl rfl ?_
  | refine hq_p 41 (hstep_or _ _ rfl rfl rfl) rfl rfl rfl ?_
  | refine hq_p 41 (hstep_ite _ _ _ rfl rfl rfl) rfl rfl rfl ?_
  | refine hq_p 41 (hstep_pick _ _ _ _ rfl rfl rfl (fun _ => .refl _) (fun _ => .refl _)) rfl rfl rfl ?_
  refine hq_ 0 (hop_assign rfl) rfl rfl pre0 rfl rfl ?_
  refine hseq_nilU (by rfl) (by simp only [dropUn, slots]; exact rfl) ?_
  refine h5 _ ?_
  refine hw_ret ?_
  refine hq_ret1 rfl (rval_tmp rfl) [] rfl pre0 ?_
  exact fz_bool (by rfl)
theorem WeldTwo_h (l : List St) : HPure Try.prog 7 [stsV l] (boolV true) := by
  refine hpure_of Try.func7 rfl (by kernel_rfl) _ _ _ rfl 62 rfl rfl (fun w F => ?_)
  refine hw_seq (fun Nh1 h1 => ?_)
  refine hw_region ?_
  refine hq_ 2 (hop_assign rfl) rfl rfl pre0 rfl rfl ?_
  refine hseq_nil ?_
  refine h1 _ ?_
  refine hw_seq (fun Nh2 h2 => ?_)
  refine hw_seq (fun Nh3 h3 => ?_)
  refine hw_region ?_
  refine hq_ 8 (hop_move rfl) rfl rfl pre0 rfl rfl ?_
  refine hq_ 9 (hop_call0 (xs := [_]) (few27_h l _ rfl) ⟨rfl, trivial⟩ ⟨(Fz.eq rfl), trivial⟩) rfl rfl pre0 rfl rfl ?_
  refine hq_ 10 (hop_not rfl) rfl rfl pre0 rfl rfl ?_
  refine hseq_nil ?_
  refine h3 _ ?_
  refine hw_cond _ rfl (fun hc0 => ?_) (fun hc0 => ?_)
  · have hr0 := hc0; (try simp only [decide_eq_true_eq, decide_eq_false_iff_not, Bool.and_eq_true, Bool.or_eq_true, Bool.not_eq_true', Bool.or_eq_false_iff, beq_iff_eq, bne_iff_ne, ne_eq, beq_eq_false_iff_ne, bne_eq_false_iff_eq, Bool.not_eq_true, Bool.not_eq_false, Bool.not_eq_false', Int.toNat_natCast, Int.reduceToNat] at hc0)
    refine hw_seq (fun Nh4 h4 => ?_)
    refine hw_region ?_
    refine hq_ 11 (hop_call0 (xs := []) (live_h) trivial trivial) rfl rfl pre0 rfl rfl ?_
    refine hq_ 2 (hop_assign rfl) rfl rfl pre0 rfl rfl ?_
    refine hseq_nil ?_
    refine h4 _ ?_
    refine hw_ret ?_
    refine hq_then_ret ?_
    refine hq_ret1 rfl (rval_tmp rfl) [] rfl pre0 ?_
    exact .imm _
  · have hr0 := hc0; (try simp only [decide_eq_true_eq, decide_eq_false_iff_not, Bool.and_eq_true, Bool.or_eq_true, Bool.not_eq_true', Bool.or_eq_false_iff, beq_iff_eq, bne_iff_ne, ne_eq, beq_eq_false_iff_ne, bne_eq_false_iff_eq, Bool.not_eq_true, Bool.not_eq_false, Bool.not_eq_false', Int.toNat_natCast, Int.reduceToNat] at hc0)
    have hfew := few27_yes hc0; obtain ⟨hlen, hall⟩ := hfew; have hf : ∀ s ∈ l, fewS s := (fun s hs => ⟨by have := hall s hs; omega, by have := hall s hs; omega⟩)
    refine hw_skip ?_
    refine h2 _ ?_
    refine hw_seq (fun Nh5 h5 => ?_)
    refine hw_seq (fun Nh6 h6 => ?_)
    refine hw_region ?_
    refine hq_ 3 (hop_assign rfl) rfl rfl pre0 rfl rfl ?_
    refine hseq_nil ?_
    refine h6 _ ?_
    refine hw_block ?_
    refine hw_loopc (α := Nat) (fun x c => ⟨62, [(0, .v (stsV l)), (3, .v (intV x))], [], c⟩) (fun x => x ≤ l.length) (fun x => l.length - x) (0) (by exact Nat.zero_le _) (hsub_of rfl (Nat.le_refl _) (TmSub.cons rfl (Sb.refl _) (TmSub.cons rfl (Sb.refl _) TmSub.nil)) HpSub.nil) (fun k c hx NhL7 hL7 => ?_)
    (try dsimp only at hx hL7 ⊢)
    refine hw_seq (fun Nh8 h8 => ?_)
    refine hw_seq (fun Nh9 h9 => ?_)
    refine hw_region ?_
    refine hq_ 12 (hop_move rfl) rfl rfl pre0 rfl rfl ?_
    first
    | refine hq_ 13 (hop_addi rfl rfl rfl (by first | exact Nat.le_of_ble_eq_true rfl | omega | (dsimp only; omega) | (simp <;> omega)) (by first | exact Nat.le_of_ble_eq_true rfl | omega | (dsimp only; omega) | (simp <;> omega))) rfl rfl pre0 rfl rfl ?_
    | refine hq_ 13 (hop_add rfl rfl) rfl rfl pre0 rfl rfl ?_
    refine hq_ 14 (hop_move rfl) rfl rfl pre0 rfl rfl ?_
    first
    | refine hq_ 15 (hop_len_sl (T := 73) rfl (elOf_spec el_73).1 rfl) rfl rfl pre0 rfl rfl ?_
    | refine hq_ 15 (hop_len_os (T := 73) rfl (elOf_spec el_73).1 rfl) rfl rfl pre0 rfl rfl ?_
    | refine hq_ 15 (hop_len_nil (T := 73) rfl (elOf_spec el_73).1 rfl) rfl rfl pre0 rfl rfl ?_
    refine hq_ 16 (hop_lss rfl rfl) rfl rfl pre0 rfl rfl ?_
    refine hseq_nil ?_
    refine h9 _ ?_
    refine hw_cond _ rfl (fun hc1 => ?_) (fun hc1 => ?_)
    · have hr1 := hc1; (try simp only [decide_eq_true_eq, decide_eq_false_iff_not, Bool.and_eq_true, Bool.or_eq_true, Bool.not_eq_true', Bool.or_eq_false_iff, beq_iff_eq, bne_iff_ne, ne_eq, beq_eq_false_iff_ne, bne_eq_false_iff_eq, Bool.not_eq_true, Bool.not_eq_false, Bool.not_eq_false', Int.toNat_natCast, Int.reduceToNat] at hc1)
      refine hw_skip ?_
      refine h8 _ ?_
      refine hw_seq (fun Nh10 h10 => ?_)
      refine hw_block ?_
      refine hw_seq (fun Nh11 h11 => ?_)
      rcases htw : (l.getD k St.none).two (l.getD (k + 1) St.none) with _ | v
      · skip
        refine hd_start ?_
        refine hd_q 20 (hop_move rfl) rfl rfl pre0 rfl rfl (k' := 1) rfl ?_
        refine hd_q 21 (hop_move rfl) rfl rfl pre0 rfl rfl (k' := 2) rfl ?_
        first
        | refine hd_q 22 (hop_ia_sl el_73 rfl rfl (by first | exact Nat.le_of_ble_eq_true rfl | omega | (dsimp only; omega) | (simp <;> omega)) (by first | exact Nat.le_of_ble_eq_true rfl | omega | (dsimp only; omega) | (simp <;> omega)) (by first | exact Nat.le_of_ble_eq_true rfl | omega | (dsimp only; omega) | (simp <;> omega))) rfl rfl pre0 rfl rfl (k' := 3) rfl ?_
        | refine hd_q 22 (hol_ia_os el_73 rfl rfl (by first | exact Nat.le_of_ble_eq_true rfl | omega | (dsimp only; omega) | (simp <;> omega)) (by first | exact Nat.le_of_ble_eq_true rfl | omega | (dsimp only; omega) | (simp <;> omega))) rfl rfl (pre1 rfl) rfl rfl (k' := 3) rfl ?_
        first
        | refine hd_q 23 (hol_load ty_77 rfl (by first | exact Nat.le_of_ble_eq_true rfl | omega | (dsimp only; omega) | (simp <;> omega)) (by first | exact Nat.le_of_ble_eq_true rfl | omega | (dsimp only; omega) | (simp <;> omega)) (fun h => by first | rfl | cases h)) rfl rfl (pre1 rfl) rfl rfl (k' := 4) rfl ?_
        | refine hd_q 23 (hop_load_fp ty_77 rfl (by first | exact Nat.le_of_ble_eq_true rfl | omega | (dsimp only; omega) | (simp <;> omega)) (fun h => by first | rfl | cases h)) rfl rfl pre0 rfl rfl (k' := 4) rfl ?_
        refine hd_q 24 (hop_move rfl) rfl rfl pre0 rfl rfl (k' := 5) rfl ?_
        refine hd_q 25 (hop_move rfl) rfl rfl pre0 rfl rfl (k' := 6) rfl ?_
        first
        | refine hd_q 26 (hop_addi rfl rfl rfl (by first | exact Nat.le_of_ble_eq_true rfl | omega | (dsimp only; omega) | (simp <;> omega)) (by first | exact Nat.le_of_ble_eq_true rfl | omega | (dsimp only; omega) | (simp <;> omega))) rfl rfl pre0 rfl rfl (k' := 7) rfl ?_
        | refine hd_q 26 (hop_add rfl rfl) rfl rfl pre0 rfl rfl (k' := 7) rfl ?_
        first
        | refine hd_q 27 (hop_ia_sl el_73 rfl rfl (by first | exact Nat.le_of_ble_eq_true rfl | omega | (dsimp only; omega) | (simp <;> omega)) (by first | exact Nat.le_of_ble_eq_true rfl | omega | (dsimp only; omega) | (simp <;> omega)) (by first | exact Nat.le_of_ble_eq_true rfl | omega | (dsimp only; omega) | (simp <;> omega))) rfl rfl pre0 rfl rfl (k' := 8) rfl ?_
        | refine hd_q 27 (hol_ia_os el_73 rfl rfl (by first | exact Nat.le_of_ble_eq_true rfl | omega | (dsimp only; omega) | (simp <;> omega)) (by first | exact Nat.le_of_ble_eq_true rfl | omega | (dsimp only; omega) | (simp <;> omega))) rfl rfl (pre1 rfl) rfl rfl (k' := 8) rfl ?_
        first
        | refine hd_q 28 (hol_load ty_77 rfl (by first | exact Nat.le_of_ble_eq_true rfl | omega | (dsimp only; omega) | (simp <;> omega)) (by first | exact Nat.le_of_ble_eq_true rfl | omega | (dsimp only; omega) | (simp <;> omega)) (fun h => by first | rfl | cases h)) rfl rfl (pre1 rfl) rfl rfl (k' := 9) rfl ?_
        | refine hd_q 28 (hop_load_fp ty_77 rfl (by first | exact Nat.le_of_ble_eq_true rfl | omega | (dsimp only; omega) | (simp <;> omega)) (fun h => by first | rfl | cases h)) rfl rfl pre0 rfl rfl (k' := 9) rfl ?_
        refine hd_q 29 (hop_call0 (xs := [_, _]) (two_h' (l.getD k St.none) (l.getD (k + 1) St.none) _ htw (few_get hf k (by omega)).1 (few_get hf (k + 1) (by omega)).1 (few_get hf k (by omega)).2 (few_get hf (k + 1) (by omega)).2) ⟨rfl, ⟨rfl, trivial⟩⟩ ⟨(Fz.eq rfl), ⟨(Fz.eq rfl), trivial⟩⟩) rfl rfl pre0 rfl rfl (k' := 10) rfl ?_
        refine hd_q 19 (hop_move rfl) rfl rfl pre0 rfl rfl (k' := 11) rfl ?_
        refine hd_q 30 (hop_extract rfl rfl) rfl rfl pre0 rfl rfl (k' := 12) rfl ?_
        refine hd_q 31 (hop_extract rfl rfl) rfl rfl pre0 rfl rfl (k' := 13) rfl ?_
        refine hd_1 4 (hop_alloc (id := 4) (sz := 10) zc_77 rfl rfl (by first | exact Nat.le_of_ble_eq_true rfl | omega | (dsimp only; omega) | (simp <;> omega)) (by first | exact Nat.le_of_ble_eq_true rfl | omega | (dsimp only; omega) | (simp <;> omega))) rfl rfl pre0 rfl rfl (k' := 14) rfl ?_
        first
        | refine hd_s1 (hol_storeW ty_77 rfl rfl rfl rfl) rfl rfl (pre1 rfl) (k' := 15) rfl ?_
        | refine hd_s1 (hol_store ty_77 rfl rfl rfl rfl (by first | exact Nat.le_of_ble_eq_true rfl | omega | (dsimp only; omega) | (simp <;> omega)) (by first | exact Nat.le_of_ble_eq_true rfl | omega | (dsimp only; omega) | (simp <;> omega)) (by first | exact Nat.le_of_ble_eq_true rfl | omega | (dsimp only; omega) | (simp <;> omega))) rfl rfl (pre1 rfl) (k' := 15) rfl ?_
        refine hd_q 5 (hop_assign rfl) rfl rfl pre0 rfl rfl (k' := 16) rfl ?_
        refine hd_nil (by kernel_rfl) (by kernel_rfl) (c' := c + 16) rfl ?_
        refine h11 _ ?_
        refine hw_seq (fun Nh12 h12 => ?_)
        refine hd_start ?_
        refine hd_q 33 (hop_move rfl) rfl rfl pre0 rfl rfl (k' := 1) rfl ?_
        refine hd_q 34 (hop_move rfl) rfl rfl pre0 rfl rfl (k' := 2) rfl ?_
        first
        | refine hd_q 35 (hop_ia_sl el_73 rfl rfl (by first | exact Nat.le_of_ble_eq_true rfl | omega | (dsimp only; omega) | (simp <;> omega)) (by first | exact Nat.le_of_ble_eq_true rfl | omega | (dsimp only; omega) | (simp <;> omega)) (by first | exact Nat.le_of_ble_eq_true rfl | omega | (dsimp only; omega) | (simp <;> omega))) rfl rfl pre0 rfl rfl (k' := 3) rfl ?_
        | refine hd_q 35 (hol_ia_os el_73 rfl rfl (by first | exact Nat.le_of_ble_eq_true rfl | omega | (dsimp only; omega) | (simp <;> omega)) (by first | exact Nat.le_of_ble_eq_true rfl | omega | (dsimp only; omega) | (simp <;> omega))) rfl rfl (pre1 rfl) rfl rfl (k' := 3) rfl ?_
        first
        | refine hd_q 36 (hol_load ty_77 rfl (by first | exact Nat.le_of_ble_eq_true rfl | omega | (dsimp only; omega) | (simp <;> omega)) (by first | exact Nat.le_of_ble_eq_true rfl | omega | (dsimp only; omega) | (simp <;> omega)) (fun h => by first | rfl | cases h)) rfl rfl (pre1 rfl) rfl rfl (k' := 4) rfl ?_
        | refine hd_q 36 (hop_load_fp ty_77 rfl (by first | exact Nat.le_of_ble_eq_true rfl | omega | (dsimp only; omega) | (simp <;> omega)) (fun h => by first | rfl | cases h)) rfl rfl pre0 rfl rfl (k' := 4) rfl ?_
        refine hd_q 37 (hop_move rfl) rfl rfl pre0 rfl rfl (k' := 5) rfl ?_
        refine hd_q 38 (hop_move rfl) rfl rfl pre0 rfl rfl (k' := 6) rfl ?_
        first
        | refine hd_q 39 (hop_addi rfl rfl rfl (by first | exact Nat.le_of_ble_eq_true rfl | omega | (dsimp only; omega) | (simp <;> omega)) (by first | exact Nat.le_of_ble_eq_true rfl | omega | (dsimp only; omega) | (simp <;> omega))) rfl rfl pre0 rfl rfl (k' := 7) rfl ?_
        | refine hd_q 39 (hop_add rfl rfl) rfl rfl pre0 rfl rfl (k' := 7) rfl ?_
        first
        | refine hd_q 40 (hop_ia_sl el_73 rfl rfl (by first | exact Nat.le_of_ble_eq_true rfl | omega | (dsimp only; omega) | (simp <;> omega)) (by first | exact Nat.le_of_ble_eq_true rfl | omega | (dsimp only; omega) | (simp <;> omega)) (by first | exact Nat.le_of_ble_eq_true rfl | omega | (dsimp only; omega) | (simp <;> omega))) rfl rfl pre0 rfl rfl (k' := 8) rfl ?_
        | refine hd_q 40 (hol_ia_os el_73 rfl rfl (by first | exact Nat.le_of_ble_eq_true rfl | omega | (dsimp only; omega) | (simp <;> omega)) (by first | exact Nat.le_of_ble_eq_true rfl | omega | (dsimp only; omega) | (simp <;> omega))) rfl rfl (pre1 rfl) rfl rfl (k' := 8) rfl ?_
        first
        | refine hd_q 41 (hol_load ty_77 rfl (by first | exact Nat.le_of_ble_eq_true rfl | omega | (dsimp only; omega) | (simp <;> omega)) (by first | exact Nat.le_of_ble_eq_true rfl | omega | (dsimp only; omega) | (simp <;> omega)) (fun h => by first | rfl | cases h)) rfl rfl (pre1 rfl) rfl rfl (k' := 9) rfl ?_
        | refine hd_q 41 (hop_load_fp ty_77 rfl (by first | exact Nat.le_of_ble_eq_true rfl | omega | (dsimp only; omega) | (simp <;> omega)) (fun h => by first | rfl | cases h)) rfl rfl pre0 rfl rfl (k' := 9) rfl ?_
        refine hd_q 42 (hop_call0 (xs := [_, _]) (Two27_h' (l.getD k St.none) (l.getD (k + 1) St.none) _ htw (few_get hf k (by omega)) (few_get hf (k + 1) (by omega))) ⟨rfl, ⟨rfl, trivial⟩⟩ ⟨(Fz.eq rfl), ⟨(Fz.eq rfl), trivial⟩⟩) rfl rfl pre0 rfl rfl (k' := 10) rfl ?_
        refine hd_q 32 (hop_move rfl) rfl rfl pre0 rfl rfl (k' := 11) rfl ?_
        refine hd_q 43 (hop_extract rfl rfl) rfl rfl pre0 rfl rfl (k' := 12) rfl ?_
        refine hd_q 44 (hop_extract rfl rfl) rfl rfl pre0 rfl rfl (k' := 13) rfl ?_
        refine hd_1 6 (hop_alloc (id := 6) (sz := 10) zc_77 rfl rfl (by first | exact Nat.le_of_ble_eq_true rfl | omega | (dsimp only; omega) | (simp <;> omega)) (by first | exact Nat.le_of_ble_eq_true rfl | omega | (dsimp only; omega) | (simp <;> omega))) rfl rfl pre0 rfl rfl (k' := 14) rfl ?_
        first
        | refine hd_s1 (hol_storeW ty_77 rfl rfl rfl rfl) rfl rfl (pre1 rfl) (k' := 15) rfl ?_
        | refine hd_s1 (hol_store ty_77 rfl rfl rfl rfl (by first | exact Nat.le_of_ble_eq_true rfl | omega | (dsimp only; omega) | (simp <;> omega)) (by first | exact Nat.le_of_ble_eq_true rfl | omega | (dsimp only; omega) | (simp <;> omega)) (by first | exact Nat.le_of_ble_eq_true rfl | omega | (dsimp only; omega) | (simp <;> omega))) rfl rfl (pre1 rfl) (k' := 15) rfl ?_
        refine hd_q 7 (hop_assign rfl) rfl rfl pre0 rfl rfl (k' := 16) rfl ?_
        refine hd_nil (by kernel_rfl) (by kernel_rfl) (c' := c + 32) rfl ?_
        refine h12 _ ?_
        refine hw_seq (fun Nh13 h13 => ?_)
        refine hw_region ?_
        refine hq_ 45 (hop_move rfl) rfl rfl pre0 rfl rfl ?_
        refine hq_ 46 (hop_move rfl) rfl rfl pre0 rfl rfl ?_
        refine hq_ 47 (hop_bne (fun w => by kernel_rfl) rfl rfl) rfl rfl pre0 rfl rfl ?_
        refine hq_ 48 (hop_move rfl) rfl rfl pre0 rfl rfl ?_
        first
        | refine hq_g 49 3 48 false _ (fun hb => hol_load ty_77 rfl (by first | exact Nat.le_of_ble_eq_true rfl | (simp at hb; first | omega | (dsimp only; omega) | (simp <;> omega))) (by first | exact Nat.le_of_ble_eq_true rfl | (simp at hb; first | omega | (dsimp only; omega) | (simp <;> omega))) (fun h => by first | rfl | cases h)) rfl rfl rfl rfl (pre1 rfl) rfl rfl rfl ?_
        | refine hq_g2 49 3 48 _ _ false _ (fun hb => hol_load ty_77 rfl (by first | exact Nat.le_of_ble_eq_true rfl | (simp at hb; first | omega | (dsimp only; omega) | (simp <;> omega))) (by first | exact Nat.le_of_ble_eq_true rfl | (simp at hb; first | omega | (dsimp only; omega) | (simp <;> omega))) (fun h => by first | rfl | cases h)) rfl rfl rfl rfl (pre1 rfl) rfl rfl rfl ?_
        | refine hq_g 49 3 48 false _ (fun hb => hop_load_fp ty_77 rfl (by first | exact Nat.le_of_ble_eq_true rfl | (simp at hb; first | omega | (dsimp only; omega) | (simp <;> omega))) (fun h => by first | rfl | cases h)) rfl rfl rfl rfl pre0 rfl rfl rfl ?_
        | refine hq_g2 49 3 48 _ _ false _ (fun hb => hop_load_fp ty_77 rfl (by first | exact Nat.le_of_ble_eq_true rfl | (simp at hb; first | omega | (dsimp only; omega) | (simp <;> omega))) (fun h => by first | rfl | cases h)) rfl rfl rfl rfl pre0 rfl rfl rfl ?_
        first
        | refine hq_g 50 3 48 false _ (fun hb => hol_load ty_77 rfl (by first | exact Nat.le_of_ble_eq_true rfl | (simp at hb; first | omega | (dsimp only; omega) | (simp <;> omega))) (by first | exact Nat.le_of_ble_eq_true rfl | (simp at hb; first | omega | (dsimp only; omega) | (simp <;> omega))) (fun h => by first | rfl | cases h)) rfl rfl rfl rfl (pre1 rfl) rfl rfl rfl ?_
        | refine hq_g2 50 3 48 _ _ false _ (fun hb => hol_load ty_77 rfl (by first | exact Nat.le_of_ble_eq_true rfl | (simp at hb; first | omega | (dsimp only; omega) | (simp <;> omega))) (by first | exact Nat.le_of_ble_eq_true rfl | (simp at hb; first | omega | (dsimp only; omega) | (simp <;> omega))) (fun h => by first | rfl | cases h)) rfl rfl rfl rfl (pre1 rfl) rfl rfl rfl ?_
        | refine hq_g 50 3 48 false _ (fun hb => hop_load_fp ty_77 rfl (by first | exact Nat.le_of_ble_eq_true rfl | (simp at hb; first | omega | (dsimp only; omega) | (simp <;> omega))) (fun h => by first | rfl | cases h)) rfl rfl rfl rfl pre0 rfl rfl rfl ?_
        | refine hq_g2 50 3 48 _ _ false _ (fun hb => hop_load_fp ty_77 rfl (by first | exact Nat.le_of_ble_eq_true rfl | (simp at hb; first | omega | (dsimp only; omega) | (simp <;> omega))) (fun h => by first | rfl | cases h)) rfl rfl rfl rfl pre0 rfl rfl rfl ?_
        first
        | refine hq_g 51 3 48 false _ (fun hb => hop_call0 (xs := [_, _]) (same25_h St.none St.none ⟨by decide, by decide⟩ ⟨by decide, by decide⟩) ⟨rfl, ⟨rfl, trivial⟩⟩ ⟨(Fz.eq rfl), ⟨(Fz.eq rfl), trivial⟩⟩) rfl rfl rfl rfl pre0 rfl rfl rfl ?_
        | refine hq_g2 51 3 48 _ _ false _ (fun hb => hop_call0 (xs := [_, _]) (same25_h St.none St.none ⟨by decide, by decide⟩ ⟨by decide, by decide⟩) ⟨rfl, ⟨rfl, trivial⟩⟩ ⟨(Fz.eq rfl), ⟨(Fz.eq rfl), trivial⟩⟩) rfl rfl rfl rfl pre0 rfl rfl rfl ?_
        first
        | refine hq_g 52 3 48 false _ (fun hb => hop_not rfl) rfl rfl rfl rfl pre0 rfl rfl rfl ?_
        | refine hq_g2 52 3 48 _ _ false _ (fun hb => hop_not rfl) rfl rfl rfl rfl pre0 rfl rfl rfl ?_
        first
        | refine hq_p 53 (hstep_and _ _ rfl rfl rfl) rfl rfl rfl ?_
        | refine hq_p 53 (hstep_or _ _ rfl rfl rfl) rfl rfl rfl ?_
        | refine hq_p 53 (hstep_ite _ _ _ rfl rfl rfl) rfl rfl rfl ?_
        | refine hq_p 53 (hstep_pick _ _ _ _ rfl rfl rfl (fun _ => .refl _) (fun _ => .refl _)) rfl rfl rfl ?_
        refine hseq_nilU (by rfl) (by simp only [dropUn, slots]; exact rfl) ?_
        refine h13 _ ?_
        refine hw_cond _ rfl (fun hc2 => ?_) (fun hc2 => ?_)
        · have hr2 := hc2; (try simp only [decide_eq_true_eq, decide_eq_false_iff_not, Bool.and_eq_true, Bool.or_eq_true, Bool.not_eq_true', Bool.or_eq_false_iff, beq_iff_eq, bne_iff_ne, ne_eq, beq_eq_false_iff_ne, bne_eq_false_iff_eq, Bool.not_eq_true, Bool.not_eq_false, Bool.not_eq_false', Int.toNat_natCast, Int.reduceToNat] at hc2)
          exfalso; simp at hr2
        · have hr2 := hc2; (try simp only [decide_eq_true_eq, decide_eq_false_iff_not, Bool.and_eq_true, Bool.or_eq_true, Bool.not_eq_true', Bool.or_eq_false_iff, beq_iff_eq, bne_iff_ne, ne_eq, beq_eq_false_iff_ne, bne_eq_false_iff_eq, Bool.not_eq_true, Bool.not_eq_false, Bool.not_eq_false', Int.toNat_natCast, Int.reduceToNat] at hc2)
          refine hw_skip ?_
          refine hq_block ?_
          refine h10 _ ?_
          refine hw_region ?_
          refine hq_ 17 (hop_move rfl) rfl rfl pre0 rfl rfl ?_
          first
          | refine hq_ 18 (hop_addi rfl rfl rfl (by first | exact Nat.le_of_ble_eq_true rfl | omega | (dsimp only; omega) | (simp <;> omega)) (by first | exact Nat.le_of_ble_eq_true rfl | omega | (dsimp only; omega) | (simp <;> omega))) rfl rfl pre0 rfl rfl ?_
          | refine hq_ 18 (hop_add rfl rfl) rfl rfl pre0 rfl rfl ?_
          refine hq_ 3 (hop_assign rfl) rfl rfl pre0 rfl rfl ?_
          refine hseq_nil ?_
          exact hL7 (k + 1) _ _ (by (try dsimp only); omega) (by (try dsimp only); omega) (hsub_of rfl (Nat.le_refl _) (TmSub.cons rfl (Sb.refl _) (TmSub.cons rfl (Sb.refl _) TmSub.nil)) HpSub.nil)
      · skip
        refine hd_start ?_
        refine hd_q 20 (hop_move rfl) rfl rfl pre0 rfl rfl (k' := 1) rfl ?_
        refine hd_q 21 (hop_move rfl) rfl rfl pre0 rfl rfl (k' := 2) rfl ?_
        first
        | refine hd_q 22 (hop_ia_sl el_73 rfl rfl (by first | exact Nat.le_of_ble_eq_true rfl | omega | (dsimp only; omega) | (simp <;> omega)) (by first | exact Nat.le_of_ble_eq_true rfl | omega | (dsimp only; omega) | (simp <;> omega)) (by first | exact Nat.le_of_ble_eq_true rfl | omega | (dsimp only; omega) | (simp <;> omega))) rfl rfl pre0 rfl rfl (k' := 3) rfl ?_
        | refine hd_q 22 (hol_ia_os el_73 rfl rfl (by first | exact Nat.le_of_ble_eq_true rfl | omega | (dsimp only; omega) | (simp <;> omega)) (by first | exact Nat.le_of_ble_eq_true rfl | omega | (dsimp only; omega) | (simp <;> omega))) rfl rfl (pre1 rfl) rfl rfl (k' := 3) rfl ?_
        first
        | refine hd_q 23 (hol_load ty_77 rfl (by first | exact Nat.le_of_ble_eq_true rfl | omega | (dsimp only; omega) | (simp <;> omega)) (by first | exact Nat.le_of_ble_eq_true rfl | omega | (dsimp only; omega) | (simp <;> omega)) (fun h => by first | rfl | cases h)) rfl rfl (pre1 rfl) rfl rfl (k' := 4) rfl ?_
        | refine hd_q 23 (hop_load_fp ty_77 rfl (by first | exact Nat.le_of_ble_eq_true rfl | omega | (dsimp only; omega) | (simp <;> omega)) (fun h => by first | rfl | cases h)) rfl rfl pre0 rfl rfl (k' := 4) rfl ?_
        refine hd_q 24 (hop_move rfl) rfl rfl pre0 rfl rfl (k' := 5) rfl ?_
        refine hd_q 25 (hop_move rfl) rfl rfl pre0 rfl rfl (k' := 6) rfl ?_
        first
        | refine hd_q 26 (hop_addi rfl rfl rfl (by first | exact Nat.le_of_ble_eq_true rfl | omega | (dsimp only; omega) | (simp <;> omega)) (by first | exact Nat.le_of_ble_eq_true rfl | omega | (dsimp only; omega) | (simp <;> omega))) rfl rfl pre0 rfl rfl (k' := 7) rfl ?_
        | refine hd_q 26 (hop_add rfl rfl) rfl rfl pre0 rfl rfl (k' := 7) rfl ?_
        first
        | refine hd_q 27 (hop_ia_sl el_73 rfl rfl (by first | exact Nat.le_of_ble_eq_true rfl | omega | (dsimp only; omega) | (simp <;> omega)) (by first | exact Nat.le_of_ble_eq_true rfl | omega | (dsimp only; omega) | (simp <;> omega)) (by first | exact Nat.le_of_ble_eq_true rfl | omega | (dsimp only; omega) | (simp <;> omega))) rfl rfl pre0 rfl rfl (k' := 8) rfl ?_
        | refine hd_q 27 (hol_ia_os el_73 rfl rfl (by first | exact Nat.le_of_ble_eq_true rfl | omega | (dsimp only; omega) | (simp <;> omega)) (by first | exact Nat.le_of_ble_eq_true rfl | omega | (dsimp only; omega) | (simp <;> omega))) rfl rfl (pre1 rfl) rfl rfl (k' := 8) rfl ?_
        first
        | refine hd_q 28 (hol_load ty_77 rfl (by first | exact Nat.le_of_ble_eq_true rfl | omega | (dsimp only; omega) | (simp <;> omega)) (by first | exact Nat.le_of_ble_eq_true rfl | omega | (dsimp only; omega) | (simp <;> omega)) (fun h => by first | rfl | cases h)) rfl rfl (pre1 rfl) rfl rfl (k' := 9) rfl ?_
        | refine hd_q 28 (hop_load_fp ty_77 rfl (by first | exact Nat.le_of_ble_eq_true rfl | omega | (dsimp only; omega) | (simp <;> omega)) (fun h => by first | rfl | cases h)) rfl rfl pre0 rfl rfl (k' := 9) rfl ?_
        refine hd_q 29 (hop_call0 (xs := [_, _]) (two_h' (l.getD k St.none) (l.getD (k + 1) St.none) _ htw (few_get hf k (by omega)).1 (few_get hf (k + 1) (by omega)).1 (few_get hf k (by omega)).2 (few_get hf (k + 1) (by omega)).2) ⟨rfl, ⟨rfl, trivial⟩⟩ ⟨(Fz.eq rfl), ⟨(Fz.eq rfl), trivial⟩⟩) rfl rfl pre0 rfl rfl (k' := 10) rfl ?_
        refine hd_q 19 (hop_move rfl) rfl rfl pre0 rfl rfl (k' := 11) rfl ?_
        refine hd_q 30 (hop_extract rfl rfl) rfl rfl pre0 rfl rfl (k' := 12) rfl ?_
        refine hd_q 31 (hop_extract rfl rfl) rfl rfl pre0 rfl rfl (k' := 13) rfl ?_
        refine hd_1 4 (hop_alloc (id := 4) (sz := 10) zc_77 rfl rfl (by first | exact Nat.le_of_ble_eq_true rfl | omega | (dsimp only; omega) | (simp <;> omega)) (by first | exact Nat.le_of_ble_eq_true rfl | omega | (dsimp only; omega) | (simp <;> omega))) rfl rfl pre0 rfl rfl (k' := 14) rfl ?_
        first
        | refine hd_s1 (hol_storeW ty_77 rfl rfl rfl rfl) rfl rfl (pre1 rfl) (k' := 15) rfl ?_
        | refine hd_s1 (hol_store ty_77 rfl rfl rfl rfl (by first | exact Nat.le_of_ble_eq_true rfl | omega | (dsimp only; omega) | (simp <;> omega)) (by first | exact Nat.le_of_ble_eq_true rfl | omega | (dsimp only; omega) | (simp <;> omega)) (by first | exact Nat.le_of_ble_eq_true rfl | omega | (dsimp only; omega) | (simp <;> omega))) rfl rfl (pre1 rfl) (k' := 15) rfl ?_
        refine hd_q 5 (hop_assign rfl) rfl rfl pre0 rfl rfl (k' := 16) rfl ?_
        refine hd_nil (by kernel_rfl) (by kernel_rfl) (c' := c + 16) rfl ?_
        refine h11 _ ?_
        refine hw_seq (fun Nh14 h14 => ?_)
        refine hd_start ?_
        refine hd_q 33 (hop_move rfl) rfl rfl pre0 rfl rfl (k' := 1) rfl ?_
        refine hd_q 34 (hop_move rfl) rfl rfl pre0 rfl rfl (k' := 2) rfl ?_
        first
        | refine hd_q 35 (hop_ia_sl el_73 rfl rfl (by first | exact Nat.le_of_ble_eq_true rfl | omega | (dsimp only; omega) | (simp <;> omega)) (by first | exact Nat.le_of_ble_eq_true rfl | omega | (dsimp only; omega) | (simp <;> omega)) (by first | exact Nat.le_of_ble_eq_true rfl | omega | (dsimp only; omega) | (simp <;> omega))) rfl rfl pre0 rfl rfl (k' := 3) rfl ?_
        | refine hd_q 35 (hol_ia_os el_73 rfl rfl (by first | exact Nat.le_of_ble_eq_true rfl | omega | (dsimp only; omega) | (simp <;> omega)) (by first | exact Nat.le_of_ble_eq_true rfl | omega | (dsimp only; omega) | (simp <;> omega))) rfl rfl (pre1 rfl) rfl rfl (k' := 3) rfl ?_
        first
        | refine hd_q 36 (hol_load ty_77 rfl (by first | exact Nat.le_of_ble_eq_true rfl | omega | (dsimp only; omega) | (simp <;> omega)) (by first | exact Nat.le_of_ble_eq_true rfl | omega | (dsimp only; omega) | (simp <;> omega)) (fun h => by first | rfl | cases h)) rfl rfl (pre1 rfl) rfl rfl (k' := 4) rfl ?_
        | refine hd_q 36 (hop_load_fp ty_77 rfl (by first | exact Nat.le_of_ble_eq_true rfl | omega | (dsimp only; omega) | (simp <;> omega)) (fun h => by first | rfl | cases h)) rfl rfl pre0 rfl rfl (k' := 4) rfl ?_
        refine hd_q 37 (hop_move rfl) rfl rfl pre0 rfl rfl (k' := 5) rfl ?_
        refine hd_q 38 (hop_move rfl) rfl rfl pre0 rfl rfl (k' := 6) rfl ?_
        first
        | refine hd_q 39 (hop_addi rfl rfl rfl (by first | exact Nat.le_of_ble_eq_true rfl | omega | (dsimp only; omega) | (simp <;> omega)) (by first | exact Nat.le_of_ble_eq_true rfl | omega | (dsimp only; omega) | (simp <;> omega))) rfl rfl pre0 rfl rfl (k' := 7) rfl ?_
        | refine hd_q 39 (hop_add rfl rfl) rfl rfl pre0 rfl rfl (k' := 7) rfl ?_
        first
        | refine hd_q 40 (hop_ia_sl el_73 rfl rfl (by first | exact Nat.le_of_ble_eq_true rfl | omega | (dsimp only; omega) | (simp <;> omega)) (by first | exact Nat.le_of_ble_eq_true rfl | omega | (dsimp only; omega) | (simp <;> omega)) (by first | exact Nat.le_of_ble_eq_true rfl | omega | (dsimp only; omega) | (simp <;> omega))) rfl rfl pre0 rfl rfl (k' := 8) rfl ?_
        | refine hd_q 40 (hol_ia_os el_73 rfl rfl (by first | exact Nat.le_of_ble_eq_true rfl | omega | (dsimp only; omega) | (simp <;> omega)) (by first | exact Nat.le_of_ble_eq_true rfl | omega | (dsimp only; omega) | (simp <;> omega))) rfl rfl (pre1 rfl) rfl rfl (k' := 8) rfl ?_
        first
        | refine hd_q 41 (hol_load ty_77 rfl (by first | exact Nat.le_of_ble_eq_true rfl | omega | (dsimp only; omega) | (simp <;> omega)) (by first | exact Nat.le_of_ble_eq_true rfl | omega | (dsimp only; omega) | (simp <;> omega)) (fun h => by first | rfl | cases h)) rfl rfl (pre1 rfl) rfl rfl (k' := 9) rfl ?_
        | refine hd_q 41 (hop_load_fp ty_77 rfl (by first | exact Nat.le_of_ble_eq_true rfl | omega | (dsimp only; omega) | (simp <;> omega)) (fun h => by first | rfl | cases h)) rfl rfl pre0 rfl rfl (k' := 9) rfl ?_
        refine hd_q 42 (hop_call0 (xs := [_, _]) (Two27_h' (l.getD k St.none) (l.getD (k + 1) St.none) _ htw (few_get hf k (by omega)) (few_get hf (k + 1) (by omega))) ⟨rfl, ⟨rfl, trivial⟩⟩ ⟨(Fz.eq rfl), ⟨(Fz.eq rfl), trivial⟩⟩) rfl rfl pre0 rfl rfl (k' := 10) rfl ?_
        refine hd_q 32 (hop_move rfl) rfl rfl pre0 rfl rfl (k' := 11) rfl ?_
        refine hd_q 43 (hop_extract rfl rfl) rfl rfl pre0 rfl rfl (k' := 12) rfl ?_
        refine hd_q 44 (hop_extract rfl rfl) rfl rfl pre0 rfl rfl (k' := 13) rfl ?_
        refine hd_1 6 (hop_alloc (id := 6) (sz := 10) zc_77 rfl rfl (by first | exact Nat.le_of_ble_eq_true rfl | omega | (dsimp only; omega) | (simp <;> omega)) (by first | exact Nat.le_of_ble_eq_true rfl | omega | (dsimp only; omega) | (simp <;> omega))) rfl rfl pre0 rfl rfl (k' := 14) rfl ?_
        first
        | refine hd_s1 (hol_storeW ty_77 rfl rfl rfl rfl) rfl rfl (pre1 rfl) (k' := 15) rfl ?_
        | refine hd_s1 (hol_store ty_77 rfl rfl rfl rfl (by first | exact Nat.le_of_ble_eq_true rfl | omega | (dsimp only; omega) | (simp <;> omega)) (by first | exact Nat.le_of_ble_eq_true rfl | omega | (dsimp only; omega) | (simp <;> omega)) (by first | exact Nat.le_of_ble_eq_true rfl | omega | (dsimp only; omega) | (simp <;> omega))) rfl rfl (pre1 rfl) (k' := 15) rfl ?_
        refine hd_q 7 (hop_assign rfl) rfl rfl pre0 rfl rfl (k' := 16) rfl ?_
        refine hd_nil (by kernel_rfl) (by kernel_rfl) (c' := c + 32) rfl ?_
        refine h14 _ ?_
        refine hw_seq (fun Nh15 h15 => ?_)
        refine hw_region ?_
        refine hq_ 45 (hop_move rfl) rfl rfl pre0 rfl rfl ?_
        refine hq_ 46 (hop_move rfl) rfl rfl pre0 rfl rfl ?_
        refine hq_ 47 (hop_bne (fun w => by kernel_rfl) rfl rfl) rfl rfl pre0 rfl rfl ?_
        refine hq_ 48 (hop_move rfl) rfl rfl pre0 rfl rfl ?_
        first
        | refine hq_g 49 3 48 false _ (fun hb => hol_load ty_77 rfl (by first | exact Nat.le_of_ble_eq_true rfl | (simp at hb; first | omega | (dsimp only; omega) | (simp <;> omega))) (by first | exact Nat.le_of_ble_eq_true rfl | (simp at hb; first | omega | (dsimp only; omega) | (simp <;> omega))) (fun h => by first | rfl | cases h)) rfl rfl rfl rfl (pre1 rfl) rfl rfl rfl ?_
        | refine hq_g2 49 3 48 _ _ false _ (fun hb => hol_load ty_77 rfl (by first | exact Nat.le_of_ble_eq_true rfl | (simp at hb; first | omega | (dsimp only; omega) | (simp <;> omega))) (by first | exact Nat.le_of_ble_eq_true rfl | (simp at hb; first | omega | (dsimp only; omega) | (simp <;> omega))) (fun h => by first | rfl | cases h)) rfl rfl rfl rfl (pre1 rfl) rfl rfl rfl ?_
        | refine hq_g 49 3 48 false _ (fun hb => hop_load_fp ty_77 rfl (by first | exact Nat.le_of_ble_eq_true rfl | (simp at hb; first | omega | (dsimp only; omega) | (simp <;> omega))) (fun h => by first | rfl | cases h)) rfl rfl rfl rfl pre0 rfl rfl rfl ?_
        | refine hq_g2 49 3 48 _ _ false _ (fun hb => hop_load_fp ty_77 rfl (by first | exact Nat.le_of_ble_eq_true rfl | (simp at hb; first | omega | (dsimp only; omega) | (simp <;> omega))) (fun h => by first | rfl | cases h)) rfl rfl rfl rfl pre0 rfl rfl rfl ?_
        first
        | refine hq_g 50 3 48 false _ (fun hb => hol_load ty_77 rfl (by first | exact Nat.le_of_ble_eq_true rfl | (simp at hb; first | omega | (dsimp only; omega) | (simp <;> omega))) (by first | exact Nat.le_of_ble_eq_true rfl | (simp at hb; first | omega | (dsimp only; omega) | (simp <;> omega))) (fun h => by first | rfl | cases h)) rfl rfl rfl rfl (pre1 rfl) rfl rfl rfl ?_
        | refine hq_g2 50 3 48 _ _ false _ (fun hb => hol_load ty_77 rfl (by first | exact Nat.le_of_ble_eq_true rfl | (simp at hb; first | omega | (dsimp only; omega) | (simp <;> omega))) (by first | exact Nat.le_of_ble_eq_true rfl | (simp at hb; first | omega | (dsimp only; omega) | (simp <;> omega))) (fun h => by first | rfl | cases h)) rfl rfl rfl rfl (pre1 rfl) rfl rfl rfl ?_
        | refine hq_g 50 3 48 false _ (fun hb => hop_load_fp ty_77 rfl (by first | exact Nat.le_of_ble_eq_true rfl | (simp at hb; first | omega | (dsimp only; omega) | (simp <;> omega))) (fun h => by first | rfl | cases h)) rfl rfl rfl rfl pre0 rfl rfl rfl ?_
        | refine hq_g2 50 3 48 _ _ false _ (fun hb => hop_load_fp ty_77 rfl (by first | exact Nat.le_of_ble_eq_true rfl | (simp at hb; first | omega | (dsimp only; omega) | (simp <;> omega))) (fun h => by first | rfl | cases h)) rfl rfl rfl rfl pre0 rfl rfl rfl ?_
        first
        | refine hq_g 51 3 48 false _ (fun hb => hop_call0 (xs := [_, _]) (same25_h v v ⟨(two_len htw).2.1, (two_len htw).2.2⟩ ⟨(two_len htw).2.1, (two_len htw).2.2⟩) ⟨rfl, ⟨rfl, trivial⟩⟩ ⟨(Fz.eq rfl), ⟨(Fz.eq rfl), trivial⟩⟩) rfl rfl rfl rfl pre0 rfl rfl rfl ?_
        | refine hq_g2 51 3 48 _ _ false _ (fun hb => hop_call0 (xs := [_, _]) (same25_h v v ⟨(two_len htw).2.1, (two_len htw).2.2⟩ ⟨(two_len htw).2.1, (two_len htw).2.2⟩) ⟨rfl, ⟨rfl, trivial⟩⟩ ⟨(Fz.eq rfl), ⟨(Fz.eq rfl), trivial⟩⟩) rfl rfl rfl rfl pre0 rfl rfl rfl ?_
        first
        | refine hq_g 52 3 48 false _ (fun hb => hop_not rfl) rfl rfl rfl rfl pre0 rfl rfl rfl ?_
        | refine hq_g2 52 3 48 _ _ false _ (fun hb => hop_not rfl) rfl rfl rfl rfl pre0 rfl rfl rfl ?_
        first
        | refine hq_p 53 (hstep_and _ _ rfl rfl rfl) rfl rfl rfl ?_
        | refine hq_p 53 (hstep_or _ _ rfl rfl rfl) rfl rfl rfl ?_
        | refine hq_p 53 (hstep_ite _ _ _ rfl rfl rfl) rfl rfl rfl ?_
        | refine hq_p 53 (hstep_pick _ _ _ _ rfl rfl rfl (fun _ => .refl _) (fun _ => .refl _)) rfl rfl rfl ?_
        refine hseq_nilU (by rfl) (by simp only [dropUn, slots]; exact rfl) ?_
        refine h15 _ ?_
        refine hw_cond _ rfl (fun hc2 => ?_) (fun hc2 => ?_)
        · have hr2 := hc2; (try simp only [decide_eq_true_eq, decide_eq_false_iff_not, Bool.and_eq_true, Bool.or_eq_true, Bool.not_eq_true', Bool.or_eq_false_iff, beq_iff_eq, bne_iff_ne, ne_eq, beq_eq_false_iff_ne, bne_eq_false_iff_eq, Bool.not_eq_true, Bool.not_eq_false, Bool.not_eq_false', Int.toNat_natCast, Int.reduceToNat] at hc2)
          exfalso; simp at hr2
        · have hr2 := hc2; (try simp only [decide_eq_true_eq, decide_eq_false_iff_not, Bool.and_eq_true, Bool.or_eq_true, Bool.not_eq_true', Bool.or_eq_false_iff, beq_iff_eq, bne_iff_ne, ne_eq, beq_eq_false_iff_ne, bne_eq_false_iff_eq, Bool.not_eq_true, Bool.not_eq_false, Bool.not_eq_false', Int.toNat_natCast, Int.reduceToNat] at hc2)
          refine hw_skip ?_
          refine hq_block ?_
          refine h10 _ ?_
          refine hw_region ?_
          refine hq_ 17 (hop_move rfl) rfl rfl pre0 rfl rfl ?_
          first
          | refine hq_ 18 (hop_addi rfl rfl rfl (by first | exact Nat.le_of_ble_eq_true rfl | omega | (dsimp only; omega) | (simp <;> omega)) (by first | exact Nat.le_of_ble_eq_true rfl | omega | (dsimp only; omega) | (simp <;> omega))) rfl rfl pre0 rfl rfl ?_
          | refine hq_ 18 (hop_add rfl rfl) rfl rfl pre0 rfl rfl ?_
          refine hq_ 3 (hop_assign rfl) rfl rfl pre0 rfl rfl ?_
          refine hseq_nil ?_
          exact hL7 (k + 1) _ _ (by (try dsimp only); omega) (by (try dsimp only); omega) (hsub_of rfl (Nat.le_refl _) (TmSub.cons rfl (Sb.refl _) (TmSub.cons rfl (Sb.refl _) TmSub.nil)) HpSub.nil)
    · have hr1 := hc1; (try simp only [decide_eq_true_eq, decide_eq_false_iff_not, Bool.and_eq_true, Bool.or_eq_true, Bool.not_eq_true', Bool.or_eq_false_iff, beq_iff_eq, bne_iff_ne, ne_eq, beq_eq_false_iff_ne, bne_eq_false_iff_eq, Bool.not_eq_true, Bool.not_eq_false, Bool.not_eq_false', Int.toNat_natCast, Int.reduceToNat] at hc1)
      refine hw_exit ?_
      refine hq_then_exit ?_
      refine hq_then_exit ?_
      refine hq_block_here ?_
      refine h5 _ ?_
      refine hw_seq (fun Nh16 h16 => ?_)
      refine hw_region ?_
      refine hq_ 54 (hop_move rfl) rfl rfl pre0 rfl rfl ?_
      refine hq_ 55 (hop_call0 (xs := [_]) (All_h l hf (by omega)) ⟨rfl, trivial⟩ ⟨(Fz.eq rfl), trivial⟩) rfl rfl pre0 rfl rfl ?_
      refine hq_ 56 (hop_move rfl) rfl rfl pre0 rfl rfl ?_
      refine hq_ 57 (hop_call0 (xs := [_]) (All27_h l hf (by omega)) ⟨rfl, trivial⟩ ⟨(Fz.eq rfl), trivial⟩) rfl rfl pre0 rfl rfl ?_
      refine hq_ 58 (hop_call0 (xs := [_, _]) (Steps_h (allV_ l) (allV_ l) (all_few hf).1 (all_few hf).1 (by have := (all_few hf).2; omega) (by have := (all_few hf).2; omega) true (stepsEq_self _)) ⟨rfl, ⟨rfl, trivial⟩⟩ ⟨(Fz.eq rfl), ⟨(Fz.eq rfl), trivial⟩⟩) rfl rfl pre0 rfl rfl ?_
      refine hq_ 59 (hop_move rfl) rfl rfl pre0 rfl rfl ?_
      first
      | refine hq_g 60 5 59 true _ (fun hb => hop_call0 (xs := []) (live_h) trivial trivial) rfl rfl rfl rfl pre0 rfl rfl rfl ?_
      | refine hq_g2 60 5 59 _ _ true _ (fun hb => hop_call0 (xs := []) (live_h) trivial trivial) rfl rfl rfl rfl pre0 rfl rfl rfl ?_
      first
      | refine hq_p 61 (hstep_and _ _ rfl rfl rfl) rfl rfl rfl ?_
      | refine hq_p 61 (hstep_or _ _ rfl rfl rfl) rfl rfl rfl ?_
      | refine hq_p 61 (hstep_ite _ _ _ rfl rfl rfl) rfl rfl rfl ?_
      | refine hq_p 61 (hstep_pick _ _ _ _ rfl rfl rfl (fun _ => .refl _) (fun _ => .refl _)) rfl rfl rfl ?_
      refine hq_ 2 (hop_assign rfl) rfl rfl pre0 rfl rfl ?_
      refine hseq_nilU (by rfl) (by simp only [dropUn, slots]; exact rfl) ?_
      refine h16 _ ?_
      refine hw_ret ?_
      refine hq_ret1 rfl (rval_tmp rfl) [] rfl pre0 ?_
      exact fz_bool rfl
end Go.Proofs.Ytkeeipfglmpgjaa
