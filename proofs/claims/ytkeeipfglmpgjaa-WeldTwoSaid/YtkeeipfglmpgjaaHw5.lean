/-
  weld.All in the reader's words.
-/
import Derived.Test.YtkeeipfglmpgjaaHw4
import Derived.Test.YtkeeipfglmpgjaaCloneM
import Derived.Test.YtkeeipfglmpgjaaSame25
namespace Go.Proofs.Ytkeeipfglmpgjaa
set_option linter.unusedSimpArgs false
set_option linter.unusedVariables false
set_option maxRecDepth 100000
open Go.RowKit

theorem two_h' (a b : St) (o : Option St) (ho : a.two b = o) (l1 : a.sl.length ≤ 20000) (l2 : b.sl.length ≤ 20000) (l3 : a.sets.length ≤ 20000) (l4 : b.sets.length ≤ 20000) : HPure Try.prog 30 [stV a, stV b] (optV o) := ho ▸ two_h a b l1 l2 l3 l4
theorem clonet_h (l : List Tok) (hl : l.length ≤ 1000000) : HPure Try.prog 51 [toksV l] (toksV l) := by
  refine ⟨⟨_, _, Try.func51, rfl, by kernel_rfl⟩, fun w F vs hF hr hw => ?_⟩
  obtain ⟨v, rfl, hv⟩ := rep1 hr
  obtain ⟨A, c, rfl, hc, hm, hs⟩ := toks_of hv
  refine (Clone_tok A _ c _ l w rfl hs (Nat.le_refl _) (by omega)).mono fun en w' hg => ?_
  exact gives_pure hF tokF tokF_imm tok_one tok0 hg
theorem clonem_h (l : List Mks) (hl : l.length ≤ 1000000) : HPure Try.prog 52 [mkssV l] (mkssV l) := by
  refine ⟨⟨_, _, Try.func52, rfl, by kernel_rfl⟩, fun w F vs hF hr hw => ?_⟩
  obtain ⟨v, rfl, hv⟩ := rep1 hr
  obtain ⟨A, c, rfl, hc, hm, hs⟩ := mkss_of hv
  refine (Clone_mks A _ c _ l w rfl hs (Nat.le_refl _) (by omega)).mono fun en w' hg => ?_
  exact gives_pure hF mksF mksF_imm mks_one mks0 hg
def fewS (s : St) : Prop := s.sl.length ≤ 20000 ∧ s.sets.length ≤ 20000
/-- One step more, behind those that are laid. -/
def stPut (out : List St) (x : St) : List St := match out.getLast? with
  | some y => (match y.two x with | some z => out.dropLast ++ [z] | Option.none => out ++ [x])
  | Option.none => out ++ [x]
theorem stPut_nil {x : St} : stPut [] x = [x] := rfl
theorem last_getD {L : List St} (h : 0 < L.length) : L.getLast? = some (L.getD (L.length - 1) St.none) := by
  rw [List.getLast?_eq_getElem?, List.getD_eq_getElem?_getD, List.getElem?_eq_getElem (by omega)]; rfl
theorem stPut_none {L : List St} {x : St} (h : L.length = 0) : stPut L x = L ++ [x] := by
  have : L = [] := List.eq_nil_of_length_eq_zero h
  subst this; rfl
theorem stPut_no {L : List St} {x : St} (h : 0 < L.length) (ht : (L.getD (L.length - 1) St.none).two x = Option.none) : stPut L x = L ++ [x] := by
  unfold stPut; rw [last_getD h]; simp only [ht]
theorem stPut_yes {L : List St} {x z : St} (h : 0 < L.length) (ht : (L.getD (L.length - 1) St.none).two x = some z) : stPut L x = L.set (L.length - 1) z := by
  unfold stPut; rw [last_getD h]; simp only [ht]
  apply List.ext_getElem?
  intro i
  rw [List.getElem?_set]
  by_cases hi : L.length - 1 = i
  · subst hi; rw [if_pos rfl, if_pos (by omega), List.getElem?_append_right (by simp)]; simp
  · rw [if_neg hi]
    by_cases hlt : i < L.length - 1
    · rw [List.getElem?_append_left (by simpa using hlt), List.getElem?_dropLast, if_pos hlt]
    · rw [List.getElem?_eq_none (by simp; omega), List.getElem?_eq_none (by omega)]
theorem stPut_len {L : List St} {x : St} (hL : ∀ s ∈ L, fewS s) (hx : fewS x) : ∀ s ∈ stPut L x, fewS s := by
  intro s hs
  unfold stPut at hs
  have app : ∀ s ∈ L ++ [x], fewS s := by
    intro s hs
    rcases List.mem_append.1 hs with h | h
    · exact hL s h
    · simp at h; subst h; exact hx
  cases hl : L.getLast? with
  | none => rw [hl] at hs; exact app s hs
  | some y =>
    rw [hl] at hs
    simp only at hs
    cases ht : y.two x with
    | none => rw [ht] at hs; exact app s hs
    | some z =>
      rw [ht] at hs
      rcases List.mem_append.1 hs with h | h
      · exact hL s ((List.dropLast_sublist L).subset h)
      · simp at h; subst h; exact ⟨(two_len ht).2.1, (two_len ht).2.2⟩
theorem stPut_ne {L : List St} {x : St} : (stPut L x).length ≤ L.length + 1 := by
  unfold stPut
  cases L.getLast? with
  | none => simp
  | some y => simp only; cases y.two x <;> simp <;> omega
def allV_ (l : List St) : List St := l.foldl stPut []
theorem all_take (l : List St) (k : Nat) (hk : k < l.length) : (l.take (k + 1)).foldl stPut [] = stPut ((l.take k).foldl stPut []) (l.getD k St.none) := by
  rw [List.take_succ_eq_append_getElem hk, List.foldl_append]
  simp [List.getD_eq_getElem?_getD, hk]
theorem few_get {l : List St} (h : ∀ s ∈ l, fewS s) (k : Nat) (hk : k < l.length) : fewS (l.getD k St.none) := by
  rw [List.getD_eq_getElem?_getD, List.getElem?_eq_getElem hk]; exact h _ (List.getElem_mem hk)
theorem All_h (l : List St) (hl : ∀ s ∈ l, fewS s) (hn : l.length ≤ 1000) : HPure Try.prog 34 [stsV l] (stsV (allV_ l)) := by
  refine hpure_of Try.func34 rfl (by kernel_rfl) _ _ _ rfl 49 rfl rfl (fun w F => ?_)
  refine hw_seq (fun Nh1 h1 => ?_)
  refine hw_region ?_
  refine hq_ 2 (hop_assign rfl) rfl rfl pre0 rfl rfl ?_
  refine hseq_nil ?_
  refine h1 _ ?_
  refine hw_seq (fun Nh2 h2 => ?_)
  refine hw_region ?_
  refine hq_ 3 (hop_assign rfl) rfl rfl pre0 rfl rfl ?_
  refine hseq_nil ?_
  refine h2 _ ?_
  refine hw_seq (fun Nh3 h3 => ?_)
  refine hw_seq (fun Nh4 h4 => ?_)
  refine hw_region ?_
  refine hq_ 9 (hop_move rfl) rfl rfl pre0 rfl rfl ?_
  first
  | refine hq_ 10 (hop_len_sl (T := 73) rfl (elOf_spec el_73).1 rfl) rfl rfl pre0 rfl rfl ?_
  | refine hq_ 10 (hop_len_os (T := 73) rfl (elOf_spec el_73).1 rfl) rfl rfl pre0 rfl rfl ?_
  | refine hq_ 10 (hop_len_nil (T := 73) rfl (elOf_spec el_73).1 rfl) rfl rfl pre0 rfl rfl ?_
  refine hq_ 11 (hop_move rfl) rfl rfl pre0 rfl rfl ?_
  refine hseq_nil ?_
  refine h4 _ ?_
  refine hw_block ?_
  refine hw_own 3 3 10 77 ((fun i => stF (([] : List St).getD i St.none))) rfl (by decide) rfl (c' := 1) rfl ?_
  refine hw_loopc (α := Nat × List St × Nat × Nat) (fun x c => ⟨49, [(9, .v (stsV l)), (10, .v (intV l.length)), (11, .v (intV x.1)), (3, .v (.os 3 x.2.2.2 0 x.2.2.1))], [(3, ⟨x.2.2.2, x.2.2.1, 10, 77, 0, fun i => stF (x.2.1.getD i St.none)⟩)], c⟩) (fun x => x.1 ≤ l.length ∧ x.2.2.1 = x.2.1.length ∧ x.2.1 = (l.take x.1).foldl stPut [] ∧ x.2.2.1 ≤ x.1 ∧ ∀ s ∈ x.2.1, fewS s) (fun x => l.length - x.1) ((0, [], 0, 0)) (by exact ⟨Nat.zero_le _, rfl, rfl, Nat.le_refl _, fun s h => by cases h⟩) (hsub_of rfl (Nat.le_refl _) (TmSub.cons rfl (Sb.refl _) (TmSub.cons rfl (Sb.refl _) (TmSub.cons rfl (Sb.refl _) (TmSub.cons rfl (Sb.refl _) TmSub.nil)))) (HpSub.cons rfl (OSub.refl _) HpSub.nil)) (fun x c hx NhL5 hL5 => ?_)
  revert hx hL5; obtain ⟨k, L, n, g⟩ := x; intro hx hL5; dsimp only at hx hL5 ⊢
  obtain ⟨hk, hnL, hL, hnk, hfew⟩ := hx
  refine hw_seq (fun Nh6 h6 => ?_)
  refine hw_region ?_
  refine hq_ 12 (hop_lss rfl rfl) rfl rfl pre0 rfl rfl ?_
  refine hseq_nil ?_
  refine h6 _ ?_
  refine hw_seq (fun Nh7 h7 => ?_)
  refine hw_cond _ rfl (fun hc0 => ?_) (fun hc0 => ?_)
  · have hr0 := hc0; (try simp only [decide_eq_true_eq, decide_eq_false_iff_not, Bool.and_eq_true, Bool.or_eq_true, Bool.not_eq_true', Bool.or_eq_false_iff, beq_iff_eq, bne_iff_ne, ne_eq, beq_eq_false_iff_ne, bne_eq_false_iff_eq, Bool.not_eq_true, Bool.not_eq_false, Bool.not_eq_false', Int.toNat_natCast, Int.reduceToNat] at hc0)
    have hx := few_get hl k (by omega); obtain ⟨x1, x2⟩ := hx
    refine hw_skip ?_
    refine h7 _ ?_
    refine hw_seq (fun Nh8 h8 => ?_)
    refine hw_block ?_
    refine hw_seq (fun Nh9 h9 => ?_)
    refine hw_region ?_
    first
    | refine hq_ 13 (hop_ia_sl el_73 rfl rfl (by first | exact Nat.le_of_ble_eq_true rfl | omega | (dsimp only; omega) | (simp <;> omega)) (by first | exact Nat.le_of_ble_eq_true rfl | omega | (dsimp only; omega) | (simp <;> omega)) (by first | exact Nat.le_of_ble_eq_true rfl | omega | (dsimp only; omega) | (simp <;> omega))) rfl rfl pre0 rfl rfl ?_
    | refine hq_ 13 (hol_ia_os el_73 rfl rfl (by first | exact Nat.le_of_ble_eq_true rfl | omega | (dsimp only; omega) | (simp <;> omega)) (by first | exact Nat.le_of_ble_eq_true rfl | omega | (dsimp only; omega) | (simp <;> omega))) rfl rfl (pre1 rfl) rfl rfl ?_
    first
    | refine hq_ 14 (hol_load ty_77 rfl (by first | exact Nat.le_of_ble_eq_true rfl | omega | (dsimp only; omega) | (simp <;> omega)) (by first | exact Nat.le_of_ble_eq_true rfl | omega | (dsimp only; omega) | (simp <;> omega)) (fun h => by first | rfl | cases h)) rfl rfl (pre1 rfl) rfl rfl ?_
    | refine hq_ 14 (hop_load_fp ty_77 rfl (by first | exact Nat.le_of_ble_eq_true rfl | omega | (dsimp only; omega) | (simp <;> omega)) (fun h => by first | rfl | cases h)) rfl rfl pre0 rfl rfl ?_
    refine hm_1 5 (hop_alloc (id := 5) (sz := 10) zc_77 rfl rfl (by first | exact Nat.le_of_ble_eq_true rfl | omega | (dsimp only; omega) | (simp <;> omega)) (by first | exact Nat.le_of_ble_eq_true rfl | omega | (dsimp only; omega) | (simp <;> omega))) rfl rfl pre0 rfl rfl (c' := c + 1) rfl ?_
    first
    | refine hm_s1 (hol_storeW ty_77 rfl rfl rfl rfl) rfl rfl (pre1 rfl) (c' := c + 2) rfl ?_
    | refine hm_s1 (hol_store ty_77 rfl rfl rfl rfl (by first | exact Nat.le_of_ble_eq_true rfl | omega | (dsimp only; omega) | (simp <;> omega)) (by first | exact Nat.le_of_ble_eq_true rfl | omega | (dsimp only; omega) | (simp <;> omega)) (by first | exact Nat.le_of_ble_eq_true rfl | omega | (dsimp only; omega) | (simp <;> omega))) rfl rfl (pre1 rfl) (c' := c + 2) rfl ?_
    refine hseq_nil ?_
    refine h9 _ ?_
    refine hw_seq (fun Nh10 h10 => ?_)
    refine hw_seq (fun Nh11 h11 => ?_)
    refine hw_region ?_
    refine hq_ 15 (hop_move rfl) rfl rfl pre0 rfl rfl ?_
    first
    | refine hq_ 16 (hop_len_sl (T := 73) rfl (elOf_spec el_73).1 rfl) rfl rfl pre0 rfl rfl ?_
    | refine hq_ 16 (hop_len_os (T := 73) rfl (elOf_spec el_73).1 rfl) rfl rfl pre0 rfl rfl ?_
    | refine hq_ 16 (hop_len_nil (T := 73) rfl (elOf_spec el_73).1 rfl) rfl rfl pre0 rfl rfl ?_
    refine hq_ 6 (hop_assign rfl) rfl rfl pre0 rfl rfl ?_
    refine hseq_nil ?_
    refine h11 _ ?_
    refine hw_seq (fun Nh12 h12 => ?_)
    refine hw_region ?_
    refine hq_ 17 (hop_move rfl) rfl rfl pre0 rfl rfl ?_
    refine hq_ 18 (hop_gtr rfl rfl) rfl rfl pre0 rfl rfl ?_
    refine hseq_nil ?_
    refine h12 _ ?_
    refine hw_cond _ rfl (fun hc1 => ?_) (fun hc1 => ?_)
    · have hr1 := hc1; (try simp only [decide_eq_true_eq, decide_eq_false_iff_not, Bool.and_eq_true, Bool.or_eq_true, Bool.not_eq_true', Bool.or_eq_false_iff, beq_iff_eq, bne_iff_ne, ne_eq, beq_eq_false_iff_ne, bne_eq_false_iff_eq, Bool.not_eq_true, Bool.not_eq_false, Bool.not_eq_false', Int.toNat_natCast, Int.reduceToNat] at hc1)
      refine hw_seq (fun Nh13 h13 => ?_)
      have hlast := few_get hfew (L.length - 1) (by omega); obtain ⟨y1, y2⟩ := hlast; have hix : (0 + ((n : Int) - 1).toNat) = L.length - 1 := (by omega); rcases htw : (L.getD (0 + ((n : Int) - 1).toNat) St.none).two (l.getD k St.none) with _ | val
      · skip
        refine hd_start ?_
        refine hd_q 20 (hop_move rfl) rfl rfl pre0 rfl rfl (k' := 1) rfl ?_
        refine hd_q 21 (hop_move rfl) rfl rfl pre0 rfl rfl (k' := 2) rfl ?_
        first
        | refine hd_q 22 (hop_subi rfl rfl rfl (by first | exact Nat.le_of_ble_eq_true rfl | omega | (dsimp only; omega) | (simp <;> omega)) (by first | exact Nat.le_of_ble_eq_true rfl | omega | (dsimp only; omega) | (simp <;> omega))) rfl rfl pre0 rfl rfl (k' := 3) rfl ?_
        | refine hd_q 22 (hop_sub rfl rfl) rfl rfl pre0 rfl rfl (k' := 3) rfl ?_
        first
        | refine hd_q 23 (hop_ia_sl el_73 rfl rfl (by first | exact Nat.le_of_ble_eq_true rfl | omega | (dsimp only; omega) | (simp <;> omega)) (by first | exact Nat.le_of_ble_eq_true rfl | omega | (dsimp only; omega) | (simp <;> omega)) (by first | exact Nat.le_of_ble_eq_true rfl | omega | (dsimp only; omega) | (simp <;> omega))) rfl rfl pre0 rfl rfl (k' := 4) rfl ?_
        | refine hd_q 23 (hol_ia_os el_73 rfl rfl (by first | exact Nat.le_of_ble_eq_true rfl | omega | (dsimp only; omega) | (simp <;> omega)) (by first | exact Nat.le_of_ble_eq_true rfl | omega | (dsimp only; omega) | (simp <;> omega))) rfl rfl (pre1 rfl) rfl rfl (k' := 4) rfl ?_
        first
        | refine hd_q 24 (hol_load ty_77 rfl (by first | exact Nat.le_of_ble_eq_true rfl | omega | (dsimp only; omega) | (simp <;> omega)) (by first | exact Nat.le_of_ble_eq_true rfl | omega | (dsimp only; omega) | (simp <;> omega)) (fun h => by first | rfl | cases h)) rfl rfl (pre1 rfl) rfl rfl (k' := 5) rfl ?_
        | refine hd_q 24 (hop_load_fp ty_77 rfl (by first | exact Nat.le_of_ble_eq_true rfl | omega | (dsimp only; omega) | (simp <;> omega)) (fun h => by first | rfl | cases h)) rfl rfl pre0 rfl rfl (k' := 5) rfl ?_
        first
        | refine hd_q 25 (hol_load ty_77 rfl (by first | exact Nat.le_of_ble_eq_true rfl | omega | (dsimp only; omega) | (simp <;> omega)) (by first | exact Nat.le_of_ble_eq_true rfl | omega | (dsimp only; omega) | (simp <;> omega)) (fun h => by first | rfl | cases h)) rfl rfl (pre1 rfl) rfl rfl (k' := 6) rfl ?_
        | refine hd_q 25 (hop_load_fp ty_77 rfl (by first | exact Nat.le_of_ble_eq_true rfl | omega | (dsimp only; omega) | (simp <;> omega)) (fun h => by first | rfl | cases h)) rfl rfl pre0 rfl rfl (k' := 6) rfl ?_
        refine hd_q 26 (hop_call0 (xs := [_, _]) (two_h' _ _ _ htw (by rw [hix]; exact y1) x1 (by rw [hix]; exact y2) x2) ⟨rfl, ⟨rfl, trivial⟩⟩ ⟨(Fz.eq rfl), ⟨(Fz.eq rfl), trivial⟩⟩) rfl rfl pre0 rfl rfl (k' := 7) rfl ?_
        refine hd_q 19 (hop_move rfl) rfl rfl pre0 rfl rfl (k' := 8) rfl ?_
        refine hd_q 27 (hop_extract rfl rfl) rfl rfl pre0 rfl rfl (k' := 9) rfl ?_
        refine hd_q 28 (hop_extract rfl rfl) rfl rfl pre0 rfl rfl (k' := 10) rfl ?_
        refine hd_1 7 (hop_alloc (id := 7) (sz := 10) zc_77 rfl rfl (by first | exact Nat.le_of_ble_eq_true rfl | omega | (dsimp only; omega) | (simp <;> omega)) (by first | exact Nat.le_of_ble_eq_true rfl | omega | (dsimp only; omega) | (simp <;> omega))) rfl rfl pre0 rfl rfl (k' := 11) rfl ?_
        first
        | refine hd_s1 (hol_storeW ty_77 rfl rfl rfl rfl) rfl rfl (pre1 rfl) (k' := 12) rfl ?_
        | refine hd_s1 (hol_store ty_77 rfl rfl rfl rfl (by first | exact Nat.le_of_ble_eq_true rfl | omega | (dsimp only; omega) | (simp <;> omega)) (by first | exact Nat.le_of_ble_eq_true rfl | omega | (dsimp only; omega) | (simp <;> omega)) (by first | exact Nat.le_of_ble_eq_true rfl | omega | (dsimp only; omega) | (simp <;> omega))) rfl rfl (pre1 rfl) (k' := 12) rfl ?_
        refine hd_q 8 (hop_assign rfl) rfl rfl pre0 rfl rfl (k' := 13) rfl ?_
        refine hd_nil (by kernel_rfl) (by kernel_rfl) (c' := c + 15) rfl ?_
        refine h13 _ ?_
        refine hw_seq (fun Nh14 h14 => ?_)
        refine hw_region ?_
        refine hq_ 29 (hop_move rfl) rfl rfl pre0 rfl rfl ?_
        refine hseq_nil ?_
        refine h14 _ ?_
        refine hw_cond _ rfl (fun hc2 => ?_) (fun hc2 => ?_)
        · have hr2 := hc2; (try simp only [decide_eq_true_eq, decide_eq_false_iff_not, Bool.and_eq_true, Bool.or_eq_true, Bool.not_eq_true', Bool.or_eq_false_iff, beq_iff_eq, bne_iff_ne, ne_eq, beq_eq_false_iff_ne, bne_eq_false_iff_eq, Bool.not_eq_true, Bool.not_eq_false, Bool.not_eq_false', Int.toNat_natCast, Int.reduceToNat] at hc2)
          exfalso; cases hr2
        · have hr2 := hc2; (try simp only [decide_eq_true_eq, decide_eq_false_iff_not, Bool.and_eq_true, Bool.or_eq_true, Bool.not_eq_true', Bool.or_eq_false_iff, beq_iff_eq, bne_iff_ne, ne_eq, beq_eq_false_iff_ne, bne_eq_false_iff_eq, Bool.not_eq_true, Bool.not_eq_false, Bool.not_eq_false', Int.toNat_natCast, Int.reduceToNat] at hc2)
          refine hw_skip ?_
          refine h10 _ ?_
          refine hw_seq (fun Nh15 h15 => ?_)
          refine hd_start ?_
          first
          | refine hd_q 35 (hop_fa fd_77_8 rfl) rfl rfl pre0 rfl rfl (k' := 1) rfl ?_
          | refine hd_q 35 (hop_fa_fp fd_77_8 rfl (by first | exact Nat.le_of_ble_eq_true rfl | omega | (dsimp only; omega) | (simp <;> omega))) rfl rfl pre0 rfl rfl (k' := 1) rfl ?_
          first
          | refine hd_q 36 (hol_load ty_26 rfl (by first | exact Nat.le_of_ble_eq_true rfl | omega | (dsimp only; omega) | (simp <;> omega)) (by first | exact Nat.le_of_ble_eq_true rfl | omega | (dsimp only; omega) | (simp <;> omega)) (fun h => by first | rfl | cases h)) rfl rfl (pre1 rfl) rfl rfl (k' := 2) rfl ?_
          | refine hd_q 36 (hop_load_fp ty_26 rfl (by first | exact Nat.le_of_ble_eq_true rfl | omega | (dsimp only; omega) | (simp <;> omega)) (fun h => by first | rfl | cases h)) rfl rfl pre0 rfl rfl (k' := 2) rfl ?_
          refine hd_q 37 (hop_call0 (xs := [_]) (clonet_h (l.getD k St.none).sl (by omega)) ⟨rfl, trivial⟩ ⟨(Fz.eq rfl), trivial⟩) rfl rfl pre0 rfl rfl (k' := 3) rfl ?_
          first
          | refine hd_q 38 (hop_fa fd_77_9 rfl) rfl rfl pre0 rfl rfl (k' := 4) rfl ?_
          | refine hd_q 38 (hop_fa_fp fd_77_9 rfl (by first | exact Nat.le_of_ble_eq_true rfl | omega | (dsimp only; omega) | (simp <;> omega))) rfl rfl pre0 rfl rfl (k' := 4) rfl ?_
          first
          | refine hd_q 39 (hol_load ty_75 rfl (by first | exact Nat.le_of_ble_eq_true rfl | omega | (dsimp only; omega) | (simp <;> omega)) (by first | exact Nat.le_of_ble_eq_true rfl | omega | (dsimp only; omega) | (simp <;> omega)) (fun h => by first | rfl | cases h)) rfl rfl (pre1 rfl) rfl rfl (k' := 5) rfl ?_
          | refine hd_q 39 (hop_load_fp ty_75 rfl (by first | exact Nat.le_of_ble_eq_true rfl | omega | (dsimp only; omega) | (simp <;> omega)) (fun h => by first | rfl | cases h)) rfl rfl pre0 rfl rfl (k' := 5) rfl ?_
          refine hd_q 40 (hop_call0 (xs := [_]) (clonem_h (l.getD k St.none).sets (by omega)) ⟨rfl, trivial⟩ ⟨(Fz.eq rfl), trivial⟩) rfl rfl pre0 rfl rfl (k' := 6) rfl ?_
          first
          | refine hd_q 41 (hop_fa fd_77_8 rfl) rfl rfl pre0 rfl rfl (k' := 7) rfl ?_
          | refine hd_q 41 (hop_fa_fp fd_77_8 rfl (by first | exact Nat.le_of_ble_eq_true rfl | omega | (dsimp only; omega) | (simp <;> omega))) rfl rfl pre0 rfl rfl (k' := 7) rfl ?_
          first
          | refine hd_s1 (hol_storeW ty_26 rfl rfl rfl rfl) rfl rfl (pre1 rfl) (k' := 8) rfl ?_
          | refine hd_s1 (hol_store ty_26 rfl rfl rfl rfl (by first | exact Nat.le_of_ble_eq_true rfl | omega | (dsimp only; omega) | (simp <;> omega)) (by first | exact Nat.le_of_ble_eq_true rfl | omega | (dsimp only; omega) | (simp <;> omega)) (by first | exact Nat.le_of_ble_eq_true rfl | omega | (dsimp only; omega) | (simp <;> omega))) rfl rfl (pre1 rfl) (k' := 8) rfl ?_
          first
          | refine hd_q 42 (hop_fa fd_77_9 rfl) rfl rfl pre0 rfl rfl (k' := 9) rfl ?_
          | refine hd_q 42 (hop_fa_fp fd_77_9 rfl (by first | exact Nat.le_of_ble_eq_true rfl | omega | (dsimp only; omega) | (simp <;> omega))) rfl rfl pre0 rfl rfl (k' := 9) rfl ?_
          first
          | refine hd_s1 (hol_storeW ty_75 rfl rfl rfl rfl) rfl rfl (pre1 rfl) (k' := 10) rfl ?_
          | refine hd_s1 (hol_store ty_75 rfl rfl rfl rfl (by first | exact Nat.le_of_ble_eq_true rfl | omega | (dsimp only; omega) | (simp <;> omega)) (by first | exact Nat.le_of_ble_eq_true rfl | omega | (dsimp only; omega) | (simp <;> omega)) (by first | exact Nat.le_of_ble_eq_true rfl | omega | (dsimp only; omega) | (simp <;> omega))) rfl rfl (pre1 rfl) (k' := 10) rfl ?_
          refine hd_nil (by kernel_rfl) (by kernel_rfl) (c' := c + 25) rfl ?_
          refine h15 _ ?_
          refine hw_region ?_
          refine hq_ 43 (hop_move rfl) rfl rfl pre0 rfl rfl ?_
          first
          | refine hq_ 44 (hol_load ty_77 rfl (by first | exact Nat.le_of_ble_eq_true rfl | omega | (dsimp only; omega) | (simp <;> omega)) (by first | exact Nat.le_of_ble_eq_true rfl | omega | (dsimp only; omega) | (simp <;> omega)) (fun h => by first | rfl | cases h)) rfl rfl (pre1 rfl) rfl rfl ?_
          | refine hq_ 44 (hop_load_fp ty_77 rfl (by first | exact Nat.le_of_ble_eq_true rfl | omega | (dsimp only; omega) | (simp <;> omega)) (fun h => by first | rfl | cases h)) rfl rfl pre0 rfl rfl ?_
          refine hm_1 45 (hop_buildSlice (id := 45) (hs := [_]) ei_73 (by first | exact Nat.le_of_ble_eq_true rfl | omega | (dsimp only; omega) | (simp <;> omega)) rfl (by first | exact Nat.le_of_ble_eq_true rfl | omega | (dsimp only; omega) | (simp <;> omega)) ⟨rfl, rfl, rfl, rfl, trivial⟩) rfl rfl pre0 rfl rfl (c' := c + 26) rfl ?_
          first
          | refine hm_1 46 (hol_append ei_73 (by first | exact Nat.le_of_ble_eq_true rfl | omega | (dsimp only; omega) | (simp <;> omega)) rfl (by first | exact Nat.le_of_ble_eq_true rfl | omega | (dsimp only; omega) | (simp <;> omega)) (by first | exact Nat.le_of_ble_eq_true rfl | omega | (dsimp only; omega) | (simp <;> omega)) (srl_os0 rfl (by first | exact Nat.le_of_ble_eq_true rfl | omega | (dsimp only; omega) | (simp <;> omega))) (by first | exact Nat.le_of_ble_eq_true rfl | omega | (dsimp only; omega) | (simp <;> omega)) rfl) rfl rfl (preC rfl (pre1 rfl)) rfl rfl (c' := c + 27) rfl ?_
          | refine hm_1 46 (hol_append ei_73 (by first | exact Nat.le_of_ble_eq_true rfl | omega | (dsimp only; omega) | (simp <;> omega)) rfl (by first | exact Nat.le_of_ble_eq_true rfl | omega | (dsimp only; omega) | (simp <;> omega)) (by first | exact Nat.le_of_ble_eq_true rfl | omega | (dsimp only; omega) | (simp <;> omega)) (srl_os rfl (by first | exact Nat.le_of_ble_eq_true rfl | omega | (dsimp only; omega) | (simp <;> omega))) (by first | exact Nat.le_of_ble_eq_true rfl | omega | (dsimp only; omega) | (simp <;> omega)) rfl) rfl rfl (preC rfl (pre1 rfl)) rfl rfl (c' := c + 27) rfl ?_
          | refine hm_1 46 (hol_append ei_73 (by first | exact Nat.le_of_ble_eq_true rfl | omega | (dsimp only; omega) | (simp <;> omega)) rfl (by first | exact Nat.le_of_ble_eq_true rfl | omega | (dsimp only; omega) | (simp <;> omega)) (by first | exact Nat.le_of_ble_eq_true rfl | omega | (dsimp only; omega) | (simp <;> omega)) (src_sl rfl) (by first | exact Nat.le_of_ble_eq_true rfl | omega | (dsimp only; omega) | (simp <;> omega)) rfl) rfl rfl (preC rfl pre0) rfl rfl (c' := c + 27) rfl ?_
          | refine hm_1 46 (hol_append ei_73 (by first | exact Nat.le_of_ble_eq_true rfl | omega | (dsimp only; omega) | (simp <;> omega)) rfl (by first | exact Nat.le_of_ble_eq_true rfl | omega | (dsimp only; omega) | (simp <;> omega)) (by first | exact Nat.le_of_ble_eq_true rfl | omega | (dsimp only; omega) | (simp <;> omega)) (src_nil 10 (fun _ _ => default) rfl) (by first | exact Nat.le_of_ble_eq_true rfl | omega | (dsimp only; omega) | (simp <;> omega)) rfl) rfl rfl (preC rfl pre0) rfl rfl (c' := c + 27) rfl ?_
          refine hq_ 3 (hop_assign rfl) rfl rfl pre0 rfl rfl ?_
          refine hseq_nil ?_
          refine hq_block ?_
          refine h8 _ ?_
          refine hw_region ?_
          first
          | refine hq_ 47 (hop_addi rfl rfl rfl (by first | exact Nat.le_of_ble_eq_true rfl | omega | (dsimp only; omega) | (simp <;> omega)) (by first | exact Nat.le_of_ble_eq_true rfl | omega | (dsimp only; omega) | (simp <;> omega))) rfl rfl pre0 rfl rfl ?_
          | refine hq_ 47 (hop_add rfl rfl) rfl rfl pre0 rfl rfl ?_
          refine hq_ 11 (hop_move rfl) rfl rfl pre0 rfl rfl ?_
          refine hseq_nil ?_
          exact hL5 ((k + 1, L ++ [l.getD k St.none], n + 1, _)) _ _ (by (try dsimp only); exact ⟨by omega, by simp [hnL], by rw [all_take l k (by omega), ← hL, stPut_no (by omega) (by rw [hix] at htw; exact htw)], by omega, by rw [← stPut_no (x := l.getD k St.none) (L := L) (by omega) (by rw [hix] at htw; exact htw)]; exact stPut_len hfew (few_get hl k (by omega))⟩) (by (try dsimp only); omega) (hsub_of rfl (Nat.le_refl _) (TmSub.cons rfl (Sb.refl _) (TmSub.cons rfl (Sb.refl _) (TmSub.cons rfl (Sb.refl _) (TmSub.cons rfl (Sb.refl _) TmSub.nil)))) (HpSub.cons rfl (OSub.of fun i j hi hj => sb_cat (l := L) (k := [l.getD k St.none]) hnL (fun i j _ _ => .refl _) (sb_one (fun j hj => (sb10 (by exact .refl _) (by exact .refl _) (by exact .refl _) (by exact .refl _) (by exact .refl _) (by exact .refl _) (by exact .refl _) (by exact .refl _) (by exact .refl _) (by exact .refl _)) j hj)) i j (by simp; omega) hj) HpSub.nil))
      · skip
        refine hd_start ?_
        refine hd_q 20 (hop_move rfl) rfl rfl pre0 rfl rfl (k' := 1) rfl ?_
        refine hd_q 21 (hop_move rfl) rfl rfl pre0 rfl rfl (k' := 2) rfl ?_
        first
        | refine hd_q 22 (hop_subi rfl rfl rfl (by first | exact Nat.le_of_ble_eq_true rfl | omega | (dsimp only; omega) | (simp <;> omega)) (by first | exact Nat.le_of_ble_eq_true rfl | omega | (dsimp only; omega) | (simp <;> omega))) rfl rfl pre0 rfl rfl (k' := 3) rfl ?_
        | refine hd_q 22 (hop_sub rfl rfl) rfl rfl pre0 rfl rfl (k' := 3) rfl ?_
        first
        | refine hd_q 23 (hop_ia_sl el_73 rfl rfl (by first | exact Nat.le_of_ble_eq_true rfl | omega | (dsimp only; omega) | (simp <;> omega)) (by first | exact Nat.le_of_ble_eq_true rfl | omega | (dsimp only; omega) | (simp <;> omega)) (by first | exact Nat.le_of_ble_eq_true rfl | omega | (dsimp only; omega) | (simp <;> omega))) rfl rfl pre0 rfl rfl (k' := 4) rfl ?_
        | refine hd_q 23 (hol_ia_os el_73 rfl rfl (by first | exact Nat.le_of_ble_eq_true rfl | omega | (dsimp only; omega) | (simp <;> omega)) (by first | exact Nat.le_of_ble_eq_true rfl | omega | (dsimp only; omega) | (simp <;> omega))) rfl rfl (pre1 rfl) rfl rfl (k' := 4) rfl ?_
        first
        | refine hd_q 24 (hol_load ty_77 rfl (by first | exact Nat.le_of_ble_eq_true rfl | omega | (dsimp only; omega) | (simp <;> omega)) (by first | exact Nat.le_of_ble_eq_true rfl | omega | (dsimp only; omega) | (simp <;> omega)) (fun h => by first | rfl | cases h)) rfl rfl (pre1 rfl) rfl rfl (k' := 5) rfl ?_
        | refine hd_q 24 (hop_load_fp ty_77 rfl (by first | exact Nat.le_of_ble_eq_true rfl | omega | (dsimp only; omega) | (simp <;> omega)) (fun h => by first | rfl | cases h)) rfl rfl pre0 rfl rfl (k' := 5) rfl ?_
        first
        | refine hd_q 25 (hol_load ty_77 rfl (by first | exact Nat.le_of_ble_eq_true rfl | omega | (dsimp only; omega) | (simp <;> omega)) (by first | exact Nat.le_of_ble_eq_true rfl | omega | (dsimp only; omega) | (simp <;> omega)) (fun h => by first | rfl | cases h)) rfl rfl (pre1 rfl) rfl rfl (k' := 6) rfl ?_
        | refine hd_q 25 (hop_load_fp ty_77 rfl (by first | exact Nat.le_of_ble_eq_true rfl | omega | (dsimp only; omega) | (simp <;> omega)) (fun h => by first | rfl | cases h)) rfl rfl pre0 rfl rfl (k' := 6) rfl ?_
        refine hd_q 26 (hop_call0 (xs := [_, _]) (two_h' _ _ _ htw (by rw [hix]; exact y1) x1 (by rw [hix]; exact y2) x2) ⟨rfl, ⟨rfl, trivial⟩⟩ ⟨(Fz.eq rfl), ⟨(Fz.eq rfl), trivial⟩⟩) rfl rfl pre0 rfl rfl (k' := 7) rfl ?_
        refine hd_q 19 (hop_move rfl) rfl rfl pre0 rfl rfl (k' := 8) rfl ?_
        refine hd_q 27 (hop_extract rfl rfl) rfl rfl pre0 rfl rfl (k' := 9) rfl ?_
        refine hd_q 28 (hop_extract rfl rfl) rfl rfl pre0 rfl rfl (k' := 10) rfl ?_
        refine hd_1 7 (hop_alloc (id := 7) (sz := 10) zc_77 rfl rfl (by first | exact Nat.le_of_ble_eq_true rfl | omega | (dsimp only; omega) | (simp <;> omega)) (by first | exact Nat.le_of_ble_eq_true rfl | omega | (dsimp only; omega) | (simp <;> omega))) rfl rfl pre0 rfl rfl (k' := 11) rfl ?_
        first
        | refine hd_s1 (hol_storeW ty_77 rfl rfl rfl rfl) rfl rfl (pre1 rfl) (k' := 12) rfl ?_
        | refine hd_s1 (hol_store ty_77 rfl rfl rfl rfl (by first | exact Nat.le_of_ble_eq_true rfl | omega | (dsimp only; omega) | (simp <;> omega)) (by first | exact Nat.le_of_ble_eq_true rfl | omega | (dsimp only; omega) | (simp <;> omega)) (by first | exact Nat.le_of_ble_eq_true rfl | omega | (dsimp only; omega) | (simp <;> omega))) rfl rfl (pre1 rfl) (k' := 12) rfl ?_
        refine hd_q 8 (hop_assign rfl) rfl rfl pre0 rfl rfl (k' := 13) rfl ?_
        refine hd_nil (by kernel_rfl) (by kernel_rfl) (c' := c + 15) rfl ?_
        refine h13 _ ?_
        refine hw_seq (fun Nh16 h16 => ?_)
        refine hw_region ?_
        refine hq_ 29 (hop_move rfl) rfl rfl pre0 rfl rfl ?_
        refine hseq_nil ?_
        refine h16 _ ?_
        refine hw_cond _ rfl (fun hc2 => ?_) (fun hc2 => ?_)
        · have hr2 := hc2; (try simp only [decide_eq_true_eq, decide_eq_false_iff_not, Bool.and_eq_true, Bool.or_eq_true, Bool.not_eq_true', Bool.or_eq_false_iff, beq_iff_eq, bne_iff_ne, ne_eq, beq_eq_false_iff_ne, bne_eq_false_iff_eq, Bool.not_eq_true, Bool.not_eq_false, Bool.not_eq_false', Int.toNat_natCast, Int.reduceToNat] at hc2)
          refine hw_seq (fun Nh17 h17 => ?_)
          refine hw_region ?_
          refine hq_ 30 (hop_move rfl) rfl rfl pre0 rfl rfl ?_
          refine hq_ 31 (hop_move rfl) rfl rfl pre0 rfl rfl ?_
          first
          | refine hq_ 32 (hop_subi rfl rfl rfl (by first | exact Nat.le_of_ble_eq_true rfl | omega | (dsimp only; omega) | (simp <;> omega)) (by first | exact Nat.le_of_ble_eq_true rfl | omega | (dsimp only; omega) | (simp <;> omega))) rfl rfl pre0 rfl rfl ?_
          | refine hq_ 32 (hop_sub rfl rfl) rfl rfl pre0 rfl rfl ?_
          first
          | refine hq_ 33 (hol_load ty_77 rfl (by first | exact Nat.le_of_ble_eq_true rfl | omega | (dsimp only; omega) | (simp <;> omega)) (by first | exact Nat.le_of_ble_eq_true rfl | omega | (dsimp only; omega) | (simp <;> omega)) (fun h => by first | rfl | cases h)) rfl rfl (pre1 rfl) rfl rfl ?_
          | refine hq_ 33 (hop_load_fp ty_77 rfl (by first | exact Nat.le_of_ble_eq_true rfl | omega | (dsimp only; omega) | (simp <;> omega)) (fun h => by first | rfl | cases h)) rfl rfl pre0 rfl rfl ?_
          first
          | refine hq_ 34 (hop_ia_sl el_73 rfl rfl (by first | exact Nat.le_of_ble_eq_true rfl | omega | (dsimp only; omega) | (simp <;> omega)) (by first | exact Nat.le_of_ble_eq_true rfl | omega | (dsimp only; omega) | (simp <;> omega)) (by first | exact Nat.le_of_ble_eq_true rfl | omega | (dsimp only; omega) | (simp <;> omega))) rfl rfl pre0 rfl rfl ?_
          | refine hq_ 34 (hol_ia_os el_73 rfl rfl (by first | exact Nat.le_of_ble_eq_true rfl | omega | (dsimp only; omega) | (simp <;> omega)) (by first | exact Nat.le_of_ble_eq_true rfl | omega | (dsimp only; omega) | (simp <;> omega))) rfl rfl (pre1 rfl) rfl rfl ?_
          first
          | refine hm_s1 (hol_storeW ty_77 rfl rfl rfl rfl) rfl rfl (pre1 rfl) (c' := c + 16) rfl ?_
          | refine hm_s1 (hol_store ty_77 rfl rfl rfl rfl (by first | exact Nat.le_of_ble_eq_true rfl | omega | (dsimp only; omega) | (simp <;> omega)) (by first | exact Nat.le_of_ble_eq_true rfl | omega | (dsimp only; omega) | (simp <;> omega)) (by first | exact Nat.le_of_ble_eq_true rfl | omega | (dsimp only; omega) | (simp <;> omega))) rfl rfl (pre1 rfl) (c' := c + 16) rfl ?_
          refine hseq_nil ?_
          refine h17 _ ?_
          refine hw_exit ?_
          refine hq_then_exit ?_
          refine hq_block_here ?_
          refine h8 _ ?_
          refine hw_region ?_
          first
          | refine hq_ 47 (hop_addi rfl rfl rfl (by first | exact Nat.le_of_ble_eq_true rfl | omega | (dsimp only; omega) | (simp <;> omega)) (by first | exact Nat.le_of_ble_eq_true rfl | omega | (dsimp only; omega) | (simp <;> omega))) rfl rfl pre0 rfl rfl ?_
          | refine hq_ 47 (hop_add rfl rfl) rfl rfl pre0 rfl rfl ?_
          refine hq_ 11 (hop_move rfl) rfl rfl pre0 rfl rfl ?_
          refine hseq_nil ?_
          exact hL5 ((k + 1, L.set (L.length - 1) val, n, _)) _ _ (by (try dsimp only); exact ⟨by omega, by simp [hnL], by rw [all_take l k (by omega), ← hL, stPut_yes (by omega) (by rw [hix] at htw; exact htw)], by omega, by rw [← stPut_yes (x := l.getD k St.none) (L := L) (by omega) (by rw [hix] at htw; exact htw)]; exact stPut_len hfew (few_get hl k (by omega))⟩) (by (try dsimp only); omega) (hsub_of rfl (Nat.le_refl _) (TmSub.cons rfl (Sb.refl _) (TmSub.cons rfl (Sb.refl _) (TmSub.cons rfl (Sb.refl _) (TmSub.cons rfl (Sb.refl _) TmSub.nil)))) (HpSub.cons rfl (OSub.of fun i j hi hj => by rw [hix]; exact sb_upd (l := L) (fun i j _ _ => .refl _) (fun j hj => (sb10 (by exact .refl _) (by exact .refl _) (by exact .refl _) (by exact .refl _) (by exact .refl _) (by exact .refl _) (by exact .refl _) (by exact .refl _) (by exact .refl _) (by exact .refl _)) j hj) i j (by simp; omega) hj) HpSub.nil))
        · have hr2 := hc2; (try simp only [decide_eq_true_eq, decide_eq_false_iff_not, Bool.and_eq_true, Bool.or_eq_true, Bool.not_eq_true', Bool.or_eq_false_iff, beq_iff_eq, bne_iff_ne, ne_eq, beq_eq_false_iff_ne, bne_eq_false_iff_eq, Bool.not_eq_true, Bool.not_eq_false, Bool.not_eq_false', Int.toNat_natCast, Int.reduceToNat] at hc2)
          exfalso; cases hr2
    · have hr1 := hc1; (try simp only [decide_eq_true_eq, decide_eq_false_iff_not, Bool.and_eq_true, Bool.or_eq_true, Bool.not_eq_true', Bool.or_eq_false_iff, beq_iff_eq, bne_iff_ne, ne_eq, beq_eq_false_iff_ne, bne_eq_false_iff_eq, Bool.not_eq_true, Bool.not_eq_false, Bool.not_eq_false', Int.toNat_natCast, Int.reduceToNat] at hc1)
      refine hw_skip ?_
      refine h10 _ ?_
      refine hw_seq (fun Nh18 h18 => ?_)
      refine hd_start ?_
      first
      | refine hd_q 35 (hop_fa fd_77_8 rfl) rfl rfl pre0 rfl rfl (k' := 1) rfl ?_
      | refine hd_q 35 (hop_fa_fp fd_77_8 rfl (by first | exact Nat.le_of_ble_eq_true rfl | omega | (dsimp only; omega) | (simp <;> omega))) rfl rfl pre0 rfl rfl (k' := 1) rfl ?_
      first
      | refine hd_q 36 (hol_load ty_26 rfl (by first | exact Nat.le_of_ble_eq_true rfl | omega | (dsimp only; omega) | (simp <;> omega)) (by first | exact Nat.le_of_ble_eq_true rfl | omega | (dsimp only; omega) | (simp <;> omega)) (fun h => by first | rfl | cases h)) rfl rfl (pre1 rfl) rfl rfl (k' := 2) rfl ?_
      | refine hd_q 36 (hop_load_fp ty_26 rfl (by first | exact Nat.le_of_ble_eq_true rfl | omega | (dsimp only; omega) | (simp <;> omega)) (fun h => by first | rfl | cases h)) rfl rfl pre0 rfl rfl (k' := 2) rfl ?_
      refine hd_q 37 (hop_call0 (xs := [_]) (clonet_h (l.getD k St.none).sl (by omega)) ⟨rfl, trivial⟩ ⟨(Fz.eq rfl), trivial⟩) rfl rfl pre0 rfl rfl (k' := 3) rfl ?_
      first
      | refine hd_q 38 (hop_fa fd_77_9 rfl) rfl rfl pre0 rfl rfl (k' := 4) rfl ?_
      | refine hd_q 38 (hop_fa_fp fd_77_9 rfl (by first | exact Nat.le_of_ble_eq_true rfl | omega | (dsimp only; omega) | (simp <;> omega))) rfl rfl pre0 rfl rfl (k' := 4) rfl ?_
      first
      | refine hd_q 39 (hol_load ty_75 rfl (by first | exact Nat.le_of_ble_eq_true rfl | omega | (dsimp only; omega) | (simp <;> omega)) (by first | exact Nat.le_of_ble_eq_true rfl | omega | (dsimp only; omega) | (simp <;> omega)) (fun h => by first | rfl | cases h)) rfl rfl (pre1 rfl) rfl rfl (k' := 5) rfl ?_
      | refine hd_q 39 (hop_load_fp ty_75 rfl (by first | exact Nat.le_of_ble_eq_true rfl | omega | (dsimp only; omega) | (simp <;> omega)) (fun h => by first | rfl | cases h)) rfl rfl pre0 rfl rfl (k' := 5) rfl ?_
      refine hd_q 40 (hop_call0 (xs := [_]) (clonem_h (l.getD k St.none).sets (by omega)) ⟨rfl, trivial⟩ ⟨(Fz.eq rfl), trivial⟩) rfl rfl pre0 rfl rfl (k' := 6) rfl ?_
      first
      | refine hd_q 41 (hop_fa fd_77_8 rfl) rfl rfl pre0 rfl rfl (k' := 7) rfl ?_
      | refine hd_q 41 (hop_fa_fp fd_77_8 rfl (by first | exact Nat.le_of_ble_eq_true rfl | omega | (dsimp only; omega) | (simp <;> omega))) rfl rfl pre0 rfl rfl (k' := 7) rfl ?_
      first
      | refine hd_s1 (hol_storeW ty_26 rfl rfl rfl rfl) rfl rfl (pre1 rfl) (k' := 8) rfl ?_
      | refine hd_s1 (hol_store ty_26 rfl rfl rfl rfl (by first | exact Nat.le_of_ble_eq_true rfl | omega | (dsimp only; omega) | (simp <;> omega)) (by first | exact Nat.le_of_ble_eq_true rfl | omega | (dsimp only; omega) | (simp <;> omega)) (by first | exact Nat.le_of_ble_eq_true rfl | omega | (dsimp only; omega) | (simp <;> omega))) rfl rfl (pre1 rfl) (k' := 8) rfl ?_
      first
      | refine hd_q 42 (hop_fa fd_77_9 rfl) rfl rfl pre0 rfl rfl (k' := 9) rfl ?_
      | refine hd_q 42 (hop_fa_fp fd_77_9 rfl (by first | exact Nat.le_of_ble_eq_true rfl | omega | (dsimp only; omega) | (simp <;> omega))) rfl rfl pre0 rfl rfl (k' := 9) rfl ?_
      first
      | refine hd_s1 (hol_storeW ty_75 rfl rfl rfl rfl) rfl rfl (pre1 rfl) (k' := 10) rfl ?_
      | refine hd_s1 (hol_store ty_75 rfl rfl rfl rfl (by first | exact Nat.le_of_ble_eq_true rfl | omega | (dsimp only; omega) | (simp <;> omega)) (by first | exact Nat.le_of_ble_eq_true rfl | omega | (dsimp only; omega) | (simp <;> omega)) (by first | exact Nat.le_of_ble_eq_true rfl | omega | (dsimp only; omega) | (simp <;> omega))) rfl rfl (pre1 rfl) (k' := 10) rfl ?_
      refine hd_nil (by kernel_rfl) (by kernel_rfl) (c' := c + 12) rfl ?_
      refine h18 _ ?_
      refine hw_region ?_
      refine hq_ 43 (hop_move rfl) rfl rfl pre0 rfl rfl ?_
      first
      | refine hq_ 44 (hol_load ty_77 rfl (by first | exact Nat.le_of_ble_eq_true rfl | omega | (dsimp only; omega) | (simp <;> omega)) (by first | exact Nat.le_of_ble_eq_true rfl | omega | (dsimp only; omega) | (simp <;> omega)) (fun h => by first | rfl | cases h)) rfl rfl (pre1 rfl) rfl rfl ?_
      | refine hq_ 44 (hop_load_fp ty_77 rfl (by first | exact Nat.le_of_ble_eq_true rfl | omega | (dsimp only; omega) | (simp <;> omega)) (fun h => by first | rfl | cases h)) rfl rfl pre0 rfl rfl ?_
      refine hm_1 45 (hop_buildSlice (id := 45) (hs := [_]) ei_73 (by first | exact Nat.le_of_ble_eq_true rfl | omega | (dsimp only; omega) | (simp <;> omega)) rfl (by first | exact Nat.le_of_ble_eq_true rfl | omega | (dsimp only; omega) | (simp <;> omega)) ⟨rfl, rfl, rfl, rfl, trivial⟩) rfl rfl pre0 rfl rfl (c' := c + 13) rfl ?_
      first
      | refine hm_1 46 (hol_append ei_73 (by first | exact Nat.le_of_ble_eq_true rfl | omega | (dsimp only; omega) | (simp <;> omega)) rfl (by first | exact Nat.le_of_ble_eq_true rfl | omega | (dsimp only; omega) | (simp <;> omega)) (by first | exact Nat.le_of_ble_eq_true rfl | omega | (dsimp only; omega) | (simp <;> omega)) (srl_os0 rfl (by first | exact Nat.le_of_ble_eq_true rfl | omega | (dsimp only; omega) | (simp <;> omega))) (by first | exact Nat.le_of_ble_eq_true rfl | omega | (dsimp only; omega) | (simp <;> omega)) rfl) rfl rfl (preC rfl (pre1 rfl)) rfl rfl (c' := c + 14) rfl ?_
      | refine hm_1 46 (hol_append ei_73 (by first | exact Nat.le_of_ble_eq_true rfl | omega | (dsimp only; omega) | (simp <;> omega)) rfl (by first | exact Nat.le_of_ble_eq_true rfl | omega | (dsimp only; omega) | (simp <;> omega)) (by first | exact Nat.le_of_ble_eq_true rfl | omega | (dsimp only; omega) | (simp <;> omega)) (srl_os rfl (by first | exact Nat.le_of_ble_eq_true rfl | omega | (dsimp only; omega) | (simp <;> omega))) (by first | exact Nat.le_of_ble_eq_true rfl | omega | (dsimp only; omega) | (simp <;> omega)) rfl) rfl rfl (preC rfl (pre1 rfl)) rfl rfl (c' := c + 14) rfl ?_
      | refine hm_1 46 (hol_append ei_73 (by first | exact Nat.le_of_ble_eq_true rfl | omega | (dsimp only; omega) | (simp <;> omega)) rfl (by first | exact Nat.le_of_ble_eq_true rfl | omega | (dsimp only; omega) | (simp <;> omega)) (by first | exact Nat.le_of_ble_eq_true rfl | omega | (dsimp only; omega) | (simp <;> omega)) (src_sl rfl) (by first | exact Nat.le_of_ble_eq_true rfl | omega | (dsimp only; omega) | (simp <;> omega)) rfl) rfl rfl (preC rfl pre0) rfl rfl (c' := c + 14) rfl ?_
      | refine hm_1 46 (hol_append ei_73 (by first | exact Nat.le_of_ble_eq_true rfl | omega | (dsimp only; omega) | (simp <;> omega)) rfl (by first | exact Nat.le_of_ble_eq_true rfl | omega | (dsimp only; omega) | (simp <;> omega)) (by first | exact Nat.le_of_ble_eq_true rfl | omega | (dsimp only; omega) | (simp <;> omega)) (src_nil 10 (fun _ _ => default) rfl) (by first | exact Nat.le_of_ble_eq_true rfl | omega | (dsimp only; omega) | (simp <;> omega)) rfl) rfl rfl (preC rfl pre0) rfl rfl (c' := c + 14) rfl ?_
      refine hq_ 3 (hop_assign rfl) rfl rfl pre0 rfl rfl ?_
      refine hseq_nil ?_
      refine hq_block ?_
      refine h8 _ ?_
      refine hw_region ?_
      first
      | refine hq_ 47 (hop_addi rfl rfl rfl (by first | exact Nat.le_of_ble_eq_true rfl | omega | (dsimp only; omega) | (simp <;> omega)) (by first | exact Nat.le_of_ble_eq_true rfl | omega | (dsimp only; omega) | (simp <;> omega))) rfl rfl pre0 rfl rfl ?_
      | refine hq_ 47 (hop_add rfl rfl) rfl rfl pre0 rfl rfl ?_
      refine hq_ 11 (hop_move rfl) rfl rfl pre0 rfl rfl ?_
      refine hseq_nil ?_
      exact hL5 ((k + 1, L ++ [l.getD k St.none], n + 1, _)) _ _ (by (try dsimp only); exact ⟨by omega, by simp [hnL], by rw [all_take l k (by omega), ← hL, stPut_none (by omega)], by omega, by rw [← stPut_none (x := l.getD k St.none) (L := L) (by omega)]; exact stPut_len hfew (few_get hl k (by omega))⟩) (by (try dsimp only); omega) (hsub_of rfl (Nat.le_refl _) (TmSub.cons rfl (Sb.refl _) (TmSub.cons rfl (Sb.refl _) (TmSub.cons rfl (Sb.refl _) (TmSub.cons rfl (Sb.refl _) TmSub.nil)))) (HpSub.cons rfl (OSub.of fun i j hi hj => sb_cat (l := L) (k := [l.getD k St.none]) hnL (fun i j _ _ => .refl _) (sb_one (fun j hj => (sb10 (by exact .refl _) (by exact .refl _) (by exact .refl _) (by exact .refl _) (by exact .refl _) (by exact .refl _) (by exact .refl _) (by exact .refl _) (by exact .refl _) (by exact .refl _)) j hj)) i j (by simp; omega) hj) HpSub.nil))
  · have hr0 := hc0; (try simp only [decide_eq_true_eq, decide_eq_false_iff_not, Bool.and_eq_true, Bool.or_eq_true, Bool.not_eq_true', Bool.or_eq_false_iff, beq_iff_eq, bne_iff_ne, ne_eq, beq_eq_false_iff_ne, bne_eq_false_iff_eq, Bool.not_eq_true, Bool.not_eq_false, Bool.not_eq_false', Int.toNat_natCast, Int.reduceToNat] at hc0)
    refine hw_exit ?_
    refine hq_then_exit ?_
    refine hq_then_exit ?_
    refine hq_block_here ?_
    refine h3 _ ?_
    refine hw_seq (fun Nh19 h19 => ?_)
    refine hw_region ?_
    refine hq_ 48 (hop_move rfl) rfl rfl pre0 rfl rfl ?_
    refine hq_ 2 (hop_assign rfl) rfl rfl pre0 rfl rfl ?_
    refine hseq_nil ?_
    refine h19 _ ?_
    refine hw_ret ?_
    refine hq_ret1 rfl (rval_tmp rfl) [(3, _)] rfl (preC rfl pre0) ?_
    have hkl : k = l.length := (by omega); subst hkl; rw [List.take_length] at hL; have e : allV_ l = L := hL.symm; rw [e]; exact fz_row (l := L) (enc := stF) (d := St.none) (List.mem_cons_self ..) rfl hnL (Nat.le_refl _) (fun i j _ _ => fz_stF _ _)
end Go.Proofs.Ytkeeipfglmpgjaa
