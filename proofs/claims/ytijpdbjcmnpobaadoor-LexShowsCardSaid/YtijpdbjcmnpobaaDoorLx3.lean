/-
  The reader of signs: names, signs of one byte, any sign.
-/
import Derived.Test.YtijpdbjcmnpobaaDoorLx2
namespace Go.Proofs.YtijpdbjcmnpobaaDoor
set_option linter.unusedSimpArgs false
set_option linter.unusedVariables false
set_option maxRecDepth 100000
open Go.RowKit

@[reducible] def sg0 : Nat → Nat → HV := fun _ j => .imm (([.int .i64 0, .int .i64 0, .int .i64 0, .int .i64 0, .string ByteArray.empty] : List Value).getD j undef)
theorem name_h (c0 g : Nat) (s : List UInt8) (i : Nat) (hs : s.length ≤ 1000000) (hi : smallZ (bz s i) = true) : HFun Tryd.prog 78 c0 [.pt 9001 g 0 0] [(9001, rdO g s i)] (SgP (nameR s i) g s) := by
  have hil := small_lt hi
  refine hfun_of Tryd.func78 rfl (by kernel_rfl) _ _ _ _ rfl 52 rfl rfl (fun X ok hX => ?_)
  refine hw_seq (fun Nh1 h1 => ?_)
  refine hw_region ?_
  refine hm_1 2 (hop_alloc (id := 2) (sz := 5) zc_41 rfl rfl (by first | exact Nat.le_of_ble_eq_true rfl | omega | (dsimp only; omega) | (simp <;> omega)) (by first | exact Nat.le_of_ble_eq_true rfl | omega | (dsimp only; omega) | (simp <;> omega))) rfl rfl pre0 rfl rfl (c' := c0 + 1) rfl ?_
  refine hseq_nil ?_
  refine h1 _ ?_
  refine hw_seq (fun Nh2 h2 => ?_)
  refine hw_region ?_
  refine hq_ 4 (hop_move rfl) rfl rfl pre0 rfl rfl ?_
  first
  | refine hq_ 5 (hop_nilcheck_pt rfl) rfl rfl pre0 rfl rfl ?_
  | refine hq_ 5 (hop_nilcheck_fp rfl) rfl rfl pre0 rfl rfl ?_
  first
  | refine hq_ 6 (hop_fa fd_89_1 rfl) rfl rfl pre0 rfl rfl ?_
  | refine hq_ 6 (hop_fa_fp fd_89_1 rfl (by first | exact Nat.le_of_ble_eq_true rfl | omega | (dsimp only; omega) | (simp <;> omega))) rfl rfl pre0 rfl rfl ?_
  first
  | refine hq_ 7 (hol_load ty_3 rfl (by first | exact Nat.le_of_ble_eq_true rfl | omega | (dsimp only; omega) | (simp <;> omega)) (by first | exact Nat.le_of_ble_eq_true rfl | omega | (dsimp only; omega) | (simp <;> omega)) (fun h => by first | rfl | cases h)) rfl rfl (pre1 rfl) rfl rfl ?_
  | refine hq_ 7 (hop_load_fp ty_3 rfl (by first | exact Nat.le_of_ble_eq_true rfl | omega | (dsimp only; omega) | (simp <;> omega)) (fun h => by first | rfl | cases h)) rfl rfl pre0 rfl rfl ?_
  refine hq_ 3 (hop_assign rfl) rfl rfl pre0 rfl rfl ?_
  refine hseq_nil ?_
  refine h2 _ ?_
  refine hw_seq (fun Nh3 h3 => ?_)
  refine hw_block ?_
  refine hw_loopc (α := Nat) (fun x c => ⟨52, [(0, .v (.pt 9001 g 0 0)), (2, .v (.pt 2 c0 0 0)), (3, .v (intV i))], [(9001, rdO g s (i + x)), (2, ⟨c0, 1, 5, 41, 0, sg0⟩)], c⟩) (fun x => x ≤ 12 ∧ i + x ≤ s.length ∧ (∀ j, j < x → alnumZ (bz s (i + j)) = true)) (fun x => 12 - x) (0) (by exact ⟨by omega, by omega, fun j h => absurd h (by omega)⟩) (hsub_of rfl (Nat.le_refl _) (TmSub.cons rfl (Sb.refl _) (TmSub.cons rfl (Sb.refl _) (TmSub.cons rfl (Sb.refl _) TmSub.nil))) (HpSub.cons rfl (OSub.refl _) (HpSub.cons rfl (OSub.refl _) HpSub.nil))) (fun k c hx NhL4 hL4 => ?_)
  (try dsimp only at hx hL4 ⊢)
  obtain ⟨hk, hik, hal⟩ := hx
  refine hw_seq (fun Nh5 h5 => ?_)
  refine hw_seq (fun Nh6 h6 => ?_)
  refine hw_region ?_
  refine hq_ 8 (hop_move rfl) rfl rfl pre0 rfl rfl ?_
  refine hq_ 9 (hop_funR (xs := [_]) (pre := [(9001, _)]) (peek_h g s (i + k) hs hik) ⟨rfl, trivial⟩) rfl rfl (preC rfl pre0) rfl rfl ?_
  refine hq_ 10 (hop_call0 (xs := [_]) (small_h _) ⟨rfl, trivial⟩ ⟨(Fz.eq rfl), trivial⟩) rfl rfl pre0 rfl rfl ?_
  refine hq_ 11 (hop_move rfl) rfl rfl pre0 rfl rfl ?_
  first
  | refine hq_g 12 3 11 false _ (fun hb => hop_move rfl) rfl rfl rfl rfl pre0 rfl rfl rfl ?_
  | refine hq_g2 12 3 11 _ _ false _ (fun hb => hop_move rfl) rfl rfl rfl rfl pre0 rfl rfl rfl ?_
  first
  | refine hq_g 13 3 11 false _ (fun hb => hop_nilcheck_pt rfl) rfl rfl rfl rfl pre0 rfl rfl rfl ?_
  | refine hq_g2 13 3 11 _ _ false _ (fun hb => hop_nilcheck_pt rfl) rfl rfl rfl rfl pre0 rfl rfl rfl ?_
  | refine hq_g 13 3 11 false _ (fun hb => hop_nilcheck_fp rfl) rfl rfl rfl rfl pre0 rfl rfl rfl ?_
  | refine hq_g2 13 3 11 _ _ false _ (fun hb => hop_nilcheck_fp rfl) rfl rfl rfl rfl pre0 rfl rfl rfl ?_
  first
  | refine hq_g 14 3 11 false _ (fun hb => hop_fa fd_89_1 rfl) rfl rfl rfl rfl pre0 rfl rfl rfl ?_
  | refine hq_g2 14 3 11 _ _ false _ (fun hb => hop_fa fd_89_1 rfl) rfl rfl rfl rfl pre0 rfl rfl rfl ?_
  | refine hq_g 14 3 11 false _ (fun hb => hop_fa_fp fd_89_1 rfl (by first | exact Nat.le_of_ble_eq_true rfl | (simp at hb; first | omega | (dsimp only; omega) | (simp <;> omega)))) rfl rfl rfl rfl pre0 rfl rfl rfl ?_
  | refine hq_g2 14 3 11 _ _ false _ (fun hb => hop_fa_fp fd_89_1 rfl (by first | exact Nat.le_of_ble_eq_true rfl | (simp at hb; first | omega | (dsimp only; omega) | (simp <;> omega)))) rfl rfl rfl rfl pre0 rfl rfl rfl ?_
  first
  | refine hq_g 15 3 11 false _ (fun hb => hol_load ty_3 rfl (by first | exact Nat.le_of_ble_eq_true rfl | (simp at hb; first | omega | (dsimp only; omega) | (simp <;> omega))) (by first | exact Nat.le_of_ble_eq_true rfl | (simp at hb; first | omega | (dsimp only; omega) | (simp <;> omega))) (fun h => by first | rfl | cases h)) rfl rfl rfl rfl (pre1 rfl) rfl rfl rfl ?_
  | refine hq_g2 15 3 11 _ _ false _ (fun hb => hol_load ty_3 rfl (by first | exact Nat.le_of_ble_eq_true rfl | (simp at hb; first | omega | (dsimp only; omega) | (simp <;> omega))) (by first | exact Nat.le_of_ble_eq_true rfl | (simp at hb; first | omega | (dsimp only; omega) | (simp <;> omega))) (fun h => by first | rfl | cases h)) rfl rfl rfl rfl (pre1 rfl) rfl rfl rfl ?_
  | refine hq_g 15 3 11 false _ (fun hb => hop_load_fp ty_3 rfl (by first | exact Nat.le_of_ble_eq_true rfl | (simp at hb; first | omega | (dsimp only; omega) | (simp <;> omega))) (fun h => by first | rfl | cases h)) rfl rfl rfl rfl pre0 rfl rfl rfl ?_
  | refine hq_g2 15 3 11 _ _ false _ (fun hb => hop_load_fp ty_3 rfl (by first | exact Nat.le_of_ble_eq_true rfl | (simp at hb; first | omega | (dsimp only; omega) | (simp <;> omega))) (fun h => by first | rfl | cases h)) rfl rfl rfl rfl pre0 rfl rfl rfl ?_
  first
  | refine hq_g 16 3 11 false _ (fun hb => hop_move rfl) rfl rfl rfl rfl pre0 rfl rfl rfl ?_
  | refine hq_g2 16 3 11 _ _ false _ (fun hb => hop_move rfl) rfl rfl rfl rfl pre0 rfl rfl rfl ?_
  first
  | refine hq_g 17 3 11 false _ (fun hb => hop_gtr rfl rfl) rfl rfl rfl rfl pre0 rfl rfl rfl ?_
  | refine hq_g2 17 3 11 _ _ false _ (fun hb => hop_gtr rfl rfl) rfl rfl rfl rfl pre0 rfl rfl rfl ?_
  first
  | refine hq_g 18 3 11 false _ (fun hb => hop_move rfl) rfl rfl rfl rfl pre0 rfl rfl rfl ?_
  | refine hq_g2 18 3 11 _ _ false _ (fun hb => hop_move rfl) rfl rfl rfl rfl pre0 rfl rfl rfl ?_
  first
  | refine hq_g 19 10 18 true _ (fun hb => hop_move rfl) rfl rfl rfl rfl pre0 rfl rfl rfl ?_
  | refine hq_g3 19 10 18 11 false true _ _ (fun hb hb2 => hop_move rfl) rfl rfl rfl rfl rfl pre0 rfl rfl rfl ?_
  | refine hq_g2 19 10 18 _ _ true _ (fun hb => hop_move rfl) rfl rfl rfl rfl pre0 rfl rfl rfl ?_
  first
  | refine hq_g 20 10 18 true _ (fun hb => hop_funR (xs := [_]) (pre := [(9001, _)]) (peek_h g s (i + k) hs hik) ⟨rfl, trivial⟩) rfl rfl rfl rfl (preC rfl pre0) rfl rfl rfl ?_
  | refine hq_g3 20 10 18 11 false true _ _ (fun hb hb2 => hop_funR (xs := [_]) (pre := [(9001, _)]) (peek_h g s (i + k) hs hik) ⟨rfl, trivial⟩) rfl rfl rfl rfl rfl (preC rfl pre0) rfl rfl rfl ?_
  | refine hq_g2 20 10 18 _ _ true _ (fun hb => hop_funR (xs := [_]) (pre := [(9001, _)]) (peek_h g s (i + k) hs hik) ⟨rfl, trivial⟩) rfl rfl rfl rfl (preC rfl pre0) rfl rfl rfl ?_
  first
  | refine hq_g 21 10 18 true _ (fun hb => hop_call0 (xs := [_]) (digit_h _) ⟨rfl, trivial⟩ ⟨(Fz.eq rfl), trivial⟩) rfl rfl rfl rfl pre0 rfl rfl rfl ?_
  | refine hq_g3 21 10 18 11 false true _ _ (fun hb hb2 => hop_call0 (xs := [_]) (digit_h _) ⟨rfl, trivial⟩ ⟨(Fz.eq rfl), trivial⟩) rfl rfl rfl rfl rfl pre0 rfl rfl rfl ?_
  | refine hq_g2 21 10 18 _ _ true _ (fun hb => hop_call0 (xs := [_]) (digit_h _) ⟨rfl, trivial⟩ ⟨(Fz.eq rfl), trivial⟩) rfl rfl rfl rfl pre0 rfl rfl rfl ?_
  first
  | refine hq_pg 22 (hstep_andg (gi := 3) (j := 11) _ _ rfl rfl rfl rfl) rfl rfl rfl rfl ?_
  | refine hq_pg 22 (hstep_org (gi := 3) (j := 11) _ _ rfl rfl rfl rfl) rfl rfl rfl rfl ?_
  | refine hq_pg 22 (hstep_pickg (gi := 3) (j := 11) _ _ _ _ rfl rfl rfl rfl (fun _ => .refl _) (fun _ => .refl _)) rfl rfl rfl rfl ?_
  first
  | refine hq_p 23 (hstep_and _ _ rfl rfl rfl) rfl rfl rfl ?_
  | refine hq_p 23 (hstep_or _ _ rfl rfl rfl) rfl rfl rfl ?_
  | refine hq_p 23 (hstep_ite _ _ _ rfl rfl rfl) rfl rfl rfl ?_
  | refine hq_p 23 (hstep_pick _ _ _ _ rfl rfl rfl (fun _ => .refl _) (fun _ => .refl _)) rfl rfl rfl ?_
  refine hseq_nilU (by rfl) (by simp only [dropUn, slots]; exact rfl) ?_
  refine h6 _ ?_
  refine hw_cond _ rfl (fun hc0 => ?_) (fun hc0 => ?_)
  · have hr0 := hc0; (try simp only [decide_eq_true_eq, decide_eq_false_iff_not, Bool.and_eq_true, Bool.or_eq_true, Bool.not_eq_true', Bool.or_eq_false_iff, beq_iff_eq, bne_iff_ne, ne_eq, beq_eq_false_iff_ne, bne_eq_false_iff_eq, Bool.not_eq_true, Bool.not_eq_false, Bool.not_eq_false', Int.toNat_natCast, Int.reduceToNat] at hc0)
    have hall : alnumZ (bz s (i + k)) = true := (by unfold alnumZ; rw [Bool.or_eq_true]; rcases hc0 with h | h; exact .inl h; exact .inr h.2); have hlt : i + k < s.length := bz_lt (fun h => by rw [h] at hall; exact absurd hall (by decide))
    refine hw_skip ?_
    refine h5 _ ?_
    refine hw_block ?_
    refine hw_seq (fun Nh7 h7 => ?_)
    refine hw_seq (fun Nh8 h8 => ?_)
    refine hw_region ?_
    refine hq_ 24 (hop_move rfl) rfl rfl pre0 rfl rfl ?_
    first
    | refine hq_ 25 (hop_nilcheck_pt rfl) rfl rfl pre0 rfl rfl ?_
    | refine hq_ 25 (hop_nilcheck_fp rfl) rfl rfl pre0 rfl rfl ?_
    first
    | refine hq_ 26 (hop_fa fd_89_1 rfl) rfl rfl pre0 rfl rfl ?_
    | refine hq_ 26 (hop_fa_fp fd_89_1 rfl (by first | exact Nat.le_of_ble_eq_true rfl | omega | (dsimp only; omega) | (simp <;> omega))) rfl rfl pre0 rfl rfl ?_
    first
    | refine hq_ 27 (hol_load ty_3 rfl (by first | exact Nat.le_of_ble_eq_true rfl | omega | (dsimp only; omega) | (simp <;> omega)) (by first | exact Nat.le_of_ble_eq_true rfl | omega | (dsimp only; omega) | (simp <;> omega)) (fun h => by first | rfl | cases h)) rfl rfl (pre1 rfl) rfl rfl ?_
    | refine hq_ 27 (hop_load_fp ty_3 rfl (by first | exact Nat.le_of_ble_eq_true rfl | omega | (dsimp only; omega) | (simp <;> omega)) (fun h => by first | rfl | cases h)) rfl rfl pre0 rfl rfl ?_
    refine hq_ 28 (hop_move rfl) rfl rfl pre0 rfl rfl ?_
    first
    | refine hq_ 29 (hop_subi rfl rfl rfl (by first | exact Nat.le_of_ble_eq_true rfl | omega | (dsimp only; omega) | (simp <;> omega)) (by first | exact Nat.le_of_ble_eq_true rfl | omega | (dsimp only; omega) | (simp <;> omega))) rfl rfl pre0 rfl rfl ?_
    | refine hq_ 29 (hop_sub rfl rfl) rfl rfl pre0 rfl rfl ?_
    refine hq_ 30 (hop_eql rfl rfl) rfl rfl pre0 rfl rfl ?_
    refine hseq_nil ?_
    refine h8 _ ?_
    refine hw_cond _ rfl (fun hc1 => ?_) (fun hc1 => ?_)
    · have hr1 := hc1; (try simp only [decide_eq_true_eq, decide_eq_false_iff_not, Bool.and_eq_true, Bool.or_eq_true, Bool.not_eq_true', Bool.or_eq_false_iff, beq_iff_eq, bne_iff_ne, ne_eq, beq_eq_false_iff_ne, bne_eq_false_iff_eq, Bool.not_eq_true, Bool.not_eq_false, Bool.not_eq_false', Int.toNat_natCast, Int.reduceToNat] at hc1)
      refine hw_region ?_
      refine hq_ 31 (hop_move rfl) rfl rfl pre0 rfl rfl ?_
      refine hf_callP (xs := [_]) (pre := [(9001, _)]) (odd_h _ g s (i + k) hs hik) ⟨rfl, trivial⟩ (preC rfl pre0) (fun y c1 hy => ?_)
      refine (hpan_then (hpan_block (hpan_then (hpan_block (hpan_then ?_)))))
      obtain rfl : k = 12 := (by omega); exact hf_panR ok hX (y, i + 12) (by rw [hy, wrong_in hlt]; exact name_long (fun j hj => by rcases Nat.lt_or_ge j 12 with h | h; exact hal j h; obtain rfl : j = 12 := (by omega); exact hall)) rfl (kz_fault _) ⟨⟨_, rfl, kz_rd⟩, trivial⟩
    · have hr1 := hc1; (try simp only [decide_eq_true_eq, decide_eq_false_iff_not, Bool.and_eq_true, Bool.or_eq_true, Bool.not_eq_true', Bool.or_eq_false_iff, beq_iff_eq, bne_iff_ne, ne_eq, beq_eq_false_iff_ne, bne_eq_false_iff_eq, Bool.not_eq_true, Bool.not_eq_false, Bool.not_eq_false', Int.toNat_natCast, Int.reduceToNat] at hc1)
      refine hw_skip ?_
      refine h7 _ ?_
      refine hw_region ?_
      refine hq_ 33 (hop_move rfl) rfl rfl pre0 rfl rfl ?_
      first
      | refine hq_ 34 (hop_nilcheck_pt rfl) rfl rfl pre0 rfl rfl ?_
      | refine hq_ 34 (hop_nilcheck_fp rfl) rfl rfl pre0 rfl rfl ?_
      first
      | refine hq_ 35 (hop_fa fd_89_1 rfl) rfl rfl pre0 rfl rfl ?_
      | refine hq_ 35 (hop_fa_fp fd_89_1 rfl (by first | exact Nat.le_of_ble_eq_true rfl | omega | (dsimp only; omega) | (simp <;> omega))) rfl rfl pre0 rfl rfl ?_
      first
      | refine hq_ 36 (hol_load ty_3 rfl (by first | exact Nat.le_of_ble_eq_true rfl | omega | (dsimp only; omega) | (simp <;> omega)) (by first | exact Nat.le_of_ble_eq_true rfl | omega | (dsimp only; omega) | (simp <;> omega)) (fun h => by first | rfl | cases h)) rfl rfl (pre1 rfl) rfl rfl ?_
      | refine hq_ 36 (hop_load_fp ty_3 rfl (by first | exact Nat.le_of_ble_eq_true rfl | omega | (dsimp only; omega) | (simp <;> omega)) (fun h => by first | rfl | cases h)) rfl rfl pre0 rfl rfl ?_
      first
      | refine hq_ 37 (hop_addi rfl rfl rfl (by first | exact Nat.le_of_ble_eq_true rfl | omega | (dsimp only; omega) | (simp <;> omega)) (by first | exact Nat.le_of_ble_eq_true rfl | omega | (dsimp only; omega) | (simp <;> omega))) rfl rfl pre0 rfl rfl ?_
      | refine hq_ 37 (hop_add rfl rfl) rfl rfl pre0 rfl rfl ?_
      first
      | refine hq_ 38 (hop_nilcheck_pt rfl) rfl rfl pre0 rfl rfl ?_
      | refine hq_ 38 (hop_nilcheck_fp rfl) rfl rfl pre0 rfl rfl ?_
      first
      | refine hq_ 39 (hop_fa fd_89_1 rfl) rfl rfl pre0 rfl rfl ?_
      | refine hq_ 39 (hop_fa_fp fd_89_1 rfl (by first | exact Nat.le_of_ble_eq_true rfl | omega | (dsimp only; omega) | (simp <;> omega))) rfl rfl pre0 rfl rfl ?_
      first
      | refine hm_s1 (hol_storeW ty_3 rfl rfl rfl rfl) rfl rfl (pre1 rfl) (c' := c + 1) rfl ?_
      | refine hm_s1 (hol_store ty_3 rfl rfl rfl rfl (by first | exact Nat.le_of_ble_eq_true rfl | omega | (dsimp only; omega) | (simp <;> omega)) (by first | exact Nat.le_of_ble_eq_true rfl | omega | (dsimp only; omega) | (simp <;> omega)) (by first | exact Nat.le_of_ble_eq_true rfl | omega | (dsimp only; omega) | (simp <;> omega))) rfl rfl (pre1 rfl) (c' := c + 1) rfl ?_
      refine hseq_nil ?_
      refine hq_block ?_
      exact hL4 (k + 1) _ _ (by (try dsimp only); exact ⟨by omega, by omega, fun j hj => by rcases Nat.lt_or_ge j k with h | h; exact hal j h; obtain rfl : j = k := (by omega); exact hall⟩) (by (try dsimp only); omega) (hsub_of rfl (Nat.le_refl _) (TmSub.cons rfl (Sb.refl _) (TmSub.cons rfl (Sb.refl _) (TmSub.cons rfl (Sb.refl _) TmSub.nil))) (HpSub.cons rfl (osub2 (.refl _) (sb_int (by omega))) (HpSub.cons rfl (OSub.refl _) HpSub.nil)))
  · have hr0 := hc0; (try simp only [decide_eq_true_eq, decide_eq_false_iff_not, Bool.and_eq_true, Bool.or_eq_true, Bool.not_eq_true', Bool.or_eq_false_iff, beq_iff_eq, bne_iff_ne, ne_eq, beq_eq_false_iff_ne, bne_eq_false_iff_eq, Bool.not_eq_true, Bool.not_eq_false, Bool.not_eq_false', Int.toNat_natCast, Int.reduceToNat] at hc0)
    have hno : alnumZ (bz s (i + k)) = false := (by unfold alnumZ; rw [hc0.1, Bool.false_or]; have h2 := hc0.2; rcases Nat.eq_zero_or_pos k with h | h; subst h; rw [Nat.add_zero] at hc0; rw [hi] at hc0; exact absurd hc0.1 (by decide); rw [show decide ((i : Int) < ((i + k : Nat) : Int)) = true from decide_eq_true (by omega), Bool.true_and] at h2; exact h2)
    refine hw_exit ?_
    refine hq_then_exit ?_
    refine hq_then_exit ?_
    refine hq_block_here ?_
    refine h3 _ ?_
    refine hw_seq (fun Nh9 h9 => ?_)
    refine hd_start ?_
    refine hd_q 40 (hop_move rfl) rfl rfl pre0 rfl rfl (k' := 1) rfl ?_
    refine hd_q 41 (hop_move rfl) rfl rfl pre0 rfl rfl (k' := 2) rfl ?_
    first
    | refine hd_q 42 (hop_nilcheck_pt rfl) rfl rfl pre0 rfl rfl (k' := 3) rfl ?_
    | refine hd_q 42 (hop_nilcheck_fp rfl) rfl rfl pre0 rfl rfl (k' := 3) rfl ?_
    first
    | refine hd_q 43 (hop_fa fd_89_0 rfl) rfl rfl pre0 rfl rfl (k' := 4) rfl ?_
    | refine hd_q 43 (hop_fa_fp fd_89_0 rfl (by first | exact Nat.le_of_ble_eq_true rfl | omega | (dsimp only; omega) | (simp <;> omega))) rfl rfl pre0 rfl rfl (k' := 4) rfl ?_
    first
    | refine hd_q 44 (hol_load ty_9 rfl (by first | exact Nat.le_of_ble_eq_true rfl | omega | (dsimp only; omega) | (simp <;> omega)) (by first | exact Nat.le_of_ble_eq_true rfl | omega | (dsimp only; omega) | (simp <;> omega)) (fun h => by first | rfl | cases h)) rfl rfl (pre1 rfl) rfl rfl (k' := 5) rfl ?_
    | refine hd_q 44 (hop_load_fp ty_9 rfl (by first | exact Nat.le_of_ble_eq_true rfl | omega | (dsimp only; omega) | (simp <;> omega)) (fun h => by first | rfl | cases h)) rfl rfl pre0 rfl rfl (k' := 5) rfl ?_
    refine hd_q 45 (hop_move rfl) rfl rfl pre0 rfl rfl (k' := 6) rfl ?_
    refine hd_q 46 (hop_move rfl) rfl rfl pre0 rfl rfl (k' := 7) rfl ?_
    first
    | refine hd_q 47 (hop_nilcheck_pt rfl) rfl rfl pre0 rfl rfl (k' := 8) rfl ?_
    | refine hd_q 47 (hop_nilcheck_fp rfl) rfl rfl pre0 rfl rfl (k' := 8) rfl ?_
    first
    | refine hd_q 48 (hop_fa fd_89_1 rfl) rfl rfl pre0 rfl rfl (k' := 9) rfl ?_
    | refine hd_q 48 (hop_fa_fp fd_89_1 rfl (by first | exact Nat.le_of_ble_eq_true rfl | omega | (dsimp only; omega) | (simp <;> omega))) rfl rfl pre0 rfl rfl (k' := 9) rfl ?_
    first
    | refine hd_q 49 (hol_load ty_3 rfl (by first | exact Nat.le_of_ble_eq_true rfl | omega | (dsimp only; omega) | (simp <;> omega)) (by first | exact Nat.le_of_ble_eq_true rfl | omega | (dsimp only; omega) | (simp <;> omega)) (fun h => by first | rfl | cases h)) rfl rfl (pre1 rfl) rfl rfl (k' := 10) rfl ?_
    | refine hd_q 49 (hop_load_fp ty_3 rfl (by first | exact Nat.le_of_ble_eq_true rfl | omega | (dsimp only; omega) | (simp <;> omega)) (fun h => by first | rfl | cases h)) rfl rfl pre0 rfl rfl (k' := 10) rfl ?_
    refine hd_q 50 (hop_cut_strl (by kernel_rfl) rfl (.inr ⟨_, _, rfl, rfl⟩) (.inr ⟨_, _, rfl, rfl⟩) (by first | exact Nat.le_of_ble_eq_true rfl | omega | (dsimp only; omega) | (simp <;> omega)) (by first | exact Nat.le_of_ble_eq_true rfl | omega | (dsimp only; omega) | (simp <;> omega)) (by first | exact Nat.le_of_ble_eq_true rfl | omega | (dsimp only; omega) | (simp <;> omega))) rfl rfl pre0 rfl rfl (k' := 11) rfl ?_
    refine hd_q 51 (hop_build (hs := [(0, 1, _), (1, 1, _), (4, 1, _)]) st_41 rfl rfl ⟨rfl, rfl, rfl, rfl, rfl, ⟨rfl, rfl, rfl, rfl, rfl, ⟨rfl, rfl, rfl, rfl, rfl, trivial⟩⟩⟩) rfl rfl pre0 rfl rfl (k' := 12) rfl ?_
    first
    | refine hd_s1 (hol_storeW ty_41 rfl rfl rfl rfl) rfl rfl (pre1 rfl) (k' := 13) rfl ?_
    | refine hd_s1 (hol_store ty_41 rfl rfl rfl rfl (by first | exact Nat.le_of_ble_eq_true rfl | omega | (dsimp only; omega) | (simp <;> omega)) (by first | exact Nat.le_of_ble_eq_true rfl | omega | (dsimp only; omega) | (simp <;> omega)) (by first | exact Nat.le_of_ble_eq_true rfl | omega | (dsimp only; omega) | (simp <;> omega))) rfl rfl (pre1 rfl) (k' := 13) rfl ?_
    refine hd_nil (by kernel_rfl) (by kernel_rfl) (c' := c + 13) rfl ?_
    refine h9 _ ?_
    refine hw_ret ?_
    refine hf_retR1 ok hX RetS.two rfl (rvl_cell rfl rfl ty_41 (fun h => by first | rfl | cases h) rfl rfl) [] rfl pre0 ((⟨1, i, 0, 0, (s.drop i).take (i + k - i)⟩, i + k)) (name_ok hk hal hno) (by rfl) (by rfl) (kz_int5 kz_imm kz_imm kz_imm kz_imm kz_imm) ?_
    exact ⟨⟨_, rfl, kz_rd⟩, trivial⟩
theorem chr_all : ∀ k : Fin 6, (((⟨#[40, 41, 124, 42, 43, 63]⟩ : ByteArray)[k.val]'k.isLt).toNat < 128) ∧ ((((⟨#[40, 41, 124, 42, 43, 63]⟩ : ByteArray)[k.val]'k.isLt).toNat : Int) = chrZ k.val) := by decide +kernel
theorem chr_small {k : Nat} (h : k < 6) : ((⟨#[40, 41, 124, 42, 43, 63]⟩ : ByteArray)[k]'h).toNat < 128 := (chr_all ⟨k, h⟩).1
theorem chr_is {k : Nat} (h : k < 6) : (((⟨#[40, 41, 124, 42, 43, 63]⟩ : ByteArray)[k]'h).toNat : Int) = chrZ k := (chr_all ⟨k, h⟩).2
theorem short_h (c0 g : Nat) (s : List UInt8) (i : Nat) (hs : s.length ≤ 1000000) (hi : i ≤ s.length) (hi0 : smallZ (bz s i) = false) (hi1 : bz s i ≠ 123) : HFun Tryd.prog 77 c0 [.pt 9001 g 0 0] [(9001, rdO g s i)] (SgP (oneR s i) g s) := by
  refine hfun_of Tryd.func77 rfl (by kernel_rfl) _ _ _ _ rfl 56 rfl rfl (fun X ok hX => ?_)
  refine hw_seq (fun Nh1 h1 => ?_)
  refine hw_region ?_
  refine hm_1 2 (hop_alloc (id := 2) (sz := 5) zc_41 rfl rfl (by first | exact Nat.le_of_ble_eq_true rfl | omega | (dsimp only; omega) | (simp <;> omega)) (by first | exact Nat.le_of_ble_eq_true rfl | omega | (dsimp only; omega) | (simp <;> omega))) rfl rfl pre0 rfl rfl (c' := c0 + 1) rfl ?_
  refine hseq_nil ?_
  refine h1 _ ?_
  refine hw_seq (fun Nh2 h2 => ?_)
  refine hw_seq (fun Nh3 h3 => ?_)
  refine hw_region ?_
  refine hm_1 6 (hop_range_s (id := 6) (by kernel_rfl) rfl) rfl rfl pre0 rfl rfl (c' := c0 + 2) rfl ?_
  refine hseq_nil ?_
  refine h3 _ ?_
  refine hw_block ?_
  refine hw_loopc (α := Nat) (fun x c => ⟨56, [(0, .v (.pt 9001 g 0 0)), (2, .v (.pt 2 c0 0 0)), (6, .v (.pt 6 (c0 + 1) 0 0))], [(6, iterO (c0 + 1) ⟨#[40, 41, 124, 42, 43, 63]⟩ x), (9001, rdO g s i), (2, ⟨c0, 1, 5, 41, 0, sg0⟩)], c⟩) (fun x => x ≤ 6 ∧ (∀ j, j < x → bz s i ≠ chrZ j)) (fun x => 6 - x) (0) (by exact ⟨by omega, fun j h => absurd h (by omega)⟩) (hsub_of rfl (Nat.le_refl _) (TmSub.cons rfl (Sb.refl _) (TmSub.cons rfl (Sb.refl _) (TmSub.cons rfl (Sb.refl _) TmSub.nil))) (HpSub.cons rfl (OSub.refl _) (HpSub.cons rfl (OSub.refl _) (HpSub.cons rfl (OSub.refl _) HpSub.nil)))) (fun k c hx NhL4 hL4 => ?_)
  (try dsimp only at hx hL4 ⊢)
  obtain ⟨hk, hno⟩ := hx
  refine hw_seq (fun Nh5 h5 => ?_)
  rcases Nat.lt_or_ge k 6 with hk6 | hk6
  · skip
    refine hw_region ?_
    refine hm_1 7 (hop_next_s (c := chrZ k) rfl hk6 (chr_small hk6) (chr_is hk6)) rfl rfl (pre1 rfl) rfl rfl (c' := c + 1) rfl ?_
    refine hq_ 8 (hop_extract rfl rfl) rfl rfl pre0 rfl rfl ?_
    refine hseq_nil ?_
    refine h5 _ ?_
    refine hw_seq (fun Nh6 h6 => ?_)
    refine hw_cond _ rfl (fun hc0 => ?_) (fun hc0 => ?_)
    · have hr0 := hc0; (try simp only [decide_eq_true_eq, decide_eq_false_iff_not, Bool.and_eq_true, Bool.or_eq_true, Bool.not_eq_true', Bool.or_eq_false_iff, beq_iff_eq, bne_iff_ne, ne_eq, beq_eq_false_iff_ne, bne_eq_false_iff_eq, Bool.not_eq_true, Bool.not_eq_false, Bool.not_eq_false', Int.toNat_natCast, Int.reduceToNat] at hc0)
      have hck := chr_range k
      refine hw_skip ?_
      refine h6 _ ?_
      refine hw_block ?_
      refine hw_seq (fun Nh7 h7 => ?_)
      refine hw_region ?_
      refine hq_ 9 (hop_extract rfl rfl) rfl rfl pre0 rfl rfl ?_
      refine hq_ 10 (hop_extract rfl rfl) rfl rfl pre0 rfl rfl ?_
      refine hq_ 3 (hop_assign rfl) rfl rfl pre0 rfl rfl ?_
      refine hq_ 4 (hop_assign rfl) rfl rfl pre0 rfl rfl ?_
      refine hseq_nil ?_
      refine h7 _ ?_
      refine hw_seq (fun Nh8 h8 => ?_)
      refine hw_seq (fun Nh9 h9 => ?_)
      refine hw_region ?_
      refine hq_ 11 (hop_move rfl) rfl rfl pre0 rfl rfl ?_
      refine hq_ 12 (hop_funR (xs := [_]) (pre := [(9001, _)]) (peek_h g s i hs hi) ⟨rfl, trivial⟩) rfl rfl (preC rfl pre0) rfl rfl ?_
      refine hq_ 13 (hop_move rfl) rfl rfl pre0 rfl rfl ?_
      first
      | refine hq_ 14 (hop_convk wok_u8 (by kernel_rfl) (by kernel_rfl) rfl (by first | exact Nat.le_of_ble_eq_true rfl | omega | (dsimp only; omega) | (simp <;> omega)) (by first | exact Nat.le_of_ble_eq_true rfl | omega | (dsimp only; omega) | (simp <;> omega))) rfl rfl pre0 rfl rfl ?_
      | refine hq_ 14 (hop_conv (k' := .u8) (by kernel_rfl) (by kernel_rfl) rfl) rfl rfl pre0 rfl rfl ?_
      refine hq_ 15 (hop_neq rfl rfl) rfl rfl pre0 rfl rfl ?_
      refine hseq_nil ?_
      refine h9 _ ?_
      refine hw_cond _ rfl (fun hc1 => ?_) (fun hc1 => ?_)
      · have hr1 := hc1; (try simp only [decide_eq_true_eq, decide_eq_false_iff_not, Bool.and_eq_true, Bool.or_eq_true, Bool.not_eq_true', Bool.or_eq_false_iff, beq_iff_eq, bne_iff_ne, ne_eq, beq_eq_false_iff_ne, bne_eq_false_iff_eq, Bool.not_eq_true, Bool.not_eq_false, Bool.not_eq_false', Int.toNat_natCast, Int.reduceToNat] at hc1)
        refine hw_exit ?_
        refine hq_then_exit ?_
        refine hq_block_here ?_
        exact hL4 (k + 1) _ _ (by (try dsimp only); exact ⟨by omega, fun j hj => by rcases Nat.lt_or_ge j k with h | h; exact hno j h; obtain rfl : j = k := (by omega); exact hc1⟩) (by (try dsimp only); omega) (hsub_of rfl (Nat.le_refl _) (TmSub.cons rfl (Sb.refl _) (TmSub.cons rfl (Sb.refl _) (TmSub.cons rfl (Sb.refl _) TmSub.nil))) (HpSub.cons rfl (OSub.refl _) (HpSub.cons rfl (OSub.refl _) (HpSub.cons rfl (OSub.refl _) HpSub.nil))))
      · have hr1 := hc1; (try simp only [decide_eq_true_eq, decide_eq_false_iff_not, Bool.and_eq_true, Bool.or_eq_true, Bool.not_eq_true', Bool.or_eq_false_iff, beq_iff_eq, bne_iff_ne, ne_eq, beq_eq_false_iff_ne, bne_eq_false_iff_eq, Bool.not_eq_true, Bool.not_eq_false, Bool.not_eq_false', Int.toNat_natCast, Int.reduceToNat] at hc1)
        refine hw_skip ?_
        refine h8 _ ?_
        refine hw_seq (fun Nh10 h10 => ?_)
        refine hw_region ?_
        refine hq_ 16 (hop_move rfl) rfl rfl pre0 rfl rfl ?_
        first
        | refine hq_ 17 (hop_addi rfl rfl rfl (by first | exact Nat.le_of_ble_eq_true rfl | omega | (dsimp only; omega) | (simp <;> omega)) (by first | exact Nat.le_of_ble_eq_true rfl | omega | (dsimp only; omega) | (simp <;> omega))) rfl rfl pre0 rfl rfl ?_
        | refine hq_ 17 (hop_add rfl rfl) rfl rfl pre0 rfl rfl ?_
        refine hq_ 18 (hop_move rfl) rfl rfl pre0 rfl rfl ?_
        first
        | refine hq_ 19 (hop_nilcheck_pt rfl) rfl rfl pre0 rfl rfl ?_
        | refine hq_ 19 (hop_nilcheck_fp rfl) rfl rfl pre0 rfl rfl ?_
        first
        | refine hq_ 20 (hop_fa fd_89_1 rfl) rfl rfl pre0 rfl rfl ?_
        | refine hq_ 20 (hop_fa_fp fd_89_1 rfl (by first | exact Nat.le_of_ble_eq_true rfl | omega | (dsimp only; omega) | (simp <;> omega))) rfl rfl pre0 rfl rfl ?_
        first
        | refine hq_ 21 (hol_load ty_3 rfl (by first | exact Nat.le_of_ble_eq_true rfl | omega | (dsimp only; omega) | (simp <;> omega)) (by first | exact Nat.le_of_ble_eq_true rfl | omega | (dsimp only; omega) | (simp <;> omega)) (fun h => by first | rfl | cases h)) rfl rfl (pre1 rfl) rfl rfl ?_
        | refine hq_ 21 (hop_load_fp ty_3 rfl (by first | exact Nat.le_of_ble_eq_true rfl | omega | (dsimp only; omega) | (simp <;> omega)) (fun h => by first | rfl | cases h)) rfl rfl pre0 rfl rfl ?_
        refine hq_ 22 (hop_build (hs := [(0, 1, _), (1, 1, _)]) st_41 rfl rfl ⟨rfl, rfl, rfl, rfl, rfl, ⟨rfl, rfl, rfl, rfl, rfl, trivial⟩⟩) rfl rfl pre0 rfl rfl ?_
        refine hm_1 5 (hop_alloc (id := 5) (sz := 5) zc_41 rfl rfl (by first | exact Nat.le_of_ble_eq_true rfl | omega | (dsimp only; omega) | (simp <;> omega)) (by first | exact Nat.le_of_ble_eq_true rfl | omega | (dsimp only; omega) | (simp <;> omega))) rfl rfl pre0 rfl rfl (c' := c + 2) rfl ?_
        first
        | refine hm_s1 (hol_storeW ty_41 rfl rfl rfl rfl) rfl rfl (pre1 rfl) (c' := c + 3) rfl ?_
        | refine hm_s1 (hol_store ty_41 rfl rfl rfl rfl (by first | exact Nat.le_of_ble_eq_true rfl | omega | (dsimp only; omega) | (simp <;> omega)) (by first | exact Nat.le_of_ble_eq_true rfl | omega | (dsimp only; omega) | (simp <;> omega)) (by first | exact Nat.le_of_ble_eq_true rfl | omega | (dsimp only; omega) | (simp <;> omega))) rfl rfl (pre1 rfl) (c' := c + 3) rfl ?_
        refine hseq_nil ?_
        refine h10 _ ?_
        refine hw_seq (fun Nh11 h11 => ?_)
        refine hw_seq (fun Nh12 h12 => ?_)
        refine hw_region ?_
        refine hq_ 23 (hop_move rfl) rfl rfl pre0 rfl rfl ?_
        refine hseq_nil ?_
        refine h12 _ ?_
        refine hw_block ?_
        refine hw_seq (fun Nh13 h13 => ?_)
        refine hw_region ?_
        refine hq_ 25 (hop_eql rfl rfl) rfl rfl pre0 rfl rfl ?_
        refine hq_ 24 (hop_assign rfl) rfl rfl pre0 rfl rfl ?_
        refine hseq_nil ?_
        refine h13 _ ?_
        refine hw_cond _ rfl (fun hc2 => ?_) (fun hc2 => ?_)
        · have hr2 := hc2; (try simp only [decide_eq_true_eq, decide_eq_false_iff_not, Bool.and_eq_true, Bool.or_eq_true, Bool.not_eq_true', Bool.or_eq_false_iff, beq_iff_eq, bne_iff_ne, ne_eq, beq_eq_false_iff_ne, bne_eq_false_iff_eq, Bool.not_eq_true, Bool.not_eq_false, Bool.not_eq_false', Int.toNat_natCast, Int.reduceToNat] at hc2)
          refine hw_region ?_
          refine hq_ 26 (hop_move rfl) rfl rfl pre0 rfl rfl ?_
          first
          | refine hq_ 27 (hop_nilcheck_pt rfl) rfl rfl pre0 rfl rfl ?_
          | refine hq_ 27 (hop_nilcheck_fp rfl) rfl rfl pre0 rfl rfl ?_
          first
          | refine hq_ 28 (hop_fa fd_89_1 rfl) rfl rfl pre0 rfl rfl ?_
          | refine hq_ 28 (hop_fa_fp fd_89_1 rfl (by first | exact Nat.le_of_ble_eq_true rfl | omega | (dsimp only; omega) | (simp <;> omega))) rfl rfl pre0 rfl rfl ?_
          first
          | refine hq_ 29 (hol_load ty_3 rfl (by first | exact Nat.le_of_ble_eq_true rfl | omega | (dsimp only; omega) | (simp <;> omega)) (by first | exact Nat.le_of_ble_eq_true rfl | omega | (dsimp only; omega) | (simp <;> omega)) (fun h => by first | rfl | cases h)) rfl rfl (pre1 rfl) rfl rfl ?_
          | refine hq_ 29 (hop_load_fp ty_3 rfl (by first | exact Nat.le_of_ble_eq_true rfl | omega | (dsimp only; omega) | (simp <;> omega)) (fun h => by first | rfl | cases h)) rfl rfl pre0 rfl rfl ?_
          refine hq_ 30 (hop_build (hs := [(0, 1, _), (1, 1, _), (3, 1, _)]) st_41 rfl rfl ⟨rfl, rfl, rfl, rfl, rfl, ⟨rfl, rfl, rfl, rfl, rfl, ⟨rfl, rfl, rfl, rfl, rfl, trivial⟩⟩⟩) rfl rfl pre0 rfl rfl ?_
          first
          | refine hm_s1 (hol_storeW ty_41 rfl rfl rfl rfl) rfl rfl (pre1 rfl) (c' := c + 4) rfl ?_
          | refine hm_s1 (hol_store ty_41 rfl rfl rfl rfl (by first | exact Nat.le_of_ble_eq_true rfl | omega | (dsimp only; omega) | (simp <;> omega)) (by first | exact Nat.le_of_ble_eq_true rfl | omega | (dsimp only; omega) | (simp <;> omega)) (by first | exact Nat.le_of_ble_eq_true rfl | omega | (dsimp only; omega) | (simp <;> omega))) rfl rfl (pre1 rfl) (c' := c + 4) rfl ?_
          refine hseq_nil ?_
          refine hq_block ?_
          refine h11 _ ?_
          refine hw_seq (fun Nh14 h14 => ?_)
          refine hw_region ?_
          refine hq_ 45 (hop_move rfl) rfl rfl pre0 rfl rfl ?_
          first
          | refine hq_ 46 (hop_nilcheck_pt rfl) rfl rfl pre0 rfl rfl ?_
          | refine hq_ 46 (hop_nilcheck_fp rfl) rfl rfl pre0 rfl rfl ?_
          first
          | refine hq_ 47 (hop_fa fd_89_1 rfl) rfl rfl pre0 rfl rfl ?_
          | refine hq_ 47 (hop_fa_fp fd_89_1 rfl (by first | exact Nat.le_of_ble_eq_true rfl | omega | (dsimp only; omega) | (simp <;> omega))) rfl rfl pre0 rfl rfl ?_
          first
          | refine hq_ 48 (hol_load ty_3 rfl (by first | exact Nat.le_of_ble_eq_true rfl | omega | (dsimp only; omega) | (simp <;> omega)) (by first | exact Nat.le_of_ble_eq_true rfl | omega | (dsimp only; omega) | (simp <;> omega)) (fun h => by first | rfl | cases h)) rfl rfl (pre1 rfl) rfl rfl ?_
          | refine hq_ 48 (hop_load_fp ty_3 rfl (by first | exact Nat.le_of_ble_eq_true rfl | omega | (dsimp only; omega) | (simp <;> omega)) (fun h => by first | rfl | cases h)) rfl rfl pre0 rfl rfl ?_
          first
          | refine hq_ 49 (hop_addi rfl rfl rfl (by first | exact Nat.le_of_ble_eq_true rfl | omega | (dsimp only; omega) | (simp <;> omega)) (by first | exact Nat.le_of_ble_eq_true rfl | omega | (dsimp only; omega) | (simp <;> omega))) rfl rfl pre0 rfl rfl ?_
          | refine hq_ 49 (hop_add rfl rfl) rfl rfl pre0 rfl rfl ?_
          first
          | refine hq_ 50 (hop_nilcheck_pt rfl) rfl rfl pre0 rfl rfl ?_
          | refine hq_ 50 (hop_nilcheck_fp rfl) rfl rfl pre0 rfl rfl ?_
          first
          | refine hq_ 51 (hop_fa fd_89_1 rfl) rfl rfl pre0 rfl rfl ?_
          | refine hq_ 51 (hop_fa_fp fd_89_1 rfl (by first | exact Nat.le_of_ble_eq_true rfl | omega | (dsimp only; omega) | (simp <;> omega))) rfl rfl pre0 rfl rfl ?_
          first
          | refine hm_s1 (hol_storeW ty_3 rfl rfl rfl rfl) rfl rfl (pre1 rfl) (c' := c + 5) rfl ?_
          | refine hm_s1 (hol_store ty_3 rfl rfl rfl rfl (by first | exact Nat.le_of_ble_eq_true rfl | omega | (dsimp only; omega) | (simp <;> omega)) (by first | exact Nat.le_of_ble_eq_true rfl | omega | (dsimp only; omega) | (simp <;> omega)) (by first | exact Nat.le_of_ble_eq_true rfl | omega | (dsimp only; omega) | (simp <;> omega))) rfl rfl (pre1 rfl) (c' := c + 5) rfl ?_
          refine hseq_nil ?_
          refine h14 _ ?_
          refine hw_seq (fun Nh15 h15 => ?_)
          refine hw_region ?_
          first
          | refine hq_ 52 (hol_load ty_41 rfl (by first | exact Nat.le_of_ble_eq_true rfl | omega | (dsimp only; omega) | (simp <;> omega)) (by first | exact Nat.le_of_ble_eq_true rfl | omega | (dsimp only; omega) | (simp <;> omega)) (fun h => by first | rfl | cases h)) rfl rfl (pre1 rfl) rfl rfl ?_
          | refine hq_ 52 (hop_load_fp ty_41 rfl (by first | exact Nat.le_of_ble_eq_true rfl | omega | (dsimp only; omega) | (simp <;> omega)) (fun h => by first | rfl | cases h)) rfl rfl pre0 rfl rfl ?_
          first
          | refine hm_s1 (hol_storeW ty_41 rfl rfl rfl rfl) rfl rfl (pre1 rfl) (c' := c + 6) rfl ?_
          | refine hm_s1 (hol_store ty_41 rfl rfl rfl rfl (by first | exact Nat.le_of_ble_eq_true rfl | omega | (dsimp only; omega) | (simp <;> omega)) (by first | exact Nat.le_of_ble_eq_true rfl | omega | (dsimp only; omega) | (simp <;> omega)) (by first | exact Nat.le_of_ble_eq_true rfl | omega | (dsimp only; omega) | (simp <;> omega))) rfl rfl (pre1 rfl) (c' := c + 6) rfl ?_
          refine hseq_nil ?_
          refine h15 _ ?_
          refine hw_ret ?_
          refine hq_block_ret ?_
          refine hq_then_ret ?_
          refine hq_block_ret ?_
          refine hq_then_ret ?_
          refine hf_retR1 ok hX RetS.two rfl (rvl_cell rfl rfl ty_41 (fun h => by first | rfl | cases h) rfl rfl) [] rfl pre0 ((⟨5, i, 0, -1, []⟩, i + 1)) (one_42 (hc1.trans hc2)) (by rfl) (by rfl) (kz_int5 kz_imm kz_imm kz_imm kz_imm kz_imm) ?_
          exact ⟨⟨_, rfl, okz2 (by first | exact .fz _ _ (.imm _) | exact .os _ _ _ _ _ rfl rfl | exact .pt _ _ _ _ _ rfl rfl | exact .nps _ _ _ rfl rfl | (dsimp only; exact .fz _ _ Frz.fz) | exact .fz _ _ (.tup 0 _ _ (fun i hi => absurd hi (Nat.not_lt_zero _)))) (kz_int (by omega))⟩, trivial⟩
        · have hr2 := hc2; (try simp only [decide_eq_true_eq, decide_eq_false_iff_not, Bool.and_eq_true, Bool.or_eq_true, Bool.not_eq_true', Bool.or_eq_false_iff, beq_iff_eq, bne_iff_ne, ne_eq, beq_eq_false_iff_ne, bne_eq_false_iff_eq, Bool.not_eq_true, Bool.not_eq_false, Bool.not_eq_false', Int.toNat_natCast, Int.reduceToNat] at hc2)
          refine hw_seq (fun Nh16 h16 => ?_)
          refine hw_region ?_
          refine hq_ 32 (hop_eql rfl rfl) rfl rfl pre0 rfl rfl ?_
          refine hq_ 31 (hop_assign rfl) rfl rfl pre0 rfl rfl ?_
          refine hseq_nil ?_
          refine h16 _ ?_
          refine hw_cond _ rfl (fun hc3 => ?_) (fun hc3 => ?_)
          · have hr3 := hc3; (try simp only [decide_eq_true_eq, decide_eq_false_iff_not, Bool.and_eq_true, Bool.or_eq_true, Bool.not_eq_true', Bool.or_eq_false_iff, beq_iff_eq, bne_iff_ne, ne_eq, beq_eq_false_iff_ne, bne_eq_false_iff_eq, Bool.not_eq_true, Bool.not_eq_false, Bool.not_eq_false', Int.toNat_natCast, Int.reduceToNat] at hc3)
            refine hw_region ?_
            refine hq_ 33 (hop_move rfl) rfl rfl pre0 rfl rfl ?_
            first
            | refine hq_ 34 (hop_nilcheck_pt rfl) rfl rfl pre0 rfl rfl ?_
            | refine hq_ 34 (hop_nilcheck_fp rfl) rfl rfl pre0 rfl rfl ?_
            first
            | refine hq_ 35 (hop_fa fd_89_1 rfl) rfl rfl pre0 rfl rfl ?_
            | refine hq_ 35 (hop_fa_fp fd_89_1 rfl (by first | exact Nat.le_of_ble_eq_true rfl | omega | (dsimp only; omega) | (simp <;> omega))) rfl rfl pre0 rfl rfl ?_
            first
            | refine hq_ 36 (hol_load ty_3 rfl (by first | exact Nat.le_of_ble_eq_true rfl | omega | (dsimp only; omega) | (simp <;> omega)) (by first | exact Nat.le_of_ble_eq_true rfl | omega | (dsimp only; omega) | (simp <;> omega)) (fun h => by first | rfl | cases h)) rfl rfl (pre1 rfl) rfl rfl ?_
            | refine hq_ 36 (hop_load_fp ty_3 rfl (by first | exact Nat.le_of_ble_eq_true rfl | omega | (dsimp only; omega) | (simp <;> omega)) (fun h => by first | rfl | cases h)) rfl rfl pre0 rfl rfl ?_
            refine hq_ 37 (hop_build (hs := [(0, 1, _), (1, 1, _), (2, 1, _), (3, 1, _)]) st_41 rfl rfl ⟨rfl, rfl, rfl, rfl, rfl, ⟨rfl, rfl, rfl, rfl, rfl, ⟨rfl, rfl, rfl, rfl, rfl, ⟨rfl, rfl, rfl, rfl, rfl, trivial⟩⟩⟩⟩) rfl rfl pre0 rfl rfl ?_
            first
            | refine hm_s1 (hol_storeW ty_41 rfl rfl rfl rfl) rfl rfl (pre1 rfl) (c' := c + 4) rfl ?_
            | refine hm_s1 (hol_store ty_41 rfl rfl rfl rfl (by first | exact Nat.le_of_ble_eq_true rfl | omega | (dsimp only; omega) | (simp <;> omega)) (by first | exact Nat.le_of_ble_eq_true rfl | omega | (dsimp only; omega) | (simp <;> omega)) (by first | exact Nat.le_of_ble_eq_true rfl | omega | (dsimp only; omega) | (simp <;> omega))) rfl rfl (pre1 rfl) (c' := c + 4) rfl ?_
            refine hseq_nil ?_
            refine hq_block ?_
            refine h11 _ ?_
            refine hw_seq (fun Nh17 h17 => ?_)
            refine hw_region ?_
            refine hq_ 45 (hop_move rfl) rfl rfl pre0 rfl rfl ?_
            first
            | refine hq_ 46 (hop_nilcheck_pt rfl) rfl rfl pre0 rfl rfl ?_
            | refine hq_ 46 (hop_nilcheck_fp rfl) rfl rfl pre0 rfl rfl ?_
            first
            | refine hq_ 47 (hop_fa fd_89_1 rfl) rfl rfl pre0 rfl rfl ?_
            | refine hq_ 47 (hop_fa_fp fd_89_1 rfl (by first | exact Nat.le_of_ble_eq_true rfl | omega | (dsimp only; omega) | (simp <;> omega))) rfl rfl pre0 rfl rfl ?_
            first
            | refine hq_ 48 (hol_load ty_3 rfl (by first | exact Nat.le_of_ble_eq_true rfl | omega | (dsimp only; omega) | (simp <;> omega)) (by first | exact Nat.le_of_ble_eq_true rfl | omega | (dsimp only; omega) | (simp <;> omega)) (fun h => by first | rfl | cases h)) rfl rfl (pre1 rfl) rfl rfl ?_
            | refine hq_ 48 (hop_load_fp ty_3 rfl (by first | exact Nat.le_of_ble_eq_true rfl | omega | (dsimp only; omega) | (simp <;> omega)) (fun h => by first | rfl | cases h)) rfl rfl pre0 rfl rfl ?_
            first
            | refine hq_ 49 (hop_addi rfl rfl rfl (by first | exact Nat.le_of_ble_eq_true rfl | omega | (dsimp only; omega) | (simp <;> omega)) (by first | exact Nat.le_of_ble_eq_true rfl | omega | (dsimp only; omega) | (simp <;> omega))) rfl rfl pre0 rfl rfl ?_
            | refine hq_ 49 (hop_add rfl rfl) rfl rfl pre0 rfl rfl ?_
            first
            | refine hq_ 50 (hop_nilcheck_pt rfl) rfl rfl pre0 rfl rfl ?_
            | refine hq_ 50 (hop_nilcheck_fp rfl) rfl rfl pre0 rfl rfl ?_
            first
            | refine hq_ 51 (hop_fa fd_89_1 rfl) rfl rfl pre0 rfl rfl ?_
            | refine hq_ 51 (hop_fa_fp fd_89_1 rfl (by first | exact Nat.le_of_ble_eq_true rfl | omega | (dsimp only; omega) | (simp <;> omega))) rfl rfl pre0 rfl rfl ?_
            first
            | refine hm_s1 (hol_storeW ty_3 rfl rfl rfl rfl) rfl rfl (pre1 rfl) (c' := c + 5) rfl ?_
            | refine hm_s1 (hol_store ty_3 rfl rfl rfl rfl (by first | exact Nat.le_of_ble_eq_true rfl | omega | (dsimp only; omega) | (simp <;> omega)) (by first | exact Nat.le_of_ble_eq_true rfl | omega | (dsimp only; omega) | (simp <;> omega)) (by first | exact Nat.le_of_ble_eq_true rfl | omega | (dsimp only; omega) | (simp <;> omega))) rfl rfl (pre1 rfl) (c' := c + 5) rfl ?_
            refine hseq_nil ?_
            refine h17 _ ?_
            refine hw_seq (fun Nh18 h18 => ?_)
            refine hw_region ?_
            first
            | refine hq_ 52 (hol_load ty_41 rfl (by first | exact Nat.le_of_ble_eq_true rfl | omega | (dsimp only; omega) | (simp <;> omega)) (by first | exact Nat.le_of_ble_eq_true rfl | omega | (dsimp only; omega) | (simp <;> omega)) (fun h => by first | rfl | cases h)) rfl rfl (pre1 rfl) rfl rfl ?_
            | refine hq_ 52 (hop_load_fp ty_41 rfl (by first | exact Nat.le_of_ble_eq_true rfl | omega | (dsimp only; omega) | (simp <;> omega)) (fun h => by first | rfl | cases h)) rfl rfl pre0 rfl rfl ?_
            first
            | refine hm_s1 (hol_storeW ty_41 rfl rfl rfl rfl) rfl rfl (pre1 rfl) (c' := c + 6) rfl ?_
            | refine hm_s1 (hol_store ty_41 rfl rfl rfl rfl (by first | exact Nat.le_of_ble_eq_true rfl | omega | (dsimp only; omega) | (simp <;> omega)) (by first | exact Nat.le_of_ble_eq_true rfl | omega | (dsimp only; omega) | (simp <;> omega)) (by first | exact Nat.le_of_ble_eq_true rfl | omega | (dsimp only; omega) | (simp <;> omega))) rfl rfl (pre1 rfl) (c' := c + 6) rfl ?_
            refine hseq_nil ?_
            refine h18 _ ?_
            refine hw_ret ?_
            refine hq_block_ret ?_
            refine hq_then_ret ?_
            refine hq_block_ret ?_
            refine hq_then_ret ?_
            refine hf_retR1 ok hX RetS.two rfl (rvl_cell rfl rfl ty_41 (fun h => by first | rfl | cases h) rfl rfl) [] rfl pre0 ((⟨5, i, 1, -1, []⟩, i + 1)) (one_43 (hc1.trans hc3)) (by rfl) (by rfl) (kz_int5 kz_imm kz_imm kz_imm kz_imm kz_imm) ?_
            exact ⟨⟨_, rfl, okz2 (by first | exact .fz _ _ (.imm _) | exact .os _ _ _ _ _ rfl rfl | exact .pt _ _ _ _ _ rfl rfl | exact .nps _ _ _ rfl rfl | (dsimp only; exact .fz _ _ Frz.fz) | exact .fz _ _ (.tup 0 _ _ (fun i hi => absurd hi (Nat.not_lt_zero _)))) (kz_int (by omega))⟩, trivial⟩
          · have hr3 := hc3; (try simp only [decide_eq_true_eq, decide_eq_false_iff_not, Bool.and_eq_true, Bool.or_eq_true, Bool.not_eq_true', Bool.or_eq_false_iff, beq_iff_eq, bne_iff_ne, ne_eq, beq_eq_false_iff_ne, bne_eq_false_iff_eq, Bool.not_eq_true, Bool.not_eq_false, Bool.not_eq_false', Int.toNat_natCast, Int.reduceToNat] at hc3)
            refine hw_seq (fun Nh19 h19 => ?_)
            refine hw_region ?_
            refine hq_ 39 (hop_eql rfl rfl) rfl rfl pre0 rfl rfl ?_
            refine hq_ 38 (hop_assign rfl) rfl rfl pre0 rfl rfl ?_
            refine hseq_nil ?_
            refine h19 _ ?_
            refine hw_cond _ rfl (fun hc4 => ?_) (fun hc4 => ?_)
            · have hr4 := hc4; (try simp only [decide_eq_true_eq, decide_eq_false_iff_not, Bool.and_eq_true, Bool.or_eq_true, Bool.not_eq_true', Bool.or_eq_false_iff, beq_iff_eq, bne_iff_ne, ne_eq, beq_eq_false_iff_ne, bne_eq_false_iff_eq, Bool.not_eq_true, Bool.not_eq_false, Bool.not_eq_false', Int.toNat_natCast, Int.reduceToNat] at hc4)
              refine hw_region ?_
              refine hq_ 40 (hop_move rfl) rfl rfl pre0 rfl rfl ?_
              first
              | refine hq_ 41 (hop_nilcheck_pt rfl) rfl rfl pre0 rfl rfl ?_
              | refine hq_ 41 (hop_nilcheck_fp rfl) rfl rfl pre0 rfl rfl ?_
              first
              | refine hq_ 42 (hop_fa fd_89_1 rfl) rfl rfl pre0 rfl rfl ?_
              | refine hq_ 42 (hop_fa_fp fd_89_1 rfl (by first | exact Nat.le_of_ble_eq_true rfl | omega | (dsimp only; omega) | (simp <;> omega))) rfl rfl pre0 rfl rfl ?_
              first
              | refine hq_ 43 (hol_load ty_3 rfl (by first | exact Nat.le_of_ble_eq_true rfl | omega | (dsimp only; omega) | (simp <;> omega)) (by first | exact Nat.le_of_ble_eq_true rfl | omega | (dsimp only; omega) | (simp <;> omega)) (fun h => by first | rfl | cases h)) rfl rfl (pre1 rfl) rfl rfl ?_
              | refine hq_ 43 (hop_load_fp ty_3 rfl (by first | exact Nat.le_of_ble_eq_true rfl | omega | (dsimp only; omega) | (simp <;> omega)) (fun h => by first | rfl | cases h)) rfl rfl pre0 rfl rfl ?_
              refine hq_ 44 (hop_build (hs := [(0, 1, _), (1, 1, _), (3, 1, _)]) st_41 rfl rfl ⟨rfl, rfl, rfl, rfl, rfl, ⟨rfl, rfl, rfl, rfl, rfl, ⟨rfl, rfl, rfl, rfl, rfl, trivial⟩⟩⟩) rfl rfl pre0 rfl rfl ?_
              first
              | refine hm_s1 (hol_storeW ty_41 rfl rfl rfl rfl) rfl rfl (pre1 rfl) (c' := c + 4) rfl ?_
              | refine hm_s1 (hol_store ty_41 rfl rfl rfl rfl (by first | exact Nat.le_of_ble_eq_true rfl | omega | (dsimp only; omega) | (simp <;> omega)) (by first | exact Nat.le_of_ble_eq_true rfl | omega | (dsimp only; omega) | (simp <;> omega)) (by first | exact Nat.le_of_ble_eq_true rfl | omega | (dsimp only; omega) | (simp <;> omega))) rfl rfl (pre1 rfl) (c' := c + 4) rfl ?_
              refine hseq_nil ?_
              refine hq_block ?_
              refine h11 _ ?_
              refine hw_seq (fun Nh20 h20 => ?_)
              refine hw_region ?_
              refine hq_ 45 (hop_move rfl) rfl rfl pre0 rfl rfl ?_
              first
              | refine hq_ 46 (hop_nilcheck_pt rfl) rfl rfl pre0 rfl rfl ?_
              | refine hq_ 46 (hop_nilcheck_fp rfl) rfl rfl pre0 rfl rfl ?_
              first
              | refine hq_ 47 (hop_fa fd_89_1 rfl) rfl rfl pre0 rfl rfl ?_
              | refine hq_ 47 (hop_fa_fp fd_89_1 rfl (by first | exact Nat.le_of_ble_eq_true rfl | omega | (dsimp only; omega) | (simp <;> omega))) rfl rfl pre0 rfl rfl ?_
              first
              | refine hq_ 48 (hol_load ty_3 rfl (by first | exact Nat.le_of_ble_eq_true rfl | omega | (dsimp only; omega) | (simp <;> omega)) (by first | exact Nat.le_of_ble_eq_true rfl | omega | (dsimp only; omega) | (simp <;> omega)) (fun h => by first | rfl | cases h)) rfl rfl (pre1 rfl) rfl rfl ?_
              | refine hq_ 48 (hop_load_fp ty_3 rfl (by first | exact Nat.le_of_ble_eq_true rfl | omega | (dsimp only; omega) | (simp <;> omega)) (fun h => by first | rfl | cases h)) rfl rfl pre0 rfl rfl ?_
              first
              | refine hq_ 49 (hop_addi rfl rfl rfl (by first | exact Nat.le_of_ble_eq_true rfl | omega | (dsimp only; omega) | (simp <;> omega)) (by first | exact Nat.le_of_ble_eq_true rfl | omega | (dsimp only; omega) | (simp <;> omega))) rfl rfl pre0 rfl rfl ?_
              | refine hq_ 49 (hop_add rfl rfl) rfl rfl pre0 rfl rfl ?_
              first
              | refine hq_ 50 (hop_nilcheck_pt rfl) rfl rfl pre0 rfl rfl ?_
              | refine hq_ 50 (hop_nilcheck_fp rfl) rfl rfl pre0 rfl rfl ?_
              first
              | refine hq_ 51 (hop_fa fd_89_1 rfl) rfl rfl pre0 rfl rfl ?_
              | refine hq_ 51 (hop_fa_fp fd_89_1 rfl (by first | exact Nat.le_of_ble_eq_true rfl | omega | (dsimp only; omega) | (simp <;> omega))) rfl rfl pre0 rfl rfl ?_
              first
              | refine hm_s1 (hol_storeW ty_3 rfl rfl rfl rfl) rfl rfl (pre1 rfl) (c' := c + 5) rfl ?_
              | refine hm_s1 (hol_store ty_3 rfl rfl rfl rfl (by first | exact Nat.le_of_ble_eq_true rfl | omega | (dsimp only; omega) | (simp <;> omega)) (by first | exact Nat.le_of_ble_eq_true rfl | omega | (dsimp only; omega) | (simp <;> omega)) (by first | exact Nat.le_of_ble_eq_true rfl | omega | (dsimp only; omega) | (simp <;> omega))) rfl rfl (pre1 rfl) (c' := c + 5) rfl ?_
              refine hseq_nil ?_
              refine h20 _ ?_
              refine hw_seq (fun Nh21 h21 => ?_)
              refine hw_region ?_
              first
              | refine hq_ 52 (hol_load ty_41 rfl (by first | exact Nat.le_of_ble_eq_true rfl | omega | (dsimp only; omega) | (simp <;> omega)) (by first | exact Nat.le_of_ble_eq_true rfl | omega | (dsimp only; omega) | (simp <;> omega)) (fun h => by first | rfl | cases h)) rfl rfl (pre1 rfl) rfl rfl ?_
              | refine hq_ 52 (hop_load_fp ty_41 rfl (by first | exact Nat.le_of_ble_eq_true rfl | omega | (dsimp only; omega) | (simp <;> omega)) (fun h => by first | rfl | cases h)) rfl rfl pre0 rfl rfl ?_
              first
              | refine hm_s1 (hol_storeW ty_41 rfl rfl rfl rfl) rfl rfl (pre1 rfl) (c' := c + 6) rfl ?_
              | refine hm_s1 (hol_store ty_41 rfl rfl rfl rfl (by first | exact Nat.le_of_ble_eq_true rfl | omega | (dsimp only; omega) | (simp <;> omega)) (by first | exact Nat.le_of_ble_eq_true rfl | omega | (dsimp only; omega) | (simp <;> omega)) (by first | exact Nat.le_of_ble_eq_true rfl | omega | (dsimp only; omega) | (simp <;> omega))) rfl rfl (pre1 rfl) (c' := c + 6) rfl ?_
              refine hseq_nil ?_
              refine h21 _ ?_
              refine hw_ret ?_
              refine hq_block_ret ?_
              refine hq_then_ret ?_
              refine hq_block_ret ?_
              refine hq_then_ret ?_
              refine hf_retR1 ok hX RetS.two rfl (rvl_cell rfl rfl ty_41 (fun h => by first | rfl | cases h) rfl rfl) [] rfl pre0 ((⟨5, i, 0, 1, []⟩, i + 1)) (one_63 (hc1.trans hc4)) (by rfl) (by rfl) (kz_int5 kz_imm kz_imm kz_imm kz_imm kz_imm) ?_
              exact ⟨⟨_, rfl, okz2 (by first | exact .fz _ _ (.imm _) | exact .os _ _ _ _ _ rfl rfl | exact .pt _ _ _ _ _ rfl rfl | exact .nps _ _ _ rfl rfl | (dsimp only; exact .fz _ _ Frz.fz) | exact .fz _ _ (.tup 0 _ _ (fun i hi => absurd hi (Nat.not_lt_zero _)))) (kz_int (by omega))⟩, trivial⟩
            · have hr4 := hc4; (try simp only [decide_eq_true_eq, decide_eq_false_iff_not, Bool.and_eq_true, Bool.or_eq_true, Bool.not_eq_true', Bool.or_eq_false_iff, beq_iff_eq, bne_iff_ne, ne_eq, beq_eq_false_iff_ne, bne_eq_false_iff_eq, Bool.not_eq_true, Bool.not_eq_false, Bool.not_eq_false', Int.toNat_natCast, Int.reduceToNat] at hc4)
              refine hw_skip ?_
              refine hq_block ?_
              refine h11 _ ?_
              refine hw_seq (fun Nh22 h22 => ?_)
              refine hw_region ?_
              refine hq_ 45 (hop_move rfl) rfl rfl pre0 rfl rfl ?_
              first
              | refine hq_ 46 (hop_nilcheck_pt rfl) rfl rfl pre0 rfl rfl ?_
              | refine hq_ 46 (hop_nilcheck_fp rfl) rfl rfl pre0 rfl rfl ?_
              first
              | refine hq_ 47 (hop_fa fd_89_1 rfl) rfl rfl pre0 rfl rfl ?_
              | refine hq_ 47 (hop_fa_fp fd_89_1 rfl (by first | exact Nat.le_of_ble_eq_true rfl | omega | (dsimp only; omega) | (simp <;> omega))) rfl rfl pre0 rfl rfl ?_
              first
              | refine hq_ 48 (hol_load ty_3 rfl (by first | exact Nat.le_of_ble_eq_true rfl | omega | (dsimp only; omega) | (simp <;> omega)) (by first | exact Nat.le_of_ble_eq_true rfl | omega | (dsimp only; omega) | (simp <;> omega)) (fun h => by first | rfl | cases h)) rfl rfl (pre1 rfl) rfl rfl ?_
              | refine hq_ 48 (hop_load_fp ty_3 rfl (by first | exact Nat.le_of_ble_eq_true rfl | omega | (dsimp only; omega) | (simp <;> omega)) (fun h => by first | rfl | cases h)) rfl rfl pre0 rfl rfl ?_
              first
              | refine hq_ 49 (hop_addi rfl rfl rfl (by first | exact Nat.le_of_ble_eq_true rfl | omega | (dsimp only; omega) | (simp <;> omega)) (by first | exact Nat.le_of_ble_eq_true rfl | omega | (dsimp only; omega) | (simp <;> omega))) rfl rfl pre0 rfl rfl ?_
              | refine hq_ 49 (hop_add rfl rfl) rfl rfl pre0 rfl rfl ?_
              first
              | refine hq_ 50 (hop_nilcheck_pt rfl) rfl rfl pre0 rfl rfl ?_
              | refine hq_ 50 (hop_nilcheck_fp rfl) rfl rfl pre0 rfl rfl ?_
              first
              | refine hq_ 51 (hop_fa fd_89_1 rfl) rfl rfl pre0 rfl rfl ?_
              | refine hq_ 51 (hop_fa_fp fd_89_1 rfl (by first | exact Nat.le_of_ble_eq_true rfl | omega | (dsimp only; omega) | (simp <;> omega))) rfl rfl pre0 rfl rfl ?_
              first
              | refine hm_s1 (hol_storeW ty_3 rfl rfl rfl rfl) rfl rfl (pre1 rfl) (c' := c + 4) rfl ?_
              | refine hm_s1 (hol_store ty_3 rfl rfl rfl rfl (by first | exact Nat.le_of_ble_eq_true rfl | omega | (dsimp only; omega) | (simp <;> omega)) (by first | exact Nat.le_of_ble_eq_true rfl | omega | (dsimp only; omega) | (simp <;> omega)) (by first | exact Nat.le_of_ble_eq_true rfl | omega | (dsimp only; omega) | (simp <;> omega))) rfl rfl (pre1 rfl) (c' := c + 4) rfl ?_
              refine hseq_nil ?_
              refine h22 _ ?_
              refine hw_seq (fun Nh23 h23 => ?_)
              refine hw_region ?_
              first
              | refine hq_ 52 (hol_load ty_41 rfl (by first | exact Nat.le_of_ble_eq_true rfl | omega | (dsimp only; omega) | (simp <;> omega)) (by first | exact Nat.le_of_ble_eq_true rfl | omega | (dsimp only; omega) | (simp <;> omega)) (fun h => by first | rfl | cases h)) rfl rfl (pre1 rfl) rfl rfl ?_
              | refine hq_ 52 (hop_load_fp ty_41 rfl (by first | exact Nat.le_of_ble_eq_true rfl | omega | (dsimp only; omega) | (simp <;> omega)) (fun h => by first | rfl | cases h)) rfl rfl pre0 rfl rfl ?_
              first
              | refine hm_s1 (hol_storeW ty_41 rfl rfl rfl rfl) rfl rfl (pre1 rfl) (c' := c + 5) rfl ?_
              | refine hm_s1 (hol_store ty_41 rfl rfl rfl rfl (by first | exact Nat.le_of_ble_eq_true rfl | omega | (dsimp only; omega) | (simp <;> omega)) (by first | exact Nat.le_of_ble_eq_true rfl | omega | (dsimp only; omega) | (simp <;> omega)) (by first | exact Nat.le_of_ble_eq_true rfl | omega | (dsimp only; omega) | (simp <;> omega))) rfl rfl (pre1 rfl) (c' := c + 5) rfl ?_
              refine hseq_nil ?_
              refine h23 _ ?_
              refine hw_ret ?_
              refine hq_block_ret ?_
              refine hq_then_ret ?_
              refine hq_block_ret ?_
              refine hq_then_ret ?_
              refine hf_retR1 ok hX RetS.two rfl (rvl_cell rfl rfl ty_41 (fun h => by first | rfl | cases h) rfl rfl) [] rfl pre0 ((⟨2 + k, i, 0, 0, []⟩, i + 1)) (one_par hk6 hc1 hc2 hc3 hc4) (by rfl) (by rfl) (kz_int5 kz_imm kz_imm kz_imm kz_imm kz_imm) ?_
              exact ⟨⟨_, rfl, okz2 (by first | exact .fz _ _ (.imm _) | exact .os _ _ _ _ _ rfl rfl | exact .pt _ _ _ _ _ rfl rfl | exact .nps _ _ _ rfl rfl | (dsimp only; exact .fz _ _ Frz.fz) | exact .fz _ _ (.tup 0 _ _ (fun i hi => absurd hi (Nat.not_lt_zero _)))) (kz_int (by omega))⟩, trivial⟩
    · have hr0 := hc0; (try simp only [decide_eq_true_eq, decide_eq_false_iff_not, Bool.and_eq_true, Bool.or_eq_true, Bool.not_eq_true', Bool.or_eq_false_iff, beq_iff_eq, bne_iff_ne, ne_eq, beq_eq_false_iff_ne, bne_eq_false_iff_eq, Bool.not_eq_true, Bool.not_eq_false, Bool.not_eq_false', Int.toNat_natCast, Int.reduceToNat] at hc0)
      exfalso; cases hr0
  · skip
    refine hw_region ?_
    refine hq_ 7 (hop_next_end rfl (by show ¬ k < 6; omega)) rfl rfl (pre1 rfl) rfl rfl ?_
    refine hq_ 8 (hop_extract rfl rfl) rfl rfl pre0 rfl rfl ?_
    refine hseq_nil ?_
    refine h5 _ ?_
    refine hw_seq (fun Nh24 h24 => ?_)
    refine hw_cond _ rfl (fun hc0 => ?_) (fun hc0 => ?_)
    · have hr0 := hc0; (try simp only [decide_eq_true_eq, decide_eq_false_iff_not, Bool.and_eq_true, Bool.or_eq_true, Bool.not_eq_true', Bool.or_eq_false_iff, beq_iff_eq, bne_iff_ne, ne_eq, beq_eq_false_iff_ne, bne_eq_false_iff_eq, Bool.not_eq_true, Bool.not_eq_false, Bool.not_eq_false', Int.toNat_natCast, Int.reduceToNat] at hc0)
      exfalso; cases hr0
    · have hr0 := hc0; (try simp only [decide_eq_true_eq, decide_eq_false_iff_not, Bool.and_eq_true, Bool.or_eq_true, Bool.not_eq_true', Bool.or_eq_false_iff, beq_iff_eq, bne_iff_ne, ne_eq, beq_eq_false_iff_ne, bne_eq_false_iff_eq, Bool.not_eq_true, Bool.not_eq_false, Bool.not_eq_false', Int.toNat_natCast, Int.reduceToNat] at hc0)
      refine hw_exit ?_
      refine hq_then_exit ?_
      refine hq_then_exit ?_
      refine hq_block_here ?_
      refine h2 _ ?_
      refine hw_seq (fun Nh25 h25 => ?_)
      refine hw_region ?_
      refine hq_ 53 (hop_move rfl) rfl rfl pre0 rfl rfl ?_
      refine hf_callP (xs := [_]) (pre := [(9001, _)]) (odd_h _ g s i hs hi) ⟨rfl, trivial⟩ (preC rfl pre0) (fun y c1 hy => ?_)
      refine (hpan_then ?_)
      exact hf_panR ok hX (y, i) (by rw [hy]; exact one_none hi0 hi1 (fun j hj => hno j (by omega))) rfl (kz_fault _) ⟨⟨_, rfl, kz_rd⟩, trivial⟩
theorem sign_h (c0 g : Nat) (s : List UInt8) (i : Nat) (hs : s.length ≤ 1000000) (hi : i ≤ s.length) : HFun Tryd.prog 57 c0 [.pt 9001 g 0 0] [(9001, rdO g s i)] (SgP (oneR s i) g s) := by
  refine hfun_of Tryd.func57 rfl (by kernel_rfl) _ _ _ _ rfl 21 rfl rfl (fun X ok hX => ?_)
  refine hw_seq (fun Nh1 h1 => ?_)
  refine hw_region ?_
  refine hm_1 2 (hop_alloc (id := 2) (sz := 5) zc_41 rfl rfl (by first | exact Nat.le_of_ble_eq_true rfl | omega | (dsimp only; omega) | (simp <;> omega)) (by first | exact Nat.le_of_ble_eq_true rfl | omega | (dsimp only; omega) | (simp <;> omega))) rfl rfl pre0 rfl rfl (c' := c0 + 1) rfl ?_
  refine hseq_nil ?_
  refine h1 _ ?_
  refine hw_seq (fun Nh2 h2 => ?_)
  refine hw_region ?_
  refine hq_ 5 (hop_move rfl) rfl rfl pre0 rfl rfl ?_
  refine hq_ 6 (hop_makeBound rfl) rfl rfl pre0 rfl rfl ?_
  refine hq_ 3 (hop_assign rfl) rfl rfl pre0 rfl rfl ?_
  refine hseq_nil ?_
  refine h2 _ ?_
  refine hw_seq (fun Nh3 h3 => ?_)
  refine hw_seq (fun Nh4 h4 => ?_)
  refine hw_region ?_
  refine hq_ 7 (hop_move rfl) rfl rfl pre0 rfl rfl ?_
  refine hq_ 8 (hop_funR (xs := [_]) (pre := [(9001, _)]) (peek_h g s i hs hi) ⟨rfl, trivial⟩) rfl rfl (preC rfl pre0) rfl rfl ?_
  refine hq_ 4 (hop_assign rfl) rfl rfl pre0 rfl rfl ?_
  refine hseq_nil ?_
  refine h4 _ ?_
  refine hw_block ?_
  refine hw_seq (fun Nh5 h5 => ?_)
  refine hw_region ?_
  refine hq_ 10 (hop_move rfl) rfl rfl pre0 rfl rfl ?_
  refine hq_ 11 (hop_call0 (xs := [_]) (small_h _) ⟨rfl, trivial⟩ ⟨(Fz.eq rfl), trivial⟩) rfl rfl pre0 rfl rfl ?_
  refine hq_ 9 (hop_assign rfl) rfl rfl pre0 rfl rfl ?_
  refine hseq_nil ?_
  refine h5 _ ?_
  refine hw_cond _ rfl (fun hc0 => ?_) (fun hc0 => ?_)
  · have hr0 := hc0; (try simp only [decide_eq_true_eq, decide_eq_false_iff_not, Bool.and_eq_true, Bool.or_eq_true, Bool.not_eq_true', Bool.or_eq_false_iff, beq_iff_eq, bne_iff_ne, ne_eq, beq_eq_false_iff_ne, bne_eq_false_iff_eq, Bool.not_eq_true, Bool.not_eq_false, Bool.not_eq_false', Int.toNat_natCast, Int.reduceToNat] at hc0)
    refine hw_region ?_
    refine hq_ 12 (hop_move rfl) rfl rfl pre0 rfl rfl ?_
    refine hq_ 13 (hop_makeBound rfl) rfl rfl pre0 rfl rfl ?_
    refine hq_ 3 (hop_assign rfl) rfl rfl pre0 rfl rfl ?_
    refine hseq_nil ?_
    refine hq_block ?_
    refine h3 _ ?_
    refine hw_seq (fun Nh6 h6 => ?_)
    refine hw_region ?_
    refine hq_ 19 (hop_move rfl) rfl rfl pre0 rfl rfl ?_
    refine hf_callBRP 20 (xs := []) (pre := [(9001, _)]) (name_h _ g s i hs hc0) rfl trivial (preC rfl pre0) rfl rfl (fun y c1 hy => (hpan_then (hf_panR ok hX y (by unfold oneR; rw [if_pos hc0, hy]) rfl (kz_fault _) ⟨⟨_, rfl, kz_rd⟩, trivial⟩))) (fun x1 c1 hx => ?_)
    obtain ⟨x, q⟩ := x1
    (try dsimp only)
    first
    | refine hm_s1 (hol_storeW ty_41 rfl rfl rfl rfl) rfl rfl (pre1 rfl) (c' := c1 + 1) rfl ?_
    | refine hm_s1 (hol_store ty_41 rfl rfl rfl rfl (by first | exact Nat.le_of_ble_eq_true rfl | omega | (dsimp only; omega) | (simp <;> omega)) (by first | exact Nat.le_of_ble_eq_true rfl | omega | (dsimp only; omega) | (simp <;> omega)) (by first | exact Nat.le_of_ble_eq_true rfl | omega | (dsimp only; omega) | (simp <;> omega))) rfl rfl (pre1 rfl) (c' := c1 + 1) rfl ?_
    refine hseq_nil ?_
    refine h6 _ ?_
    refine hw_ret ?_
    refine hf_retR1 ok hX RetS.two rfl (rvl_cell rfl rfl ty_41 (fun h => by first | rfl | cases h) rfl rfl) [] rfl pre0 ((x, q)) (by unfold oneR; rw [if_pos hc0, hx]) (by rfl) (by rfl) (kz_int5 kz_imm kz_imm kz_imm kz_imm kz_imm) ?_
    exact ⟨⟨_, rfl, kz_rd⟩, trivial⟩
  · have hr0 := hc0; (try simp only [decide_eq_true_eq, decide_eq_false_iff_not, Bool.and_eq_true, Bool.or_eq_true, Bool.not_eq_true', Bool.or_eq_false_iff, beq_iff_eq, bne_iff_ne, ne_eq, beq_eq_false_iff_ne, bne_eq_false_iff_eq, Bool.not_eq_true, Bool.not_eq_false, Bool.not_eq_false', Int.toNat_natCast, Int.reduceToNat] at hc0)
    refine hw_seq (fun Nh7 h7 => ?_)
    refine hw_region ?_
    refine hq_ 15 (hop_move rfl) rfl rfl pre0 rfl rfl ?_
    refine hq_ 16 (hop_eql rfl rfl) rfl rfl pre0 rfl rfl ?_
    refine hq_ 14 (hop_assign rfl) rfl rfl pre0 rfl rfl ?_
    refine hseq_nil ?_
    refine h7 _ ?_
    refine hw_cond _ rfl (fun hc1 => ?_) (fun hc1 => ?_)
    · have hr1 := hc1; (try simp only [decide_eq_true_eq, decide_eq_false_iff_not, Bool.and_eq_true, Bool.or_eq_true, Bool.not_eq_true', Bool.or_eq_false_iff, beq_iff_eq, bne_iff_ne, ne_eq, beq_eq_false_iff_ne, bne_eq_false_iff_eq, Bool.not_eq_true, Bool.not_eq_false, Bool.not_eq_false', Int.toNat_natCast, Int.reduceToNat] at hc1)
      refine hw_region ?_
      refine hq_ 17 (hop_move rfl) rfl rfl pre0 rfl rfl ?_
      refine hq_ 18 (hop_makeBound rfl) rfl rfl pre0 rfl rfl ?_
      refine hq_ 3 (hop_assign rfl) rfl rfl pre0 rfl rfl ?_
      refine hseq_nil ?_
      refine hq_block ?_
      refine h3 _ ?_
      refine hw_seq (fun Nh8 h8 => ?_)
      refine hw_region ?_
      refine hq_ 19 (hop_move rfl) rfl rfl pre0 rfl rfl ?_
      refine hf_callBRP 20 (xs := []) (pre := [(9001, _)]) (count_h _ g s i hs (bz_lt (by omega))) rfl trivial (preC rfl pre0) rfl rfl (fun y c2 hy => (hpan_then (hf_panR ok hX y (by unfold oneR; rw [if_neg (by rw [hc0]; decide), if_pos hc1, hy]) rfl (kz_fault _) ⟨⟨_, rfl, kz_rd⟩, trivial⟩))) (fun x2 c2 hx => ?_)
      obtain ⟨x, q⟩ := x2
      (try dsimp only)
      first
      | refine hm_s1 (hol_storeW ty_41 rfl rfl rfl rfl) rfl rfl (pre1 rfl) (c' := c2 + 1) rfl ?_
      | refine hm_s1 (hol_store ty_41 rfl rfl rfl rfl (by first | exact Nat.le_of_ble_eq_true rfl | omega | (dsimp only; omega) | (simp <;> omega)) (by first | exact Nat.le_of_ble_eq_true rfl | omega | (dsimp only; omega) | (simp <;> omega)) (by first | exact Nat.le_of_ble_eq_true rfl | omega | (dsimp only; omega) | (simp <;> omega))) rfl rfl (pre1 rfl) (c' := c2 + 1) rfl ?_
      refine hseq_nil ?_
      refine h8 _ ?_
      refine hw_ret ?_
      refine hf_retR1 ok hX RetS.two rfl (rvl_cell rfl rfl ty_41 (fun h => by first | rfl | cases h) rfl rfl) [] rfl pre0 ((x, q)) (by unfold oneR; rw [if_neg (by rw [hc0]; decide), if_pos hc1, hx]) (by rfl) (by rfl) (kz_int5 kz_imm kz_imm kz_imm kz_imm kz_imm) ?_
      exact ⟨⟨_, rfl, kz_rd⟩, trivial⟩
    · have hr1 := hc1; (try simp only [decide_eq_true_eq, decide_eq_false_iff_not, Bool.and_eq_true, Bool.or_eq_true, Bool.not_eq_true', Bool.or_eq_false_iff, beq_iff_eq, bne_iff_ne, ne_eq, beq_eq_false_iff_ne, bne_eq_false_iff_eq, Bool.not_eq_true, Bool.not_eq_false, Bool.not_eq_false', Int.toNat_natCast, Int.reduceToNat] at hc1)
      refine hw_skip ?_
      refine hq_block ?_
      refine h3 _ ?_
      refine hw_seq (fun Nh9 h9 => ?_)
      refine hw_region ?_
      refine hq_ 19 (hop_move rfl) rfl rfl pre0 rfl rfl ?_
      refine hf_callBRP 20 (xs := []) (pre := [(9001, _)]) (short_h _ g s i hs hi hc0 hc1) rfl trivial (preC rfl pre0) rfl rfl (fun y c3 hy => (hpan_then (hf_panR ok hX y hy rfl (kz_fault _) ⟨⟨_, rfl, kz_rd⟩, trivial⟩))) (fun x3 c3 hx => ?_)
      obtain ⟨x, q⟩ := x3
      (try dsimp only)
      first
      | refine hm_s1 (hol_storeW ty_41 rfl rfl rfl rfl) rfl rfl (pre1 rfl) (c' := c3 + 1) rfl ?_
      | refine hm_s1 (hol_store ty_41 rfl rfl rfl rfl (by first | exact Nat.le_of_ble_eq_true rfl | omega | (dsimp only; omega) | (simp <;> omega)) (by first | exact Nat.le_of_ble_eq_true rfl | omega | (dsimp only; omega) | (simp <;> omega)) (by first | exact Nat.le_of_ble_eq_true rfl | omega | (dsimp only; omega) | (simp <;> omega))) rfl rfl (pre1 rfl) (c' := c3 + 1) rfl ?_
      refine hseq_nil ?_
      refine h9 _ ?_
      refine hw_ret ?_
      refine hf_retR1 ok hX RetS.two rfl (rvl_cell rfl rfl ty_41 (fun h => by first | rfl | cases h) rfl rfl) [] rfl pre0 ((x, q)) (hx) (by rfl) (by rfl) (kz_int5 kz_imm kz_imm kz_imm kz_imm kz_imm) ?_
      exact ⟨⟨_, rfl, kz_rd⟩, trivial⟩
end Go.Proofs.YtijpdbjcmnpobaaDoor
