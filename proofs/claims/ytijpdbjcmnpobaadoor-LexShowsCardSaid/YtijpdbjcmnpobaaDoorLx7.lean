/-
  The signs of a text, by the document: any sign, all signs.
-/
import Derived.Test.YtijpdbjcmnpobaaDoorLx6
import Derived.Test.YtijpdbjcmnpobaaDoorLx4
namespace Go.Proofs.YtijpdbjcmnpobaaDoor
set_option linter.unusedSimpArgs false
set_option linter.unusedVariables false
set_option maxRecDepth 100000
open Go.RowKit

theorem refBegins_h (x : Int) : HPure Tryd.prog 58 [.imm (.int .u8 x)] (boolV (beginZ x)) := by
  refine hpure_of Tryd.func58 rfl (by kernel_rfl) _ _ _ rfl 33 rfl rfl (fun w F => ?_)
  refine hw_seq (fun Nh1 h1 => ?_)
  refine hw_region ?_
  refine hq_ 2 (hop_assign rfl) rfl rfl pre0 rfl rfl ?_
  refine hseq_nil ?_
  refine h1 _ ?_
  refine hw_seq (fun Nh2 h2 => ?_)
  refine hw_region ?_
  refine hq_ 3 (hop_move rfl) rfl rfl pre0 rfl rfl ?_
  refine hq_ 4 (hop_call0 (xs := [_]) (refSmall_h _) ⟨rfl, trivial⟩ ⟨(Fz.eq rfl), trivial⟩) rfl rfl pre0 rfl rfl ?_
  refine hq_ 5 (hop_move rfl) rfl rfl pre0 rfl rfl ?_
  first
  | refine hq_g 6 2 5 false _ (fun hb => hop_move rfl) rfl rfl rfl rfl pre0 rfl rfl rfl ?_
  | refine hq_g2 6 2 5 _ _ false _ (fun hb => hop_move rfl) rfl rfl rfl rfl pre0 rfl rfl rfl ?_
  first
  | refine hq_g 7 2 5 false _ (fun hb => hop_eql rfl rfl) rfl rfl rfl rfl pre0 rfl rfl rfl ?_
  | refine hq_g2 7 2 5 _ _ false _ (fun hb => hop_eql rfl rfl) rfl rfl rfl rfl pre0 rfl rfl rfl ?_
  first
  | refine hq_p 8 (hstep_and _ _ rfl rfl rfl) rfl rfl rfl ?_
  | refine hq_p 8 (hstep_or _ _ rfl rfl rfl) rfl rfl rfl ?_
  | refine hq_p 8 (hstep_ite _ _ _ rfl rfl rfl) rfl rfl rfl ?_
  | refine hq_p 8 (hstep_pick _ _ _ _ rfl rfl rfl (fun _ => .refl _) (fun _ => .refl _)) rfl rfl rfl ?_
  refine hq_ 9 (hop_move rfl) rfl rfl pre0 rfl rfl ?_
  first
  | refine hq_g 10 6 9 false _ (fun hb => hop_move rfl) rfl rfl rfl rfl pre0 rfl rfl rfl ?_
  | refine hq_g2 10 6 9 _ _ false _ (fun hb => hop_move rfl) rfl rfl rfl rfl pre0 rfl rfl rfl ?_
  first
  | refine hq_g 11 6 9 false _ (fun hb => hop_eql rfl rfl) rfl rfl rfl rfl pre0 rfl rfl rfl ?_
  | refine hq_g2 11 6 9 _ _ false _ (fun hb => hop_eql rfl rfl) rfl rfl rfl rfl pre0 rfl rfl rfl ?_
  first
  | refine hq_p 12 (hstep_and _ _ rfl rfl rfl) rfl rfl rfl ?_
  | refine hq_p 12 (hstep_or _ _ rfl rfl rfl) rfl rfl rfl ?_
  | refine hq_p 12 (hstep_ite _ _ _ rfl rfl rfl) rfl rfl rfl ?_
  | refine hq_p 12 (hstep_pick _ _ _ _ rfl rfl rfl (fun _ => .refl _) (fun _ => .refl _)) rfl rfl rfl ?_
  refine hq_ 13 (hop_move rfl) rfl rfl pre0 rfl rfl ?_
  first
  | refine hq_g 14 10 13 false _ (fun hb => hop_move rfl) rfl rfl rfl rfl pre0 rfl rfl rfl ?_
  | refine hq_g2 14 10 13 _ _ false _ (fun hb => hop_move rfl) rfl rfl rfl rfl pre0 rfl rfl rfl ?_
  first
  | refine hq_g 15 10 13 false _ (fun hb => hop_eql rfl rfl) rfl rfl rfl rfl pre0 rfl rfl rfl ?_
  | refine hq_g2 15 10 13 _ _ false _ (fun hb => hop_eql rfl rfl) rfl rfl rfl rfl pre0 rfl rfl rfl ?_
  first
  | refine hq_p 16 (hstep_and _ _ rfl rfl rfl) rfl rfl rfl ?_
  | refine hq_p 16 (hstep_or _ _ rfl rfl rfl) rfl rfl rfl ?_
  | refine hq_p 16 (hstep_ite _ _ _ rfl rfl rfl) rfl rfl rfl ?_
  | refine hq_p 16 (hstep_pick _ _ _ _ rfl rfl rfl (fun _ => .refl _) (fun _ => .refl _)) rfl rfl rfl ?_
  refine hq_ 17 (hop_move rfl) rfl rfl pre0 rfl rfl ?_
  first
  | refine hq_g 18 14 17 false _ (fun hb => hop_move rfl) rfl rfl rfl rfl pre0 rfl rfl rfl ?_
  | refine hq_g2 18 14 17 _ _ false _ (fun hb => hop_move rfl) rfl rfl rfl rfl pre0 rfl rfl rfl ?_
  first
  | refine hq_g 19 14 17 false _ (fun hb => hop_eql rfl rfl) rfl rfl rfl rfl pre0 rfl rfl rfl ?_
  | refine hq_g2 19 14 17 _ _ false _ (fun hb => hop_eql rfl rfl) rfl rfl rfl rfl pre0 rfl rfl rfl ?_
  first
  | refine hq_p 20 (hstep_and _ _ rfl rfl rfl) rfl rfl rfl ?_
  | refine hq_p 20 (hstep_or _ _ rfl rfl rfl) rfl rfl rfl ?_
  | refine hq_p 20 (hstep_ite _ _ _ rfl rfl rfl) rfl rfl rfl ?_
  | refine hq_p 20 (hstep_pick _ _ _ _ rfl rfl rfl (fun _ => .refl _) (fun _ => .refl _)) rfl rfl rfl ?_
  refine hq_ 21 (hop_move rfl) rfl rfl pre0 rfl rfl ?_
  first
  | refine hq_g 22 18 21 false _ (fun hb => hop_move rfl) rfl rfl rfl rfl pre0 rfl rfl rfl ?_
  | refine hq_g2 22 18 21 _ _ false _ (fun hb => hop_move rfl) rfl rfl rfl rfl pre0 rfl rfl rfl ?_
  first
  | refine hq_g 23 18 21 false _ (fun hb => hop_eql rfl rfl) rfl rfl rfl rfl pre0 rfl rfl rfl ?_
  | refine hq_g2 23 18 21 _ _ false _ (fun hb => hop_eql rfl rfl) rfl rfl rfl rfl pre0 rfl rfl rfl ?_
  first
  | refine hq_p 24 (hstep_and _ _ rfl rfl rfl) rfl rfl rfl ?_
  | refine hq_p 24 (hstep_or _ _ rfl rfl rfl) rfl rfl rfl ?_
  | refine hq_p 24 (hstep_ite _ _ _ rfl rfl rfl) rfl rfl rfl ?_
  | refine hq_p 24 (hstep_pick _ _ _ _ rfl rfl rfl (fun _ => .refl _) (fun _ => .refl _)) rfl rfl rfl ?_
  refine hq_ 25 (hop_move rfl) rfl rfl pre0 rfl rfl ?_
  first
  | refine hq_g 26 22 25 false _ (fun hb => hop_move rfl) rfl rfl rfl rfl pre0 rfl rfl rfl ?_
  | refine hq_g2 26 22 25 _ _ false _ (fun hb => hop_move rfl) rfl rfl rfl rfl pre0 rfl rfl rfl ?_
  first
  | refine hq_g 27 22 25 false _ (fun hb => hop_eql rfl rfl) rfl rfl rfl rfl pre0 rfl rfl rfl ?_
  | refine hq_g2 27 22 25 _ _ false _ (fun hb => hop_eql rfl rfl) rfl rfl rfl rfl pre0 rfl rfl rfl ?_
  first
  | refine hq_p 28 (hstep_and _ _ rfl rfl rfl) rfl rfl rfl ?_
  | refine hq_p 28 (hstep_or _ _ rfl rfl rfl) rfl rfl rfl ?_
  | refine hq_p 28 (hstep_ite _ _ _ rfl rfl rfl) rfl rfl rfl ?_
  | refine hq_p 28 (hstep_pick _ _ _ _ rfl rfl rfl (fun _ => .refl _) (fun _ => .refl _)) rfl rfl rfl ?_
  refine hq_ 29 (hop_move rfl) rfl rfl pre0 rfl rfl ?_
  first
  | refine hq_g 30 26 29 false _ (fun hb => hop_move rfl) rfl rfl rfl rfl pre0 rfl rfl rfl ?_
  | refine hq_g2 30 26 29 _ _ false _ (fun hb => hop_move rfl) rfl rfl rfl rfl pre0 rfl rfl rfl ?_
  first
  | refine hq_g 31 26 29 false _ (fun hb => hop_eql rfl rfl) rfl rfl rfl rfl pre0 rfl rfl rfl ?_
  | refine hq_g2 31 26 29 _ _ false _ (fun hb => hop_eql rfl rfl) rfl rfl rfl rfl pre0 rfl rfl rfl ?_
  first
  | refine hq_p 32 (hstep_and _ _ rfl rfl rfl) rfl rfl rfl ?_
  | refine hq_p 32 (hstep_or _ _ rfl rfl rfl) rfl rfl rfl ?_
  | refine hq_p 32 (hstep_ite _ _ _ rfl rfl rfl) rfl rfl rfl ?_
  | refine hq_p 32 (hstep_pick _ _ _ _ rfl rfl rfl (fun _ => .refl _) (fun _ => .refl _)) rfl rfl rfl ?_
  refine hq_ 2 (hop_assign rfl) rfl rfl pre0 rfl rfl ?_
  refine hseq_nilU (by rfl) (by simp only [dropUn, slots]; exact rfl) ?_
  refine h2 _ ?_
  refine hw_ret ?_
  refine hq_ret1 rfl (rval_tmp rfl) [] rfl pre0 ?_
  exact Frz.fz
theorem refOne_h (s : List UInt8) (i : Nat) (hs : s.length ≤ 1000000) (hi : i < s.length) : HPure Tryd.prog 59 [strV s, intV i] (oneH (oneF s i)) := by
  refine hpure_of Tryd.func59 rfl (by kernel_rfl) _ _ _ rfl 93 rfl rfl (fun w F => ?_)
  refine hw_seq (fun Nh1 h1 => ?_)
  refine hw_region ?_
  refine hm_1 4 (hop_alloc (id := 4) (sz := 5) zc_40 rfl rfl (by first | exact Nat.le_of_ble_eq_true rfl | omega | (dsimp only; omega) | (simp <;> omega)) (by first | exact Nat.le_of_ble_eq_true rfl | omega | (dsimp only; omega) | (simp <;> omega))) rfl rfl pre0 rfl rfl (c' := 1) rfl ?_
  refine hq_ 5 (hop_assign rfl) rfl rfl pre0 rfl rfl ?_
  refine hq_ 6 (hop_assign rfl) rfl rfl pre0 rfl rfl ?_
  refine hseq_nil ?_
  refine h1 _ ?_
  refine hw_seq (fun Nh2 h2 => ?_)
  refine hw_region ?_
  refine hq_ 9 (hop_move rfl) rfl rfl pre0 rfl rfl ?_
  refine hq_ 10 (hop_move rfl) rfl rfl pre0 rfl rfl ?_
  refine hq_ 11 (HOp.val (v' := .imm (.int .u8 (bz s i))) (hop_ix_strl (by kernel_rfl) rfl rfl (by first | exact Nat.le_of_ble_eq_true rfl | omega | (dsimp only; omega) | (simp <;> omega)) (by first | exact Nat.le_of_ble_eq_true rfl | omega | (dsimp only; omega) | (simp <;> omega))) (by rw [bz_in hi, Int.toNat_natCast])) rfl rfl pre0 rfl rfl ?_
  refine hq_ 7 (hop_assign rfl) rfl rfl pre0 rfl rfl ?_
  refine hseq_nil ?_
  refine h2 _ ?_
  refine hw_seq (fun Nh3 h3 => ?_)
  refine hw_seq (fun Nh4 h4 => ?_)
  refine hw_region ?_
  refine hq_ 12 (hop_move rfl) rfl rfl pre0 rfl rfl ?_
  refine hq_ 13 (hop_call0 (xs := [_]) (refSmall_h _) ⟨rfl, trivial⟩ ⟨(Fz.eq rfl), trivial⟩) rfl rfl pre0 rfl rfl ?_
  refine hseq_nil ?_
  refine h4 _ ?_
  refine hw_cond _ rfl (fun hc0 => ?_) (fun hc0 => ?_)
  · have hr0 := hc0; (try simp only [decide_eq_true_eq, decide_eq_false_iff_not, Bool.and_eq_true, Bool.or_eq_true, Bool.not_eq_true', Bool.or_eq_false_iff, beq_iff_eq, bne_iff_ne, ne_eq, beq_eq_false_iff_ne, bne_eq_false_iff_eq, Bool.not_eq_true, Bool.not_eq_false, Bool.not_eq_false', Int.toNat_natCast, Int.reduceToNat] at hc0)
    refine hw_seq (fun Nh5 h5 => ?_)
    refine hw_region ?_
    refine hq_ 14 (hop_move rfl) rfl rfl pre0 rfl rfl ?_
    refine hq_ 8 (hop_assign rfl) rfl rfl pre0 rfl rfl ?_
    refine hseq_nil ?_
    refine h5 _ ?_
    refine hw_seq (fun Nh6 h6 => ?_)
    refine hw_block ?_
    refine hw_loopc (α := Nat) (fun x c => ⟨93, [(0, .v (strV s)), (1, .v (intV i)), (4, .v (.pt 4 0 0 0)), (8, .v (intV ((i + x : Nat) : Int)))], [(4, ⟨0, 1, 5, 40, 0, sg0⟩)], c⟩) (fun x => x ≤ 12 ∧ i + x ≤ s.length ∧ (∀ j, j < x → alnumZ (bz s (i + j)) = true)) (fun x => 12 - x) (0) (by exact ⟨by omega, by omega, fun j h => absurd h (by omega)⟩) (hsub_of rfl (Nat.le_refl _) (TmSub.cons rfl (Sb.refl _) (TmSub.cons rfl (Sb.refl _) (TmSub.cons rfl (Sb.refl _) (TmSub.cons rfl (Sb.refl _) TmSub.nil)))) (HpSub.cons rfl (OSub.refl _) HpSub.nil)) (fun k c hx NhL7 hL7 => ?_)
    (try dsimp only at hx hL7 ⊢)
    obtain ⟨hk, hik, hal⟩ := hx
    refine hw_seq (fun Nh8 h8 => ?_)
    refine hw_seq (fun Nh9 h9 => ?_)
    refine hw_region ?_
    refine hq_ 15 (hop_move rfl) rfl rfl pre0 rfl rfl ?_
    refine hq_ 16 (hop_move rfl) rfl rfl pre0 rfl rfl ?_
    refine hq_ 17 (hop_len_strl (T := 9) rfl (by kernel_rfl) rfl) rfl rfl pre0 rfl rfl ?_
    refine hq_ 18 (hop_lss rfl rfl) rfl rfl pre0 rfl rfl ?_
    refine hq_ 19 (hop_move rfl) rfl rfl pre0 rfl rfl ?_
    first
    | refine hq_g 20 4 19 true _ (fun hb => hop_move rfl) rfl rfl rfl rfl pre0 rfl rfl rfl ?_
    | refine hq_g2 20 4 19 _ _ true _ (fun hb => hop_move rfl) rfl rfl rfl rfl pre0 rfl rfl rfl ?_
    first
    | refine hq_g 21 4 19 true _ (fun hb => hop_move rfl) rfl rfl rfl rfl pre0 rfl rfl rfl ?_
    | refine hq_g2 21 4 19 _ _ true _ (fun hb => hop_move rfl) rfl rfl rfl rfl pre0 rfl rfl rfl ?_
    first
    | refine hq_g 22 4 19 true _ (fun hb => hop_ix_strl (by kernel_rfl) rfl rfl (by first | exact Nat.le_of_ble_eq_true rfl | (simp at hb; first | omega | (dsimp only; omega) | (simp <;> omega))) (by first | exact Nat.le_of_ble_eq_true rfl | (simp at hb; first | omega | (dsimp only; omega) | (simp <;> omega)))) rfl rfl rfl rfl pre0 rfl rfl rfl ?_
    | refine hq_g2 22 4 19 _ _ true _ (fun hb => hop_ix_strl (by kernel_rfl) rfl rfl (by first | exact Nat.le_of_ble_eq_true rfl | (simp at hb; first | omega | (dsimp only; omega) | (simp <;> omega))) (by first | exact Nat.le_of_ble_eq_true rfl | (simp at hb; first | omega | (dsimp only; omega) | (simp <;> omega)))) rfl rfl rfl rfl pre0 rfl rfl rfl ?_
    first
    | refine hq_g 23 4 19 true _ (fun hb => hop_call0 (xs := [_]) (refSmall_h _) ⟨rfl, trivial⟩ ⟨(Fz.eq rfl), trivial⟩) rfl rfl rfl rfl pre0 rfl rfl rfl ?_
    | refine hq_g2 23 4 19 _ _ true _ (fun hb => hop_call0 (xs := [_]) (refSmall_h _) ⟨rfl, trivial⟩ ⟨(Fz.eq rfl), trivial⟩) rfl rfl rfl rfl pre0 rfl rfl rfl ?_
    first
    | refine hq_g 24 4 19 true _ (fun hb => hop_move rfl) rfl rfl rfl rfl pre0 rfl rfl rfl ?_
    | refine hq_g2 24 4 19 _ _ true _ (fun hb => hop_move rfl) rfl rfl rfl rfl pre0 rfl rfl rfl ?_
    first
    | refine hq_g 25 9 24 false _ (fun hb => hop_move rfl) rfl rfl rfl rfl pre0 rfl rfl rfl ?_
    | refine hq_g3 25 9 24 19 true false _ _ (fun hb hb2 => hop_move rfl) rfl rfl rfl rfl rfl pre0 rfl rfl rfl ?_
    | refine hq_g2 25 9 24 _ _ false _ (fun hb => hop_move rfl) rfl rfl rfl rfl pre0 rfl rfl rfl ?_
    first
    | refine hq_g 26 9 24 false _ (fun hb => hop_move rfl) rfl rfl rfl rfl pre0 rfl rfl rfl ?_
    | refine hq_g3 26 9 24 19 true false _ _ (fun hb hb2 => hop_move rfl) rfl rfl rfl rfl rfl pre0 rfl rfl rfl ?_
    | refine hq_g2 26 9 24 _ _ false _ (fun hb => hop_move rfl) rfl rfl rfl rfl pre0 rfl rfl rfl ?_
    first
    | refine hq_g 27 9 24 false _ (fun hb => hop_ix_strl (by kernel_rfl) rfl rfl (by first | exact Nat.le_of_ble_eq_true rfl | (simp at hb; first | omega | (dsimp only; omega) | (simp <;> omega))) (by first | exact Nat.le_of_ble_eq_true rfl | (simp at hb; first | omega | (dsimp only; omega) | (simp <;> omega)))) rfl rfl rfl rfl pre0 rfl rfl rfl ?_
    | refine hq_g3 27 9 24 19 true false _ _ (fun hb hb2 => hop_ix_strl (by kernel_rfl) rfl rfl (by first | exact Nat.le_of_ble_eq_true rfl | (simp at hb; omega) | (simp at hb2; omega) | (simp at hb hb2; first | omega | (dsimp only; omega) | (simp <;> omega))) (by first | exact Nat.le_of_ble_eq_true rfl | (simp at hb; omega) | (simp at hb2; omega) | (simp at hb hb2; first | omega | (dsimp only; omega) | (simp <;> omega)))) rfl rfl rfl rfl rfl pre0 rfl rfl rfl ?_
    | refine hq_g2 27 9 24 _ _ false _ (fun hb => hop_ix_strl (by kernel_rfl) rfl rfl (by first | exact Nat.le_of_ble_eq_true rfl | (simp at hb; first | omega | (dsimp only; omega) | (simp <;> omega))) (by first | exact Nat.le_of_ble_eq_true rfl | (simp at hb; first | omega | (dsimp only; omega) | (simp <;> omega)))) rfl rfl rfl rfl pre0 rfl rfl rfl ?_
    first
    | refine hq_g 28 9 24 false _ (fun hb => hop_call0 (xs := [_]) (refDigit_h _) ⟨rfl, trivial⟩ ⟨(Fz.eq rfl), trivial⟩) rfl rfl rfl rfl pre0 rfl rfl rfl ?_
    | refine hq_g3 28 9 24 19 true false _ _ (fun hb hb2 => hop_call0 (xs := [_]) (refDigit_h _) ⟨rfl, trivial⟩ ⟨(Fz.eq rfl), trivial⟩) rfl rfl rfl rfl rfl pre0 rfl rfl rfl ?_
    | refine hq_g2 28 9 24 _ _ false _ (fun hb => hop_call0 (xs := [_]) (refDigit_h _) ⟨rfl, trivial⟩ ⟨(Fz.eq rfl), trivial⟩) rfl rfl rfl rfl pre0 rfl rfl rfl ?_
    first
    | refine hq_pg 29 (hstep_andg (gi := 4) (j := 19) _ _ rfl rfl rfl rfl) rfl rfl rfl rfl ?_
    | refine hq_pg 29 (hstep_org (gi := 4) (j := 19) _ _ rfl rfl rfl rfl) rfl rfl rfl rfl ?_
    | refine hq_pg 29 (hstep_pickg (gi := 4) (j := 19) _ _ _ _ rfl rfl rfl rfl (fun _ => .refl _) (fun _ => .refl _)) rfl rfl rfl rfl ?_
    first
    | refine hq_p 30 (hstep_and _ _ rfl rfl rfl) rfl rfl rfl ?_
    | refine hq_p 30 (hstep_or _ _ rfl rfl rfl) rfl rfl rfl ?_
    | refine hq_p 30 (hstep_ite _ _ _ rfl rfl rfl) rfl rfl rfl ?_
    | refine hq_p 30 (hstep_pick _ _ _ _ rfl rfl rfl (fun _ => .refl _) (fun _ => .refl _)) rfl rfl rfl ?_
    refine hseq_nilU (by rfl) (by simp only [dropUn, slots]; exact rfl) ?_
    refine h9 _ ?_
    refine hw_cond _ rfl (fun hc1 => ?_) (fun hc1 => ?_)
    · have hr1 := hc1; (try simp only [decide_eq_true_eq, decide_eq_false_iff_not, Bool.and_eq_true, Bool.or_eq_true, Bool.not_eq_true', Bool.or_eq_false_iff, beq_iff_eq, bne_iff_ne, ne_eq, beq_eq_false_iff_ne, bne_eq_false_iff_eq, Bool.not_eq_true, Bool.not_eq_false, Bool.not_eq_false', Int.toNat_natCast, Int.reduceToNat] at hc1)
      have hall : alnumZ (bz s (i + k)) = true := (by have h := hr1; rw [Int.toNat_natCast, bz_alnum] at h; exact h); have hlt : i + k < s.length := bz_lt (fun h => by rw [h] at hall; exact absurd hall (by decide))
      refine hw_skip ?_
      refine h8 _ ?_
      refine hw_block ?_
      refine hw_seq (fun Nh10 h10 => ?_)
      refine hw_seq (fun Nh11 h11 => ?_)
      refine hw_region ?_
      refine hq_ 31 (hop_move rfl) rfl rfl pre0 rfl rfl ?_
      refine hq_ 32 (hop_move rfl) rfl rfl pre0 rfl rfl ?_
      first
      | refine hq_ 33 (hop_subi rfl rfl rfl (by first | exact Nat.le_of_ble_eq_true rfl | omega | (dsimp only; omega) | (simp <;> omega)) (by first | exact Nat.le_of_ble_eq_true rfl | omega | (dsimp only; omega) | (simp <;> omega))) rfl rfl pre0 rfl rfl ?_
      | refine hq_ 33 (hop_sub rfl rfl) rfl rfl pre0 rfl rfl ?_
      refine hq_ 34 (hop_eql rfl rfl) rfl rfl pre0 rfl rfl ?_
      refine hseq_nil ?_
      refine h11 _ ?_
      refine hw_cond _ rfl (fun hc2 => ?_) (fun hc2 => ?_)
      · have hr2 := hc2; (try simp only [decide_eq_true_eq, decide_eq_false_iff_not, Bool.and_eq_true, Bool.or_eq_true, Bool.not_eq_true', Bool.or_eq_false_iff, beq_iff_eq, bne_iff_ne, ne_eq, beq_eq_false_iff_ne, bne_eq_false_iff_eq, Bool.not_eq_true, Bool.not_eq_false, Bool.not_eq_false', Int.toNat_natCast, Int.reduceToNat] at hc2)
        refine hw_seq (fun Nh12 h12 => ?_)
        refine hw_region ?_
        refine hq_ 35 (hop_build (hs := []) st_40 rfl rfl trivial) rfl rfl pre0 rfl rfl ?_
        refine hq_ 36 (hop_move rfl) rfl rfl pre0 rfl rfl ?_
        first
        | refine hm_s1 (hol_storeW ty_40 rfl rfl rfl rfl) rfl rfl (pre1 rfl) (c' := c + 1) rfl ?_
        | refine hm_s1 (hol_store ty_40 rfl rfl rfl rfl (by first | exact Nat.le_of_ble_eq_true rfl | omega | (dsimp only; omega) | (simp <;> omega)) (by first | exact Nat.le_of_ble_eq_true rfl | omega | (dsimp only; omega) | (simp <;> omega)) (by first | exact Nat.le_of_ble_eq_true rfl | omega | (dsimp only; omega) | (simp <;> omega))) rfl rfl (pre1 rfl) (c' := c + 1) rfl ?_
        refine hq_ 5 (hop_assign rfl) rfl rfl pre0 rfl rfl ?_
        refine hq_ 6 (hop_assign rfl) rfl rfl pre0 rfl rfl ?_
        refine hseq_nil ?_
        refine h12 _ ?_
        refine hw_ret ?_
        refine hq_then_ret ?_
        refine hq_block_ret ?_
        refine hq_then_ret ?_
        refine hq_block_ret ?_
        refine hq_then_ret ?_
        refine hq_then_ret ?_
        refine hq_ret3 rfl (rvl_cell rfl rfl ty_40 (fun h => by first | rfl | cases h) rfl rfl) (rval_tmp rfl) (rval_tmp rfl) [] rfl pre0 ?_
        obtain rfl : k = 12 := (by omega); have e : oneF s i = (sgZ, ((i + 12 : Nat) : Int), 2) := (by unfold oneF; rw [if_pos hc0]; unfold nameF; rw [if_pos (run_eq (Nat.le_refl _) (fun j hj => by rcases Nat.lt_or_ge j 12 with h | h; exact hal j h; obtain rfl : j = 12 := (by omega); exact hall) (fun h => absurd h (by omega)))]); rw [e]; exact fz_t3 (fz_agg5 (by first | exact .imm _ | exact .nil _ _ _ (by decide) _ | exact fz_toks _ | exact fz_mkss _ | exact Frz.fz) (by first | exact .imm _ | exact .nil _ _ _ (by decide) _ | exact fz_toks _ | exact fz_mkss _ | exact Frz.fz) (by first | exact .imm _ | exact .nil _ _ _ (by decide) _ | exact fz_toks _ | exact fz_mkss _ | exact Frz.fz) (by first | exact .imm _ | exact .nil _ _ _ (by decide) _ | exact fz_toks _ | exact fz_mkss _ | exact Frz.fz) (by first | exact .imm _ | exact .nil _ _ _ (by decide) _ | exact fz_toks _ | exact fz_mkss _ | exact Frz.fz)) (.imm _) (.imm _)
      · have hr2 := hc2; (try simp only [decide_eq_true_eq, decide_eq_false_iff_not, Bool.and_eq_true, Bool.or_eq_true, Bool.not_eq_true', Bool.or_eq_false_iff, beq_iff_eq, bne_iff_ne, ne_eq, beq_eq_false_iff_ne, bne_eq_false_iff_eq, Bool.not_eq_true, Bool.not_eq_false, Bool.not_eq_false', Int.toNat_natCast, Int.reduceToNat] at hc2)
        refine hw_skip ?_
        refine h10 _ ?_
        refine hw_region ?_
        refine hq_ 37 (hop_move rfl) rfl rfl pre0 rfl rfl ?_
        first
        | refine hq_ 38 (HOp.val (v' := intV ((i + (k + 1) : Nat) : Int)) (hop_addi rfl rfl rfl (by first | exact Nat.le_of_ble_eq_true rfl | omega | (dsimp only; omega) | (simp <;> omega)) (by first | exact Nat.le_of_ble_eq_true rfl | omega | (dsimp only; omega) | (simp <;> omega))) (rfl)) rfl rfl pre0 rfl rfl ?_
        | refine hq_ 38 (HOp.val (v' := intV ((i + (k + 1) : Nat) : Int)) (hop_add rfl rfl) (rfl)) rfl rfl pre0 rfl rfl ?_
        refine hq_ 8 (hop_assign rfl) rfl rfl pre0 rfl rfl ?_
        refine hseq_nil ?_
        refine hq_block ?_
        exact hL7 (k + 1) _ _ (by (try dsimp only); exact ⟨by omega, by omega, fun j hj => by rcases Nat.lt_or_ge j k with h | h; exact hal j h; obtain rfl : j = k := (by omega); exact hall⟩) (by (try dsimp only); omega) (hsub_of rfl (Nat.le_refl _) (TmSub.cons rfl (Sb.refl _) (TmSub.cons rfl (Sb.refl _) (TmSub.cons rfl (Sb.refl _) (TmSub.cons rfl (Sb.refl _) TmSub.nil)))) (HpSub.cons rfl (OSub.refl _) HpSub.nil))
    · have hr1 := hc1; (try simp only [decide_eq_true_eq, decide_eq_false_iff_not, Bool.and_eq_true, Bool.or_eq_true, Bool.not_eq_true', Bool.or_eq_false_iff, beq_iff_eq, bne_iff_ne, ne_eq, beq_eq_false_iff_ne, bne_eq_false_iff_eq, Bool.not_eq_true, Bool.not_eq_false, Bool.not_eq_false', Int.toNat_natCast, Int.reduceToNat] at hc1)
      have hno : alnumZ (bz s (i + k)) = false := (by have h := hr1; rw [Int.toNat_natCast, bz_alnum] at h; exact h)
      refine hw_exit ?_
      refine hq_then_exit ?_
      refine hq_then_exit ?_
      refine hq_block_here ?_
      refine h6 _ ?_
      refine hw_seq (fun Nh13 h13 => ?_)
      refine hw_region ?_
      refine hq_ 39 (hop_move rfl) rfl rfl pre0 rfl rfl ?_
      refine hq_ 40 (hop_move rfl) rfl rfl pre0 rfl rfl ?_
      refine hq_ 41 (hop_move rfl) rfl rfl pre0 rfl rfl ?_
      refine hq_ 42 (hop_move rfl) rfl rfl pre0 rfl rfl ?_
      refine hq_ 43 (hop_cut_strl (by kernel_rfl) rfl (.inr ⟨_, _, rfl, rfl⟩) (.inr ⟨_, _, rfl, rfl⟩) (by first | exact Nat.le_of_ble_eq_true rfl | omega | (dsimp only; omega) | (simp <;> omega)) (by first | exact Nat.le_of_ble_eq_true rfl | omega | (dsimp only; omega) | (simp <;> omega)) (by first | exact Nat.le_of_ble_eq_true rfl | omega | (dsimp only; omega) | (simp <;> omega))) rfl rfl pre0 rfl rfl ?_
      refine hq_ 44 (hop_build (hs := [(0, 1, _), (1, 1, _), (4, 1, _)]) st_40 rfl rfl ⟨rfl, rfl, rfl, rfl, rfl, ⟨rfl, rfl, rfl, rfl, rfl, ⟨rfl, rfl, rfl, rfl, rfl, trivial⟩⟩⟩) rfl rfl pre0 rfl rfl ?_
      refine hq_ 45 (hop_move rfl) rfl rfl pre0 rfl rfl ?_
      first
      | refine hm_s1 (hol_storeW ty_40 rfl rfl rfl rfl) rfl rfl (pre1 rfl) (c' := c + 1) rfl ?_
      | refine hm_s1 (hol_store ty_40 rfl rfl rfl rfl (by first | exact Nat.le_of_ble_eq_true rfl | omega | (dsimp only; omega) | (simp <;> omega)) (by first | exact Nat.le_of_ble_eq_true rfl | omega | (dsimp only; omega) | (simp <;> omega)) (by first | exact Nat.le_of_ble_eq_true rfl | omega | (dsimp only; omega) | (simp <;> omega))) rfl rfl (pre1 rfl) (c' := c + 1) rfl ?_
      refine hq_ 5 (hop_assign rfl) rfl rfl pre0 rfl rfl ?_
      refine hq_ 6 (hop_assign rfl) rfl rfl pre0 rfl rfl ?_
      refine hseq_nil ?_
      refine h13 _ ?_
      refine hw_ret ?_
      refine hq_then_ret ?_
      refine hq_ret3 rfl (rvl_cell rfl rfl ty_40 (fun h => by first | rfl | cases h) rfl rfl) (rval_tmp rfl) (rval_tmp rfl) [] rfl pre0 ?_
      have e : oneF s i = (⟨1, i, 0, 0, (s.drop i).take (i + k - i)⟩, ((i + k : Nat) : Int), 0) := (by unfold oneF; rw [if_pos hc0]; unfold nameF; rw [run_eq (f := 13) (show k ≤ 13 by omega) hal (fun _ => hno), if_neg (show ¬ k = 13 by omega), show i + k - i = k by omega]); rw [e]; exact fz_t3 (fz_agg5 (by first | exact .imm _ | exact .nil _ _ _ (by decide) _ | exact fz_toks _ | exact fz_mkss _ | exact Frz.fz) (by first | exact .imm _ | exact .nil _ _ _ (by decide) _ | exact fz_toks _ | exact fz_mkss _ | exact Frz.fz) (by first | exact .imm _ | exact .nil _ _ _ (by decide) _ | exact fz_toks _ | exact fz_mkss _ | exact Frz.fz) (by first | exact .imm _ | exact .nil _ _ _ (by decide) _ | exact fz_toks _ | exact fz_mkss _ | exact Frz.fz) (by first | exact .imm _ | exact .nil _ _ _ (by decide) _ | exact fz_toks _ | exact fz_mkss _ | exact Frz.fz)) (.imm _) (.imm _)
  · have hr0 := hc0; (try simp only [decide_eq_true_eq, decide_eq_false_iff_not, Bool.and_eq_true, Bool.or_eq_true, Bool.not_eq_true', Bool.or_eq_false_iff, beq_iff_eq, bne_iff_ne, ne_eq, beq_eq_false_iff_ne, bne_eq_false_iff_eq, Bool.not_eq_true, Bool.not_eq_false, Bool.not_eq_false', Int.toNat_natCast, Int.reduceToNat] at hc0)
    have h0 : ¬ smallZ (bz s i) = true := (by rw [hc0]; decide)
    refine hw_skip ?_
    refine h3 _ ?_
    refine hw_seq (fun Nh14 h14 => ?_)
    refine hw_seq (fun Nh15 h15 => ?_)
    refine hw_region ?_
    refine hq_ 46 (hop_move rfl) rfl rfl pre0 rfl rfl ?_
    refine hseq_nil ?_
    refine h15 _ ?_
    refine hw_block ?_
    refine hw_seq (fun Nh16 h16 => ?_)
    refine hw_region ?_
    refine hq_ 48 (hop_eql rfl rfl) rfl rfl pre0 rfl rfl ?_
    refine hq_ 47 (hop_assign rfl) rfl rfl pre0 rfl rfl ?_
    refine hseq_nil ?_
    refine h16 _ ?_
    refine hw_cond _ rfl (fun hc3 => ?_) (fun hc3 => ?_)
    · have hr3 := hc3; (try simp only [decide_eq_true_eq, decide_eq_false_iff_not, Bool.and_eq_true, Bool.or_eq_true, Bool.not_eq_true', Bool.or_eq_false_iff, beq_iff_eq, bne_iff_ne, ne_eq, beq_eq_false_iff_ne, bne_eq_false_iff_eq, Bool.not_eq_true, Bool.not_eq_false, Bool.not_eq_false', Int.toNat_natCast, Int.reduceToNat] at hc3)
      refine hw_seq (fun Nh17 h17 => ?_)
      refine hw_region ?_
      refine hq_ 49 (hop_move rfl) rfl rfl pre0 rfl rfl ?_
      refine hq_ 50 (hop_build (hs := [(0, 1, _), (1, 1, _)]) st_40 rfl rfl ⟨rfl, rfl, rfl, rfl, rfl, ⟨rfl, rfl, rfl, rfl, rfl, trivial⟩⟩) rfl rfl pre0 rfl rfl ?_
      refine hq_ 51 (hop_move rfl) rfl rfl pre0 rfl rfl ?_
      first
      | refine hq_ 52 (hop_addi rfl rfl rfl (by first | exact Nat.le_of_ble_eq_true rfl | omega | (dsimp only; omega) | (simp <;> omega)) (by first | exact Nat.le_of_ble_eq_true rfl | omega | (dsimp only; omega) | (simp <;> omega))) rfl rfl pre0 rfl rfl ?_
      | refine hq_ 52 (hop_add rfl rfl) rfl rfl pre0 rfl rfl ?_
      first
      | refine hm_s1 (hol_storeW ty_40 rfl rfl rfl rfl) rfl rfl (pre1 rfl) (c' := 2) rfl ?_
      | refine hm_s1 (hol_store ty_40 rfl rfl rfl rfl (by first | exact Nat.le_of_ble_eq_true rfl | omega | (dsimp only; omega) | (simp <;> omega)) (by first | exact Nat.le_of_ble_eq_true rfl | omega | (dsimp only; omega) | (simp <;> omega)) (by first | exact Nat.le_of_ble_eq_true rfl | omega | (dsimp only; omega) | (simp <;> omega))) rfl rfl (pre1 rfl) (c' := 2) rfl ?_
      refine hq_ 5 (hop_assign rfl) rfl rfl pre0 rfl rfl ?_
      refine hq_ 6 (hop_assign rfl) rfl rfl pre0 rfl rfl ?_
      refine hseq_nil ?_
      refine h17 _ ?_
      refine hw_ret ?_
      refine hq_block_ret ?_
      refine hq_then_ret ?_
      refine hq_ret3 rfl (rvl_cell rfl rfl ty_40 (fun h => by first | rfl | cases h) rfl rfl) (rval_tmp rfl) (rval_tmp rfl) [] rfl pre0 ?_
      have e : oneF s i = (⟨2, i, 0, 0, []⟩, ((i + 1 : Nat) : Int), 0) := (by unfold oneF; rw [if_neg h0, if_pos hc3]); rw [e]; exact fz_t3 (fz_agg5 (by first | exact .imm _ | exact .nil _ _ _ (by decide) _ | exact fz_toks _ | exact fz_mkss _ | exact Frz.fz) (by first | exact .imm _ | exact .nil _ _ _ (by decide) _ | exact fz_toks _ | exact fz_mkss _ | exact Frz.fz) (by first | exact .imm _ | exact .nil _ _ _ (by decide) _ | exact fz_toks _ | exact fz_mkss _ | exact Frz.fz) (by first | exact .imm _ | exact .nil _ _ _ (by decide) _ | exact fz_toks _ | exact fz_mkss _ | exact Frz.fz) (by first | exact .imm _ | exact .nil _ _ _ (by decide) _ | exact fz_toks _ | exact fz_mkss _ | exact Frz.fz)) (.imm _) (.imm _)
    · have hr3 := hc3; (try simp only [decide_eq_true_eq, decide_eq_false_iff_not, Bool.and_eq_true, Bool.or_eq_true, Bool.not_eq_true', Bool.or_eq_false_iff, beq_iff_eq, bne_iff_ne, ne_eq, beq_eq_false_iff_ne, bne_eq_false_iff_eq, Bool.not_eq_true, Bool.not_eq_false, Bool.not_eq_false', Int.toNat_natCast, Int.reduceToNat] at hc3)
      refine hw_seq (fun Nh18 h18 => ?_)
      refine hw_region ?_
      refine hq_ 54 (hop_eql rfl rfl) rfl rfl pre0 rfl rfl ?_
      refine hq_ 53 (hop_assign rfl) rfl rfl pre0 rfl rfl ?_
      refine hseq_nil ?_
      refine h18 _ ?_
      refine hw_cond _ rfl (fun hc4 => ?_) (fun hc4 => ?_)
      · have hr4 := hc4; (try simp only [decide_eq_true_eq, decide_eq_false_iff_not, Bool.and_eq_true, Bool.or_eq_true, Bool.not_eq_true', Bool.or_eq_false_iff, beq_iff_eq, bne_iff_ne, ne_eq, beq_eq_false_iff_ne, bne_eq_false_iff_eq, Bool.not_eq_true, Bool.not_eq_false, Bool.not_eq_false', Int.toNat_natCast, Int.reduceToNat] at hc4)
        refine hw_seq (fun Nh19 h19 => ?_)
        refine hw_region ?_
        refine hq_ 55 (hop_move rfl) rfl rfl pre0 rfl rfl ?_
        refine hq_ 56 (hop_build (hs := [(0, 1, _), (1, 1, _)]) st_40 rfl rfl ⟨rfl, rfl, rfl, rfl, rfl, ⟨rfl, rfl, rfl, rfl, rfl, trivial⟩⟩) rfl rfl pre0 rfl rfl ?_
        refine hq_ 57 (hop_move rfl) rfl rfl pre0 rfl rfl ?_
        first
        | refine hq_ 58 (hop_addi rfl rfl rfl (by first | exact Nat.le_of_ble_eq_true rfl | omega | (dsimp only; omega) | (simp <;> omega)) (by first | exact Nat.le_of_ble_eq_true rfl | omega | (dsimp only; omega) | (simp <;> omega))) rfl rfl pre0 rfl rfl ?_
        | refine hq_ 58 (hop_add rfl rfl) rfl rfl pre0 rfl rfl ?_
        first
        | refine hm_s1 (hol_storeW ty_40 rfl rfl rfl rfl) rfl rfl (pre1 rfl) (c' := 2) rfl ?_
        | refine hm_s1 (hol_store ty_40 rfl rfl rfl rfl (by first | exact Nat.le_of_ble_eq_true rfl | omega | (dsimp only; omega) | (simp <;> omega)) (by first | exact Nat.le_of_ble_eq_true rfl | omega | (dsimp only; omega) | (simp <;> omega)) (by first | exact Nat.le_of_ble_eq_true rfl | omega | (dsimp only; omega) | (simp <;> omega))) rfl rfl (pre1 rfl) (c' := 2) rfl ?_
        refine hq_ 5 (hop_assign rfl) rfl rfl pre0 rfl rfl ?_
        refine hq_ 6 (hop_assign rfl) rfl rfl pre0 rfl rfl ?_
        refine hseq_nil ?_
        refine h19 _ ?_
        refine hw_ret ?_
        refine hq_block_ret ?_
        refine hq_then_ret ?_
        refine hq_ret3 rfl (rvl_cell rfl rfl ty_40 (fun h => by first | rfl | cases h) rfl rfl) (rval_tmp rfl) (rval_tmp rfl) [] rfl pre0 ?_
        have e : oneF s i = (⟨3, i, 0, 0, []⟩, ((i + 1 : Nat) : Int), 0) := (by unfold oneF; rw [if_neg h0, if_neg hc3, if_pos hc4]); rw [e]; exact fz_t3 (fz_agg5 (by first | exact .imm _ | exact .nil _ _ _ (by decide) _ | exact fz_toks _ | exact fz_mkss _ | exact Frz.fz) (by first | exact .imm _ | exact .nil _ _ _ (by decide) _ | exact fz_toks _ | exact fz_mkss _ | exact Frz.fz) (by first | exact .imm _ | exact .nil _ _ _ (by decide) _ | exact fz_toks _ | exact fz_mkss _ | exact Frz.fz) (by first | exact .imm _ | exact .nil _ _ _ (by decide) _ | exact fz_toks _ | exact fz_mkss _ | exact Frz.fz) (by first | exact .imm _ | exact .nil _ _ _ (by decide) _ | exact fz_toks _ | exact fz_mkss _ | exact Frz.fz)) (.imm _) (.imm _)
      · have hr4 := hc4; (try simp only [decide_eq_true_eq, decide_eq_false_iff_not, Bool.and_eq_true, Bool.or_eq_true, Bool.not_eq_true', Bool.or_eq_false_iff, beq_iff_eq, bne_iff_ne, ne_eq, beq_eq_false_iff_ne, bne_eq_false_iff_eq, Bool.not_eq_true, Bool.not_eq_false, Bool.not_eq_false', Int.toNat_natCast, Int.reduceToNat] at hc4)
        refine hw_seq (fun Nh20 h20 => ?_)
        refine hw_region ?_
        refine hq_ 60 (hop_eql rfl rfl) rfl rfl pre0 rfl rfl ?_
        refine hq_ 59 (hop_assign rfl) rfl rfl pre0 rfl rfl ?_
        refine hseq_nil ?_
        refine h20 _ ?_
        refine hw_cond _ rfl (fun hc5 => ?_) (fun hc5 => ?_)
        · have hr5 := hc5; (try simp only [decide_eq_true_eq, decide_eq_false_iff_not, Bool.and_eq_true, Bool.or_eq_true, Bool.not_eq_true', Bool.or_eq_false_iff, beq_iff_eq, bne_iff_ne, ne_eq, beq_eq_false_iff_ne, bne_eq_false_iff_eq, Bool.not_eq_true, Bool.not_eq_false, Bool.not_eq_false', Int.toNat_natCast, Int.reduceToNat] at hc5)
          refine hw_seq (fun Nh21 h21 => ?_)
          refine hw_region ?_
          refine hq_ 61 (hop_move rfl) rfl rfl pre0 rfl rfl ?_
          refine hq_ 62 (hop_build (hs := [(0, 1, _), (1, 1, _)]) st_40 rfl rfl ⟨rfl, rfl, rfl, rfl, rfl, ⟨rfl, rfl, rfl, rfl, rfl, trivial⟩⟩) rfl rfl pre0 rfl rfl ?_
          refine hq_ 63 (hop_move rfl) rfl rfl pre0 rfl rfl ?_
          first
          | refine hq_ 64 (hop_addi rfl rfl rfl (by first | exact Nat.le_of_ble_eq_true rfl | omega | (dsimp only; omega) | (simp <;> omega)) (by first | exact Nat.le_of_ble_eq_true rfl | omega | (dsimp only; omega) | (simp <;> omega))) rfl rfl pre0 rfl rfl ?_
          | refine hq_ 64 (hop_add rfl rfl) rfl rfl pre0 rfl rfl ?_
          first
          | refine hm_s1 (hol_storeW ty_40 rfl rfl rfl rfl) rfl rfl (pre1 rfl) (c' := 2) rfl ?_
          | refine hm_s1 (hol_store ty_40 rfl rfl rfl rfl (by first | exact Nat.le_of_ble_eq_true rfl | omega | (dsimp only; omega) | (simp <;> omega)) (by first | exact Nat.le_of_ble_eq_true rfl | omega | (dsimp only; omega) | (simp <;> omega)) (by first | exact Nat.le_of_ble_eq_true rfl | omega | (dsimp only; omega) | (simp <;> omega))) rfl rfl (pre1 rfl) (c' := 2) rfl ?_
          refine hq_ 5 (hop_assign rfl) rfl rfl pre0 rfl rfl ?_
          refine hq_ 6 (hop_assign rfl) rfl rfl pre0 rfl rfl ?_
          refine hseq_nil ?_
          refine h21 _ ?_
          refine hw_ret ?_
          refine hq_block_ret ?_
          refine hq_then_ret ?_
          refine hq_ret3 rfl (rvl_cell rfl rfl ty_40 (fun h => by first | rfl | cases h) rfl rfl) (rval_tmp rfl) (rval_tmp rfl) [] rfl pre0 ?_
          have e : oneF s i = (⟨4, i, 0, 0, []⟩, ((i + 1 : Nat) : Int), 0) := (by unfold oneF; rw [if_neg h0, if_neg hc3, if_neg hc4, if_pos hc5]); rw [e]; exact fz_t3 (fz_agg5 (by first | exact .imm _ | exact .nil _ _ _ (by decide) _ | exact fz_toks _ | exact fz_mkss _ | exact Frz.fz) (by first | exact .imm _ | exact .nil _ _ _ (by decide) _ | exact fz_toks _ | exact fz_mkss _ | exact Frz.fz) (by first | exact .imm _ | exact .nil _ _ _ (by decide) _ | exact fz_toks _ | exact fz_mkss _ | exact Frz.fz) (by first | exact .imm _ | exact .nil _ _ _ (by decide) _ | exact fz_toks _ | exact fz_mkss _ | exact Frz.fz) (by first | exact .imm _ | exact .nil _ _ _ (by decide) _ | exact fz_toks _ | exact fz_mkss _ | exact Frz.fz)) (.imm _) (.imm _)
        · have hr5 := hc5; (try simp only [decide_eq_true_eq, decide_eq_false_iff_not, Bool.and_eq_true, Bool.or_eq_true, Bool.not_eq_true', Bool.or_eq_false_iff, beq_iff_eq, bne_iff_ne, ne_eq, beq_eq_false_iff_ne, bne_eq_false_iff_eq, Bool.not_eq_true, Bool.not_eq_false, Bool.not_eq_false', Int.toNat_natCast, Int.reduceToNat] at hc5)
          refine hw_seq (fun Nh22 h22 => ?_)
          refine hw_region ?_
          refine hq_ 66 (hop_eql rfl rfl) rfl rfl pre0 rfl rfl ?_
          refine hq_ 65 (hop_assign rfl) rfl rfl pre0 rfl rfl ?_
          refine hseq_nil ?_
          refine h22 _ ?_
          refine hw_cond _ rfl (fun hc6 => ?_) (fun hc6 => ?_)
          · have hr6 := hc6; (try simp only [decide_eq_true_eq, decide_eq_false_iff_not, Bool.and_eq_true, Bool.or_eq_true, Bool.not_eq_true', Bool.or_eq_false_iff, beq_iff_eq, bne_iff_ne, ne_eq, beq_eq_false_iff_ne, bne_eq_false_iff_eq, Bool.not_eq_true, Bool.not_eq_false, Bool.not_eq_false', Int.toNat_natCast, Int.reduceToNat] at hc6)
            refine hw_seq (fun Nh23 h23 => ?_)
            refine hw_region ?_
            refine hq_ 67 (hop_move rfl) rfl rfl pre0 rfl rfl ?_
            refine hq_ 68 (hop_build (hs := [(0, 1, _), (1, 1, _), (3, 1, _)]) st_40 rfl rfl ⟨rfl, rfl, rfl, rfl, rfl, ⟨rfl, rfl, rfl, rfl, rfl, ⟨rfl, rfl, rfl, rfl, rfl, trivial⟩⟩⟩) rfl rfl pre0 rfl rfl ?_
            refine hq_ 69 (hop_move rfl) rfl rfl pre0 rfl rfl ?_
            first
            | refine hq_ 70 (hop_addi rfl rfl rfl (by first | exact Nat.le_of_ble_eq_true rfl | omega | (dsimp only; omega) | (simp <;> omega)) (by first | exact Nat.le_of_ble_eq_true rfl | omega | (dsimp only; omega) | (simp <;> omega))) rfl rfl pre0 rfl rfl ?_
            | refine hq_ 70 (hop_add rfl rfl) rfl rfl pre0 rfl rfl ?_
            first
            | refine hm_s1 (hol_storeW ty_40 rfl rfl rfl rfl) rfl rfl (pre1 rfl) (c' := 2) rfl ?_
            | refine hm_s1 (hol_store ty_40 rfl rfl rfl rfl (by first | exact Nat.le_of_ble_eq_true rfl | omega | (dsimp only; omega) | (simp <;> omega)) (by first | exact Nat.le_of_ble_eq_true rfl | omega | (dsimp only; omega) | (simp <;> omega)) (by first | exact Nat.le_of_ble_eq_true rfl | omega | (dsimp only; omega) | (simp <;> omega))) rfl rfl (pre1 rfl) (c' := 2) rfl ?_
            refine hq_ 5 (hop_assign rfl) rfl rfl pre0 rfl rfl ?_
            refine hq_ 6 (hop_assign rfl) rfl rfl pre0 rfl rfl ?_
            refine hseq_nil ?_
            refine h23 _ ?_
            refine hw_ret ?_
            refine hq_block_ret ?_
            refine hq_then_ret ?_
            refine hq_ret3 rfl (rvl_cell rfl rfl ty_40 (fun h => by first | rfl | cases h) rfl rfl) (rval_tmp rfl) (rval_tmp rfl) [] rfl pre0 ?_
            have e : oneF s i = (⟨5, i, 0, -1, []⟩, ((i + 1 : Nat) : Int), 0) := (by unfold oneF; rw [if_neg h0, if_neg hc3, if_neg hc4, if_neg hc5, if_pos hc6]); rw [e]; exact fz_t3 (fz_agg5 (by first | exact .imm _ | exact .nil _ _ _ (by decide) _ | exact fz_toks _ | exact fz_mkss _ | exact Frz.fz) (by first | exact .imm _ | exact .nil _ _ _ (by decide) _ | exact fz_toks _ | exact fz_mkss _ | exact Frz.fz) (by first | exact .imm _ | exact .nil _ _ _ (by decide) _ | exact fz_toks _ | exact fz_mkss _ | exact Frz.fz) (by first | exact .imm _ | exact .nil _ _ _ (by decide) _ | exact fz_toks _ | exact fz_mkss _ | exact Frz.fz) (by first | exact .imm _ | exact .nil _ _ _ (by decide) _ | exact fz_toks _ | exact fz_mkss _ | exact Frz.fz)) (.imm _) (.imm _)
          · have hr6 := hc6; (try simp only [decide_eq_true_eq, decide_eq_false_iff_not, Bool.and_eq_true, Bool.or_eq_true, Bool.not_eq_true', Bool.or_eq_false_iff, beq_iff_eq, bne_iff_ne, ne_eq, beq_eq_false_iff_ne, bne_eq_false_iff_eq, Bool.not_eq_true, Bool.not_eq_false, Bool.not_eq_false', Int.toNat_natCast, Int.reduceToNat] at hc6)
            refine hw_seq (fun Nh24 h24 => ?_)
            refine hw_region ?_
            refine hq_ 72 (hop_eql rfl rfl) rfl rfl pre0 rfl rfl ?_
            refine hq_ 71 (hop_assign rfl) rfl rfl pre0 rfl rfl ?_
            refine hseq_nil ?_
            refine h24 _ ?_
            refine hw_cond _ rfl (fun hc7 => ?_) (fun hc7 => ?_)
            · have hr7 := hc7; (try simp only [decide_eq_true_eq, decide_eq_false_iff_not, Bool.and_eq_true, Bool.or_eq_true, Bool.not_eq_true', Bool.or_eq_false_iff, beq_iff_eq, bne_iff_ne, ne_eq, beq_eq_false_iff_ne, bne_eq_false_iff_eq, Bool.not_eq_true, Bool.not_eq_false, Bool.not_eq_false', Int.toNat_natCast, Int.reduceToNat] at hc7)
              refine hw_seq (fun Nh25 h25 => ?_)
              refine hw_region ?_
              refine hq_ 73 (hop_move rfl) rfl rfl pre0 rfl rfl ?_
              refine hq_ 74 (hop_build (hs := [(0, 1, _), (1, 1, _), (2, 1, _), (3, 1, _)]) st_40 rfl rfl ⟨rfl, rfl, rfl, rfl, rfl, ⟨rfl, rfl, rfl, rfl, rfl, ⟨rfl, rfl, rfl, rfl, rfl, ⟨rfl, rfl, rfl, rfl, rfl, trivial⟩⟩⟩⟩) rfl rfl pre0 rfl rfl ?_
              refine hq_ 75 (hop_move rfl) rfl rfl pre0 rfl rfl ?_
              first
              | refine hq_ 76 (hop_addi rfl rfl rfl (by first | exact Nat.le_of_ble_eq_true rfl | omega | (dsimp only; omega) | (simp <;> omega)) (by first | exact Nat.le_of_ble_eq_true rfl | omega | (dsimp only; omega) | (simp <;> omega))) rfl rfl pre0 rfl rfl ?_
              | refine hq_ 76 (hop_add rfl rfl) rfl rfl pre0 rfl rfl ?_
              first
              | refine hm_s1 (hol_storeW ty_40 rfl rfl rfl rfl) rfl rfl (pre1 rfl) (c' := 2) rfl ?_
              | refine hm_s1 (hol_store ty_40 rfl rfl rfl rfl (by first | exact Nat.le_of_ble_eq_true rfl | omega | (dsimp only; omega) | (simp <;> omega)) (by first | exact Nat.le_of_ble_eq_true rfl | omega | (dsimp only; omega) | (simp <;> omega)) (by first | exact Nat.le_of_ble_eq_true rfl | omega | (dsimp only; omega) | (simp <;> omega))) rfl rfl (pre1 rfl) (c' := 2) rfl ?_
              refine hq_ 5 (hop_assign rfl) rfl rfl pre0 rfl rfl ?_
              refine hq_ 6 (hop_assign rfl) rfl rfl pre0 rfl rfl ?_
              refine hseq_nil ?_
              refine h25 _ ?_
              refine hw_ret ?_
              refine hq_block_ret ?_
              refine hq_then_ret ?_
              refine hq_ret3 rfl (rvl_cell rfl rfl ty_40 (fun h => by first | rfl | cases h) rfl rfl) (rval_tmp rfl) (rval_tmp rfl) [] rfl pre0 ?_
              have e : oneF s i = (⟨5, i, 1, -1, []⟩, ((i + 1 : Nat) : Int), 0) := (by unfold oneF; rw [if_neg h0, if_neg hc3, if_neg hc4, if_neg hc5, if_neg hc6, if_pos hc7]); rw [e]; exact fz_t3 (fz_agg5 (by first | exact .imm _ | exact .nil _ _ _ (by decide) _ | exact fz_toks _ | exact fz_mkss _ | exact Frz.fz) (by first | exact .imm _ | exact .nil _ _ _ (by decide) _ | exact fz_toks _ | exact fz_mkss _ | exact Frz.fz) (by first | exact .imm _ | exact .nil _ _ _ (by decide) _ | exact fz_toks _ | exact fz_mkss _ | exact Frz.fz) (by first | exact .imm _ | exact .nil _ _ _ (by decide) _ | exact fz_toks _ | exact fz_mkss _ | exact Frz.fz) (by first | exact .imm _ | exact .nil _ _ _ (by decide) _ | exact fz_toks _ | exact fz_mkss _ | exact Frz.fz)) (.imm _) (.imm _)
            · have hr7 := hc7; (try simp only [decide_eq_true_eq, decide_eq_false_iff_not, Bool.and_eq_true, Bool.or_eq_true, Bool.not_eq_true', Bool.or_eq_false_iff, beq_iff_eq, bne_iff_ne, ne_eq, beq_eq_false_iff_ne, bne_eq_false_iff_eq, Bool.not_eq_true, Bool.not_eq_false, Bool.not_eq_false', Int.toNat_natCast, Int.reduceToNat] at hc7)
              refine hw_seq (fun Nh26 h26 => ?_)
              refine hw_region ?_
              refine hq_ 78 (hop_eql rfl rfl) rfl rfl pre0 rfl rfl ?_
              refine hq_ 77 (hop_assign rfl) rfl rfl pre0 rfl rfl ?_
              refine hseq_nil ?_
              refine h26 _ ?_
              refine hw_cond _ rfl (fun hc8 => ?_) (fun hc8 => ?_)
              · have hr8 := hc8; (try simp only [decide_eq_true_eq, decide_eq_false_iff_not, Bool.and_eq_true, Bool.or_eq_true, Bool.not_eq_true', Bool.or_eq_false_iff, beq_iff_eq, bne_iff_ne, ne_eq, beq_eq_false_iff_ne, bne_eq_false_iff_eq, Bool.not_eq_true, Bool.not_eq_false, Bool.not_eq_false', Int.toNat_natCast, Int.reduceToNat] at hc8)
                refine hw_seq (fun Nh27 h27 => ?_)
                refine hw_region ?_
                refine hq_ 79 (hop_move rfl) rfl rfl pre0 rfl rfl ?_
                refine hq_ 80 (hop_build (hs := [(0, 1, _), (1, 1, _), (3, 1, _)]) st_40 rfl rfl ⟨rfl, rfl, rfl, rfl, rfl, ⟨rfl, rfl, rfl, rfl, rfl, ⟨rfl, rfl, rfl, rfl, rfl, trivial⟩⟩⟩) rfl rfl pre0 rfl rfl ?_
                refine hq_ 81 (hop_move rfl) rfl rfl pre0 rfl rfl ?_
                first
                | refine hq_ 82 (hop_addi rfl rfl rfl (by first | exact Nat.le_of_ble_eq_true rfl | omega | (dsimp only; omega) | (simp <;> omega)) (by first | exact Nat.le_of_ble_eq_true rfl | omega | (dsimp only; omega) | (simp <;> omega))) rfl rfl pre0 rfl rfl ?_
                | refine hq_ 82 (hop_add rfl rfl) rfl rfl pre0 rfl rfl ?_
                first
                | refine hm_s1 (hol_storeW ty_40 rfl rfl rfl rfl) rfl rfl (pre1 rfl) (c' := 2) rfl ?_
                | refine hm_s1 (hol_store ty_40 rfl rfl rfl rfl (by first | exact Nat.le_of_ble_eq_true rfl | omega | (dsimp only; omega) | (simp <;> omega)) (by first | exact Nat.le_of_ble_eq_true rfl | omega | (dsimp only; omega) | (simp <;> omega)) (by first | exact Nat.le_of_ble_eq_true rfl | omega | (dsimp only; omega) | (simp <;> omega))) rfl rfl (pre1 rfl) (c' := 2) rfl ?_
                refine hq_ 5 (hop_assign rfl) rfl rfl pre0 rfl rfl ?_
                refine hq_ 6 (hop_assign rfl) rfl rfl pre0 rfl rfl ?_
                refine hseq_nil ?_
                refine h27 _ ?_
                refine hw_ret ?_
                refine hq_block_ret ?_
                refine hq_then_ret ?_
                refine hq_ret3 rfl (rvl_cell rfl rfl ty_40 (fun h => by first | rfl | cases h) rfl rfl) (rval_tmp rfl) (rval_tmp rfl) [] rfl pre0 ?_
                have e : oneF s i = (⟨5, i, 0, 1, []⟩, ((i + 1 : Nat) : Int), 0) := (by unfold oneF; rw [if_neg h0, if_neg hc3, if_neg hc4, if_neg hc5, if_neg hc6, if_neg hc7, if_pos hc8]); rw [e]; exact fz_t3 (fz_agg5 (by first | exact .imm _ | exact .nil _ _ _ (by decide) _ | exact fz_toks _ | exact fz_mkss _ | exact Frz.fz) (by first | exact .imm _ | exact .nil _ _ _ (by decide) _ | exact fz_toks _ | exact fz_mkss _ | exact Frz.fz) (by first | exact .imm _ | exact .nil _ _ _ (by decide) _ | exact fz_toks _ | exact fz_mkss _ | exact Frz.fz) (by first | exact .imm _ | exact .nil _ _ _ (by decide) _ | exact fz_toks _ | exact fz_mkss _ | exact Frz.fz) (by first | exact .imm _ | exact .nil _ _ _ (by decide) _ | exact fz_toks _ | exact fz_mkss _ | exact Frz.fz)) (.imm _) (.imm _)
              · have hr8 := hc8; (try simp only [decide_eq_true_eq, decide_eq_false_iff_not, Bool.and_eq_true, Bool.or_eq_true, Bool.not_eq_true', Bool.or_eq_false_iff, beq_iff_eq, bne_iff_ne, ne_eq, beq_eq_false_iff_ne, bne_eq_false_iff_eq, Bool.not_eq_true, Bool.not_eq_false, Bool.not_eq_false', Int.toNat_natCast, Int.reduceToNat] at hc8)
                refine hw_seq (fun Nh28 h28 => ?_)
                refine hw_region ?_
                refine hq_ 84 (hop_eql rfl rfl) rfl rfl pre0 rfl rfl ?_
                refine hq_ 83 (hop_assign rfl) rfl rfl pre0 rfl rfl ?_
                refine hseq_nil ?_
                refine h28 _ ?_
                refine hw_cond _ rfl (fun hc9 => ?_) (fun hc9 => ?_)
                · have hr9 := hc9; (try simp only [decide_eq_true_eq, decide_eq_false_iff_not, Bool.and_eq_true, Bool.or_eq_true, Bool.not_eq_true', Bool.or_eq_false_iff, beq_iff_eq, bne_iff_ne, ne_eq, beq_eq_false_iff_ne, bne_eq_false_iff_eq, Bool.not_eq_true, Bool.not_eq_false, Bool.not_eq_false', Int.toNat_natCast, Int.reduceToNat] at hc9)
                  refine hw_seq (fun Nh29 h29 => ?_)
                  refine hw_region ?_
                  refine hq_ 85 (hop_move rfl) rfl rfl pre0 rfl rfl ?_
                  refine hq_ 86 (hop_move rfl) rfl rfl pre0 rfl rfl ?_
                  refine hq_ 87 (hop_call0 (xs := [_, _]) (refCount_h s i hs hi) ⟨rfl, ⟨rfl, trivial⟩⟩ ⟨(Fz.eq rfl), ⟨(Fz.eq rfl), trivial⟩⟩) rfl rfl pre0 rfl rfl ?_
                  refine hq_ 88 (hop_extract rfl rfl) rfl rfl pre0 rfl rfl ?_
                  refine hq_ 89 (hop_extract rfl rfl) rfl rfl pre0 rfl rfl ?_
                  refine hq_ 90 (hop_extract rfl rfl) rfl rfl pre0 rfl rfl ?_
                  first
                  | refine hm_s1 (hol_storeW ty_40 rfl rfl rfl rfl) rfl rfl (pre1 rfl) (c' := 2) rfl ?_
                  | refine hm_s1 (hol_store ty_40 rfl rfl rfl rfl (by first | exact Nat.le_of_ble_eq_true rfl | omega | (dsimp only; omega) | (simp <;> omega)) (by first | exact Nat.le_of_ble_eq_true rfl | omega | (dsimp only; omega) | (simp <;> omega)) (by first | exact Nat.le_of_ble_eq_true rfl | omega | (dsimp only; omega) | (simp <;> omega))) rfl rfl (pre1 rfl) (c' := 2) rfl ?_
                  refine hq_ 5 (hop_assign rfl) rfl rfl pre0 rfl rfl ?_
                  refine hq_ 6 (hop_assign rfl) rfl rfl pre0 rfl rfl ?_
                  refine hseq_nil ?_
                  refine h29 _ ?_
                  refine hw_ret ?_
                  refine hq_block_ret ?_
                  refine hq_then_ret ?_
                  refine hq_ret3 rfl (rvl_cell rfl rfl ty_40 (fun h => by first | rfl | cases h) rfl rfl) (rval_tmp rfl) (rval_tmp rfl) [] rfl pre0 ?_
                  have e : oneF s i = countF s i := (by unfold oneF; rw [if_neg h0, if_neg hc3, if_neg hc4, if_neg hc5, if_neg hc6, if_neg hc7, if_neg hc8, if_pos hc9]); rw [e]; exact fz_t3 (fz_agg5 (by first | exact .imm _ | exact .nil _ _ _ (by decide) _ | exact fz_toks _ | exact fz_mkss _ | exact Frz.fz) (by first | exact .imm _ | exact .nil _ _ _ (by decide) _ | exact fz_toks _ | exact fz_mkss _ | exact Frz.fz) (by first | exact .imm _ | exact .nil _ _ _ (by decide) _ | exact fz_toks _ | exact fz_mkss _ | exact Frz.fz) (by first | exact .imm _ | exact .nil _ _ _ (by decide) _ | exact fz_toks _ | exact fz_mkss _ | exact Frz.fz) (by first | exact .imm _ | exact .nil _ _ _ (by decide) _ | exact fz_toks _ | exact fz_mkss _ | exact Frz.fz)) (.imm _) (.imm _)
                · have hr9 := hc9; (try simp only [decide_eq_true_eq, decide_eq_false_iff_not, Bool.and_eq_true, Bool.or_eq_true, Bool.not_eq_true', Bool.or_eq_false_iff, beq_iff_eq, bne_iff_ne, ne_eq, beq_eq_false_iff_ne, bne_eq_false_iff_eq, Bool.not_eq_true, Bool.not_eq_false, Bool.not_eq_false', Int.toNat_natCast, Int.reduceToNat] at hc9)
                  refine hw_skip ?_
                  refine hq_block ?_
                  refine h14 _ ?_
                  refine hw_seq (fun Nh30 h30 => ?_)
                  refine hw_region ?_
                  refine hq_ 91 (hop_build (hs := []) st_40 rfl rfl trivial) rfl rfl pre0 rfl rfl ?_
                  refine hq_ 92 (hop_move rfl) rfl rfl pre0 rfl rfl ?_
                  first
                  | refine hm_s1 (hol_storeW ty_40 rfl rfl rfl rfl) rfl rfl (pre1 rfl) (c' := 2) rfl ?_
                  | refine hm_s1 (hol_store ty_40 rfl rfl rfl rfl (by first | exact Nat.le_of_ble_eq_true rfl | omega | (dsimp only; omega) | (simp <;> omega)) (by first | exact Nat.le_of_ble_eq_true rfl | omega | (dsimp only; omega) | (simp <;> omega)) (by first | exact Nat.le_of_ble_eq_true rfl | omega | (dsimp only; omega) | (simp <;> omega))) rfl rfl (pre1 rfl) (c' := 2) rfl ?_
                  refine hq_ 5 (hop_assign rfl) rfl rfl pre0 rfl rfl ?_
                  refine hq_ 6 (hop_assign rfl) rfl rfl pre0 rfl rfl ?_
                  refine hseq_nil ?_
                  refine h30 _ ?_
                  refine hw_ret ?_
                  refine hq_ret3 rfl (rvl_cell rfl rfl ty_40 (fun h => by first | rfl | cases h) rfl rfl) (rval_tmp rfl) (rval_tmp rfl) [] rfl pre0 ?_
                  have e : oneF s i = (sgZ, (i : Int), 2) := (by unfold oneF; rw [if_neg h0, if_neg hc3, if_neg hc4, if_neg hc5, if_neg hc6, if_neg hc7, if_neg hc8, if_neg hc9]); rw [e]; exact fz_t3 (fz_agg5 (by first | exact .imm _ | exact .nil _ _ _ (by decide) _ | exact fz_toks _ | exact fz_mkss _ | exact Frz.fz) (by first | exact .imm _ | exact .nil _ _ _ (by decide) _ | exact fz_toks _ | exact fz_mkss _ | exact Frz.fz) (by first | exact .imm _ | exact .nil _ _ _ (by decide) _ | exact fz_toks _ | exact fz_mkss _ | exact Frz.fz) (by first | exact .imm _ | exact .nil _ _ _ (by decide) _ | exact fz_toks _ | exact fz_mkss _ | exact Frz.fz) (by first | exact .imm _ | exact .nil _ _ _ (by decide) _ | exact fz_toks _ | exact fz_mkss _ | exact Frz.fz)) (.imm _) (.imm _)
theorem sb_sg {f : Nat → HV} (x : Sg) (h0 : Sb (f 0) (sgF x 0)) (h1 : Sb (f 1) (sgF x 1)) (h2 : Sb (f 2) (sgF x 2)) (h3 : Sb (f 3) (sgF x 3)) (h4 : Sb (f 4) (sgF x 4)) : ∀ j, j < 5 → Sb (f j) (sgF x j) := fun j hj => by
  match j, hj with
  | 0, _ => exact h0
  | 1, _ => exact h1
  | 2, _ => exact h2
  | 3, _ => exact h3
  | 4, _ => exact h4
theorem sg_fz7 {sh : List (Nat × HObj)} (x : Sg) (j : Nat) : Fz sh (sgF x j) (sgF x j) := by
  match j with
  | 0 => exact .imm _
  | 1 => exact .imm _
  | 2 => exact .imm _
  | 3 => exact .imm _
  | j + 4 => exact .imm _
theorem refLex_h (s : List UInt8) (hs : s.length ≤ 1000000) : HPure Tryd.prog 23 [strV s] (lexH (lexO (lexV s))) := by
  have hV := lexV_at s
  refine hpure_of Tryd.func23 rfl (by kernel_rfl) _ _ _ rfl 47 rfl rfl (fun w F => ?_)
  refine hw_seq (fun Nh1 h1 => ?_)
  refine hw_region ?_
  refine hq_ 2 (hop_assign rfl) rfl rfl pre0 rfl rfl ?_
  refine hq_ 3 (hop_assign rfl) rfl rfl pre0 rfl rfl ?_
  refine hq_ 4 (hop_assign rfl) rfl rfl pre0 rfl rfl ?_
  refine hseq_nil ?_
  refine h1 _ ?_
  refine hw_seq (fun Nh2 h2 => ?_)
  refine hw_region ?_
  refine hq_ 5 (hop_assign rfl) rfl rfl pre0 rfl rfl ?_
  refine hseq_nil ?_
  refine h2 _ ?_
  refine hw_seq (fun Nh3 h3 => ?_)
  refine hw_seq (fun Nh4 h4 => ?_)
  refine hw_region ?_
  refine hq_ 6 (hop_assign rfl) rfl rfl pre0 rfl rfl ?_
  refine hseq_nil ?_
  refine h4 _ ?_
  refine hw_block ?_
  refine hw_own 5 5 5 40 ((sgsF [])) rfl (by decide) rfl (c' := 1) rfl ?_
  refine hw_loopc (α := Nat × List Sg × Nat × Nat) (fun x c => ⟨47, [(0, .v (strV s)), (6, .v (intV x.1)), (5, .v (.os 5 x.2.2.1 0 x.2.2.2))], [(5, ⟨x.2.2.1, x.2.2.2, 5, 40, 0, sgsF x.2.1⟩)], c⟩) (fun x => x.1 ≤ s.length ∧ x.2.1.length ≤ 200 ∧ x.2.2.2 = x.2.1.length ∧ lexAt s x.1 x.2.1 = lexV s) (fun x => s.length - x.1) ((0, [], 0, 0)) (by exact ⟨Nat.zero_le _, Nat.zero_le _, rfl, hV⟩) (hsub_of rfl (Nat.le_refl _) (TmSub.cons rfl (Sb.refl _) (TmSub.cons rfl (Sb.refl _) (TmSub.cons rfl (Sb.refl _) TmSub.nil))) (HpSub.cons rfl (OSub.refl _) HpSub.nil)) (fun x c hx NhL5 hL5 => ?_)
  revert hx hL5; obtain ⟨i, out, gl, n⟩ := x; intro hx hL5; dsimp only at hx hL5 ⊢
  obtain ⟨hi, hol, hn, hL⟩ := hx
  refine hw_seq (fun Nh6 h6 => ?_)
  refine hw_seq (fun Nh7 h7 => ?_)
  refine hw_region ?_
  refine hq_ 10 (hop_move rfl) rfl rfl pre0 rfl rfl ?_
  refine hq_ 11 (hop_move rfl) rfl rfl pre0 rfl rfl ?_
  refine hq_ 12 (hop_len_strl (T := 9) rfl (by kernel_rfl) rfl) rfl rfl pre0 rfl rfl ?_
  refine hq_ 13 (hop_lss rfl rfl) rfl rfl pre0 rfl rfl ?_
  refine hseq_nil ?_
  refine h7 _ ?_
  refine hw_cond _ rfl (fun hc0 => ?_) (fun hc0 => ?_)
  · have hr0 := hc0; (try simp only [decide_eq_true_eq, decide_eq_false_iff_not, Bool.and_eq_true, Bool.or_eq_true, Bool.not_eq_true', Bool.or_eq_false_iff, beq_iff_eq, bne_iff_ne, ne_eq, beq_eq_false_iff_ne, bne_eq_false_iff_eq, Bool.not_eq_true, Bool.not_eq_false, Bool.not_eq_false', Int.toNat_natCast, Int.reduceToNat] at hc0)
    have hil : i < s.length := (by omega)
    refine hw_skip ?_
    refine h6 _ ?_
    refine hw_block ?_
    refine hw_seq (fun Nh8 h8 => ?_)
    refine hw_seq (fun Nh9 h9 => ?_)
    refine hw_region ?_
    refine hq_ 14 (hop_move rfl) rfl rfl pre0 rfl rfl ?_
    refine hq_ 15 (hop_move rfl) rfl rfl pre0 rfl rfl ?_
    refine hq_ 16 (HOp.val (v' := .imm (.int .u8 (bz s i))) (hop_ix_strl (by kernel_rfl) rfl rfl (by first | exact Nat.le_of_ble_eq_true rfl | omega | (dsimp only; omega) | (simp <;> omega)) (by first | exact Nat.le_of_ble_eq_true rfl | omega | (dsimp only; omega) | (simp <;> omega))) (by rw [bz_in hil, Int.toNat_natCast])) rfl rfl pre0 rfl rfl ?_
    refine hq_ 17 (hop_eql rfl rfl) rfl rfl pre0 rfl rfl ?_
    refine hseq_nil ?_
    refine h9 _ ?_
    refine hw_cond _ rfl (fun hc1 => ?_) (fun hc1 => ?_)
    · have hr1 := hc1; (try simp only [decide_eq_true_eq, decide_eq_false_iff_not, Bool.and_eq_true, Bool.or_eq_true, Bool.not_eq_true', Bool.or_eq_false_iff, beq_iff_eq, bne_iff_ne, ne_eq, beq_eq_false_iff_ne, bne_eq_false_iff_eq, Bool.not_eq_true, Bool.not_eq_false, Bool.not_eq_false', Int.toNat_natCast, Int.reduceToNat] at hc1)
      refine hw_seq (fun Nh10 h10 => ?_)
      refine hw_region ?_
      refine hq_ 18 (hop_move rfl) rfl rfl pre0 rfl rfl ?_
      first
      | refine hq_ 19 (HOp.val (v' := intV ((i + 1 : Nat) : Int)) (hop_addi rfl rfl rfl (by first | exact Nat.le_of_ble_eq_true rfl | omega | (dsimp only; omega) | (simp <;> omega)) (by first | exact Nat.le_of_ble_eq_true rfl | omega | (dsimp only; omega) | (simp <;> omega))) (rfl)) rfl rfl pre0 rfl rfl ?_
      | refine hq_ 19 (HOp.val (v' := intV ((i + 1 : Nat) : Int)) (hop_add rfl rfl) (rfl)) rfl rfl pre0 rfl rfl ?_
      refine hq_ 6 (hop_assign rfl) rfl rfl pre0 rfl rfl ?_
      refine hseq_nil ?_
      refine h10 _ ?_
      refine hw_exit ?_
      refine hq_then_exit ?_
      refine hq_block_here ?_
      exact hL5 ((i + 1, out, gl, n)) _ _ (by (try dsimp only); exact ⟨hil, hol, hn, by rw [← lexAt_sp hil hc1]; exact hL⟩) (by (try dsimp only); omega) (hsub_of rfl (Nat.le_refl _) (TmSub.cons rfl (Sb.refl _) (TmSub.cons rfl (Sb.refl _) (TmSub.cons rfl (Sb.refl _) TmSub.nil))) (HpSub.cons rfl (OSub.refl _) HpSub.nil))
    · have hr1 := hc1; (try simp only [decide_eq_true_eq, decide_eq_false_iff_not, Bool.and_eq_true, Bool.or_eq_true, Bool.not_eq_true', Bool.or_eq_false_iff, beq_iff_eq, bne_iff_ne, ne_eq, beq_eq_false_iff_ne, bne_eq_false_iff_eq, Bool.not_eq_true, Bool.not_eq_false, Bool.not_eq_false', Int.toNat_natCast, Int.reduceToNat] at hc1)
      refine hw_skip ?_
      refine h8 _ ?_
      refine hw_seq (fun Nh11 h11 => ?_)
      refine hw_seq (fun Nh12 h12 => ?_)
      refine hw_region ?_
      refine hq_ 20 (hop_move rfl) rfl rfl pre0 rfl rfl ?_
      first
      | refine hq_ 21 (hop_len_sl (T := 36) rfl (elOf_spec el_36).1 rfl) rfl rfl pre0 rfl rfl ?_
      | refine hq_ 21 (hop_len_os (T := 36) rfl (elOf_spec el_36).1 rfl) rfl rfl pre0 rfl rfl ?_
      | refine hq_ 21 (hop_len_nil (T := 36) rfl (elOf_spec el_36).1 rfl) rfl rfl pre0 rfl rfl ?_
      refine hq_ 22 (hop_eql rfl rfl) rfl rfl pre0 rfl rfl ?_
      refine hq_ 23 (hop_move rfl) rfl rfl pre0 rfl rfl ?_
      first
      | refine hq_g 24 3 23 true _ (fun hb => hop_move rfl) rfl rfl rfl rfl pre0 rfl rfl rfl ?_
      | refine hq_g2 24 3 23 _ _ true _ (fun hb => hop_move rfl) rfl rfl rfl rfl pre0 rfl rfl rfl ?_
      first
      | refine hq_g 25 3 23 true _ (fun hb => hop_move rfl) rfl rfl rfl rfl pre0 rfl rfl rfl ?_
      | refine hq_g2 25 3 23 _ _ true _ (fun hb => hop_move rfl) rfl rfl rfl rfl pre0 rfl rfl rfl ?_
      first
      | refine hq_g 26 3 23 true _ (fun hb => HOp.val (v' := .imm (.int .u8 (bz s i))) (hop_ix_strl (by kernel_rfl) rfl rfl (by first | exact Nat.le_of_ble_eq_true rfl | (simp at hb; first | omega | (dsimp only; omega) | (simp <;> omega))) (by first | exact Nat.le_of_ble_eq_true rfl | (simp at hb; first | omega | (dsimp only; omega) | (simp <;> omega)))) (by rw [bz_in hil, Int.toNat_natCast])) rfl rfl rfl rfl pre0 rfl rfl rfl ?_
      | refine hq_g2 26 3 23 _ _ true _ (fun hb => HOp.val (v' := .imm (.int .u8 (bz s i))) (hop_ix_strl (by kernel_rfl) rfl rfl (by first | exact Nat.le_of_ble_eq_true rfl | (simp at hb; first | omega | (dsimp only; omega) | (simp <;> omega))) (by first | exact Nat.le_of_ble_eq_true rfl | (simp at hb; first | omega | (dsimp only; omega) | (simp <;> omega)))) (by rw [bz_in hil, Int.toNat_natCast])) rfl rfl rfl rfl pre0 rfl rfl rfl ?_
      first
      | refine hq_g 27 3 23 true _ (fun hb => hop_call0 (xs := [_]) (refBegins_h _) ⟨rfl, trivial⟩ ⟨(Fz.eq rfl), trivial⟩) rfl rfl rfl rfl pre0 rfl rfl rfl ?_
      | refine hq_g2 27 3 23 _ _ true _ (fun hb => hop_call0 (xs := [_]) (refBegins_h _) ⟨rfl, trivial⟩ ⟨(Fz.eq rfl), trivial⟩) rfl rfl rfl rfl pre0 rfl rfl rfl ?_
      first
      | refine hq_p 28 (hstep_and _ _ rfl rfl rfl) rfl rfl rfl ?_
      | refine hq_p 28 (hstep_or _ _ rfl rfl rfl) rfl rfl rfl ?_
      | refine hq_p 28 (hstep_ite _ _ _ rfl rfl rfl) rfl rfl rfl ?_
      | refine hq_p 28 (hstep_pick _ _ _ _ rfl rfl rfl (fun _ => .refl _) (fun _ => .refl _)) rfl rfl rfl ?_
      refine hseq_nilU (by rfl) (by simp only [dropUn, slots]; exact rfl) ?_
      refine h12 _ ?_
      refine hw_cond _ rfl (fun hc2 => ?_) (fun hc2 => ?_)
      · have hr2 := hc2; (try simp only [decide_eq_true_eq, decide_eq_false_iff_not, Bool.and_eq_true, Bool.or_eq_true, Bool.not_eq_true', Bool.or_eq_false_iff, beq_iff_eq, bne_iff_ne, ne_eq, beq_eq_false_iff_ne, bne_eq_false_iff_eq, Bool.not_eq_true, Bool.not_eq_false, Bool.not_eq_false', Int.toNat_natCast, Int.reduceToNat] at hc2)
        refine hw_seq (fun Nh13 h13 => ?_)
        refine hw_region ?_
        refine hq_ 29 (hop_move rfl) rfl rfl pre0 rfl rfl ?_
        refine hq_ 2 (hop_assign rfl) rfl rfl pre0 rfl rfl ?_
        refine hq_ 3 (hop_assign rfl) rfl rfl pre0 rfl rfl ?_
        refine hq_ 4 (hop_assign rfl) rfl rfl pre0 rfl rfl ?_
        refine hseq_nil ?_
        refine h13 _ ?_
        refine hw_ret ?_
        refine hq_then_ret ?_
        refine hq_block_ret ?_
        refine hq_then_ret ?_
        refine hq_block_ret ?_
        refine hq_then_ret ?_
        refine hq_ret3 rfl (rval_tmp rfl) (rval_tmp rfl) (rval_tmp rfl) [] rfl pre0 ?_
        have e : lexV s = .error ((i : Int), 4) := (by rw [← hL]; exact lexAt_long hil hc1 (by omega) hc2.2); rw [e]; exact fz_t3 (.nil 0 5 _ (by decide) none) (.imm _) (.imm _)
      · have hr2 := hc2; (try simp only [decide_eq_true_eq, decide_eq_false_iff_not, Bool.and_eq_true, Bool.or_eq_true, Bool.not_eq_true', Bool.or_eq_false_iff, beq_iff_eq, bne_iff_ne, ne_eq, beq_eq_false_iff_ne, bne_eq_false_iff_eq, Bool.not_eq_true, Bool.not_eq_false, Bool.not_eq_false', Int.toNat_natCast, Int.reduceToNat] at hc2)
        refine hw_skip ?_
        refine h11 _ ?_
        refine hw_seq (fun Nh14 h14 => ?_)
        have hsm := one_same s i hil; rcases hone : oneR s i with e | ⟨x, q⟩ <;> rw [hone] at hsm
        · skip
          refine hw_region ?_
          refine hq_ 31 (hop_move rfl) rfl rfl pre0 rfl rfl ?_
          refine hq_ 32 (hop_move rfl) rfl rfl pre0 rfl rfl ?_
          refine hq_ 33 (hop_call0 (xs := [_, _]) (refOne_h s i hs hil) ⟨rfl, ⟨rfl, trivial⟩⟩ ⟨(Fz.eq rfl), ⟨(Fz.eq rfl), trivial⟩⟩) rfl rfl pre0 rfl rfl ?_
          refine hq_ 30 (hop_move rfl) rfl rfl pre0 rfl rfl ?_
          refine hq_ 34 (hop_extract rfl rfl) rfl rfl pre0 rfl rfl ?_
          refine hq_ 35 (HOp.val (v' := intV e.1) (hop_extract rfl rfl) (by rw [← hsm.1]; rfl)) rfl rfl pre0 rfl rfl ?_
          refine hq_ 36 (HOp.val (v' := intV e.2) (hop_extract rfl rfl) (by rw [← hsm.1]; rfl)) rfl rfl pre0 rfl rfl ?_
          refine hm_1 7 (hop_alloc (id := 7) (sz := 5) zc_40 rfl rfl (by first | exact Nat.le_of_ble_eq_true rfl | omega | (dsimp only; omega) | (simp <;> omega)) (by first | exact Nat.le_of_ble_eq_true rfl | omega | (dsimp only; omega) | (simp <;> omega))) rfl rfl pre0 rfl rfl (c' := c + 1) rfl ?_
          first
          | refine hm_s1 (hol_storeW ty_40 rfl rfl rfl rfl) rfl rfl (pre1 rfl) (c' := c + 2) rfl ?_
          | refine hm_s1 (hol_store ty_40 rfl rfl rfl rfl (by first | exact Nat.le_of_ble_eq_true rfl | omega | (dsimp only; omega) | (simp <;> omega)) (by first | exact Nat.le_of_ble_eq_true rfl | omega | (dsimp only; omega) | (simp <;> omega)) (by first | exact Nat.le_of_ble_eq_true rfl | omega | (dsimp only; omega) | (simp <;> omega))) rfl rfl (pre1 rfl) (c' := c + 2) rfl ?_
          refine hq_ 8 (hop_assign rfl) rfl rfl pre0 rfl rfl ?_
          refine hq_ 9 (hop_assign rfl) rfl rfl pre0 rfl rfl ?_
          refine hseq_nil ?_
          refine h14 _ ?_
          refine hw_seq (fun Nh15 h15 => ?_)
          refine hw_seq (fun Nh16 h16 => ?_)
          refine hw_region ?_
          refine hq_ 37 (hop_move rfl) rfl rfl pre0 rfl rfl ?_
          refine hq_ 38 (hop_neq rfl rfl) rfl rfl pre0 rfl rfl ?_
          refine hseq_nil ?_
          refine h16 _ ?_
          refine hw_cond _ rfl (fun hc3 => ?_) (fun hc3 => ?_)
          · have hr3 := hc3; (try simp only [decide_eq_true_eq, decide_eq_false_iff_not, Bool.and_eq_true, Bool.or_eq_true, Bool.not_eq_true', Bool.or_eq_false_iff, beq_iff_eq, bne_iff_ne, ne_eq, beq_eq_false_iff_ne, bne_eq_false_iff_eq, Bool.not_eq_true, Bool.not_eq_false, Bool.not_eq_false', Int.toNat_natCast, Int.reduceToNat] at hc3)
            refine hw_seq (fun Nh17 h17 => ?_)
            refine hw_region ?_
            refine hq_ 39 (hop_move rfl) rfl rfl pre0 rfl rfl ?_
            refine hq_ 40 (hop_move rfl) rfl rfl pre0 rfl rfl ?_
            refine hq_ 2 (hop_assign rfl) rfl rfl pre0 rfl rfl ?_
            refine hq_ 3 (hop_assign rfl) rfl rfl pre0 rfl rfl ?_
            refine hq_ 4 (hop_assign rfl) rfl rfl pre0 rfl rfl ?_
            refine hseq_nil ?_
            refine h17 _ ?_
            refine hw_ret ?_
            refine hq_then_ret ?_
            refine hq_block_ret ?_
            refine hq_then_ret ?_
            refine hq_block_ret ?_
            refine hq_then_ret ?_
            refine hq_ret3 rfl (rval_tmp rfl) (rval_tmp rfl) (rval_tmp rfl) [] rfl pre0 ?_
            have e' : lexV s = .error e := (by rw [← hL]; rcases Classical.em (out.length = 200) with h200 | h200; (have hb : beginZ (bz s i) = false := (by have h := hr2; rw [show ((n : Int) == 200) = true by (rw [hn, h200]; try rfl), Bool.true_and] at h; exact h); rw [lexAt_odd hil hc1 h200 hb]; rw [one_nobegin hb] at hone; injection hone with hone; rw [hone]); exact lexAt_err hil hc1 h200 hone); rw [e']; exact fz_t3 (.nil 0 5 _ (by decide) none) (.imm _) (.imm _)
          · have hr3 := hc3; (try simp only [decide_eq_true_eq, decide_eq_false_iff_not, Bool.and_eq_true, Bool.or_eq_true, Bool.not_eq_true', Bool.or_eq_false_iff, beq_iff_eq, bne_iff_ne, ne_eq, beq_eq_false_iff_ne, bne_eq_false_iff_eq, Bool.not_eq_true, Bool.not_eq_false, Bool.not_eq_false', Int.toNat_natCast, Int.reduceToNat] at hc3)
            exfalso; exact hsm.2 (by simpa using hr3)
        · skip
          refine hw_region ?_
          refine hq_ 31 (hop_move rfl) rfl rfl pre0 rfl rfl ?_
          refine hq_ 32 (hop_move rfl) rfl rfl pre0 rfl rfl ?_
          refine hq_ 33 (hop_call0 (xs := [_, _]) (refOne_h s i hs hil) ⟨rfl, ⟨rfl, trivial⟩⟩ ⟨(Fz.eq rfl), ⟨(Fz.eq rfl), trivial⟩⟩) rfl rfl pre0 rfl rfl ?_
          refine hq_ 30 (hop_move rfl) rfl rfl pre0 rfl rfl ?_
          refine hq_ 34 (HOp.val (v' := sgH x) (hop_extract rfl rfl) (by rw [show oneF s i = (x, (q : Int), 0) from hsm]; rfl)) rfl rfl pre0 rfl rfl ?_
          refine hq_ 35 (HOp.val (v' := intV q) (hop_extract rfl rfl) (by rw [show oneF s i = (x, (q : Int), 0) from hsm]; rfl)) rfl rfl pre0 rfl rfl ?_
          refine hq_ 36 (HOp.val (v' := intV 0) (hop_extract rfl rfl) (by rw [show oneF s i = (x, (q : Int), 0) from hsm]; rfl)) rfl rfl pre0 rfl rfl ?_
          refine hm_1 7 (hop_alloc (id := 7) (sz := 5) zc_40 rfl rfl (by first | exact Nat.le_of_ble_eq_true rfl | omega | (dsimp only; omega) | (simp <;> omega)) (by first | exact Nat.le_of_ble_eq_true rfl | omega | (dsimp only; omega) | (simp <;> omega))) rfl rfl pre0 rfl rfl (c' := c + 1) rfl ?_
          first
          | refine hm_s1 (hol_storeW ty_40 rfl rfl rfl rfl) rfl rfl (pre1 rfl) (c' := c + 2) rfl ?_
          | refine hm_s1 (hol_store ty_40 rfl rfl rfl rfl (by first | exact Nat.le_of_ble_eq_true rfl | omega | (dsimp only; omega) | (simp <;> omega)) (by first | exact Nat.le_of_ble_eq_true rfl | omega | (dsimp only; omega) | (simp <;> omega)) (by first | exact Nat.le_of_ble_eq_true rfl | omega | (dsimp only; omega) | (simp <;> omega))) rfl rfl (pre1 rfl) (c' := c + 2) rfl ?_
          refine hq_ 8 (hop_assign rfl) rfl rfl pre0 rfl rfl ?_
          refine hq_ 9 (hop_assign rfl) rfl rfl pre0 rfl rfl ?_
          refine hseq_nil ?_
          refine h14 _ ?_
          refine hw_seq (fun Nh18 h18 => ?_)
          refine hw_seq (fun Nh19 h19 => ?_)
          refine hw_region ?_
          refine hq_ 37 (hop_move rfl) rfl rfl pre0 rfl rfl ?_
          refine hq_ 38 (hop_neq rfl rfl) rfl rfl pre0 rfl rfl ?_
          refine hseq_nil ?_
          refine h19 _ ?_
          refine hw_cond _ rfl (fun hc3 => ?_) (fun hc3 => ?_)
          · have hr3 := hc3; (try simp only [decide_eq_true_eq, decide_eq_false_iff_not, Bool.and_eq_true, Bool.or_eq_true, Bool.not_eq_true', Bool.or_eq_false_iff, beq_iff_eq, bne_iff_ne, ne_eq, beq_eq_false_iff_ne, bne_eq_false_iff_eq, Bool.not_eq_true, Bool.not_eq_false, Bool.not_eq_false', Int.toNat_natCast, Int.reduceToNat] at hc3)
            exfalso; exact absurd hr3 (by decide)
          · have hr3 := hc3; (try simp only [decide_eq_true_eq, decide_eq_false_iff_not, Bool.and_eq_true, Bool.or_eq_true, Bool.not_eq_true', Bool.or_eq_false_iff, beq_iff_eq, bne_iff_ne, ne_eq, beq_eq_false_iff_ne, bne_eq_false_iff_eq, Bool.not_eq_true, Bool.not_eq_false, Bool.not_eq_false', Int.toNat_natCast, Int.reduceToNat] at hc3)
            refine hw_skip ?_
            refine h18 _ ?_
            refine hw_seq (fun Nh20 h20 => ?_)
            have hq := oneR_le hone; have h200 : ¬ out.length = 200 := (fun h200 => by have h := hr2; rw [show ((n : Int) == 200) = true by (rw [hn, h200]; try rfl), Bool.true_and] at h; rw [one_nobegin h] at hone; cases hone)
            refine hw_region ?_
            refine hq_ 41 (hop_move rfl) rfl rfl pre0 rfl rfl ?_
            first
            | refine hq_ 42 (hol_load ty_40 rfl (by first | exact Nat.le_of_ble_eq_true rfl | omega | (dsimp only; omega) | (simp <;> omega)) (by first | exact Nat.le_of_ble_eq_true rfl | omega | (dsimp only; omega) | (simp <;> omega)) (fun h => by first | rfl | cases h)) rfl rfl (pre1 rfl) rfl rfl ?_
            | refine hq_ 42 (hop_load_fp ty_40 rfl (by first | exact Nat.le_of_ble_eq_true rfl | omega | (dsimp only; omega) | (simp <;> omega)) (fun h => by first | rfl | cases h)) rfl rfl pre0 rfl rfl ?_
            refine hm_1 43 (hop_buildSlice (id := 43) (hs := [_]) ei_36 (by first | exact Nat.le_of_ble_eq_true rfl | omega | (dsimp only; omega) | (simp <;> omega)) rfl (by first | exact Nat.le_of_ble_eq_true rfl | omega | (dsimp only; omega) | (simp <;> omega)) ⟨rfl, rfl, rfl, rfl, trivial⟩) rfl rfl pre0 rfl rfl (c' := c + 3) rfl ?_
            first
            | refine hm_1 44 (hol_append ei_36 (by first | exact Nat.le_of_ble_eq_true rfl | omega | (dsimp only; omega) | (simp <;> omega)) rfl (by first | exact Nat.le_of_ble_eq_true rfl | omega | (dsimp only; omega) | (simp <;> omega)) (by first | exact Nat.le_of_ble_eq_true rfl | omega | (dsimp only; omega) | (simp <;> omega)) (srl_os0 rfl (by first | exact Nat.le_of_ble_eq_true rfl | omega | (dsimp only; omega) | (simp <;> omega))) (by first | exact Nat.le_of_ble_eq_true rfl | omega | (dsimp only; omega) | (simp <;> omega)) rfl) rfl rfl (preC rfl (pre1 rfl)) rfl rfl (c' := c + 4) rfl ?_
            | refine hm_1 44 (hol_append ei_36 (by first | exact Nat.le_of_ble_eq_true rfl | omega | (dsimp only; omega) | (simp <;> omega)) rfl (by first | exact Nat.le_of_ble_eq_true rfl | omega | (dsimp only; omega) | (simp <;> omega)) (by first | exact Nat.le_of_ble_eq_true rfl | omega | (dsimp only; omega) | (simp <;> omega)) (srl_os rfl (by first | exact Nat.le_of_ble_eq_true rfl | omega | (dsimp only; omega) | (simp <;> omega))) (by first | exact Nat.le_of_ble_eq_true rfl | omega | (dsimp only; omega) | (simp <;> omega)) rfl) rfl rfl (preC rfl (pre1 rfl)) rfl rfl (c' := c + 4) rfl ?_
            | refine hm_1 44 (hol_append ei_36 (by first | exact Nat.le_of_ble_eq_true rfl | omega | (dsimp only; omega) | (simp <;> omega)) rfl (by first | exact Nat.le_of_ble_eq_true rfl | omega | (dsimp only; omega) | (simp <;> omega)) (by first | exact Nat.le_of_ble_eq_true rfl | omega | (dsimp only; omega) | (simp <;> omega)) (src_sl rfl) (by first | exact Nat.le_of_ble_eq_true rfl | omega | (dsimp only; omega) | (simp <;> omega)) rfl) rfl rfl (preC rfl pre0) rfl rfl (c' := c + 4) rfl ?_
            | refine hm_1 44 (hol_append ei_36 (by first | exact Nat.le_of_ble_eq_true rfl | omega | (dsimp only; omega) | (simp <;> omega)) rfl (by first | exact Nat.le_of_ble_eq_true rfl | omega | (dsimp only; omega) | (simp <;> omega)) (by first | exact Nat.le_of_ble_eq_true rfl | omega | (dsimp only; omega) | (simp <;> omega)) (src_nil 5 (fun _ _ => default) rfl) (by first | exact Nat.le_of_ble_eq_true rfl | omega | (dsimp only; omega) | (simp <;> omega)) rfl) rfl rfl (preC rfl pre0) rfl rfl (c' := c + 4) rfl ?_
            refine hq_ 5 (hop_assign rfl) rfl rfl pre0 rfl rfl ?_
            refine hseq_nil ?_
            refine h20 _ ?_
            refine hw_region ?_
            refine hq_ 45 (hop_move rfl) rfl rfl pre0 rfl rfl ?_
            refine hq_ 6 (hop_assign rfl) rfl rfl pre0 rfl rfl ?_
            refine hseq_nil ?_
            refine hq_block ?_
            exact hL5 ((q, out ++ [x], c + 3, n + 1)) _ _ (by (try dsimp only); exact ⟨hq.2, by rw [List.length_append]; show out.length + 1 ≤ 200; omega, by rw [List.length_append, hn]; rfl, by rw [← lexAt_go hil hc1 h200 hone]; exact hL⟩) (by (try dsimp only); omega) (hsub_of rfl (Nat.le_refl _) (TmSub.cons rfl (Sb.refl _) (TmSub.cons rfl (Sb.refl _) (TmSub.cons rfl (Sb.refl _) TmSub.nil))) (HpSub.cons rfl (OSub.of fun i j hi hj => sb_cat (l := out) (k := [x]) (enc := sgF) (d := default) hn (fun i j _ _ => .refl _) (sb_one (x := x) (enc := sgF) (d := default) (sb_sg x (.refl _) (.refl _) (.refl _) (.refl _) (.refl _))) i j (by rw [List.length_append, ← hn]; exact hi) hj) HpSub.nil))
  · have hr0 := hc0; (try simp only [decide_eq_true_eq, decide_eq_false_iff_not, Bool.and_eq_true, Bool.or_eq_true, Bool.not_eq_true', Bool.or_eq_false_iff, beq_iff_eq, bne_iff_ne, ne_eq, beq_eq_false_iff_ne, bne_eq_false_iff_eq, Bool.not_eq_true, Bool.not_eq_false, Bool.not_eq_false', Int.toNat_natCast, Int.reduceToNat] at hc0)
    refine hw_exit ?_
    refine hq_then_exit ?_
    refine hq_then_exit ?_
    refine hq_block_here ?_
    refine h3 _ ?_
    refine hw_seq (fun Nh21 h21 => ?_)
    refine hw_region ?_
    refine hq_ 46 (hop_move rfl) rfl rfl pre0 rfl rfl ?_
    refine hq_ 2 (hop_assign rfl) rfl rfl pre0 rfl rfl ?_
    refine hq_ 3 (hop_assign rfl) rfl rfl pre0 rfl rfl ?_
    refine hq_ 4 (hop_assign rfl) rfl rfl pre0 rfl rfl ?_
    refine hseq_nil ?_
    refine h21 _ ?_
    refine hw_ret ?_
    refine hq_ret3 rfl (rval_tmp rfl) (rval_tmp rfl) (rval_tmp rfl) [(5, _)] rfl (preC rfl pre0) ?_
    have e : lexV s = .ok out := (by rw [← hL]; exact lexAt_end (by omega)); rw [e]; exact fz_t3 (fz_row (l := out) (enc := sgF) (d := default) (List.mem_cons_self ..) rfl hn (Nat.le_refl _) (fun i j hi hj => sg_fz7 _ j)) (.imm _) (.imm _)
end Go.Proofs.YtijpdbjcmnpobaaDoor
