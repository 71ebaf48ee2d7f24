/-
  The signs of a text, by the document: any sign, all signs.
-/
import Derived.Test.YtijpdbjcmnpobaaDoorLx6
import Derived.Test.YtijpdbjcmnpobaaDoorLx4
namespace Go.Proofs.YtijpdbjcmnpobaaDoor
set_option linter.unusedSimpArgs false
set_option linter.unusedVariables false
set_option maxRecDepth 100000
open Go.RowKit

theorem refBegins_h (x : Int) : HPure Tryd.prog 58 [.imm (.int .u8 x)] (boolV (beginZ x)) := by
  refine hpure_of Tryd.func58 rfl (by kernel_rfl) _ _ _ rfl 33 rfl rfl (fun w F => ?_)
  refine hw_seq (fun Nh1 h1 => ?_)
  refine hw_region ?_
  refine hq_ 2 (hop_assign rfl) rfl rfl pre0 rfl rfl ?_
  refine hseq_nil ?_
  refine h1 _ ?_
  refine hw_seq (fun Nh2 h2 => ?_)
  refine hw_region ?_
  refine hq_ 3 (hop_move rfl) rfl rfl pre0 rfl rfl ?_
  refine hq_ 4 (hop_call0 (xs := [_]) (refSmall_h _) ⟨rfl, trivial⟩ ⟨(Fz.eq rfl), trivial⟩) rfl rfl pre0 rfl rfl ?_
  refine hq_ 5 (hop_move rfl) rfl rfl pre0 rfl rfl ?_
  refine hq_g 6 2 5 false _ (fun hb => hop_move rfl) rfl rfl rfl rfl pre0 rfl rfl rfl ?_
  refine hq_g 7 2 5 false _ (fun hb => hop_eql rfl rfl) rfl rfl rfl rfl pre0 rfl rfl rfl ?_
  refine hq_p 8 (hstep_or _ _ rfl rfl rfl) rfl rfl rfl ?_
  refine hq_ 9 (hop_move rfl) rfl rfl pre0 rfl rfl ?_
  refine hq_g 10 6 9 false _ (fun hb => hop_move rfl) rfl rfl rfl rfl pre0 rfl rfl rfl ?_
  refine hq_g 11 6 9 false _ (fun hb => hop_eql rfl rfl) rfl rfl rfl rfl pre0 rfl rfl rfl ?_
  refine hq_p 12 (hstep_or _ _ rfl rfl rfl) rfl rfl rfl ?_
  refine hq_ 13 (hop_move rfl) rfl rfl pre0 rfl rfl ?_
  refine hq_g 14 10 13 false _ (fun hb => hop_move rfl) rfl rfl rfl rfl pre0 rfl rfl rfl ?_
  refine hq_g 15 10 13 false _ (fun hb => hop_eql rfl rfl) rfl rfl rfl rfl pre0 rfl rfl rfl ?_
  refine hq_p 16 (hstep_or _ _ rfl rfl rfl) rfl rfl rfl ?_
  refine hq_ 17 (hop_move rfl) rfl rfl pre0 rfl rfl ?_
  refine hq_g 18 14 17 false _ (fun hb => hop_move rfl) rfl rfl rfl rfl pre0 rfl rfl rfl ?_
  refine hq_g 19 14 17 false _ (fun hb => hop_eql rfl rfl) rfl rfl rfl rfl pre0 rfl rfl rfl ?_
  refine hq_p 20 (hstep_or _ _ rfl rfl rfl) rfl rfl rfl ?_
  refine hq_ 21 (hop_move rfl) rfl rfl pre0 rfl rfl ?_
  refine hq_g 22 18 21 false _ (fun hb => hop_move rfl) rfl rfl rfl rfl pre0 rfl rfl rfl ?_
  refine hq_g 23 18 21 false _ (fun hb => hop_eql rfl rfl) rfl rfl rfl rfl pre0 rfl rfl rfl ?_
  refine hq_p 24 (hstep_or _ _ rfl rfl rfl) rfl rfl rfl ?_
  refine hq_ 25 (hop_move rfl) rfl rfl pre0 rfl rfl ?_
  refine hq_g 26 22 25 false _ (fun hb => hop_move rfl) rfl rfl rfl rfl pre0 rfl rfl rfl ?_
  refine hq_g 27 22 25 false _ (fun hb => hop_eql rfl rfl) rfl rfl rfl rfl pre0 rfl rfl rfl ?_
  refine hq_p 28 (hstep_or _ _ rfl rfl rfl) rfl rfl rfl ?_
  refine hq_ 29 (hop_move rfl) rfl rfl pre0 rfl rfl ?_
  refine hq_g 30 26 29 false _ (fun hb => hop_move rfl) rfl rfl rfl rfl pre0 rfl rfl rfl ?_
  refine hq_g 31 26 29 false _ (fun hb => hop_eql rfl rfl) rfl rfl rfl rfl pre0 rfl rfl rfl ?_
  refine hq_p 32 (hstep_or _ _ rfl rfl rfl) rfl rfl rfl ?_
  refine hq_ 2 (hop_assign rfl) rfl rfl pre0 rfl rfl ?_
  refine hseq_nilU (by rfl) (by simp only [dropUn, slots]; exact rfl) ?_
  refine h2 _ ?_
  refine hw_ret ?_
  refine hq_ret1 rfl (rval_tmp rfl) [] rfl pre0 ?_
  exact Frz.fz
theorem refOne_h (s : List UInt8) (i : Nat) (hs : s.length ≤ 1000000) (hi : i < s.length) : HPure Tryd.prog 59 [strV s, intV i] (oneH (oneF s i)) := by
  refine hpure_of Tryd.func59 rfl (by kernel_rfl) _ _ _ rfl 93 rfl rfl (fun w F => ?_)
  refine hw_seq (fun Nh1 h1 => ?_)
  refine hw_region ?_
  refine hm_1 4 (hop_alloc (id := 4) (sz := 5) zc_40 rfl rfl (nb rfl) (nb rfl)) rfl rfl pre0 rfl rfl (c' := 1) rfl ?_
  refine hq_ 5 (hop_assign rfl) rfl rfl pre0 rfl rfl ?_
  refine hq_ 6 (hop_assign rfl) rfl rfl pre0 rfl rfl ?_
  refine hseq_nil ?_
  refine h1 _ ?_
  refine hw_seq (fun Nh2 h2 => ?_)
  refine hw_region ?_
  refine hq_ 9 (hop_move rfl) rfl rfl pre0 rfl rfl ?_
  refine hq_ 10 (hop_move rfl) rfl rfl pre0 rfl rfl ?_
  refine hq_ 11 (HOp.val (v' := .imm (.int .u8 (bz s i))) (hop_ix_strl (by kernel_rfl) rfl rfl (by omega) (by omega)) (by rw [bz_in hi, Int.toNat_natCast])) rfl rfl pre0 rfl rfl ?_
  refine hq_ 7 (hop_assign rfl) rfl rfl pre0 rfl rfl ?_
  refine hseq_nil ?_
  refine h2 _ ?_
  refine hw_seq (fun Nh3 h3 => ?_)
  refine hw_seq (fun Nh4 h4 => ?_)
  refine hw_region ?_
  refine hq_ 12 (hop_move rfl) rfl rfl pre0 rfl rfl ?_
  refine hq_ 13 (hop_call0 (xs := [_]) (refSmall_h _) ⟨rfl, trivial⟩ ⟨(Fz.eq rfl), trivial⟩) rfl rfl pre0 rfl rfl ?_
  refine hseq_nil ?_
  refine h4 _ ?_
  refine hw_cond _ rfl (fun hc0 => ?_) (fun hc0 => ?_)
  · have hr0 := hc0; (try simp only [hcs, Int.reduceToNat] at hc0)
    refine hw_seq (fun Nh5 h5 => ?_)
    refine hw_region ?_
    refine hq_ 14 (hop_move rfl) rfl rfl pre0 rfl rfl ?_
    refine hq_ 8 (hop_assign rfl) rfl rfl pre0 rfl rfl ?_
    refine hseq_nil ?_
    refine h5 _ ?_
    refine hw_seq (fun Nh6 h6 => ?_)
    refine hw_block ?_
    refine hw_loopc (α := Nat) (fun x c => ⟨93, [(0, .v (strV s)), (1, .v (intV i)), (4, .v (.pt 4 0 0 0)), (8, .v (intV ((i + x : Nat) : Int)))], [(4, ⟨0, 1, 5, 40, 0, sg0⟩)], c⟩) (fun x => x ≤ 12 ∧ i + x ≤ s.length ∧ (∀ j, j < x → alnumZ (bz s (i + j)) = true)) (fun x => 12 - x) (0) (by exact ⟨by omega, by omega, fun j h => absurd h (by omega)⟩) (hsub_of rfl (Nat.le_refl _) (TmSub.cons rfl (Sb.refl _) (TmSub.cons rfl (Sb.refl _) (TmSub.cons rfl (Sb.refl _) (TmSub.cons rfl (Sb.refl _) TmSub.nil)))) (HpSub.cons rfl (OSub.refl _) HpSub.nil)) (fun k c hx NhL7 hL7 => ?_)
    (try dsimp only at hx hL7 ⊢)
    obtain ⟨hk, hik, hal⟩ := hx
    refine hw_seq (fun Nh8 h8 => ?_)
    refine hw_seq (fun Nh9 h9 => ?_)
    refine hw_region ?_
    refine hq_ 15 (hop_move rfl) rfl rfl pre0 rfl rfl ?_
    refine hq_ 16 (hop_move rfl) rfl rfl pre0 rfl rfl ?_
    refine hq_ 17 (hop_len_strl (T := 9) rfl (by kernel_rfl) rfl) rfl rfl pre0 rfl rfl ?_
    refine hq_ 18 (hop_lss rfl rfl) rfl rfl pre0 rfl rfl ?_
    refine hq_ 19 (hop_move rfl) rfl rfl pre0 rfl rfl ?_
    refine hq_g 20 4 19 true _ (fun hb => hop_move rfl) rfl rfl rfl rfl pre0 rfl rfl rfl ?_
    refine hq_g 21 4 19 true _ (fun hb => hop_move rfl) rfl rfl rfl rfl pre0 rfl rfl rfl ?_
    refine hq_g 22 4 19 true _ (fun hb => hop_ix_strl (by kernel_rfl) rfl rfl (by (simp at hb; first | omega | (dsimp only; omega) | (simp <;> omega))) (by (simp at hb; first | omega | (dsimp only; omega) | (simp <;> omega)))) rfl rfl rfl rfl pre0 rfl rfl rfl ?_
    refine hq_g 23 4 19 true _ (fun hb => hop_call0 (xs := [_]) (refSmall_h _) ⟨rfl, trivial⟩ ⟨(Fz.eq rfl), trivial⟩) rfl rfl rfl rfl pre0 rfl rfl rfl ?_
    refine hq_g 24 4 19 true _ (fun hb => hop_move rfl) rfl rfl rfl rfl pre0 rfl rfl rfl ?_
    refine hq_g3 25 9 24 19 true false _ _ (fun hb hb2 => hop_move rfl) rfl rfl rfl rfl rfl pre0 rfl rfl rfl ?_
    refine hq_g3 26 9 24 19 true false _ _ (fun hb hb2 => hop_move rfl) rfl rfl rfl rfl rfl pre0 rfl rfl rfl ?_
    refine hq_g3 27 9 24 19 true false _ _ (fun hb hb2 => hop_ix_strl (by kernel_rfl) rfl rfl (by simp at hb; omega) (by simp at hb2; omega)) rfl rfl rfl rfl rfl pre0 rfl rfl rfl ?_
    refine hq_g3 28 9 24 19 true false _ _ (fun hb hb2 => hop_call0 (xs := [_]) (refDigit_h _) ⟨rfl, trivial⟩ ⟨(Fz.eq rfl), trivial⟩) rfl rfl rfl rfl rfl pre0 rfl rfl rfl ?_
    refine hq_pg 29 (hstep_org (gi := 4) (j := 19) _ _ rfl rfl rfl rfl) rfl rfl rfl rfl ?_
    refine hq_p 30 (hstep_and _ _ rfl rfl rfl) rfl rfl rfl ?_
    refine hseq_nilU (by rfl) (by simp only [dropUn, slots]; exact rfl) ?_
    refine h9 _ ?_
    refine hw_cond _ rfl (fun hc1 => ?_) (fun hc1 => ?_)
    · have hr1 := hc1; (try simp only [hcs, Int.reduceToNat] at hc1)
      have hall : alnumZ (bz s (i + k)) = true := (by have h := hr1; rw [Int.toNat_natCast, bz_alnum] at h; exact h); have hlt : i + k < s.length := bz_lt (fun h => by rw [h] at hall; exact absurd hall (by decide))
      refine hw_skip ?_
      refine h8 _ ?_
      refine hw_block ?_
      refine hw_seq (fun Nh10 h10 => ?_)
      refine hw_seq (fun Nh11 h11 => ?_)
      refine hw_region ?_
      refine hq_ 31 (hop_move rfl) rfl rfl pre0 rfl rfl ?_
      refine hq_ 32 (hop_move rfl) rfl rfl pre0 rfl rfl ?_
      refine hq_ 33 (hop_subi rfl rfl rfl (by omega) (by omega)) rfl rfl pre0 rfl rfl ?_
      refine hq_ 34 (hop_eql rfl rfl) rfl rfl pre0 rfl rfl ?_
      refine hseq_nil ?_
      refine h11 _ ?_
      refine hw_cond _ rfl (fun hc2 => ?_) (fun hc2 => ?_)
      · have hr2 := hc2; (try simp only [hcs, Int.reduceToNat] at hc2)
        refine hw_seq (fun Nh12 h12 => ?_)
        refine hw_region ?_
        refine hq_ 35 (hop_build (hs := []) st_40 rfl rfl trivial) rfl rfl pre0 rfl rfl ?_
        refine hq_ 36 (hop_move rfl) rfl rfl pre0 rfl rfl ?_
        refine hm_s1 (hol_storeW ty_40 rfl rfl rfl rfl) rfl rfl (pre1 rfl) (c' := c + 1) rfl ?_
        refine hq_ 5 (hop_assign rfl) rfl rfl pre0 rfl rfl ?_
        refine hq_ 6 (hop_assign rfl) rfl rfl pre0 rfl rfl ?_
        refine hseq_nil ?_
        refine h12 _ ?_
        refine hw_ret ?_
        refine hq_then_ret ?_
        refine hq_block_ret ?_
        refine hq_then_ret ?_
        refine hq_block_ret ?_
        refine hq_then_ret ?_
        refine hq_then_ret ?_
        refine hq_ret3 rfl (rvl_cell rfl rfl ty_40 (fun h => by first | rfl | cases h) rfl rfl) (rval_tmp rfl) (rval_tmp rfl) [] rfl pre0 ?_
        obtain rfl : k = 12 := (by omega); have e : oneF s i = (sgZ, ((i + 12 : Nat) : Int), 2) := (by unfold oneF; rw [if_pos hc0]; unfold nameF; rw [if_pos (run_eq (Nat.le_refl _) (fun j hj => by rcases Nat.lt_or_ge j 12 with h | h; exact hal j h; obtain rfl : j = 12 := (by omega); exact hall) (fun h => absurd h (by omega)))]); rw [e]; exact fz_t3 (fz_agg5 (by first | exact .imm _ | exact .nil _ _ _ (by decide) _ | exact fz_toks _ | exact fz_mkss _ | exact Frz.fz) (by first | exact .imm _ | exact .nil _ _ _ (by decide) _ | exact fz_toks _ | exact fz_mkss _ | exact Frz.fz) (by first | exact .imm _ | exact .nil _ _ _ (by decide) _ | exact fz_toks _ | exact fz_mkss _ | exact Frz.fz) (by first | exact .imm _ | exact .nil _ _ _ (by decide) _ | exact fz_toks _ | exact fz_mkss _ | exact Frz.fz) (by first | exact .imm _ | exact .nil _ _ _ (by decide) _ | exact fz_toks _ | exact fz_mkss _ | exact Frz.fz)) (.imm _) (.imm _)
      · have hr2 := hc2; (try simp only [hcs, Int.reduceToNat] at hc2)
        refine hw_skip ?_
        refine h10 _ ?_
        refine hw_region ?_
        refine hq_ 37 (hop_move rfl) rfl rfl pre0 rfl rfl ?_
        refine hq_ 38 (HOp.val (v' := intV ((i + (k + 1) : Nat) : Int)) (hop_addi rfl rfl rfl (by omega) (by omega)) (rfl)) rfl rfl pre0 rfl rfl ?_
        refine hq_ 8 (hop_assign rfl) rfl rfl pre0 rfl rfl ?_
        refine hseq_nil ?_
        refine hq_block ?_
        exact hL7 (k + 1) _ _ (by (try dsimp only); exact ⟨by omega, by omega, fun j hj => by rcases Nat.lt_or_ge j k with h | h; exact hal j h; obtain rfl : j = k := (by omega); exact hall⟩) (by (try dsimp only); omega) (hsub_of rfl (Nat.le_refl _) (TmSub.cons rfl (Sb.refl _) (TmSub.cons rfl (Sb.refl _) (TmSub.cons rfl (Sb.refl _) (TmSub.cons rfl (Sb.refl _) TmSub.nil)))) (HpSub.cons rfl (OSub.refl _) HpSub.nil))
    · have hr1 := hc1; (try simp only [hcs, Int.reduceToNat] at hc1)
      have hno : alnumZ (bz s (i + k)) = false := (by have h := hr1; rw [Int.toNat_natCast, bz_alnum] at h; exact h)
      refine hw_exit ?_
      refine hq_then_exit ?_
      refine hq_then_exit ?_
      refine hq_block_here ?_
      refine h6 _ ?_
      refine hw_seq (fun Nh13 h13 => ?_)
      refine hw_region ?_
      refine hq_ 39 (hop_move rfl) rfl rfl pre0 rfl rfl ?_
      refine hq_ 40 (hop_move rfl) rfl rfl pre0 rfl rfl ?_
      refine hq_ 41 (hop_move rfl) rfl rfl pre0 rfl rfl ?_
      refine hq_ 42 (hop_move rfl) rfl rfl pre0 rfl rfl ?_
      refine hq_ 43 (hop_cut_strl (by kernel_rfl) rfl (.inr ⟨_, _, rfl, rfl⟩) (.inr ⟨_, _, rfl, rfl⟩) (by omega) (by omega) (by omega)) rfl rfl pre0 rfl rfl ?_
      refine hq_ 44 (hop_build (hs := [(0, 1, _), (1, 1, _), (4, 1, _)]) st_40 rfl rfl ⟨rfl, rfl, rfl, rfl, rfl, ⟨rfl, rfl, rfl, rfl, rfl, ⟨rfl, rfl, rfl, rfl, rfl, trivial⟩⟩⟩) rfl rfl pre0 rfl rfl ?_
      refine hq_ 45 (hop_move rfl) rfl rfl pre0 rfl rfl ?_
      refine hm_s1 (hol_storeW ty_40 rfl rfl rfl rfl) rfl rfl (pre1 rfl) (c' := c + 1) rfl ?_
      refine hq_ 5 (hop_assign rfl) rfl rfl pre0 rfl rfl ?_
      refine hq_ 6 (hop_assign rfl) rfl rfl pre0 rfl rfl ?_
      refine hseq_nil ?_
      refine h13 _ ?_
      refine hw_ret ?_
      refine hq_then_ret ?_
      refine hq_ret3 rfl (rvl_cell rfl rfl ty_40 (fun h => by first | rfl | cases h) rfl rfl) (rval_tmp rfl) (rval_tmp rfl) [] rfl pre0 ?_
      have e : oneF s i = (⟨1, i, 0, 0, (s.drop i).take (i + k - i)⟩, ((i + k : Nat) : Int), 0) := (by unfold oneF; rw [if_pos hc0]; unfold nameF; rw [run_eq (f := 13) (show k ≤ 13 by omega) hal (fun _ => hno), if_neg (show ¬ k = 13 by omega), show i + k - i = k by omega]); rw [e]; exact fz_t3 (fz_agg5 (by first | exact .imm _ | exact .nil _ _ _ (by decide) _ | exact fz_toks _ | exact fz_mkss _ | exact Frz.fz) (by first | exact .imm _ | exact .nil _ _ _ (by decide) _ | exact fz_toks _ | exact fz_mkss _ | exact Frz.fz) (by first | exact .imm _ | exact .nil _ _ _ (by decide) _ | exact fz_toks _ | exact fz_mkss _ | exact Frz.fz) (by first | exact .imm _ | exact .nil _ _ _ (by decide) _ | exact fz_toks _ | exact fz_mkss _ | exact Frz.fz) (by first | exact .imm _ | exact .nil _ _ _ (by decide) _ | exact fz_toks _ | exact fz_mkss _ | exact Frz.fz)) (.imm _) (.imm _)
  · have hr0 := hc0; (try simp only [hcs, Int.reduceToNat] at hc0)
    have h0 : ¬ smallZ (bz s i) = true := (by rw [hc0]; decide)
    refine hw_skip ?_
    refine h3 _ ?_
    refine hw_seq (fun Nh14 h14 => ?_)
    refine hw_seq (fun Nh15 h15 => ?_)
    refine hw_region ?_
    refine hq_ 46 (hop_move rfl) rfl rfl pre0 rfl rfl ?_
    refine hseq_nil ?_
    refine h15 _ ?_
    refine hw_block ?_
    refine hw_seq (fun Nh16 h16 => ?_)
    refine hw_region ?_
    refine hq_ 48 (hop_eql rfl rfl) rfl rfl pre0 rfl rfl ?_
    refine hq_ 47 (hop_assign rfl) rfl rfl pre0 rfl rfl ?_
    refine hseq_nil ?_
    refine h16 _ ?_
    refine hw_cond _ rfl (fun hc3 => ?_) (fun hc3 => ?_)
    · have hr3 := hc3; (try simp only [hcs, Int.reduceToNat] at hc3)
      refine hw_seq (fun Nh17 h17 => ?_)
      refine hw_region ?_
      refine hq_ 49 (hop_move rfl) rfl rfl pre0 rfl rfl ?_
      refine hq_ 50 (hop_build (hs := [(0, 1, _), (1, 1, _)]) st_40 rfl rfl ⟨rfl, rfl, rfl, rfl, rfl, ⟨rfl, rfl, rfl, rfl, rfl, trivial⟩⟩) rfl rfl pre0 rfl rfl ?_
      refine hq_ 51 (hop_move rfl) rfl rfl pre0 rfl rfl ?_
      refine hq_ 52 (hop_addi rfl rfl rfl (by omega) (by omega)) rfl rfl pre0 rfl rfl ?_
      refine hm_s1 (hol_storeW ty_40 rfl rfl rfl rfl) rfl rfl (pre1 rfl) (c' := 2) rfl ?_
      refine hq_ 5 (hop_assign rfl) rfl rfl pre0 rfl rfl ?_
      refine hq_ 6 (hop_assign rfl) rfl rfl pre0 rfl rfl ?_
      refine hseq_nil ?_
      refine h17 _ ?_
      refine hw_ret ?_
      refine hq_block_ret ?_
      refine hq_then_ret ?_
      refine hq_ret3 rfl (rvl_cell rfl rfl ty_40 (fun h => by first | rfl | cases h) rfl rfl) (rval_tmp rfl) (rval_tmp rfl) [] rfl pre0 ?_
      have e : oneF s i = (⟨2, i, 0, 0, []⟩, ((i + 1 : Nat) : Int), 0) := (by unfold oneF; rw [if_neg h0, if_pos hc3]); rw [e]; exact fz_t3 (fz_agg5 (by first | exact .imm _ | exact .nil _ _ _ (by decide) _ | exact fz_toks _ | exact fz_mkss _ | exact Frz.fz) (by first | exact .imm _ | exact .nil _ _ _ (by decide) _ | exact fz_toks _ | exact fz_mkss _ | exact Frz.fz) (by first | exact .imm _ | exact .nil _ _ _ (by decide) _ | exact fz_toks _ | exact fz_mkss _ | exact Frz.fz) (by first | exact .imm _ | exact .nil _ _ _ (by decide) _ | exact fz_toks _ | exact fz_mkss _ | exact Frz.fz) (by first | exact .imm _ | exact .nil _ _ _ (by decide) _ | exact fz_toks _ | exact fz_mkss _ | exact Frz.fz)) (.imm _) (.imm _)
    · have hr3 := hc3; (try simp only [hcs, Int.reduceToNat] at hc3)
      refine hw_seq (fun Nh18 h18 => ?_)
      refine hw_region ?_
      refine hq_ 54 (hop_eql rfl rfl) rfl rfl pre0 rfl rfl ?_
      refine hq_ 53 (hop_assign rfl) rfl rfl pre0 rfl rfl ?_
      refine hseq_nil ?_
      refine h18 _ ?_
      refine hw_cond _ rfl (fun hc4 => ?_) (fun hc4 => ?_)
      · have hr4 := hc4; (try simp only [hcs, Int.reduceToNat] at hc4)
        refine hw_seq (fun Nh19 h19 => ?_)
        refine hw_region ?_
        refine hq_ 55 (hop_move rfl) rfl rfl pre0 rfl rfl ?_
        refine hq_ 56 (hop_build (hs := [(0, 1, _), (1, 1, _)]) st_40 rfl rfl ⟨rfl, rfl, rfl, rfl, rfl, ⟨rfl, rfl, rfl, rfl, rfl, trivial⟩⟩) rfl rfl pre0 rfl rfl ?_
        refine hq_ 57 (hop_move rfl) rfl rfl pre0 rfl rfl ?_
        refine hq_ 58 (hop_addi rfl rfl rfl (by omega) (by omega)) rfl rfl pre0 rfl rfl ?_
        refine hm_s1 (hol_storeW ty_40 rfl rfl rfl rfl) rfl rfl (pre1 rfl) (c' := 2) rfl ?_
        refine hq_ 5 (hop_assign rfl) rfl rfl pre0 rfl rfl ?_
        refine hq_ 6 (hop_assign rfl) rfl rfl pre0 rfl rfl ?_
        refine hseq_nil ?_
        refine h19 _ ?_
        refine hw_ret ?_
        refine hq_block_ret ?_
        refine hq_then_ret ?_
        refine hq_ret3 rfl (rvl_cell rfl rfl ty_40 (fun h => by first | rfl | cases h) rfl rfl) (rval_tmp rfl) (rval_tmp rfl) [] rfl pre0 ?_
        have e : oneF s i = (⟨3, i, 0, 0, []⟩, ((i + 1 : Nat) : Int), 0) := (by unfold oneF; rw [if_neg h0, if_neg hc3, if_pos hc4]); rw [e]; exact fz_t3 (fz_agg5 (by first | exact .imm _ | exact .nil _ _ _ (by decide) _ | exact fz_toks _ | exact fz_mkss _ | exact Frz.fz) (by first | exact .imm _ | exact .nil _ _ _ (by decide) _ | exact fz_toks _ | exact fz_mkss _ | exact Frz.fz) (by first | exact .imm _ | exact .nil _ _ _ (by decide) _ | exact fz_toks _ | exact fz_mkss _ | exact Frz.fz) (by first | exact .imm _ | exact .nil _ _ _ (by decide) _ | exact fz_toks _ | exact fz_mkss _ | exact Frz.fz) (by first | exact .imm _ | exact .nil _ _ _ (by decide) _ | exact fz_toks _ | exact fz_mkss _ | exact Frz.fz)) (.imm _) (.imm _)
      · have hr4 := hc4; (try simp only [hcs, Int.reduceToNat] at hc4)
        refine hw_seq (fun Nh20 h20 => ?_)
        refine hw_region ?_
        refine hq_ 60 (hop_eql rfl rfl) rfl rfl pre0 rfl rfl ?_
        refine hq_ 59 (hop_assign rfl) rfl rfl pre0 rfl rfl ?_
        refine hseq_nil ?_
        refine h20 _ ?_
        refine hw_cond _ rfl (fun hc5 => ?_) (fun hc5 => ?_)
        · have hr5 := hc5; (try simp only [hcs, Int.reduceToNat] at hc5)
          refine hw_seq (fun Nh21 h21 => ?_)
          refine hw_region ?_
          refine hq_ 61 (hop_move rfl) rfl rfl pre0 rfl rfl ?_
          refine hq_ 62 (hop_build (hs := [(0, 1, _), (1, 1, _)]) st_40 rfl rfl ⟨rfl, rfl, rfl, rfl, rfl, ⟨rfl, rfl, rfl, rfl, rfl, trivial⟩⟩) rfl rfl pre0 rfl rfl ?_
          refine hq_ 63 (hop_move rfl) rfl rfl pre0 rfl rfl ?_
          refine hq_ 64 (hop_addi rfl rfl rfl (by omega) (by omega)) rfl rfl pre0 rfl rfl ?_
          refine hm_s1 (hol_storeW ty_40 rfl rfl rfl rfl) rfl rfl (pre1 rfl) (c' := 2) rfl ?_
          refine hq_ 5 (hop_assign rfl) rfl rfl pre0 rfl rfl ?_
          refine hq_ 6 (hop_assign rfl) rfl rfl pre0 rfl rfl ?_
          refine hseq_nil ?_
          refine h21 _ ?_
          refine hw_ret ?_
          refine hq_block_ret ?_
          refine hq_then_ret ?_
          refine hq_ret3 rfl (rvl_cell rfl rfl ty_40 (fun h => by first | rfl | cases h) rfl rfl) (rval_tmp rfl) (rval_tmp rfl) [] rfl pre0 ?_
          have e : oneF s i = (⟨4, i, 0, 0, []⟩, ((i + 1 : Nat) : Int), 0) := (by unfold oneF; rw [if_neg h0, if_neg hc3, if_neg hc4, if_pos hc5]); rw [e]; exact fz_t3 (fz_agg5 (by first | exact .imm _ | exact .nil _ _ _ (by decide) _ | exact fz_toks _ | exact fz_mkss _ | exact Frz.fz) (by first | exact .imm _ | exact .nil _ _ _ (by decide) _ | exact fz_toks _ | exact fz_mkss _ | exact Frz.fz) (by first | exact .imm _ | exact .nil _ _ _ (by decide) _ | exact fz_toks _ | exact fz_mkss _ | exact Frz.fz) (by first | exact .imm _ | exact .nil _ _ _ (by decide) _ | exact fz_toks _ | exact fz_mkss _ | exact Frz.fz) (by first | exact .imm _ | exact .nil _ _ _ (by decide) _ | exact fz_toks _ | exact fz_mkss _ | exact Frz.fz)) (.imm _) (.imm _)
        · have hr5 := hc5; (try simp only [hcs, Int.reduceToNat] at hc5)
          refine hw_seq (fun Nh22 h22 => ?_)
          refine hw_region ?_
          refine hq_ 66 (hop_eql rfl rfl) rfl rfl pre0 rfl rfl ?_
          refine hq_ 65 (hop_assign rfl) rfl rfl pre0 rfl rfl ?_
          refine hseq_nil ?_
          refine h22 _ ?_
          refine hw_cond _ rfl (fun hc6 => ?_) (fun hc6 => ?_)
          · have hr6 := hc6; (try simp only [hcs, Int.reduceToNat] at hc6)
            refine hw_seq (fun Nh23 h23 => ?_)
            refine hw_region ?_
            refine hq_ 67 (hop_move rfl) rfl rfl pre0 rfl rfl ?_
            refine hq_ 68 (hop_build (hs := [(0, 1, _), (1, 1, _), (3, 1, _)]) st_40 rfl rfl ⟨rfl, rfl, rfl, rfl, rfl, ⟨rfl, rfl, rfl, rfl, rfl, ⟨rfl, rfl, rfl, rfl, rfl, trivial⟩⟩⟩) rfl rfl pre0 rfl rfl ?_
            refine hq_ 69 (hop_move rfl) rfl rfl pre0 rfl rfl ?_
            refine hq_ 70 (hop_addi rfl rfl rfl (by omega) (by omega)) rfl rfl pre0 rfl rfl ?_
            refine hm_s1 (hol_storeW ty_40 rfl rfl rfl rfl) rfl rfl (pre1 rfl) (c' := 2) rfl ?_
            refine hq_ 5 (hop_assign rfl) rfl rfl pre0 rfl rfl ?_
            refine hq_ 6 (hop_assign rfl) rfl rfl pre0 rfl rfl ?_
            refine hseq_nil ?_
            refine h23 _ ?_
            refine hw_ret ?_
            refine hq_block_ret ?_
            refine hq_then_ret ?_
            refine hq_ret3 rfl (rvl_cell rfl rfl ty_40 (fun h => by first | rfl | cases h) rfl rfl) (rval_tmp rfl) (rval_tmp rfl) [] rfl pre0 ?_
            have e : oneF s i = (⟨5, i, 0, -1, []⟩, ((i + 1 : Nat) : Int), 0) := (by unfold oneF; rw [if_neg h0, if_neg hc3, if_neg hc4, if_neg hc5, if_pos hc6]); rw [e]; exact fz_t3 (fz_agg5 (by first | exact .imm _ | exact .nil _ _ _ (by decide) _ | exact fz_toks _ | exact fz_mkss _ | exact Frz.fz) (by first | exact .imm _ | exact .nil _ _ _ (by decide) _ | exact fz_toks _ | exact fz_mkss _ | exact Frz.fz) (by first | exact .imm _ | exact .nil _ _ _ (by decide) _ | exact fz_toks _ | exact fz_mkss _ | exact Frz.fz) (by first | exact .imm _ | exact .nil _ _ _ (by decide) _ | exact fz_toks _ | exact fz_mkss _ | exact Frz.fz) (by first | exact .imm _ | exact .nil _ _ _ (by decide) _ | exact fz_toks _ | exact fz_mkss _ | exact Frz.fz)) (.imm _) (.imm _)
          · have hr6 := hc6; (try simp only [hcs, Int.reduceToNat] at hc6)
            refine hw_seq (fun Nh24 h24 => ?_)
            refine hw_region ?_
            refine hq_ 72 (hop_eql rfl rfl) rfl rfl pre0 rfl rfl ?_
            refine hq_ 71 (hop_assign rfl) rfl rfl pre0 rfl rfl ?_
            refine hseq_nil ?_
            refine h24 _ ?_
            refine hw_cond _ rfl (fun hc7 => ?_) (fun hc7 => ?_)
            · have hr7 := hc7; (try simp only [hcs, Int.reduceToNat] at hc7)
              refine hw_seq (fun Nh25 h25 => ?_)
              refine hw_region ?_
              refine hq_ 73 (hop_move rfl) rfl rfl pre0 rfl rfl ?_
              refine hq_ 74 (hop_build (hs := [(0, 1, _), (1, 1, _), (2, 1, _), (3, 1, _)]) st_40 rfl rfl ⟨rfl, rfl, rfl, rfl, rfl, ⟨rfl, rfl, rfl, rfl, rfl, ⟨rfl, rfl, rfl, rfl, rfl, ⟨rfl, rfl, rfl, rfl, rfl, trivial⟩⟩⟩⟩) rfl rfl pre0 rfl rfl ?_
              refine hq_ 75 (hop_move rfl) rfl rfl pre0 rfl rfl ?_
              refine hq_ 76 (hop_addi rfl rfl rfl (by omega) (by omega)) rfl rfl pre0 rfl rfl ?_
              refine hm_s1 (hol_storeW ty_40 rfl rfl rfl rfl) rfl rfl (pre1 rfl) (c' := 2) rfl ?_
              refine hq_ 5 (hop_assign rfl) rfl rfl pre0 rfl rfl ?_
              refine hq_ 6 (hop_assign rfl) rfl rfl pre0 rfl rfl ?_
              refine hseq_nil ?_
              refine h25 _ ?_
              refine hw_ret ?_
              refine hq_block_ret ?_
              refine hq_then_ret ?_
              refine hq_ret3 rfl (rvl_cell rfl rfl ty_40 (fun h => by first | rfl | cases h) rfl rfl) (rval_tmp rfl) (rval_tmp rfl) [] rfl pre0 ?_
              have e : oneF s i = (⟨5, i, 1, -1, []⟩, ((i + 1 : Nat) : Int), 0) := (by unfold oneF; rw [if_neg h0, if_neg hc3, if_neg hc4, if_neg hc5, if_neg hc6, if_pos hc7]); rw [e]; exact fz_t3 (fz_agg5 (by first | exact .imm _ | exact .nil _ _ _ (by decide) _ | exact fz_toks _ | exact fz_mkss _ | exact Frz.fz) (by first | exact .imm _ | exact .nil _ _ _ (by decide) _ | exact fz_toks _ | exact fz_mkss _ | exact Frz.fz) (by first | exact .imm _ | exact .nil _ _ _ (by decide) _ | exact fz_toks _ | exact fz_mkss _ | exact Frz.fz) (by first | exact .imm _ | exact .nil _ _ _ (by decide) _ | exact fz_toks _ | exact fz_mkss _ | exact Frz.fz) (by first | exact .imm _ | exact .nil _ _ _ (by decide) _ | exact fz_toks _ | exact fz_mkss _ | exact Frz.fz)) (.imm _) (.imm _)
            · have hr7 := hc7; (try simp only [hcs, Int.reduceToNat] at hc7)
              refine hw_seq (fun Nh26 h26 => ?_)
              refine hw_region ?_
              refine hq_ 78 (hop_eql rfl rfl) rfl rfl pre0 rfl rfl ?_
              refine hq_ 77 (hop_assign rfl) rfl rfl pre0 rfl rfl ?_
              refine hseq_nil ?_
              refine h26 _ ?_
              refine hw_cond _ rfl (fun hc8 => ?_) (fun hc8 => ?_)
              · have hr8 := hc8; (try simp only [hcs, Int.reduceToNat] at hc8)
                refine hw_seq (fun Nh27 h27 => ?_)
                refine hw_region ?_
                refine hq_ 79 (hop_move rfl) rfl rfl pre0 rfl rfl ?_
                refine hq_ 80 (hop_build (hs := [(0, 1, _), (1, 1, _), (3, 1, _)]) st_40 rfl rfl ⟨rfl, rfl, rfl, rfl, rfl, ⟨rfl, rfl, rfl, rfl, rfl, ⟨rfl, rfl, rfl, rfl, rfl, trivial⟩⟩⟩) rfl rfl pre0 rfl rfl ?_
                refine hq_ 81 (hop_move rfl) rfl rfl pre0 rfl rfl ?_
                refine hq_ 82 (hop_addi rfl rfl rfl (by omega) (by omega)) rfl rfl pre0 rfl rfl ?_
                refine hm_s1 (hol_storeW ty_40 rfl rfl rfl rfl) rfl rfl (pre1 rfl) (c' := 2) rfl ?_
                refine hq_ 5 (hop_assign rfl) rfl rfl pre0 rfl rfl ?_
                refine hq_ 6 (hop_assign rfl) rfl rfl pre0 rfl rfl ?_
                refine hseq_nil ?_
                refine h27 _ ?_
                refine hw_ret ?_
                refine hq_block_ret ?_
                refine hq_then_ret ?_
                refine hq_ret3 rfl (rvl_cell rfl rfl ty_40 (fun h => by first | rfl | cases h) rfl rfl) (rval_tmp rfl) (rval_tmp rfl) [] rfl pre0 ?_
                have e : oneF s i = (⟨5, i, 0, 1, []⟩, ((i + 1 : Nat) : Int), 0) := (by unfold oneF; rw [if_neg h0, if_neg hc3, if_neg hc4, if_neg hc5, if_neg hc6, if_neg hc7, if_pos hc8]); rw [e]; exact fz_t3 (fz_agg5 (by first | exact .imm _ | exact .nil _ _ _ (by decide) _ | exact fz_toks _ | exact fz_mkss _ | exact Frz.fz) (by first | exact .imm _ | exact .nil _ _ _ (by decide) _ | exact fz_toks _ | exact fz_mkss _ | exact Frz.fz) (by first | exact .imm _ | exact .nil _ _ _ (by decide) _ | exact fz_toks _ | exact fz_mkss _ | exact Frz.fz) (by first | exact .imm _ | exact .nil _ _ _ (by decide) _ | exact fz_toks _ | exact fz_mkss _ | exact Frz.fz) (by first | exact .imm _ | exact .nil _ _ _ (by decide) _ | exact fz_toks _ | exact fz_mkss _ | exact Frz.fz)) (.imm _) (.imm _)
              · have hr8 := hc8; (try simp only [hcs, Int.reduceToNat] at hc8)
                refine hw_seq (fun Nh28 h28 => ?_)
                refine hw_region ?_
                refine hq_ 84 (hop_eql rfl rfl) rfl rfl pre0 rfl rfl ?_
                refine hq_ 83 (hop_assign rfl) rfl rfl pre0 rfl rfl ?_
                refine hseq_nil ?_
                refine h28 _ ?_
                refine hw_cond _ rfl (fun hc9 => ?_) (fun hc9 => ?_)
                · have hr9 := hc9; (try simp only [hcs, Int.reduceToNat] at hc9)
                  refine hw_seq (fun Nh29 h29 => ?_)
                  refine hw_region ?_
                  refine hq_ 85 (hop_move rfl) rfl rfl pre0 rfl rfl ?_
                  refine hq_ 86 (hop_move rfl) rfl rfl pre0 rfl rfl ?_
                  refine hq_ 87 (hop_call0 (xs := [_, _]) (refCount_h s i hs hi) ⟨rfl, ⟨rfl, trivial⟩⟩ ⟨(Fz.eq rfl), ⟨(Fz.eq rfl), trivial⟩⟩) rfl rfl pre0 rfl rfl ?_
                  refine hq_ 88 (hop_extract rfl rfl) rfl rfl pre0 rfl rfl ?_
                  refine hq_ 89 (hop_extract rfl rfl) rfl rfl pre0 rfl rfl ?_
                  refine hq_ 90 (hop_extract rfl rfl) rfl rfl pre0 rfl rfl ?_
                  refine hm_s1 (hol_storeW ty_40 rfl rfl rfl rfl) rfl rfl (pre1 rfl) (c' := 2) rfl ?_
                  refine hq_ 5 (hop_assign rfl) rfl rfl pre0 rfl rfl ?_
                  refine hq_ 6 (hop_assign rfl) rfl rfl pre0 rfl rfl ?_
                  refine hseq_nil ?_
                  refine h29 _ ?_
                  refine hw_ret ?_
                  refine hq_block_ret ?_
                  refine hq_then_ret ?_
                  refine hq_ret3 rfl (rvl_cell rfl rfl ty_40 (fun h => by first | rfl | cases h) rfl rfl) (rval_tmp rfl) (rval_tmp rfl) [] rfl pre0 ?_
                  have e : oneF s i = countF s i := (by unfold oneF; rw [if_neg h0, if_neg hc3, if_neg hc4, if_neg hc5, if_neg hc6, if_neg hc7, if_neg hc8, if_pos hc9]); rw [e]; exact fz_t3 (fz_agg5 (by first | exact .imm _ | exact .nil _ _ _ (by decide) _ | exact fz_toks _ | exact fz_mkss _ | exact Frz.fz) (by first | exact .imm _ | exact .nil _ _ _ (by decide) _ | exact fz_toks _ | exact fz_mkss _ | exact Frz.fz) (by first | exact .imm _ | exact .nil _ _ _ (by decide) _ | exact fz_toks _ | exact fz_mkss _ | exact Frz.fz) (by first | exact .imm _ | exact .nil _ _ _ (by decide) _ | exact fz_toks _ | exact fz_mkss _ | exact Frz.fz) (by first | exact .imm _ | exact .nil _ _ _ (by decide) _ | exact fz_toks _ | exact fz_mkss _ | exact Frz.fz)) (.imm _) (.imm _)
                · have hr9 := hc9; (try simp only [hcs, Int.reduceToNat] at hc9)
                  refine hw_skip ?_
                  refine hq_block ?_
                  refine h14 _ ?_
                  refine hw_seq (fun Nh30 h30 => ?_)
                  refine hw_region ?_
                  refine hq_ 91 (hop_build (hs := []) st_40 rfl rfl trivial) rfl rfl pre0 rfl rfl ?_
                  refine hq_ 92 (hop_move rfl) rfl rfl pre0 rfl rfl ?_
                  refine hm_s1 (hol_storeW ty_40 rfl rfl rfl rfl) rfl rfl (pre1 rfl) (c' := 2) rfl ?_
                  refine hq_ 5 (hop_assign rfl) rfl rfl pre0 rfl rfl ?_
                  refine hq_ 6 (hop_assign rfl) rfl rfl pre0 rfl rfl ?_
                  refine hseq_nil ?_
                  refine h30 _ ?_
                  refine hw_ret ?_
                  refine hq_ret3 rfl (rvl_cell rfl rfl ty_40 (fun h => by first | rfl | cases h) rfl rfl) (rval_tmp rfl) (rval_tmp rfl) [] rfl pre0 ?_
                  have e : oneF s i = (sgZ, (i : Int), 2) := (by unfold oneF; rw [if_neg h0, if_neg hc3, if_neg hc4, if_neg hc5, if_neg hc6, if_neg hc7, if_neg hc8, if_neg hc9]); rw [e]; exact fz_t3 (fz_agg5 (by first | exact .imm _ | exact .nil _ _ _ (by decide) _ | exact fz_toks _ | exact fz_mkss _ | exact Frz.fz) (by first | exact .imm _ | exact .nil _ _ _ (by decide) _ | exact fz_toks _ | exact fz_mkss _ | exact Frz.fz) (by first | exact .imm _ | exact .nil _ _ _ (by decide) _ | exact fz_toks _ | exact fz_mkss _ | exact Frz.fz) (by first | exact .imm _ | exact .nil _ _ _ (by decide) _ | exact fz_toks _ | exact fz_mkss _ | exact Frz.fz) (by first | exact .imm _ | exact .nil _ _ _ (by decide) _ | exact fz_toks _ | exact fz_mkss _ | exact Frz.fz)) (.imm _) (.imm _)
theorem sb_sg {f : Nat → HV} (x : Sg) (h0 : Sb (f 0) (sgF x 0)) (h1 : Sb (f 1) (sgF x 1)) (h2 : Sb (f 2) (sgF x 2)) (h3 : Sb (f 3) (sgF x 3)) (h4 : Sb (f 4) (sgF x 4)) : ∀ j, j < 5 → Sb (f j) (sgF x j) := fun j hj => by
  match j, hj with
  | 0, _ => exact h0
  | 1, _ => exact h1
  | 2, _ => exact h2
  | 3, _ => exact h3
  | 4, _ => exact h4
theorem sg_fz7 {sh : List (Nat × HObj)} (x : Sg) (j : Nat) : Fz sh (sgF x j) (sgF x j) := by
  match j with
  | 0 => exact .imm _
  | 1 => exact .imm _
  | 2 => exact .imm _
  | 3 => exact .imm _
  | j + 4 => exact .imm _
theorem refLex_h (s : List UInt8) (hs : s.length ≤ 1000000) : HPure Tryd.prog 23 [strV s] (lexH (lexO (lexV s))) := by
  have hV := lexV_at s
  refine hpure_of Tryd.func23 rfl (by kernel_rfl) _ _ _ rfl 47 rfl rfl (fun w F => ?_)
  refine hw_seq (fun Nh1 h1 => ?_)
  refine hw_region ?_
  refine hq_ 2 (hop_assign rfl) rfl rfl pre0 rfl rfl ?_
  refine hq_ 3 (hop_assign rfl) rfl rfl pre0 rfl rfl ?_
  refine hq_ 4 (hop_assign rfl) rfl rfl pre0 rfl rfl ?_
  refine hseq_nil ?_
  refine h1 _ ?_
  refine hw_seq (fun Nh2 h2 => ?_)
  refine hw_region ?_
  refine hq_ 5 (hop_assign rfl) rfl rfl pre0 rfl rfl ?_
  refine hseq_nil ?_
  refine h2 _ ?_
  refine hw_seq (fun Nh3 h3 => ?_)
  refine hw_seq (fun Nh4 h4 => ?_)
  refine hw_region ?_
  refine hq_ 6 (hop_assign rfl) rfl rfl pre0 rfl rfl ?_
  refine hseq_nil ?_
  refine h4 _ ?_
  refine hw_block ?_
  refine hw_own 5 5 5 40 ((sgsF [])) rfl (by decide) rfl (c' := 1) rfl ?_
  refine hw_loopc (α := Nat × List Sg × Nat × Nat) (fun x c => ⟨47, [(0, .v (strV s)), (6, .v (intV x.1)), (5, .v (.os 5 x.2.2.1 0 x.2.2.2))], [(5, ⟨x.2.2.1, x.2.2.2, 5, 40, 0, sgsF x.2.1⟩)], c⟩) (fun x => x.1 ≤ s.length ∧ x.2.1.length ≤ 200 ∧ x.2.2.2 = x.2.1.length ∧ lexAt s x.1 x.2.1 = lexV s) (fun x => s.length - x.1) ((0, [], 0, 0)) (by exact ⟨Nat.zero_le _, Nat.zero_le _, rfl, hV⟩) (hsub_of rfl (Nat.le_refl _) (TmSub.cons rfl (Sb.refl _) (TmSub.cons rfl (Sb.refl _) (TmSub.cons rfl (Sb.refl _) TmSub.nil))) (HpSub.cons rfl (OSub.refl _) HpSub.nil)) (fun x c hx NhL5 hL5 => ?_)
  revert hx hL5; obtain ⟨i, out, gl, n⟩ := x; intro hx hL5; dsimp only at hx hL5 ⊢
  obtain ⟨hi, hol, hn, hL⟩ := hx
  refine hw_seq (fun Nh6 h6 => ?_)
  refine hw_seq (fun Nh7 h7 => ?_)
  refine hw_region ?_
  refine hq_ 10 (hop_move rfl) rfl rfl pre0 rfl rfl ?_
  refine hq_ 11 (hop_move rfl) rfl rfl pre0 rfl rfl ?_
  refine hq_ 12 (hop_len_strl (T := 9) rfl (by kernel_rfl) rfl) rfl rfl pre0 rfl rfl ?_
  refine hq_ 13 (hop_lss rfl rfl) rfl rfl pre0 rfl rfl ?_
  refine hseq_nil ?_
  refine h7 _ ?_
  refine hw_cond _ rfl (fun hc0 => ?_) (fun hc0 => ?_)
  · have hr0 := hc0; (try simp only [hcs, Int.reduceToNat] at hc0)
    have hil : i < s.length := (by omega)
    refine hw_skip ?_
    refine h6 _ ?_
    refine hw_block ?_
    refine hw_seq (fun Nh8 h8 => ?_)
    refine hw_seq (fun Nh9 h9 => ?_)
    refine hw_region ?_
    refine hq_ 14 (hop_move rfl) rfl rfl pre0 rfl rfl ?_
    refine hq_ 15 (hop_move rfl) rfl rfl pre0 rfl rfl ?_
    refine hq_ 16 (HOp.val (v' := .imm (.int .u8 (bz s i))) (hop_ix_strl (by kernel_rfl) rfl rfl (by omega) (by omega)) (by rw [bz_in hil, Int.toNat_natCast])) rfl rfl pre0 rfl rfl ?_
    refine hq_ 17 (hop_eql rfl rfl) rfl rfl pre0 rfl rfl ?_
    refine hseq_nil ?_
    refine h9 _ ?_
    refine hw_cond _ rfl (fun hc1 => ?_) (fun hc1 => ?_)
    · have hr1 := hc1; (try simp only [hcs, Int.reduceToNat] at hc1)
      refine hw_seq (fun Nh10 h10 => ?_)
      refine hw_region ?_
      refine hq_ 18 (hop_move rfl) rfl rfl pre0 rfl rfl ?_
      refine hq_ 19 (HOp.val (v' := intV ((i + 1 : Nat) : Int)) (hop_addi rfl rfl rfl (by omega) (by omega)) (rfl)) rfl rfl pre0 rfl rfl ?_
      refine hq_ 6 (hop_assign rfl) rfl rfl pre0 rfl rfl ?_
      refine hseq_nil ?_
      refine h10 _ ?_
      refine hw_exit ?_
      refine hq_then_exit ?_
      refine hq_block_here ?_
      exact hL5 ((i + 1, out, gl, n)) _ _ (by (try dsimp only); exact ⟨hil, hol, hn, by rw [← lexAt_sp hil hc1]; exact hL⟩) (by (try dsimp only); omega) (hsub_of rfl (Nat.le_refl _) (TmSub.cons rfl (Sb.refl _) (TmSub.cons rfl (Sb.refl _) (TmSub.cons rfl (Sb.refl _) TmSub.nil))) (HpSub.cons rfl (OSub.refl _) HpSub.nil))
    · have hr1 := hc1; (try simp only [hcs, Int.reduceToNat] at hc1)
      refine hw_skip ?_
      refine h8 _ ?_
      refine hw_seq (fun Nh11 h11 => ?_)
      refine hw_seq (fun Nh12 h12 => ?_)
      refine hw_region ?_
      refine hq_ 20 (hop_move rfl) rfl rfl pre0 rfl rfl ?_
      refine hq_ 21 (hop_len_os (T := 36) rfl (elOf_spec el_36).1 rfl) rfl rfl pre0 rfl rfl ?_
      refine hq_ 22 (hop_eql rfl rfl) rfl rfl pre0 rfl rfl ?_
      refine hq_ 23 (hop_move rfl) rfl rfl pre0 rfl rfl ?_
      refine hq_g 24 3 23 true _ (fun hb => hop_move rfl) rfl rfl rfl rfl pre0 rfl rfl rfl ?_
      refine hq_g 25 3 23 true _ (fun hb => hop_move rfl) rfl rfl rfl rfl pre0 rfl rfl rfl ?_
      refine hq_g 26 3 23 true _ (fun hb => HOp.val (v' := .imm (.int .u8 (bz s i))) (hop_ix_strl (by kernel_rfl) rfl rfl (by (simp at hb; first | omega | (dsimp only; omega) | (simp <;> omega))) (by (simp at hb; first | omega | (dsimp only; omega) | (simp <;> omega)))) (by rw [bz_in hil, Int.toNat_natCast])) rfl rfl rfl rfl pre0 rfl rfl rfl ?_
      refine hq_g 27 3 23 true _ (fun hb => hop_call0 (xs := [_]) (refBegins_h _) ⟨rfl, trivial⟩ ⟨(Fz.eq rfl), trivial⟩) rfl rfl rfl rfl pre0 rfl rfl rfl ?_
      refine hq_p 28 (hstep_and _ _ rfl rfl rfl) rfl rfl rfl ?_
      refine hseq_nilU (by rfl) (by simp only [dropUn, slots]; exact rfl) ?_
      refine h12 _ ?_
      refine hw_cond _ rfl (fun hc2 => ?_) (fun hc2 => ?_)
      · have hr2 := hc2; (try simp only [hcs, Int.reduceToNat] at hc2)
        refine hw_seq (fun Nh13 h13 => ?_)
        refine hw_region ?_
        refine hq_ 29 (hop_move rfl) rfl rfl pre0 rfl rfl ?_
        refine hq_ 2 (hop_assign rfl) rfl rfl pre0 rfl rfl ?_
        refine hq_ 3 (hop_assign rfl) rfl rfl pre0 rfl rfl ?_
        refine hq_ 4 (hop_assign rfl) rfl rfl pre0 rfl rfl ?_
        refine hseq_nil ?_
        refine h13 _ ?_
        refine hw_ret ?_
        refine hq_then_ret ?_
        refine hq_block_ret ?_
        refine hq_then_ret ?_
        refine hq_block_ret ?_
        refine hq_then_ret ?_
        refine hq_ret3 rfl (rval_tmp rfl) (rval_tmp rfl) (rval_tmp rfl) [] rfl pre0 ?_
        have e : lexV s = .error ((i : Int), 4) := (by rw [← hL]; exact lexAt_long hil hc1 (by omega) hc2.2); rw [e]; exact fz_t3 (.nil 0 5 _ (by decide) none) (.imm _) (.imm _)
      · have hr2 := hc2; (try simp only [hcs, Int.reduceToNat] at hc2)
        refine hw_skip ?_
        refine h11 _ ?_
        refine hw_seq (fun Nh14 h14 => ?_)
        have hsm := one_same s i hil; rcases hone : oneR s i with e | ⟨x, q⟩ <;> rw [hone] at hsm
        · skip
          refine hw_region ?_
          refine hq_ 31 (hop_move rfl) rfl rfl pre0 rfl rfl ?_
          refine hq_ 32 (hop_move rfl) rfl rfl pre0 rfl rfl ?_
          refine hq_ 33 (hop_call0 (xs := [_, _]) (refOne_h s i hs hil) ⟨rfl, ⟨rfl, trivial⟩⟩ ⟨(Fz.eq rfl), ⟨(Fz.eq rfl), trivial⟩⟩) rfl rfl pre0 rfl rfl ?_
          refine hq_ 30 (hop_move rfl) rfl rfl pre0 rfl rfl ?_
          refine hq_ 34 (hop_extract rfl rfl) rfl rfl pre0 rfl rfl ?_
          refine hq_ 35 (HOp.val (v' := intV e.1) (hop_extract rfl rfl) (by rw [← hsm.1]; rfl)) rfl rfl pre0 rfl rfl ?_
          refine hq_ 36 (HOp.val (v' := intV e.2) (hop_extract rfl rfl) (by rw [← hsm.1]; rfl)) rfl rfl pre0 rfl rfl ?_
          refine hm_1 7 (hop_alloc (id := 7) (sz := 5) zc_40 rfl rfl (nb rfl) (nb rfl)) rfl rfl pre0 rfl rfl (c' := c + 1) rfl ?_
          refine hm_s1 (hol_storeW ty_40 rfl rfl rfl rfl) rfl rfl (pre1 rfl) (c' := c + 2) rfl ?_
          refine hq_ 8 (hop_assign rfl) rfl rfl pre0 rfl rfl ?_
          refine hq_ 9 (hop_assign rfl) rfl rfl pre0 rfl rfl ?_
          refine hseq_nil ?_
          refine h14 _ ?_
          refine hw_seq (fun Nh15 h15 => ?_)
          refine hw_seq (fun Nh16 h16 => ?_)
          refine hw_region ?_
          refine hq_ 37 (hop_move rfl) rfl rfl pre0 rfl rfl ?_
          refine hq_ 38 (hop_neq rfl rfl) rfl rfl pre0 rfl rfl ?_
          refine hseq_nil ?_
          refine h16 _ ?_
          refine hw_cond _ rfl (fun hc3 => ?_) (fun hc3 => ?_)
          · have hr3 := hc3; (try simp only [hcs, Int.reduceToNat] at hc3)
            refine hw_seq (fun Nh17 h17 => ?_)
            refine hw_region ?_
            refine hq_ 39 (hop_move rfl) rfl rfl pre0 rfl rfl ?_
            refine hq_ 40 (hop_move rfl) rfl rfl pre0 rfl rfl ?_
            refine hq_ 2 (hop_assign rfl) rfl rfl pre0 rfl rfl ?_
            refine hq_ 3 (hop_assign rfl) rfl rfl pre0 rfl rfl ?_
            refine hq_ 4 (hop_assign rfl) rfl rfl pre0 rfl rfl ?_
            refine hseq_nil ?_
            refine h17 _ ?_
            refine hw_ret ?_
            refine hq_then_ret ?_
            refine hq_block_ret ?_
            refine hq_then_ret ?_
            refine hq_block_ret ?_
            refine hq_then_ret ?_
            refine hq_ret3 rfl (rval_tmp rfl) (rval_tmp rfl) (rval_tmp rfl) [] rfl pre0 ?_
            have e' : lexV s = .error e := (by rw [← hL]; rcases Classical.em (out.length = 200) with h200 | h200; (have hb : beginZ (bz s i) = false := (by have h := hr2; rw [show ((n : Int) == 200) = true by (rw [hn, h200]; try rfl), Bool.true_and] at h; exact h); rw [lexAt_odd hil hc1 h200 hb]; rw [one_nobegin hb] at hone; injection hone with hone; rw [hone]); exact lexAt_err hil hc1 h200 hone); rw [e']; exact fz_t3 (.nil 0 5 _ (by decide) none) (.imm _) (.imm _)
          · have hr3 := hc3; (try simp only [hcs, Int.reduceToNat] at hc3)
            exfalso; exact hsm.2 (by simpa using hr3)
        · skip
          refine hw_region ?_
          refine hq_ 31 (hop_move rfl) rfl rfl pre0 rfl rfl ?_
          refine hq_ 32 (hop_move rfl) rfl rfl pre0 rfl rfl ?_
          refine hq_ 33 (hop_call0 (xs := [_, _]) (refOne_h s i hs hil) ⟨rfl, ⟨rfl, trivial⟩⟩ ⟨(Fz.eq rfl), ⟨(Fz.eq rfl), trivial⟩⟩) rfl rfl pre0 rfl rfl ?_
          refine hq_ 30 (hop_move rfl) rfl rfl pre0 rfl rfl ?_
          refine hq_ 34 (HOp.val (v' := sgH x) (hop_extract rfl rfl) (by rw [show oneF s i = (x, (q : Int), 0) from hsm]; rfl)) rfl rfl pre0 rfl rfl ?_
          refine hq_ 35 (HOp.val (v' := intV q) (hop_extract rfl rfl) (by rw [show oneF s i = (x, (q : Int), 0) from hsm]; rfl)) rfl rfl pre0 rfl rfl ?_
          refine hq_ 36 (HOp.val (v' := intV 0) (hop_extract rfl rfl) (by rw [show oneF s i = (x, (q : Int), 0) from hsm]; rfl)) rfl rfl pre0 rfl rfl ?_
          refine hm_1 7 (hop_alloc (id := 7) (sz := 5) zc_40 rfl rfl (nb rfl) (nb rfl)) rfl rfl pre0 rfl rfl (c' := c + 1) rfl ?_
          refine hm_s1 (hol_storeW ty_40 rfl rfl rfl rfl) rfl rfl (pre1 rfl) (c' := c + 2) rfl ?_
          refine hq_ 8 (hop_assign rfl) rfl rfl pre0 rfl rfl ?_
          refine hq_ 9 (hop_assign rfl) rfl rfl pre0 rfl rfl ?_
          refine hseq_nil ?_
          refine h14 _ ?_
          refine hw_seq (fun Nh18 h18 => ?_)
          refine hw_seq (fun Nh19 h19 => ?_)
          refine hw_region ?_
          refine hq_ 37 (hop_move rfl) rfl rfl pre0 rfl rfl ?_
          refine hq_ 38 (hop_neq rfl rfl) rfl rfl pre0 rfl rfl ?_
          refine hseq_nil ?_
          refine h19 _ ?_
          refine hw_cond _ rfl (fun hc3 => ?_) (fun hc3 => ?_)
          · have hr3 := hc3; (try simp only [hcs, Int.reduceToNat] at hc3)
            exfalso; exact absurd hr3 (by decide)
          · have hr3 := hc3; (try simp only [hcs, Int.reduceToNat] at hc3)
            refine hw_skip ?_
            refine h18 _ ?_
            refine hw_seq (fun Nh20 h20 => ?_)
            have hq := oneR_le hone; have h200 : ¬ out.length = 200 := (fun h200 => by have h := hr2; rw [show ((n : Int) == 200) = true by (rw [hn, h200]; try rfl), Bool.true_and] at h; rw [one_nobegin h] at hone; cases hone)
            refine hw_region ?_
            refine hq_ 41 (hop_move rfl) rfl rfl pre0 rfl rfl ?_
            refine hq_ 42 (hol_load ty_40 rfl (nb rfl) (nb rfl) (fun h => (by cases h))) rfl rfl (pre1 rfl) rfl rfl ?_
            refine hm_1 43 (hop_buildSlice (id := 43) (hs := [_]) ei_36 (nb rfl) rfl (nb rfl) ⟨rfl, rfl, rfl, rfl, trivial⟩) rfl rfl pre0 rfl rfl (c' := c + 3) rfl ?_
            refine hm_1 44 (hol_append ei_36 (nb rfl) rfl (by omega) (nb rfl) (srl_os0 rfl (nb rfl)) (by omega) rfl) rfl rfl (preC rfl (pre1 rfl)) rfl rfl (c' := c + 4) rfl ?_
            refine hq_ 5 (hop_assign rfl) rfl rfl pre0 rfl rfl ?_
            refine hseq_nil ?_
            refine h20 _ ?_
            refine hw_region ?_
            refine hq_ 45 (hop_move rfl) rfl rfl pre0 rfl rfl ?_
            refine hq_ 6 (hop_assign rfl) rfl rfl pre0 rfl rfl ?_
            refine hseq_nil ?_
            refine hq_block ?_
            exact hL5 ((q, out ++ [x], c + 3, n + 1)) _ _ (by (try dsimp only); exact ⟨hq.2, by rw [List.length_append]; show out.length + 1 ≤ 200; omega, by rw [List.length_append, hn]; rfl, by rw [← lexAt_go hil hc1 h200 hone]; exact hL⟩) (by (try dsimp only); omega) (hsub_of rfl (Nat.le_refl _) (TmSub.cons rfl (Sb.refl _) (TmSub.cons rfl (Sb.refl _) (TmSub.cons rfl (Sb.refl _) TmSub.nil))) (HpSub.cons rfl (OSub.of fun i j hi hj => sb_cat (l := out) (k := [x]) (enc := sgF) (d := default) hn (fun i j _ _ => .refl _) (sb_one (x := x) (enc := sgF) (d := default) (sb_sg x (.refl _) (.refl _) (.refl _) (.refl _) (.refl _))) i j (by rw [List.length_append, ← hn]; exact hi) hj) HpSub.nil))
  · have hr0 := hc0; (try simp only [hcs, Int.reduceToNat] at hc0)
    refine hw_exit ?_
    refine hq_then_exit ?_
    refine hq_then_exit ?_
    refine hq_block_here ?_
    refine h3 _ ?_
    refine hw_seq (fun Nh21 h21 => ?_)
    refine hw_region ?_
    refine hq_ 46 (hop_move rfl) rfl rfl pre0 rfl rfl ?_
    refine hq_ 2 (hop_assign rfl) rfl rfl pre0 rfl rfl ?_
    refine hq_ 3 (hop_assign rfl) rfl rfl pre0 rfl rfl ?_
    refine hq_ 4 (hop_assign rfl) rfl rfl pre0 rfl rfl ?_
    refine hseq_nil ?_
    refine h21 _ ?_
    refine hw_ret ?_
    refine hq_ret3 rfl (rval_tmp rfl) (rval_tmp rfl) (rval_tmp rfl) [(5, _)] rfl (preC rfl pre0) ?_
    have e : lexV s = .ok out := (by rw [← hL]; exact lexAt_end (by omega)); rw [e]; exact fz_t3 (fz_row (l := out) (enc := sgF) (d := default) (List.mem_cons_self ..) rfl hn (Nat.le_refl _) (fun i j hi hj => sg_fz7 _ j)) (.imm _) (.imm _)
end Go.Proofs.YtijpdbjcmnpobaaDoor

namespace Go.Proofs.YtijpdbjcmnpobaaDoor
set_option linter.unusedSimpArgs false
set_option linter.unusedVariables false
set_option maxRecDepth 100000
open Go.RowKit

end Go.Proofs.YtijpdbjcmnpobaaDoor

namespace Go.Proofs.YtijpdbjcmnpobaaDoor
set_option linter.unusedSimpArgs false
set_option linter.unusedVariables false
set_option maxRecDepth 100000
open Go.RowKit

instance frz_sgs (l : List Sg) : Frz (sgsV l) := ⟨.sl _ _ _ _ fun i j _ _ => sg_fz _ j⟩
theorem lexR_len {s : List UInt8} : ∀ {f i : Nat} {out l : List Sg}, out.length ≤ 200 → lexR s f i out = .ok l → l.length ≤ 200
  | 0, i, out, l, h, e => by injection e with e; subst e; exact h
  | f + 1, i, out, l, h, e => by
    simp only [lexR] at e
    split at e
    · injection e with e; subst e; exact h
    split at e
    · exact lexR_len h e
    split at e
    · split at e <;> cases e
    · rename_i hne
      split at e
      · cases e
      · exact lexR_len (by rw [List.length_append]; show out.length + 1 ≤ 200; omega) e
theorem lexO_len (s : List UInt8) : (lexO (lexV s)).1.length ≤ 200 := by
  cases h : lexV s with
  | error e => exact Nat.zero_le _
  | ok l => exact lexR_len (Nat.zero_le _) h
end Go.Proofs.YtijpdbjcmnpobaaDoor

namespace Go.Proofs.YtijpdbjcmnpobaaDoor
set_option linter.unusedSimpArgs false
set_option linter.unusedVariables false
set_option maxRecDepth 100000
open Go.RowKit

theorem lexR_err {s : List UInt8} : ∀ {f i : Nat} {out : List Sg} {e : Int × Int}, lexR s f i out = .error e → e.2 ≠ 0
  | 0, i, out, e, h => by cases h
  | f + 1, i, out, e, h => by
    simp only [lexR] at h
    split at h
    · cases h
    rename_i hi
    split at h
    · exact lexR_err h
    split at h
    · split at h
      · injection h with h; subst h; show (4 : Int) ≠ 0; decide
      · injection h with h; subst h; exact wrong_ne s i
    · split at h
      · rename_i e' he
        injection h with h; subst h
        have := one_same s i (by omega)
        rw [he] at this
        exact this.2
      · exact lexR_err h
theorem lexV_err {s : List UInt8} {e : Int × Int} (h : lexV s = .error e) : (lexO (.error e)).2.2 ≠ 0 := lexR_err h
end Go.Proofs.YtijpdbjcmnpobaaDoor

namespace Go.Proofs.YtijpdbjcmnpobaaDoor
set_option linter.unusedSimpArgs false
set_option linter.unusedVariables false
set_option maxRecDepth 100000
open Go.RowKit

/-- Where a choice's loop stands. -/
def ChI (l : List Sg) (p : Nat) (out : List Pt) (bad : Bool) (q : Nat) (o : List Pt) (ks : List Int) : Prop :=
  (1 ≤ ks.length ∧ ks.length ≤ 2 * (q - p) + 1) ∧ p ≤ q ∧ q ≤ l.length ∧ match bad with
  | true => BadS l p q ∧ o.length + (if ks.length = 1 then 0 else 1) ≤ out.length + 2 * (q - p)
  | false => (kd l q ≠ 1 ∧ kd l q ≠ 2) ∧ ∃ ts, RowsS l p q ts ∧ o = out ++ T.flatL out.length ts ∧ ks = rootsL out.length ts
theorem ch_start {l : List Sg} {p q g : Nat} {out o : List Pt} {t : Option T} {r : Int} (h : RsOk l 2 p out ⟨t, q, g, o, r⟩) : ChI l p out t.isNone q o [r] := by
  have hle := rs_le h
  refine ⟨⟨Nat.le_refl _, by show 1 ≤ _; omega⟩, hle.1, hle.2.1, ?_⟩
  cases t with
  | none => exact ⟨h.1, h.2⟩
  | some t => exact ⟨h.2.2.2.1 (Nat.le_refl _), [t], rows_one h.1, by rw [show o = _ from h.2.1]; simp [T.flatL], by rw [show r = _ from h.2.2.1]; rfl⟩
theorem ch_next {l : List Sg} {p q q' g : Nat} {out o o' : List Pt} {ks : List Int} {t : Option T} {r : Int} (h : ChI l p out false q o ks) (hk : kd l q = 4) (h2 : RsOk l 2 (q + 1) o ⟨t, q', g, o', r⟩) : ChI l p out t.isNone q' o' (ks ++ [r]) := by
  have hle : q + 1 ≤ q' ∧ q' ≤ l.length ∧ o'.length ≤ o.length + 2 * (q' - (q + 1)) := rs_le h2
  obtain ⟨h1, hpq, hql, _, ts, hi, ho, hks⟩ := h
  have hlt := rows_lt hi
  have hol : o.length = out.length + T.sizeL ts := by rw [ho, List.length_append, T.flatL_len]
  have hkl : ks.length = ts.length := by rw [hks, rootsL_len]
  refine ⟨by rw [List.length_append]; show 1 ≤ ks.length + 1 ∧ ks.length + 1 ≤ _; omega, by omega, hle.2.1, ?_⟩
  cases t with
  | none =>
    refine ⟨bad_rows hi hk h2.1, ?_⟩
    rw [if_neg (by rw [List.length_append]; show ¬ ks.length + 1 = 1; omega)]
    have := hi.1
    omega
  | some t =>
    refine ⟨h2.2.2.2.1 (Nat.le_refl _), ts ++ [t], rows_snoc hi hk h2.1, ?_, ?_⟩
    · rw [show o' = _ from h2.2.1, ho, T.flatL_snoc, List.append_assoc, List.length_append, T.flatL_len]
    · rw [show r = _ from h2.2.2.1, hks, rootsL_snoc, hol]
theorem ch_le {l : List Sg} {p q : Nat} {out o : List Pt} {ks : List Int} {bad : Bool} (h : ChI l p out bad q o ks) : o.length ≤ out.length + 2 * (q - p) := by
  obtain ⟨h1, hpq, hql, h⟩ := h
  cases bad with
  | true => have := h.2; omega
  | false =>
    obtain ⟨_, ts, hi, ho, hks⟩ := h
    have := rows_lt hi
    rw [ho, List.length_append, T.flatL_len]; omega
theorem ch_meas {l : List Sg} {v q q' g : Nat} {o o' : List Pt} {t : Option T} {r : Int} (hq : q < l.length) (h : RsOk l v (q + 1) o ⟨t, q', g, o', r⟩) : 2 * (l.length - q') + (if t.isNone then 0 else 1) < 2 * (l.length - q) + (if false then 0 else 1) := by
  have hle : q + 1 ≤ q' ∧ q' ≤ l.length ∧ o'.length ≤ o.length + 2 * (q' - (q + 1)) := rs_le h
  cases t with
  | none => show _ + 0 < _ + 1; omega
  | some t => show _ + 1 < _ + 1; omega
theorem ch_done {l : List Sg} {p q : Nat} {out o : List Pt} {ks : List Int} {bad : Bool} (h : ChI l p out bad q o ks) (hk : bad = true ∨ kd l q ≠ 4) : ∃ tt : Option T, tt.isNone = bad ∧ ∀ y, manyP 3 o ks y → RsOk l 3 p out ⟨tt, q, y.1, y.2.1, y.2.2⟩ := by
  obtain ⟨h1, hpq, hql, h⟩ := h
  cases bad with
  | true => exact ⟨none, rfl, fun y hy => ⟨h.1, many_le (l := l) h.2 hy⟩⟩
  | false =>
    obtain ⟨hk2, ts, hi, ho, hks⟩ := h
    have hk := hk.resolve_left (by simp)
    have hkl : ks.length = ts.length := by rw [hks, rootsL_len]
    by_cases h2 : ts.length = 1
    · match ts, h2 with
      | [t], _ =>
        refine ⟨some t, rfl, fun y hy => ?_⟩
        have hy : y.2 = (o, ks.getD 0 0) := by unfold manyP at hy; rwa [if_pos (by simpa using hkl)] at hy
        refine ⟨rows_choice1 hi, ?_, ?_, fun _ => hk2, fun _ => hk⟩
        · show y.2.1 = _; rw [hy, ho]; simp [T.flatL]
        · show y.2.2 = _; rw [hy, hks]; rfl
    · refine ⟨some (.many 3 ts), rfl, fun y hy => ?_⟩
      have hy : y.2 = (o ++ [⟨3, 0, 0, [], ks⟩], (o.length : Int)) := by unfold manyP at hy; rwa [if_neg (by omega)] at hy
      refine ⟨rows_choice hi (by have := hi.1; omega), ?_, ?_, fun _ => hk2, fun _ => hk⟩
      · show y.2.1 = _; rw [hy, ho, hks]; simp [T.flat]
      · show y.2.2 = _; rw [hy, ho]; simp [T.root, T.size, T.flatL_len]; omega
theorem choice_h (l : List Sg) (g p : Nat) (hk : KdOk l) (hne : l ≠ []) (hl : l.length ≤ 1000) (hp : p ≤ l.length) (hrow : ∀ p', p ≤ p' → p' ≤ l.length → RsC 84 l 2 g p') : RsC 63 l 3 g p := by
  intro c g2 out ho
  refine hfun_of Tryd.func63 rfl (by kernel_rfl) _ _ _ _ rfl 36 rfl rfl (fun X ok hX => ?_)
  refine hw_seq (fun Nh1 h1 => ?_)
  refine hw_region ?_
  refine hq_ 2 (hop_assign rfl) rfl rfl pre0 rfl rfl ?_
  refine hseq_nil ?_
  refine h1 _ ?_
  refine hw_seq (fun Nh2 h2 => ?_)
  refine hw_region ?_
  refine hq_ 4 (hop_move rfl) rfl rfl pre0 rfl rfl ?_
  refine hf_callR 5 (xs := [_]) (pre := [(9001, _), (9002, _)]) (hrow p (Nat.le_refl _) hp _ g2 out ho) ⟨rfl, trivial⟩ (preC rfl (preC rfl pre0)) rfl rfl (fun x1 c1 hx => ?_)
  obtain ⟨t1, q1, g3, o3, r⟩ := x1
  (try dsimp only)
  refine hm_1 6 (hop_buildSlice (id := 6) (hs := [_]) ei_98 (nb rfl) rfl (nb rfl) ⟨rfl, rfl, rfl, rfl, trivial⟩) rfl rfl pre0 rfl rfl (c' := c1 + 1) rfl ?_
  refine hq_ 3 (hop_assign rfl) rfl rfl pre0 rfl rfl ?_
  refine hseq_nil ?_
  refine h2 _ ?_
  refine hw_seq (fun Nh3 h3 => ?_)
  refine hw_block ?_
  refine hw_loopc (α := Bool × Nat × List Pt × List Int × Nat × Nat) (fun x c => ⟨36, [(0, .v (.pt 9001 g 0 0)), (3, .v (.os 6 x.2.2.2.2.2 0 x.2.2.2.1.length))], [(9001, erO g l x.2.1 x.2.2.2.2.1 x.2.2.1.length x.1), (9002, ptsO x.2.2.2.2.1 x.2.2.1), (6, ⟨x.2.2.2.2.2, x.2.2.2.1.length, 1, 3, 0, kidsF x.2.2.2.1⟩)], c⟩) (fun x => ChI l p out x.1 x.2.1 x.2.2.1 x.2.2.2.1) (fun x => 2 * (l.length - x.2.1) + (if x.1 then 0 else 1)) ((t1.isNone, q1, o3, [r], g3, c1)) (by exact ch_start hx) (hsub_of rfl (Nat.le_refl _) (TmSub.cons rfl (Sb.refl _) (TmSub.cons rfl (Sb.refl _) TmSub.nil)) (HpSub.cons rfl (OSub.refl _) (HpSub.cons rfl (OSub.refl _) (HpSub.cons rfl (OSub.of fun i j hi hj => by obtain rfl : i = 0 := (by omega); exact .refl _) HpSub.nil)))) (fun x c hx NhL4 hL4 => ?_)
  revert hx hL4; obtain ⟨bad, q, o, ks, gg, gk⟩ := x; intro hx hL4; dsimp only at hx hL4 ⊢
  obtain ⟨hq1, hq2, hq3, hR⟩ := hx
  have hI : ChI l p out bad q o ks := ⟨hq1, hq2, hq3, hR⟩; have hol := ch_le hI
  refine hw_seq (fun Nh5 h5 => ?_)
  refine hw_seq (fun Nh6 h6 => ?_)
  refine hw_region ?_
  refine hq_ 7 (hop_move rfl) rfl rfl pre0 rfl rfl ?_
  refine hq_ 8 (hop_nilcheck_pt rfl) rfl rfl pre0 rfl rfl ?_
  refine hq_ 9 (hop_fa fd_105_2 rfl) rfl rfl pre0 rfl rfl ?_
  refine hq_ 10 (hol_load ty_4 rfl (nb rfl) (nb rfl) (fun h => (by rfl))) rfl rfl (pre1 rfl) rfl rfl ?_
  refine hq_ 11 (hop_not rfl) rfl rfl pre0 rfl rfl ?_
  refine hq_ 12 (hop_move rfl) rfl rfl pre0 rfl rfl ?_
  refine hq_g 13 5 12 true _ (fun hb => hop_move rfl) rfl rfl rfl rfl pre0 rfl rfl rfl ?_
  refine hq_g 14 5 12 true _ (fun hb => hop_nilcheck_pt rfl) rfl rfl rfl rfl pre0 rfl rfl rfl ?_
  refine hq_g 15 5 12 true _ (fun hb => hop_fa fd_105_0 rfl) rfl rfl rfl rfl pre0 rfl rfl rfl ?_
  refine hq_g 16 5 12 true _ (fun hb => hop_funR (xs := [_]) (pre := [(9001, _), (9002, _)]) (kind_h g l q gg o bad hl hI.2.2.1) ⟨rfl, trivial⟩) rfl rfl rfl rfl (preC rfl (preC rfl pre0)) rfl rfl rfl ?_
  refine hq_g 17 5 12 true _ (fun hb => hop_eql rfl rfl) rfl rfl rfl rfl pre0 rfl rfl rfl ?_
  refine hq_p 18 (hstep_and _ _ rfl rfl rfl) rfl rfl rfl ?_
  refine hseq_nilU (by rfl) (by simp only [dropUn, slots]; exact rfl) ?_
  refine h6 _ ?_
  refine hw_cond _ rfl (fun hc0 => ?_) (fun hc0 => ?_)
  · have hr0 := hc0; (try simp only [hcs, Int.reduceToNat] at hc0)
    obtain ⟨rfl, hkq⟩ : bad = false ∧ kd l q = 4 := (by cases bad with | true => exact absurd hr0 (by simp) | false => exact ⟨rfl, by simpa using hr0⟩); have hlt := kd_lt (l := l) (i := q) (by rw [hkq]; decide)
    refine hw_skip ?_
    refine h5 _ ?_
    refine hw_block ?_
    refine hw_seq (fun Nh7 h7 => ?_)
    refine hw_region ?_
    refine hq_ 19 (hop_move rfl) rfl rfl pre0 rfl rfl ?_
    refine hq_ 20 (hop_nilcheck_pt rfl) rfl rfl pre0 rfl rfl ?_
    refine hq_ 21 (hop_fa fd_105_0 rfl) rfl rfl pre0 rfl rfl ?_
    refine hq_ 22 (hop_fa fd_103_1 rfl) rfl rfl pre0 rfl rfl ?_
    refine hq_ 23 (hol_load ty_3 rfl (nb rfl) (nb rfl) (fun h => (by rfl))) rfl rfl (pre1 rfl) rfl rfl ?_
    refine hq_ 24 (hop_addi rfl rfl rfl (by omega) (by omega)) rfl rfl pre0 rfl rfl ?_
    refine hq_ 25 (hop_nilcheck_pt rfl) rfl rfl pre0 rfl rfl ?_
    refine hq_ 26 (hop_fa fd_105_0 rfl) rfl rfl pre0 rfl rfl ?_
    refine hq_ 27 (hop_fa fd_103_1 rfl) rfl rfl pre0 rfl rfl ?_
    refine hm_s1 (hol_store ty_3 rfl rfl rfl rfl (nb rfl) (nb rfl) (nb rfl)) rfl rfl (pre1 rfl) (c' := c + 1) rfl ?_
    refine hseq_nil ?_
    refine h7 _ ?_
    refine (hsub_ob 9001 (erO g l (q + 1) gg o.length false) rfl (by exact osub4 (.refl _) (sb_int (by omega)) (.refl _) (.refl _))).wp ?_
    refine hw_region ?_
    refine hq_ 28 (hop_move rfl) rfl rfl pre0 rfl rfl ?_
    refine hq_ 29 (hop_move rfl) rfl rfl pre0 rfl rfl ?_
    refine hf_callR 30 (xs := [_]) (pre := [(9001, _), (9002, _)]) (hrow (q + 1) (by omega) hlt _ gg o (by omega)) ⟨rfl, trivial⟩ (preC rfl (preC rfl pre0)) rfl rfl (fun x2 c2 hx2 => ?_)
    obtain ⟨t, q', g4, o4, r'⟩ := x2
    (try dsimp only)
    refine hm_1 31 (hop_buildSlice (id := 31) (hs := [_]) ei_98 (nb rfl) rfl (nb rfl) ⟨rfl, rfl, rfl, rfl, trivial⟩) rfl rfl pre0 rfl rfl (c' := c2 + 1) rfl ?_
    refine hm_1 32 (hol_append ei_98 (nb rfl) rfl (by omega) (nb rfl) (srl_os0 rfl (nb rfl)) (by omega) rfl) rfl rfl (preC rfl (pre1 rfl)) rfl rfl (c' := c2 + 2) rfl ?_
    refine hq_ 3 (hop_assign rfl) rfl rfl pre0 rfl rfl ?_
    refine hseq_nil ?_
    refine hq_block ?_
    exact hL4 ((t.isNone, q', o4, ks ++ [r'], g4, c2 + 1)) _ _ (by (try dsimp only); exact ch_next hI hkq hx2) (by (try dsimp only); exact ch_meas hlt hx2) (hsub_of rfl (Nat.le_refl _) (TmSub.cons rfl (Sb.refl _) (TmSub.cons rfl (sb_os (by simp)) TmSub.nil)) (HpSub.cons rfl (OSub.refl _) (HpSub.cons rfl (OSub.refl _) (HpSub.cons rfl (osub_snoc (enc := fun x _ => intV x) (d := 0) rfl (fun i j _ _ => .refl _) (fun j hj => .refl _)) HpSub.nil))))
  · have hr0 := hc0; (try simp only [hcs, Int.reduceToNat] at hc0)
    obtain ⟨tt, rfl, hdone⟩ := ch_done hI (by cases bad with | true => exact .inl rfl | false => right; simpa using hr0)
    refine hw_exit ?_
    refine hq_then_exit ?_
    refine hq_then_exit ?_
    refine hq_block_here ?_
    refine h3 _ ?_
    refine hw_seq (fun Nh8 h8 => ?_)
    refine hw_region ?_
    refine hq_ 33 (hop_move rfl) rfl rfl pre0 rfl rfl ?_
    refine hq_ 34 (hop_move rfl) rfl rfl pre0 rfl rfl ?_
    refine (hsub_shr 34 [(6, _)] rfl (preC rfl pre0) rfl ((show Fz _ _ (kidsV ks) from fz_row (l := ks) (enc := fun x _ => intV x) (d := 0) (List.mem_cons_self ..) rfl rfl (Nat.le_refl _) (fun i j hi hj => .imm _)))).seq ?_
    refine hf_callR 35 (xs := [_, _, _]) (pre := [(9001, _), (9002, _)]) (many_h _ g l q gg _ tt.isNone o 3 ks rfl (by omega)) ⟨rfl, ⟨rfl, ⟨rfl, trivial⟩⟩⟩ (preC rfl (preC rfl pre0)) rfl rfl (fun x3 c3 hy => ?_)
    obtain ⟨g5, o5, r5⟩ := x3
    (try dsimp only)
    refine hq_ 2 (hop_assign rfl) rfl rfl pre0 rfl rfl ?_
    refine hseq_nil ?_
    refine h8 _ ?_
    refine hw_ret ?_
    refine hf_retR1 ok hX RetS.one rfl (rval_tmp rfl) [] rfl pre0 (⟨tt, q, g5, o5, r5⟩) (hdone _ hy) (by rfl) (by rfl) ((by first | exact .fz _ _ (.imm _) | exact .os _ _ _ _ _ rfl rfl | exact .pt _ _ _ _ _ rfl rfl | exact .nps _ _ _ rfl rfl | (dsimp only; exact .fz _ _ Frz.fz) | exact .fz _ _ (.tup 0 _ _ (fun i hi => absurd hi (Nat.not_lt_zero _))))) ?_
    exact ⟨⟨_, rfl, okz_er rfl rfl⟩, ⟨⟨_, rfl, okz_pts⟩, trivial⟩⟩
theorem read_h (l : List Sg) (g : Nat) (hk : KdOk l) (hne : l ≠ []) (hl : l.length ≤ 1000) : ∀ n p, l.length - p < n → p ≤ l.length → RsC 63 l 3 g p
  | 0, p, h, _ => absurd h (Nat.not_lt_zero _)
  | n + 1, p, h, hp => choice_h l g p hk hne hl hp fun p1 h1 hp1 => row_h l g p1 hk hne hl hp1 fun p2 h2 hp2 => item_h l g p2 hk hne hl hp2 fun p3 h3 hp3 => read_h l g hk hne hl n p3 (by omega) hp3
/-- What a text's parts are. -/
inductive ParseIs (s : List UInt8) : List Pt × Int × Int → Prop
  | err (e : Int × Int) : lexV s = .error e → ParseIs s ([], e.1, e.2)
  | none : lexV s = .ok [] → ParseIs s ([], 0, 0)
  | odd (l : List Sg) (q : Nat) : lexV s = .ok l → l ≠ [] → q < l.length → chk l 0 0 true true = ((q : Int), false) → ParseIs s ([], (l.getD q default).at_, 2)
  | end_ (l : List Sg) : lexV s = .ok l → l ≠ [] → chk l 0 0 true true = (-1, true) → ParseIs s ([], s.length, 5)
  | ok (l : List Sg) (t : T) : lexV s = .ok l → Seg l 3 0 l.length t → ParseIs s (T.flat 0 t, 0, 0)
@[reducible] def parseH (r : List Pt × Int × Int) : HV := t3 (ptsV r.1) (intV r.2.1) (intV r.2.2)
theorem sgW_kd {l : List Sg} (h : ∀ x ∈ l, SgW x) : KdOk l := fun x hx => by
  have := h x hx
  cases this with
  | name _ _ _ => exact ⟨by show (1 : Int) ≤ 1; decide, by show (1 : Int) ≤ 5; decide⟩
  | open_ => exact ⟨by show (1 : Int) ≤ 2; decide, by show (2 : Int) ≤ 5; decide⟩
  | shut => exact ⟨by show (1 : Int) ≤ 3; decide, by show (3 : Int) ≤ 5; decide⟩
  | or_ => exact ⟨by show (1 : Int) ≤ 4; decide, by show (4 : Int) ≤ 5; decide⟩
  | times _ => exact ⟨by show (1 : Int) ≤ 5; decide, by show (5 : Int) ≤ 5; decide⟩
theorem lex_err {s : List UInt8} {r : List Sg × Int × Int} (hr : lexO (lexV s) = r) (h : r.2.2 ≠ 0) : ParseIs s ([], r.2.1, r.2.2) := by
  cases hv : lexV s with
  | error e => rw [hv] at hr; subst hr; exact .err e hv
  | ok l => rw [hv] at hr; subst hr; exact absurd rfl h
theorem lex_fine {s : List UInt8} {r : List Sg × Int × Int} (hr : lexO (lexV s) = r) (h : r.2.2 = 0) : lexV s = .ok r.1 := by
  cases hv : lexV s with
  | error e => rw [hv] at hr; subst hr; exact absurd h (lexV_err hv)
  | ok l => rw [hv] at hr; subst hr; rfl
theorem parse_odd {s : List UInt8} {l : List Sg} {x : Rs} (hv : lexV s = .ok l) (hk : KdOk l) (hne : l ≠ []) (hx : RsOk l 3 0 [] x) (hq : x.q < l.length) : ParseIs s ([], (l.getD x.q default).at_, 2) := by
  obtain ⟨t, q, g, o, r⟩ := x
  cases t with
  | none => exact .odd l q hv hne hq (by rw [hx.1.bad 0 true]; exact badAt_lt hq)
  | some t => exact .odd l q hv hne hq (rest_bad hk hx.1 hq (hx.2.2.2.1 (by decide)).1 (hx.2.2.2.1 (by decide)).2 (hx.2.2.2.2 (by decide)))
theorem parse_end {s : List UInt8} {l : List Sg} {x : Rs} (hv : lexV s = .ok l) (hne : l ≠ []) (hx : RsOk l 3 0 [] x) (hq : l.length ≤ x.q) (hb : x.t.isNone = true) : ParseIs s ([], s.length, 5) := by
  obtain ⟨t, q, g, o, r⟩ := x
  cases t with
  | none => exact .end_ l hv hne (by rw [hx.1.bad 0 true]; exact badAt_end hq)
  | some t => cases hb
theorem parse_ok {s : List UInt8} {l : List Sg} {x : Rs} (hv : lexV s = .ok l) (hx : RsOk l 3 0 [] x) (hq : l.length ≤ x.q) (hb : x.t.isNone = false) : ParseIs s (x.out, 0, 0) := by
  obtain ⟨t, q, g, o, r⟩ := x
  cases t with
  | none => cases hb
  | some t =>
    have hql := seg_lt hx.1
    simp only at hql hq
    obtain rfl : q = l.length := by omega
    rw [show (⟨some t, l.length, g, o, r⟩ : Rs).out = [] ++ T.flat 0 t from hx.2.1]
    exact .ok l t hv hx.1
theorem parse_h (c : Nat) (s : List UInt8) (hs : s.length ≤ 1000000) : HFun Tryd.prog 28 c [strV s] [] (RetP (fun (r : List Pt × Int × Int) _ => ParseIs s r) parseH (fun _ => [])) := by
  have hlen := lexO_len s
  have hlx := lex_h s hs
  generalize hr : lexO (lexV s) = r at hlen hlx
  refine hfun_of Tryd.func28 rfl (by kernel_rfl) _ _ _ _ rfl 57 rfl rfl (fun X ok hX => ?_)
  refine hw_seq (fun Nh1 h1 => ?_)
  refine hw_region ?_
  refine hq_ 2 (hop_assign rfl) rfl rfl pre0 rfl rfl ?_
  refine hq_ 3 (hop_assign rfl) rfl rfl pre0 rfl rfl ?_
  refine hq_ 4 (hop_assign rfl) rfl rfl pre0 rfl rfl ?_
  refine hseq_nil ?_
  refine h1 _ ?_
  refine hw_seq (fun Nh2 h2 => ?_)
  refine hw_region ?_
  refine hq_ 10 (hop_move rfl) rfl rfl pre0 rfl rfl ?_
  refine hq_ 11 (hop_call0 (xs := [_]) (hlx) ⟨rfl, trivial⟩ ⟨(Fz.eq rfl), trivial⟩) rfl rfl pre0 rfl rfl ?_
  refine hq_ 9 (hop_move rfl) rfl rfl pre0 rfl rfl ?_
  refine hq_ 12 (hop_extract rfl rfl) rfl rfl pre0 rfl rfl ?_
  refine hq_ 13 (hop_extract rfl rfl) rfl rfl pre0 rfl rfl ?_
  refine hq_ 14 (hop_extract rfl rfl) rfl rfl pre0 rfl rfl ?_
  refine hq_ 5 (hop_assign rfl) rfl rfl pre0 rfl rfl ?_
  refine hq_ 6 (hop_assign rfl) rfl rfl pre0 rfl rfl ?_
  refine hq_ 7 (hop_assign rfl) rfl rfl pre0 rfl rfl ?_
  refine hseq_nil ?_
  refine h2 _ ?_
  refine hw_seq (fun Nh3 h3 => ?_)
  refine hw_seq (fun Nh4 h4 => ?_)
  refine hw_region ?_
  refine hq_ 15 (hop_move rfl) rfl rfl pre0 rfl rfl ?_
  refine hq_ 16 (hop_neq rfl rfl) rfl rfl pre0 rfl rfl ?_
  refine hseq_nil ?_
  refine h4 _ ?_
  refine hw_cond _ rfl (fun hc0 => ?_) (fun hc0 => ?_)
  · have hr0 := hc0; (try simp only [hcs, Int.reduceToNat] at hc0)
    refine hw_seq (fun Nh5 h5 => ?_)
    refine hw_region ?_
    refine hq_ 17 (hop_move rfl) rfl rfl pre0 rfl rfl ?_
    refine hq_ 18 (hop_move rfl) rfl rfl pre0 rfl rfl ?_
    refine hq_ 2 (hop_assign rfl) rfl rfl pre0 rfl rfl ?_
    refine hq_ 3 (hop_assign rfl) rfl rfl pre0 rfl rfl ?_
    refine hq_ 4 (hop_assign rfl) rfl rfl pre0 rfl rfl ?_
    refine hseq_nil ?_
    refine h5 _ ?_
    refine hw_ret ?_
    refine hq_then_ret ?_
    refine hf_retR3 ok hX RetS.one rfl (rval_tmp rfl) (rval_tmp rfl) (rval_tmp rfl) [] rfl pre0 (([], r.2.1, r.2.2)) (lex_err hr hc0) (by rfl) (by rfl) (kz_t3 (.fz _ _ (.nil 0 5 _ (by decide) none)) (by first | exact .fz _ _ (.imm _) | exact .os _ _ _ _ _ rfl rfl | exact .pt _ _ _ _ _ rfl rfl | exact .nps _ _ _ rfl rfl | (dsimp only; exact .fz _ _ Frz.fz) | exact .fz _ _ (.tup 0 _ _ (fun i hi => absurd hi (Nat.not_lt_zero _)))) (by first | exact .fz _ _ (.imm _) | exact .os _ _ _ _ _ rfl rfl | exact .pt _ _ _ _ _ rfl rfl | exact .nps _ _ _ rfl rfl | (dsimp only; exact .fz _ _ Frz.fz) | exact .fz _ _ (.tup 0 _ _ (fun i hi => absurd hi (Nat.not_lt_zero _))))) ?_
    exact trivial
  · have hr0 := hc0; (try simp only [hcs, Int.reduceToNat] at hc0)
    have hv := lex_fine hr hc0; have hk := sgW_kd (lexV_W hv)
    refine hw_skip ?_
    refine h3 _ ?_
    refine hw_seq (fun Nh6 h6 => ?_)
    refine hw_seq (fun Nh7 h7 => ?_)
    refine hw_region ?_
    refine hq_ 19 (hop_move rfl) rfl rfl pre0 rfl rfl ?_
    refine hq_ 20 (hop_len_sl (T := 33) rfl (elOf_spec el_33).1 rfl) rfl rfl pre0 rfl rfl ?_
    refine hq_ 21 (hop_eql rfl rfl) rfl rfl pre0 rfl rfl ?_
    refine hseq_nil ?_
    refine h7 _ ?_
    refine hw_cond _ rfl (fun hc1 => ?_) (fun hc1 => ?_)
    · have hr1 := hc1; (try simp only [hcs, Int.reduceToNat] at hc1)
      refine hw_seq (fun Nh8 h8 => ?_)
      refine hw_region ?_
      refine hq_ 2 (hop_assign rfl) rfl rfl pre0 rfl rfl ?_
      refine hq_ 3 (hop_assign rfl) rfl rfl pre0 rfl rfl ?_
      refine hq_ 4 (hop_assign rfl) rfl rfl pre0 rfl rfl ?_
      refine hseq_nil ?_
      refine h8 _ ?_
      refine hw_ret ?_
      refine hq_then_ret ?_
      refine hf_retR3 ok hX RetS.one rfl (rval_tmp rfl) (rval_tmp rfl) (rval_tmp rfl) [] rfl pre0 (([], 0, 0)) (.none (by rw [hv, List.length_eq_zero_iff.1 (show r.1.length = 0 by omega)])) (by rfl) (by rfl) (kz_t3 (.fz _ _ (.nil 0 5 _ (by decide) none)) (by first | exact .fz _ _ (.imm _) | exact .os _ _ _ _ _ rfl rfl | exact .pt _ _ _ _ _ rfl rfl | exact .nps _ _ _ rfl rfl | (dsimp only; exact .fz _ _ Frz.fz) | exact .fz _ _ (.tup 0 _ _ (fun i hi => absurd hi (Nat.not_lt_zero _)))) (by first | exact .fz _ _ (.imm _) | exact .os _ _ _ _ _ rfl rfl | exact .pt _ _ _ _ _ rfl rfl | exact .nps _ _ _ rfl rfl | (dsimp only; exact .fz _ _ Frz.fz) | exact .fz _ _ (.tup 0 _ _ (fun i hi => absurd hi (Nat.not_lt_zero _))))) ?_
      exact trivial
    · have hr1 := hc1; (try simp only [hcs, Int.reduceToNat] at hc1)
      have hne : r.1 ≠ [] := (fun h => by rw [h] at hc1; exact hc1 rfl)
      refine hw_skip ?_
      refine h6 _ ?_
      refine hw_seq (fun Nh9 h9 => ?_)
      refine hw_region ?_
      refine hq_ 22 (hop_move rfl) rfl rfl pre0 rfl rfl ?_
      refine hq_ 23 (hop_build (hs := [(0, 1, _)]) st_103 rfl rfl ⟨rfl, rfl, rfl, rfl, rfl, trivial⟩) rfl rfl pre0 rfl rfl ?_
      refine hq_ 24 (hop_build (hs := [(0, 2, _)]) st_105 rfl rfl ⟨rfl, rfl, rfl, rfl, rfl, trivial⟩) rfl rfl pre0 rfl rfl ?_
      refine hm_1 25 (hop_box (id := 9001) (sz := 4) rfl rfl rfl (by decide) (by decide)) rfl rfl pre0 rfl rfl (c' := c + 1) rfl ?_
      refine hq_ 8 (hop_assign rfl) rfl rfl pre0 rfl rfl ?_
      refine hseq_nil ?_
      refine h9 _ ?_
      refine hw_seq (fun Nh10 h10 => ?_)
      refine (hsub_ownc 9001 2 9002 5 100 (ptsF []) (erF r.1 0 (c + 1) 0 false) rfl rfl (fun j hj => by match j, hj with | 0, _ => exact .inr rfl | 1, _ => exact .inr rfl | 2, _ => exact .inl ⟨rfl, rfl⟩ | 3, _ => exact .inr rfl) (by decide) (by decide) (c' := c + 2) rfl).wp ?_
      refine hw_region ?_
      refine hq_ 26 (hop_move rfl) rfl rfl pre0 rfl rfl ?_
      refine hf_callR 27 (xs := [_]) (pre := [(9001, _), (9002, _)]) (read_h r.1 c hk hne (by omega) _ 0 (Nat.lt_succ_self _) (Nat.zero_le _) _ (c + 1) [] (by simp)) ⟨rfl, trivial⟩ (preC rfl (preC rfl pre0)) rfl rfl (fun x1 c1 hx => ?_)
      obtain ⟨t, q, g2, o2, r2⟩ := x1
      (try dsimp only)
      refine hseq_nil ?_
      refine h10 _ ?_
      refine hw_seq (fun Nh11 h11 => ?_)
      refine hw_block ?_
      refine hw_seq (fun Nh12 h12 => ?_)
      have hle : 0 ≤ q ∧ q ≤ r.1.length ∧ o2.length ≤ 0 + 2 * (q - 0) := rs_le hx
      refine hw_region ?_
      refine hq_ 29 (hop_move rfl) rfl rfl pre0 rfl rfl ?_
      refine hq_ 30 (hop_nilcheck_pt rfl) rfl rfl pre0 rfl rfl ?_
      refine hq_ 31 (hop_fa fd_105_0 rfl) rfl rfl pre0 rfl rfl ?_
      refine hq_ 32 (hop_fa fd_103_1 rfl) rfl rfl pre0 rfl rfl ?_
      refine hq_ 33 (hol_load ty_3 rfl (nb rfl) (nb rfl) (fun h => (by rfl))) rfl rfl (pre1 rfl) rfl rfl ?_
      refine hq_ 34 (hop_move rfl) rfl rfl pre0 rfl rfl ?_
      refine hq_ 35 (hop_len_sl (T := 33) rfl (elOf_spec el_33).1 rfl) rfl rfl pre0 rfl rfl ?_
      refine hq_ 36 (hop_lss rfl rfl) rfl rfl pre0 rfl rfl ?_
      refine hq_ 28 (hop_assign rfl) rfl rfl pre0 rfl rfl ?_
      refine hseq_nil ?_
      refine h12 _ ?_
      refine hw_cond _ rfl (fun hc2 => ?_) (fun hc2 => ?_)
      · have hr2 := hc2; (try simp only [hcs, Int.reduceToNat] at hc2)
        refine hw_seq (fun Nh13 h13 => ?_)
        refine hd_start ?_
        refine hd_q 37 (hop_move rfl) rfl rfl pre0 rfl rfl (k' := 1) rfl ?_
        refine hd_q 38 (hop_move rfl) rfl rfl pre0 rfl rfl (k' := 2) rfl ?_
        refine hd_q 39 (hop_nilcheck_pt rfl) rfl rfl pre0 rfl rfl (k' := 3) rfl ?_
        refine hd_q 40 (hop_fa fd_105_0 rfl) rfl rfl pre0 rfl rfl (k' := 4) rfl ?_
        refine hd_q 41 (hop_fa fd_103_1 rfl) rfl rfl pre0 rfl rfl (k' := 5) rfl ?_
        refine hd_q 42 (hol_load ty_3 rfl (nb rfl) (nb rfl) (fun h => (by rfl))) rfl rfl (pre1 rfl) rfl rfl (k' := 6) rfl ?_
        refine hd_q 43 (hop_ia_sl el_33 rfl rfl (by omega) (by omega) (nb rfl)) rfl rfl pre0 rfl rfl (k' := 7) rfl ?_
        refine hd_q 44 (hop_fa_fp fd_41_1 rfl (nb rfl)) rfl rfl pre0 rfl rfl (k' := 8) rfl ?_
        refine hd_q 45 (hop_load_fp ty_3 rfl (nb rfl) (fun h => (by rfl))) rfl rfl pre0 rfl rfl (k' := 9) rfl ?_
        refine hd_q 2 (hop_assign rfl) rfl rfl pre0 rfl rfl (k' := 10) rfl ?_
        refine hd_q 3 (hop_assign rfl) rfl rfl pre0 rfl rfl (k' := 11) rfl ?_
        refine hd_q 4 (hop_assign rfl) rfl rfl pre0 rfl rfl (k' := 12) rfl ?_
        refine hd_nil (by kernel_rfl) (by kernel_rfl) (c' := c1 + 12) rfl ?_
        refine h13 _ ?_
        refine hw_ret ?_
        refine hq_block_ret ?_
        refine hq_then_ret ?_
        refine hf_retR3 ok hX RetS.one rfl (rval_tmp rfl) (rval_tmp rfl) (rval_tmp rfl) [] rfl pre0 (([], (r.1.getD q default).at_, 2)) (parse_odd hv hk hne hx (show q < r.1.length by omega)) (by rfl) (by rfl) (kz_t3 (.fz _ _ (.nil 0 5 _ (by decide) none)) (by first | exact .fz _ _ (.imm _) | exact .os _ _ _ _ _ rfl rfl | exact .pt _ _ _ _ _ rfl rfl | exact .nps _ _ _ rfl rfl | (dsimp only; exact .fz _ _ Frz.fz) | exact .fz _ _ (.tup 0 _ _ (fun i hi => absurd hi (Nat.not_lt_zero _)))) (by first | exact .fz _ _ (.imm _) | exact .os _ _ _ _ _ rfl rfl | exact .pt _ _ _ _ _ rfl rfl | exact .nps _ _ _ rfl rfl | (dsimp only; exact .fz _ _ Frz.fz) | exact .fz _ _ (.tup 0 _ _ (fun i hi => absurd hi (Nat.not_lt_zero _))))) ?_
        exact trivial
      · have hr2 := hc2; (try simp only [hcs, Int.reduceToNat] at hc2)
        refine hw_seq (fun Nh14 h14 => ?_)
        refine hw_region ?_
        refine hq_ 47 (hop_move rfl) rfl rfl pre0 rfl rfl ?_
        refine hq_ 48 (hop_nilcheck_pt rfl) rfl rfl pre0 rfl rfl ?_
        refine hq_ 49 (hop_fa fd_105_2 rfl) rfl rfl pre0 rfl rfl ?_
        refine hq_ 50 (hol_load ty_4 rfl (nb rfl) (nb rfl) (fun h => (by rfl))) rfl rfl (pre1 rfl) rfl rfl ?_
        refine hq_ 46 (hop_assign rfl) rfl rfl pre0 rfl rfl ?_
        refine hseq_nil ?_
        refine h14 _ ?_
        refine hw_cond _ rfl (fun hc3 => ?_) (fun hc3 => ?_)
        · have hr3 := hc3; (try simp only [hcs, Int.reduceToNat] at hc3)
          refine hw_seq (fun Nh15 h15 => ?_)
          refine hw_region ?_
          refine hq_ 51 (hop_move rfl) rfl rfl pre0 rfl rfl ?_
          refine hq_ 52 (hop_len_strl (T := 9) rfl (by kernel_rfl) rfl) rfl rfl pre0 rfl rfl ?_
          refine hq_ 2 (hop_assign rfl) rfl rfl pre0 rfl rfl ?_
          refine hq_ 3 (hop_assign rfl) rfl rfl pre0 rfl rfl ?_
          refine hq_ 4 (hop_assign rfl) rfl rfl pre0 rfl rfl ?_
          refine hseq_nil ?_
          refine h15 _ ?_
          refine hw_ret ?_
          refine hq_block_ret ?_
          refine hq_then_ret ?_
          refine hf_retR3 ok hX RetS.one rfl (rval_tmp rfl) (rval_tmp rfl) (rval_tmp rfl) [] rfl pre0 (([], (s.length : Int), 5)) (parse_end hv hne hx (show r.1.length ≤ q by omega) hc3) (by rfl) (by rfl) (kz_t3 (.fz _ _ (.nil 0 5 _ (by decide) none)) (by first | exact .fz _ _ (.imm _) | exact .os _ _ _ _ _ rfl rfl | exact .pt _ _ _ _ _ rfl rfl | exact .nps _ _ _ rfl rfl | (dsimp only; exact .fz _ _ Frz.fz) | exact .fz _ _ (.tup 0 _ _ (fun i hi => absurd hi (Nat.not_lt_zero _)))) (by first | exact .fz _ _ (.imm _) | exact .os _ _ _ _ _ rfl rfl | exact .pt _ _ _ _ _ rfl rfl | exact .nps _ _ _ rfl rfl | (dsimp only; exact .fz _ _ Frz.fz) | exact .fz _ _ (.tup 0 _ _ (fun i hi => absurd hi (Nat.not_lt_zero _))))) ?_
          exact trivial
        · have hr3 := hc3; (try simp only [hcs, Int.reduceToNat] at hc3)
          refine hw_skip ?_
          refine hq_block ?_
          refine h11 _ ?_
          refine hw_seq (fun Nh16 h16 => ?_)
          refine hw_region ?_
          refine hq_ 53 (hop_move rfl) rfl rfl pre0 rfl rfl ?_
          refine hq_ 54 (hop_nilcheck_pt rfl) rfl rfl pre0 rfl rfl ?_
          refine hq_ 55 (hop_fa fd_105_1 rfl) rfl rfl pre0 rfl rfl ?_
          refine hq_ 56 (hol_load ty_52 rfl (nb rfl) (nb rfl) (fun h => (by rfl))) rfl rfl (pre1 rfl) rfl rfl ?_
          refine hq_ 2 (hop_assign rfl) rfl rfl pre0 rfl rfl ?_
          refine hq_ 3 (hop_assign rfl) rfl rfl pre0 rfl rfl ?_
          refine hq_ 4 (hop_assign rfl) rfl rfl pre0 rfl rfl ?_
          refine hseq_nil ?_
          refine h16 _ ?_
          refine hw_ret ?_
          refine hf_retR3 ok hX RetS.one rfl (rval_tmp rfl) (rval_tmp rfl) (rval_tmp rfl) [(9002, _)] rfl (preC rfl pre0) ((o2, 0, 0)) (parse_ok hv hx (show r.1.length ≤ q by omega) hc3) (by rfl) (by rfl) (kz_t3 (.fz _ _ (fz_row (l := o2) (enc := ptF) (d := default) (List.mem_cons_self ..) rfl rfl (Nat.le_refl _) (fun i j hi hj => pt_fz _ j))) (by first | exact .fz _ _ (.imm _) | exact .os _ _ _ _ _ rfl rfl | exact .pt _ _ _ _ _ rfl rfl | exact .nps _ _ _ rfl rfl | (dsimp only; exact .fz _ _ Frz.fz) | exact .fz _ _ (.tup 0 _ _ (fun i hi => absurd hi (Nat.not_lt_zero _)))) (by first | exact .fz _ _ (.imm _) | exact .os _ _ _ _ _ rfl rfl | exact .pt _ _ _ _ _ rfl rfl | exact .nps _ _ _ rfl rfl | (dsimp only; exact .fz _ _ Frz.fz) | exact .fz _ _ (.tup 0 _ _ (fun i hi => absurd hi (Nat.not_lt_zero _))))) ?_
          exact trivial
end Go.Proofs.YtijpdbjcmnpobaaDoor

namespace Go.Proofs.YtijpdbjcmnpobaaDoor
set_option linter.unusedSimpArgs false
set_option linter.unusedVariables false

/-- The end of a stretch is one. -/
@[reducible] def EndOk (l : List Sg) (v q : Nat) : Prop := (2 ≤ v → kd l q ≠ 1 ∧ kd l q ≠ 2) ∧ (3 ≤ v → kd l q ≠ 4)
/-- An expression is read in one way. -/
theorem seg_det {l : List Sg} {v p q : Nat} {t : T} (h : Seg l v p q t) : ∀ {q' : Nat} {t' : T}, Seg l v p q' t' → EndOk l v q → EndOk l v q' → q = q' ∧ t = t' := by
  induction h with
  | name p h =>
    intro q' t' h' _ _
    cases h' with
    | name _ _ => exact ⟨rfl, rfl⟩
    | group _ _ _ h2 _ _ => rw [h] at h2; exact absurd h2 (by decide)
  | group p q t h hs h3 ih =>
    intro q' t' h' _ _
    cases h' with
    | name _ h2 => rw [h] at h2; exact absurd h2 (by decide)
    | group _ q2 _ h2 hs2 h32 =>
      have := ih hs2 ⟨fun _ => by rw [h3]; decide, fun _ => by rw [h3]; decide⟩ ⟨fun _ => by rw [h32]; decide, fun _ => by rw [h32]; decide⟩
      exact ⟨by rw [this.1], this.2⟩
  | item p q t hs h5 ih =>
    intro q' t' h' _ _
    have e : EndOk l 0 = fun _ => EndOk l 0 0 := by funext q; simp [EndOk]
    cases h' with
    | item _ _ _ hs2 h52 => exact ih hs2 ⟨fun h => absurd h (by decide), fun h => absurd h (by decide)⟩ ⟨fun h => absurd h (by decide), fun h => absurd h (by decide)⟩
    | times _ q2 t2 hs2 h52 =>
      have := ih hs2 ⟨fun h => absurd h (by decide), fun h => absurd h (by decide)⟩ ⟨fun h => absurd h (by decide), fun h => absurd h (by decide)⟩
      rw [this.1] at h5; exact absurd h52 h5
  | times p q t hs h5 ih =>
    intro q' t' h' _ _
    cases h' with
    | item _ _ _ hs2 h52 =>
      have := ih hs2 ⟨fun h => absurd h (by decide), fun h => absurd h (by decide)⟩ ⟨fun h => absurd h (by decide), fun h => absurd h (by decide)⟩
      rw [this.1] at h5; exact absurd h5 h52
    | times _ q2 t2 hs2 h52 =>
      have := ih hs2 ⟨fun h => absurd h (by decide), fun h => absurd h (by decide)⟩ ⟨fun h => absurd h (by decide), fun h => absurd h (by decide)⟩
      rw [this.1, this.2]; exact ⟨rfl, rfl⟩
  | row1 p q t hs ih =>
    intro q' t' h' he he'
    cases h' with
    | row1 _ _ _ hs2 => exact ih hs2 ⟨fun h => absurd h (by decide), fun h => absurd h (by decide)⟩ ⟨fun h => absurd h (by decide), fun h => absurd h (by decide)⟩
    | row _ _ ts c h2 h0 hq hs2 =>
      have a := hs2 0 (by omega)
      rw [h0] at a
      have b := ih a ⟨fun h => absurd h (by decide), fun h => absurd h (by decide)⟩ ⟨fun h => absurd h (by decide), fun h => absurd h (by decide)⟩
      have d := seg_first (hs2 1 (by omega))
      rw [← b.1] at d
      have := he.1 (by decide)
      exact absurd d (by omega)
  | row p q ts c h2 h0 hq hs ih =>
    intro q' t' h' he he'
    cases h' with
    | row1 _ _ _ hs2 =>
      have b := ih 0 (by omega) (h0.symm ▸ hs2) ⟨fun h => absurd h (by decide), fun h => absurd h (by decide)⟩ ⟨fun h => absurd h (by decide), fun h => absurd h (by decide)⟩
      have d := seg_first (hs 1 (by omega))
      rw [b.1] at d
      have := he'.1 (by decide)
      exact absurd d (by omega)
    | row _ _ ts2 c2 h22 h02 hq2 hs2 =>
      have key : ∀ i, i ≤ ts.length → i ≤ ts2.length → c i = c2 i ∧ ∀ j, j < i → ts.getD j default = ts2.getD j default := by
        intro i
        induction i with
        | zero => intro _ _; exact ⟨by rw [h0, h02], fun j hj => absurd hj (Nat.not_lt_zero _)⟩
        | succ i ihi =>
          intro h1 h3
          have a := ihi (by omega) (by omega)
          have b := ih i h1 (a.1 ▸ hs2 i h3) ⟨fun h => absurd h (by decide), fun h => absurd h (by decide)⟩ ⟨fun h => absurd h (by decide), fun h => absurd h (by decide)⟩
          refine ⟨b.1, fun j hj => ?_⟩
          by_cases e : j = i
          · subst e; exact b.2
          · exact a.2 j (by omega)
      have hlen : ts.length = ts2.length := by
        rcases Nat.lt_trichotomy ts.length ts2.length with h | h | h
        · have a := (key ts.length (Nat.le_refl _) (by omega)).1
          have d := seg_first (hs2 ts.length h)
          rw [← a, hq] at d
          have := he.1 (by decide); exact absurd d (by omega)
        · exact h
        · have a := (key ts2.length (by omega) (Nat.le_refl _)).1
          have d := seg_first (hs ts2.length h)
          rw [a, hq2] at d
          have := he'.1 (by decide); exact absurd d (by omega)
      have k := key ts.length (Nat.le_refl _) (by omega)
      refine ⟨by rw [← hq, k.1, hlen, hq2], ?_⟩
      congr 1
      apply List.ext_getElem hlen
      intro i h1 h3
      have := k.2 i h1
      rwa [List.getD_eq_getElem?_getD, List.getD_eq_getElem?_getD, List.getElem?_eq_getElem h1, List.getElem?_eq_getElem h3] at this
  | choice1 p q t hs ih =>
    intro q' t' h' he he'
    cases h' with
    | choice1 _ _ _ hs2 => exact ih hs2 ⟨fun _ => he.1 (by decide), fun h => absurd h (by decide)⟩ ⟨fun _ => he'.1 (by decide), fun h => absurd h (by decide)⟩
    | choice _ _ ts c e h2 h0 hq hs2 hg =>
      have a := hs2 0 (by omega)
      rw [h0] at a
      have g := (hg 0 (by omega)).1
      have b := ih a ⟨fun _ => he.1 (by decide), fun h => absurd h (by decide)⟩ ⟨fun _ => by rw [g]; decide, fun h => absurd h (by decide)⟩
      rw [← b.1] at g
      exact absurd g (he.2 (by decide))
  | choice p q ts c e h2 h0 hq hs hg ih =>
    intro q' t' h' he he'
    have e4 : ∀ i, i + 1 < ts.length → EndOk l 2 (e i) := fun i hi => ⟨fun _ => by rw [(hg i hi).1]; decide, fun h => absurd h (by decide)⟩
    cases h' with
    | choice1 _ _ _ hs2 =>
      have b := ih 0 (by omega) (h0.symm ▸ hs2) (e4 0 (by omega)) ⟨fun _ => he'.1 (by decide), fun h => absurd h (by decide)⟩
      have g := (hg 0 (by omega)).1
      rw [b.1] at g
      exact absurd g (he'.2 (by decide))
    | choice _ _ ts2 c2 e2 h22 h02 hq2 hs2 hg2 =>
      have e42 : ∀ i, i + 1 < ts2.length → EndOk l 2 (e2 i) := fun i hi => ⟨fun _ => by rw [(hg2 i hi).1]; decide, fun h => absurd h (by decide)⟩
      have en : ∀ i, i < ts.length → EndOk l 2 (e i) := fun i hi => by
        by_cases h : i + 1 < ts.length
        · exact e4 i h
        · rw [show i = ts.length - 1 by omega, hq]; exact ⟨fun _ => he.1 (by decide), fun h => absurd h (by decide)⟩
      have en2 : ∀ i, i < ts2.length → EndOk l 2 (e2 i) := fun i hi => by
        by_cases h : i + 1 < ts2.length
        · exact e42 i h
        · rw [show i = ts2.length - 1 by omega, hq2]; exact ⟨fun _ => he'.1 (by decide), fun h => absurd h (by decide)⟩
      have key : ∀ i, i < ts.length → i < ts2.length → c i = c2 i ∧ e i = e2 i ∧ ∀ j, j < i + 1 → ts.getD j default = ts2.getD j default := by
        intro i
        induction i with
        | zero =>
          intro h1 h3
          have b := ih 0 h1 ((h0.trans h02.symm) ▸ hs2 0 h3) (en 0 h1) (en2 0 h3)
          exact ⟨by rw [h0, h02], b.1, fun j hj => by obtain rfl : j = 0 := by omega
                                                      exact b.2⟩
        | succ i ihi =>
          intro h1 h3
          have a := ihi (by omega) (by omega)
          have hc : c (i + 1) = c2 (i + 1) := by rw [(hg i h1).2, (hg2 i h3).2, a.2.1]
          have b := ih (i + 1) h1 (hc ▸ hs2 (i + 1) h3) (en _ h1) (en2 _ h3)
          refine ⟨hc, b.1, fun j hj => ?_⟩
          by_cases e : j = i + 1
          · subst e; exact b.2
          · exact a.2.2 j (by omega)
      have hlen : ts.length = ts2.length := by
        rcases Nat.lt_trichotomy ts.length ts2.length with h | h | h
        · have a := (key (ts.length - 1) (by omega) (by omega)).2.1
          have d := (hg2 (ts.length - 1) (by omega)).1
          rw [← a, hq] at d
          exact absurd d (he.2 (by decide))
        · exact h
        · have a := (key (ts2.length - 1) (by omega) (by omega)).2.1
          have d := (hg (ts2.length - 1) (by omega)).1
          rw [a, hq2] at d
          exact absurd d (he'.2 (by decide))
      have k := key (ts.length - 1) (by omega) (by omega)
      refine ⟨by rw [← hq, k.2.1, hlen, hq2], ?_⟩
      congr 1
      apply List.ext_getElem hlen
      intro i h1 h3
      have := k.2.2 i (by omega)
      rwa [List.getD_eq_getElem?_getD, List.getD_eq_getElem?_getD, List.getElem?_eq_getElem h1, List.getElem?_eq_getElem h3] at this
end Go.Proofs.YtijpdbjcmnpobaaDoor

namespace Go.Proofs.YtijpdbjcmnpobaaDoor
set_option linter.unusedSimpArgs false
set_option linter.unusedVariables false
set_option maxRecDepth 100000
open Go.RowKit

end Go.Proofs.YtijpdbjcmnpobaaDoor

namespace Go.Proofs.YtijpdbjcmnpobaaDoor
set_option linter.unusedSimpArgs false
set_option linter.unusedVariables false
set_option maxRecDepth 100000
set_option maxHeartbeats 4000000
open Go.RowKit

theorem kz_os {kp sh : List (Nat × HObj)} {id g lo n n' : Nat} {o : HObj} (h : hget kp id = some o) (hg : o.g = g) (hn : n = n') : Kz kp sh (.os id g lo n) (.os id g lo n') := by subst hn; exact .os _ _ _ _ _ h hg
theorem osub5 {g ty fl : Nat} {f f' : Nat → Nat → HV} (h0 : Sb (f 0 0) (f' 0 0)) (h1 : Sb (f 0 1) (f' 0 1)) (h2 : Sb (f 0 2) (f' 0 2)) (h3 : Sb (f 0 3) (f' 0 3)) (h4 : Sb (f 0 4) (f' 0 4)) (hfn : fl ≤ 1 := by exact Nat.zero_le _) : OSub ⟨g, 1, 5, ty, fl, f⟩ ⟨g, 1, 5, ty, fl, f'⟩ := .of (hfn := hfn) fun i j hi hj => by
  obtain rfl : i = 0 := by omega
  match j, hj with | 0, _ => exact h0 | 1, _ => exact h1 | 2, _ => exact h2 | 3, _ => exact h3 | 4, _ => exact h4
theorem kids_at {B : List Int} {i j : Nat} {x : Int} (hj : j = i) (h : B.getD i 0 = x) : ldv false 1 (kidsF B j) 0 = intV x := by subst hj; show intV (B.getD j 0) = _; rw [h]
/-- The kids that have been laid. -/
structure KidI (ts : List T) (out : List Pt) (i : Nat) (o : List Pt) (ks : List Int) : Prop where
  le : i ≤ ts.length
  eo : o = out ++ T.flatL out.length (ts.take i)
  ek : ks = rootsL out.length (ts.take i)
/-- The places between pieces. -/
structure Cuts (l : List Sg) (B : List Int) (m p q : Nat) (ts : List T) (s e : Nat → Nat) : Prop where
  hlen : B.length = m + 1
  hm : m = ts.length
  htwo : 2 ≤ m
  hmb : m ≤ 2000
  hat : ∀ i, i < m → B.getD i 0 = (s i : Int)
  hle : ∀ i, i < m → s i ≤ e i ∧ e i ≤ l.length
  hout : ∀ i, i < m → T.sizeL (ts.take i) + 2 * p ≤ 2 * s i
  hsz : ∀ i, i < m → (ts.getD i default).size + 2 * s i ≤ 2 * e i
  hall : T.sizeL ts + 2 * p ≤ 2 * q
end Go.Proofs.YtijpdbjcmnpobaaDoor

namespace Go.Proofs.YtijpdbjcmnpobaaDoor
set_option linter.unusedSimpArgs false
set_option linter.unusedVariables false
set_option maxRecDepth 100000
open Go.RowKit

end Go.Proofs.YtijpdbjcmnpobaaDoor

namespace Go.Proofs.YtijpdbjcmnpobaaDoor
set_option linter.unusedSimpArgs false
set_option linter.unusedVariables false

def nameV (s : List UInt8) : Bool := match lexV s with | .ok [x] => decide (x.kind = 1) && decide (x.name = s) | _ => false
def aloneV (x : Pt) : Bool :=
  if x.kind = 1 then decide (x.kids.length = 0) && decide (x.low = 0) && decide (x.high = 0) && nameV x.name
  else if x.kind = 2 ∨ x.kind = 3 then decide (1 < x.kids.length) && decide (x.low = 0) && decide (x.high = 0) && decide (x.name = [])
  else if x.kind = 4 then decide (x.kids.length = 1) && decide (0 ≤ x.low) && decide (x.low ≤ 20) && (decide (x.high = -1) || decide ((if 1 > x.low then 1 else x.low) ≤ x.high) && decide (x.high ≤ 20)) && decide (x.name = [])
  else false
/-- The stack of what isn't yet a kid. -/
def rightL (n : Nat) : Nat → List Pt → List Int → Bool
  | _, [], op => decide (op.length = 1) || decide (n = 0)
  | i, x :: r, op => (aloneV x && (decide (x.kids.length ≤ op.length) && decide (op.drop (op.length - x.kids.length) = x.kids))) && rightL n (i + 1) r (op.take (op.length - x.kids.length) ++ [(i : Int)])
def rightV (e : List Pt) : Bool := rightL e.length 0 e []
mutual
/-- A tree whose parts may be. -/
def T.ok : T → Bool
  | .name s => nameV s
  | .times lo hi t => decide (0 ≤ lo) && decide (lo ≤ 20) && (decide (hi = -1) || decide ((if 1 > lo then 1 else lo) ≤ hi) && decide (hi ≤ 20)) && T.ok t
  | .many k ts => (decide (k = 2) || decide (k = 3)) && decide (2 ≤ ts.length) && T.okL ts
def T.okL : List T → Bool
  | [] => true
  | t :: ts => T.ok t && T.okL ts
end
theorem drop_app_len {α : Type} (a b : List α) : (a ++ b).drop ((a ++ b).length - b.length) = b := by
  rw [List.length_append, Nat.add_sub_cancel]; simp
theorem take_app_len {α : Type} (a b : List α) : (a ++ b).take ((a ++ b).length - b.length) = a := by
  rw [List.length_append, Nat.add_sub_cancel]; simp
mutual
/-- A tree's parts leave its root on the stack. -/
theorem right_flat (n : Nat) : ∀ (t : T) (b : Nat) (r : List Pt) (op : List Int), t.ok = true → rightL n b (T.flat b t ++ r) op = rightL n (b + t.size) r (op ++ [T.root b t])
  | .name s, b, r, op, h => by
    simp only [T.ok] at h
    simp only [T.flat, List.singleton_append, rightL, aloneV, if_true, h, T.size, T.root]
    simp
  | .times lo hi t, b, r, op, h => by
    simp only [T.ok, Bool.and_eq_true] at h
    have e := right_flat n t b ([⟨4, lo, hi, [], [((b + t.size : Nat) : Int) - 1]⟩] ++ r) op h.2
    simp only [T.flat, List.append_assoc]
    rw [e]
    simp only [List.singleton_append, rightL]
    have ha : aloneV ⟨4, lo, hi, [], [((b + t.size : Nat) : Int) - 1]⟩ = true := by
      unfold aloneV
      rw [if_neg (show ¬ (4 : Int) = 1 by decide), if_neg (show ¬ ((4 : Int) = 2 ∨ (4 : Int) = 3) by decide), if_pos rfl]
      simp only [Bool.and_eq_true]
      exact ⟨⟨⟨⟨rfl, h.1.1.1⟩, h.1.1.2⟩, h.1.2⟩, rfl⟩
    have e1 := drop_app_len op [T.root b t]
    have e2 := take_app_len op [T.root b t]
    rw [show ([((b + t.size : Nat) : Int) - 1] : List Int) = [T.root b t] from rfl] at ha ⊢
    rw [ha, e1, e2]
    rw [decide_eq_true (by simp), decide_eq_true rfl]
    simp only [Bool.true_and, T.size, T.root]
    have e3 : ((b + (t.size + 1) : Nat) : Int) - 1 = ((b + t.size : Nat) : Int) := by omega
    have e4 : b + t.size + 1 = b + (t.size + 1) := by omega
    rw [e3, e4]
  | .many k ts, b, r, op, h => by
    simp only [T.ok, Bool.and_eq_true, Bool.or_eq_true, decide_eq_true_eq] at h
    have e := right_flatL n ts b ([⟨k, 0, 0, [], rootsL b ts⟩] ++ r) op h.2
    simp only [T.flat, List.append_assoc]
    rw [e]
    simp only [List.singleton_append, rightL]
    have hl := rootsL_len ts b
    have ha : aloneV ⟨k, 0, 0, [], rootsL b ts⟩ = true := by
      unfold aloneV
      rw [if_neg (by show ¬ k = 1; omega), if_pos (by show k = 2 ∨ k = 3; exact h.1.1)]
      simp only [hl]
      rw [decide_eq_true (show 1 < ts.length by omega)]; rfl
    have e1 := drop_app_len op (rootsL b ts)
    have e2 := take_app_len op (rootsL b ts)
    rw [ha, e1, e2]
    rw [decide_eq_true (by simp), decide_eq_true rfl]
    simp only [Bool.true_and, T.size, T.root]
    have e3 : ((b + (T.sizeL ts + 1) : Nat) : Int) - 1 = ((b + T.sizeL ts : Nat) : Int) := by omega
    have e4 : b + T.sizeL ts + 1 = b + (T.sizeL ts + 1) := by omega
    rw [e3, e4]
theorem right_flatL (n : Nat) : ∀ (ts : List T) (b : Nat) (r : List Pt) (op : List Int), T.okL ts = true → rightL n b (T.flatL b ts ++ r) op = rightL n (b + T.sizeL ts) r (op ++ rootsL b ts)
  | [], b, r, op, h => by simp [T.flatL, T.sizeL, rootsL]
  | t :: ts, b, r, op, h => by
    simp only [T.okL, Bool.and_eq_true] at h
    simp only [T.flatL, List.append_assoc]
    rw [right_flat n t b _ op h.1, right_flatL n ts _ r _ h.2]
    simp [T.sizeL, rootsL, T.root, Nat.add_assoc]
end
theorem right_of_ok {t : T} (h : t.ok = true) : rightV (T.flat 0 t) = true := by
  have := right_flat (T.flat 0 t).length t 0 [] [] h
  rw [List.append_nil] at this
  unfold rightV
  rw [this]
  simp [rightL]
/-- A name is read as one. -/
theorem nameV_of {p : Int} {n : List UInt8} (h : SgW ⟨1, p, 0, 0, n⟩) : nameV n = true := by
  have := lex_show (l := [⟨1, 0, 0, 0, n⟩]) (f := true) (p := []) (out := []) (by
    intro x hx
    simp only [List.mem_singleton] at hx
    subst hx
    cases h with
    | name h1 h2 h3 => exact .name h1 h2 h3) (by simp)
  obtain ⟨l', e, hs⟩ := this
  have e : lexV n = .ok l' := by
    simpa [showG, sepL, pieceL, ← lexV_at] using e
  unfold nameV
  rw [e]
  match l', hs with
  | [y], hs => 
    have := hs.1
    simp only at this ⊢
    rw [this]; simp
theorem sgW_at {l : List Sg} (h : ∀ x ∈ l, SgW x) {i : Nat} (hi : i < l.length) : SgW (l.getD i default) := by
  rw [List.getD_eq_getElem?_getD, List.getElem?_eq_getElem hi]; exact h _ (List.getElem_mem hi)
theorem okL_of {ts : List T} (h : ∀ i, i < ts.length → (ts.getD i default).ok = true) : T.okL ts = true := by
  induction ts with
  | nil => rfl
  | cons t ts ih =>
    simp only [T.okL, Bool.and_eq_true]
    exact ⟨h 0 (by simp), ih fun i hi => by have := h (i + 1) (by simpa using hi); simpa using this⟩
theorem okL_at {ts : List T} (h : T.okL ts = true) : ∀ i, i < ts.length → (ts.getD i default).ok = true := by
  induction ts with
  | nil => intro i hi; exact absurd hi (Nat.not_lt_zero _)
  | cons t ts ih =>
    simp only [T.okL, Bool.and_eq_true] at h
    intro i hi
    cases i with
    | zero => exact h.1
    | succ i => have := ih h.2 i (by simpa using hi); simpa using this
/-- What has been read may be. -/
theorem kd1 {x : Sg} (hw : SgW x) (h : x.kind = 1) : SgW ⟨1, 0, 0, 0, x.name⟩ := by
  cases hw with
  | @name a n h1 h2 h3 => exact .name h1 h2 h3
  | open_ => exact absurd (show (2 : Int) = 1 from h) (by decide)
  | shut => exact absurd (show (3 : Int) = 1 from h) (by decide)
  | or_ => exact absurd (show (4 : Int) = 1 from h) (by decide)
  | times _ => exact absurd (show (5 : Int) = 1 from h) (by decide)
theorem kd5 {x : Sg} (hw : SgW x) (h : x.kind = 5) : TimesOk x.low x.high := by
  cases hw with
  | name _ _ _ => exact absurd (show (1 : Int) = 5 from h) (by decide)
  | open_ => exact absurd (show (2 : Int) = 5 from h) (by decide)
  | shut => exact absurd (show (3 : Int) = 5 from h) (by decide)
  | or_ => exact absurd (show (4 : Int) = 5 from h) (by decide)
  | times h' => exact h'
theorem seg_ok {l : List Sg} (hW : ∀ x ∈ l, SgW x) {v p q : Nat} {t : T} (h : Seg l v p q t) : t.ok = true := by
  induction h with
  | name p h =>
    have hp := kd_lt (l := l) (i := p) (by rw [h]; decide)
    have hw := sgW_at hW hp
    rw [kd_in hp] at h
    exact nameV_of (kd1 hw h)
  | group _ _ _ _ _ _ ih => exact ih
  | item _ _ _ _ _ ih => exact ih
  | times p q t hs h5 ih =>
    have hp := kd_lt (l := l) (i := q) (by rw [h5]; decide)
    have hw := sgW_at hW hp
    rw [kd_in hp] at h5
    obtain ⟨⟨h1, h2⟩, h3⟩ := kd5 hw h5
    simp only [T.ok, Bool.and_eq_true, Bool.or_eq_true, decide_eq_true_eq]
    refine ⟨⟨⟨h1, h2⟩, ?_⟩, ih⟩
    rcases h3 with h3 | h3
    · exact .inl h3
    · right; split <;> omega
  | row1 _ _ _ _ ih => exact ih
  | row p q ts c h2 _ _ _ ih =>
    simp only [T.ok, Bool.and_eq_true, Bool.or_eq_true, decide_eq_true_eq]
    exact ⟨⟨.inl trivial, h2⟩, okL_of ih⟩
  | choice1 _ _ _ _ ih => exact ih
  | choice p q ts c e h2 _ _ _ _ ih =>
    simp only [T.ok, Bool.and_eq_true, Bool.or_eq_true, decide_eq_true_eq]
    exact ⟨⟨.inr trivial, h2⟩, okL_of ih⟩
end Go.Proofs.YtijpdbjcmnpobaaDoor

namespace Go.Proofs.YtijpdbjcmnpobaaDoor
set_option linter.unusedSimpArgs false
set_option linter.unusedVariables false
set_option maxRecDepth 100000
set_option maxHeartbeats 1000000
open Go.RowKit

theorem ext_getD {α : Type} (d : α) {a b : List α} (hl : a.length = b.length) (h : ∀ j, j < a.length → a.getD j d = b.getD j d) : a = b := by
  apply List.ext_getElem hl
  intro i h1 h2
  have := h i h1
  rwa [List.getD_eq_getElem?_getD, List.getD_eq_getElem?_getD, List.getElem?_eq_getElem h1, List.getElem?_eq_getElem h2] at this
theorem sameInts_h (a b : List Int) (ha : a.length ≤ 1000000) (hb : b.length ≤ 1000000) : HPure Tryd.prog 66 [kidsV a, kidsV b] (boolV (decide (a = b))) := by
  refine hpure_of Tryd.func66 rfl (by kernel_rfl) _ _ _ rfl 26 rfl rfl (fun w F => ?_)
  refine hw_seq (fun Nh1 h1 => ?_)
  refine hw_region ?_
  refine hq_ 4 (hop_assign rfl) rfl rfl pre0 rfl rfl ?_
  refine hseq_nil ?_
  refine h1 _ ?_
  refine hw_seq (fun Nh2 h2 => ?_)
  refine hw_seq (fun Nh3 h3 => ?_)
  refine hw_region ?_
  refine hq_ 6 (hop_move rfl) rfl rfl pre0 rfl rfl ?_
  refine hq_ 7 (hop_len_sl (T := 98) rfl (elOf_spec el_98).1 rfl) rfl rfl pre0 rfl rfl ?_
  refine hq_ 8 (hop_move rfl) rfl rfl pre0 rfl rfl ?_
  refine hq_ 9 (hop_len_sl (T := 98) rfl (elOf_spec el_98).1 rfl) rfl rfl pre0 rfl rfl ?_
  refine hq_ 10 (hop_neq rfl rfl) rfl rfl pre0 rfl rfl ?_
  refine hseq_nil ?_
  refine h3 _ ?_
  refine hw_cond _ rfl (fun hc0 => ?_) (fun hc0 => ?_)
  · have hr0 := hc0; (try simp only [hcs, Int.reduceToNat] at hc0)
    refine hw_seq (fun Nh4 h4 => ?_)
    refine hw_region ?_
    refine hq_ 4 (hop_assign rfl) rfl rfl pre0 rfl rfl ?_
    refine hseq_nil ?_
    refine h4 _ ?_
    refine hw_ret ?_
    refine hq_then_ret ?_
    refine hq_ret1 rfl (rval_tmp rfl) [] rfl pre0 ?_
    rw [decide_eq_false (fun h => hc0 (by rw [h]))]; exact .imm _
  · have hr0 := hc0; (try simp only [hcs, Int.reduceToNat] at hc0)
    refine hw_skip ?_
    refine h2 _ ?_
    refine hw_seq (fun Nh5 h5 => ?_)
    refine hw_seq (fun Nh6 h6 => ?_)
    refine hw_region ?_
    refine hq_ 5 (hop_assign rfl) rfl rfl pre0 rfl rfl ?_
    refine hseq_nil ?_
    refine h6 _ ?_
    refine hw_block ?_
    refine hw_loopc (α := Nat) (fun x c => ⟨26, [(0, .v (kidsV a)), (1, .v (kidsV b)), (5, .v (intV x))], [], c⟩) (fun x => x ≤ a.length ∧ ∀ j, j < x → a.getD j 0 = b.getD j 0) (fun x => a.length - x) (0) (by exact ⟨Nat.zero_le _, fun j hj => absurd hj (Nat.not_lt_zero _)⟩) (hsub_of rfl (Nat.le_refl _) (TmSub.cons rfl (Sb.refl _) (TmSub.cons rfl (Sb.refl _) (TmSub.cons rfl (Sb.refl _) TmSub.nil))) HpSub.nil) (fun k c hx NhL7 hL7 => ?_)
    (try dsimp only at hx hL7 ⊢)
    obtain ⟨hk, hE⟩ := hx
    refine hw_seq (fun Nh8 h8 => ?_)
    refine hw_seq (fun Nh9 h9 => ?_)
    refine hw_region ?_
    refine hq_ 11 (hop_move rfl) rfl rfl pre0 rfl rfl ?_
    refine hq_ 12 (hop_move rfl) rfl rfl pre0 rfl rfl ?_
    refine hq_ 13 (hop_len_sl (T := 98) rfl (elOf_spec el_98).1 rfl) rfl rfl pre0 rfl rfl ?_
    refine hq_ 14 (hop_lss rfl rfl) rfl rfl pre0 rfl rfl ?_
    refine hseq_nil ?_
    refine h9 _ ?_
    refine hw_cond _ rfl (fun hc1 => ?_) (fun hc1 => ?_)
    · have hr1 := hc1; (try simp only [hcs, Int.reduceToNat] at hc1)
      refine hw_skip ?_
      refine h8 _ ?_
      refine hw_seq (fun Nh10 h10 => ?_)
      refine hw_block ?_
      refine hw_seq (fun Nh11 h11 => ?_)
      refine hd_start ?_
      refine hd_q 17 (hop_move rfl) rfl rfl pre0 rfl rfl (k' := 1) rfl ?_
      refine hd_q 18 (hop_move rfl) rfl rfl pre0 rfl rfl (k' := 2) rfl ?_
      refine hd_q 19 (hop_ia_sl el_98 rfl rfl (by omega) (by omega) (nb rfl)) rfl rfl pre0 rfl rfl (k' := 3) rfl ?_
      refine hd_q 20 (HOp.val (v' := intV (a.getD k 0)) (hop_load_fp ty_3 rfl (nb rfl) (fun h => (by rfl))) (rfl)) rfl rfl pre0 rfl rfl (k' := 4) rfl ?_
      refine hd_q 21 (hop_move rfl) rfl rfl pre0 rfl rfl (k' := 5) rfl ?_
      refine hd_q 22 (hop_move rfl) rfl rfl pre0 rfl rfl (k' := 6) rfl ?_
      refine hd_q 23 (hop_ia_sl el_98 rfl rfl (by omega) (by omega) (nb rfl)) rfl rfl pre0 rfl rfl (k' := 7) rfl ?_
      refine hd_q 24 (HOp.val (v' := intV (b.getD k 0)) (hop_load_fp ty_3 rfl (nb rfl) (fun h => (by rfl))) (rfl)) rfl rfl pre0 rfl rfl (k' := 8) rfl ?_
      refine hd_q 25 (hop_neq rfl rfl) rfl rfl pre0 rfl rfl (k' := 9) rfl ?_
      refine hd_nil (by kernel_rfl) (by kernel_rfl) (c' := c + 9) rfl ?_
      refine h11 _ ?_
      refine hw_cond _ rfl (fun hc2 => ?_) (fun hc2 => ?_)
      · have hr2 := hc2; (try simp only [hcs, Int.reduceToNat] at hc2)
        refine hw_seq (fun Nh12 h12 => ?_)
        refine hw_region ?_
        refine hq_ 4 (hop_assign rfl) rfl rfl pre0 rfl rfl ?_
        refine hseq_nil ?_
        refine h12 _ ?_
        refine hw_ret ?_
        refine hq_block_ret ?_
        refine hq_then_ret ?_
        refine hq_then_ret ?_
        refine hq_block_ret ?_
        refine hq_then_ret ?_
        refine hq_ret1 rfl (rval_tmp rfl) [] rfl pre0 ?_
        rw [decide_eq_false (fun h => hc2 (by rw [h]))]; exact .imm _
      · have hr2 := hc2; (try simp only [hcs, Int.reduceToNat] at hc2)
        refine hw_skip ?_
        refine hq_block ?_
        refine h10 _ ?_
        refine hw_region ?_
        refine hq_ 15 (hop_move rfl) rfl rfl pre0 rfl rfl ?_
        refine hq_ 16 (hop_addi rfl rfl rfl (by omega) (by omega)) rfl rfl pre0 rfl rfl ?_
        refine hq_ 5 (hop_assign rfl) rfl rfl pre0 rfl rfl ?_
        refine hseq_nil ?_
        exact hL7 (k + 1) _ _ (by (try dsimp only); exact ⟨by omega, fun j hj => by by_cases e : j = k; (· subst e; exact hc2); exact hE j (by omega)⟩) (by (try dsimp only); omega) (hsub_of rfl (Nat.le_refl _) (TmSub.cons rfl (Sb.refl _) (TmSub.cons rfl (Sb.refl _) (TmSub.cons rfl (Sb.refl _) TmSub.nil))) HpSub.nil)
    · have hr1 := hc1; (try simp only [hcs, Int.reduceToNat] at hc1)
      refine hw_exit ?_
      refine hq_then_exit ?_
      refine hq_then_exit ?_
      refine hq_block_here ?_
      refine h5 _ ?_
      refine hw_seq (fun Nh13 h13 => ?_)
      refine hw_region ?_
      refine hq_ 4 (hop_assign rfl) rfl rfl pre0 rfl rfl ?_
      refine hseq_nil ?_
      refine h13 _ ?_
      refine hw_ret ?_
      refine hq_ret1 rfl (rval_tmp rfl) [] rfl pre0 ?_
      rw [decide_eq_true (ext_getD 0 (by omega) (fun j hj => hE j (by omega)))]; exact .imm _
theorem pt_ext {x y : Pt} (h0 : x.kind = y.kind) (h1 : x.low = y.low) (h2 : x.high = y.high) (h3 : x.name = y.name) (h4 : x.kids = y.kids) : x = y := by
  cases x; cases y; simp only at *; subst h0; subst h1; subst h2; subst h3; subst h4; rfl
/-- Parts that aren't too long. -/
@[reducible] def PtB (l : List Pt) : Prop := l.length ≤ 100000 ∧ ∀ i, i < l.length → (l.getD i default).kids.length ≤ 100000 ∧ (l.getD i default).name.length ≤ 1000000
theorem samePts_h (a b : List Pt) (ha : PtB a) (hb : PtB b) : HPure Tryd.prog 30 [ptsV a, ptsV b] (boolV (decide (a = b))) := by
  have hla := ha.1
  have hlb := hb.1
  refine hpure_of Tryd.func30 rfl (by kernel_rfl) _ _ _ rfl 81 rfl rfl (fun w F => ?_)
  refine hw_seq (fun Nh1 h1 => ?_)
  refine hw_region ?_
  refine hq_ 4 (hop_assign rfl) rfl rfl pre0 rfl rfl ?_
  refine hseq_nil ?_
  refine h1 _ ?_
  refine hw_seq (fun Nh2 h2 => ?_)
  refine hw_seq (fun Nh3 h3 => ?_)
  refine hw_region ?_
  refine hq_ 6 (hop_move rfl) rfl rfl pre0 rfl rfl ?_
  refine hq_ 7 (hop_len_sl (T := 55) rfl (elOf_spec el_55).1 rfl) rfl rfl pre0 rfl rfl ?_
  refine hq_ 8 (hop_move rfl) rfl rfl pre0 rfl rfl ?_
  refine hq_ 9 (hop_len_sl (T := 55) rfl (elOf_spec el_55).1 rfl) rfl rfl pre0 rfl rfl ?_
  refine hq_ 10 (hop_neq rfl rfl) rfl rfl pre0 rfl rfl ?_
  refine hseq_nil ?_
  refine h3 _ ?_
  refine hw_cond _ rfl (fun hc0 => ?_) (fun hc0 => ?_)
  · have hr0 := hc0; (try simp only [hcs, Int.reduceToNat] at hc0)
    refine hw_seq (fun Nh4 h4 => ?_)
    refine hw_region ?_
    refine hq_ 4 (hop_assign rfl) rfl rfl pre0 rfl rfl ?_
    refine hseq_nil ?_
    refine h4 _ ?_
    refine hw_ret ?_
    refine hq_then_ret ?_
    refine hq_ret1 rfl (rval_tmp rfl) [] rfl pre0 ?_
    rw [decide_eq_false (fun h => hc0 (by rw [h]))]; exact .imm _
  · have hr0 := hc0; (try simp only [hcs, Int.reduceToNat] at hc0)
    refine hw_skip ?_
    refine h2 _ ?_
    refine hw_seq (fun Nh5 h5 => ?_)
    refine hw_seq (fun Nh6 h6 => ?_)
    refine hw_region ?_
    refine hq_ 5 (hop_assign rfl) rfl rfl pre0 rfl rfl ?_
    refine hseq_nil ?_
    refine h6 _ ?_
    refine hw_block ?_
    refine hw_loopc (α := Nat) (fun x c => ⟨81, [(0, .v (ptsV a)), (1, .v (ptsV b)), (5, .v (intV x))], [], c⟩) (fun x => x ≤ a.length ∧ ∀ j, j < x → a.getD j default = b.getD j default) (fun x => a.length - x) (0) (by exact ⟨Nat.zero_le _, fun j hj => absurd hj (Nat.not_lt_zero _)⟩) (hsub_of rfl (Nat.le_refl _) (TmSub.cons rfl (Sb.refl _) (TmSub.cons rfl (Sb.refl _) (TmSub.cons rfl (Sb.refl _) TmSub.nil))) HpSub.nil) (fun k c hx NhL7 hL7 => ?_)
    (try dsimp only at hx hL7 ⊢)
    obtain ⟨hk, hE⟩ := hx
    refine hw_seq (fun Nh8 h8 => ?_)
    refine hw_seq (fun Nh9 h9 => ?_)
    refine hw_region ?_
    refine hq_ 11 (hop_move rfl) rfl rfl pre0 rfl rfl ?_
    refine hq_ 12 (hop_move rfl) rfl rfl pre0 rfl rfl ?_
    refine hq_ 13 (hop_len_sl (T := 55) rfl (elOf_spec el_55).1 rfl) rfl rfl pre0 rfl rfl ?_
    refine hq_ 14 (hop_lss rfl rfl) rfl rfl pre0 rfl rfl ?_
    refine hseq_nil ?_
    refine h9 _ ?_
    refine hw_cond _ rfl (fun hc1 => ?_) (fun hc1 => ?_)
    · have hr1 := hc1; (try simp only [hcs, Int.reduceToNat] at hc1)
      have hka := ha.2 k (by omega); have hkb := hb.2 k (by omega)
      refine hw_skip ?_
      refine h8 _ ?_
      refine hw_seq (fun Nh10 h10 => ?_)
      refine hw_block ?_
      refine hw_seq (fun Nh11 h11 => ?_)
      refine hd_start ?_
      refine hd_q 17 (hop_move rfl) rfl rfl pre0 rfl rfl (k' := 1) rfl ?_
      refine hd_q 18 (hop_move rfl) rfl rfl pre0 rfl rfl (k' := 2) rfl ?_
      refine hd_q 19 (hop_ia_sl el_55 rfl rfl (by omega) (by omega) (nb rfl)) rfl rfl pre0 rfl rfl (k' := 3) rfl ?_
      refine hd_q 20 (hop_fa_fp fd_109_0 rfl (nb rfl)) rfl rfl pre0 rfl rfl (k' := 4) rfl ?_
      refine hd_q 21 (HOp.val (v' := intV (a.getD k default).kind) (hop_load_fp ty_3 rfl (nb rfl) (fun h => (by rfl))) (rfl)) rfl rfl pre0 rfl rfl (k' := 5) rfl ?_
      refine hd_q 22 (hop_move rfl) rfl rfl pre0 rfl rfl (k' := 6) rfl ?_
      refine hd_q 23 (hop_move rfl) rfl rfl pre0 rfl rfl (k' := 7) rfl ?_
      refine hd_q 24 (hop_ia_sl el_55 rfl rfl (by omega) (by omega) (nb rfl)) rfl rfl pre0 rfl rfl (k' := 8) rfl ?_
      refine hd_q 25 (hop_fa_fp fd_109_0 rfl (nb rfl)) rfl rfl pre0 rfl rfl (k' := 9) rfl ?_
      refine hd_q 26 (HOp.val (v' := intV (b.getD k default).kind) (hop_load_fp ty_3 rfl (nb rfl) (fun h => (by rfl))) (rfl)) rfl rfl pre0 rfl rfl (k' := 10) rfl ?_
      refine hd_q 27 (hop_neq rfl rfl) rfl rfl pre0 rfl rfl (k' := 11) rfl ?_
      refine hd_q 28 (hop_move rfl) rfl rfl pre0 rfl rfl (k' := 12) rfl ?_
      refine hd_g 29 11 28 false _ (fun hb => hop_move rfl) rfl rfl rfl rfl pre0 rfl rfl rfl (k' := 13) rfl ?_
      refine hd_g 30 11 28 false _ (fun hb => hop_move rfl) rfl rfl rfl rfl pre0 rfl rfl rfl (k' := 14) rfl ?_
      refine hd_g 31 11 28 false _ (fun hb => hop_ia_sl el_55 rfl rfl (by (simp at hb; first | omega | (dsimp only; omega) | (simp <;> omega))) (by (simp at hb; first | omega | (dsimp only; omega) | (simp <;> omega))) (nb rfl)) rfl rfl rfl rfl pre0 rfl rfl rfl (k' := 15) rfl ?_
      refine hd_g 32 11 28 false _ (fun hb => hop_fa_fp fd_109_1 rfl (nb rfl)) rfl rfl rfl rfl pre0 rfl rfl rfl (k' := 16) rfl ?_
      refine hd_g 33 11 28 false _ (fun hb => HOp.val (v' := intV (a.getD k default).low) (hop_load_fp ty_3 rfl (nb rfl) (fun h => (by rfl))) (rfl)) rfl rfl rfl rfl pre0 rfl rfl rfl (k' := 17) rfl ?_
      refine hd_g 34 11 28 false _ (fun hb => hop_move rfl) rfl rfl rfl rfl pre0 rfl rfl rfl (k' := 18) rfl ?_
      refine hd_g 35 11 28 false _ (fun hb => hop_move rfl) rfl rfl rfl rfl pre0 rfl rfl rfl (k' := 19) rfl ?_
      refine hd_g 36 11 28 false _ (fun hb => hop_ia_sl el_55 rfl rfl (by (simp at hb; first | omega | (dsimp only; omega) | (simp <;> omega))) (by (simp at hb; first | omega | (dsimp only; omega) | (simp <;> omega))) (nb rfl)) rfl rfl rfl rfl pre0 rfl rfl rfl (k' := 20) rfl ?_
      refine hd_g 37 11 28 false _ (fun hb => hop_fa_fp fd_109_1 rfl (nb rfl)) rfl rfl rfl rfl pre0 rfl rfl rfl (k' := 21) rfl ?_
      refine hd_g 38 11 28 false _ (fun hb => HOp.val (v' := intV (b.getD k default).low) (hop_load_fp ty_3 rfl (nb rfl) (fun h => (by rfl))) (rfl)) rfl rfl rfl rfl pre0 rfl rfl rfl (k' := 22) rfl ?_
      refine hd_g 39 11 28 false _ (fun hb => hop_neq rfl rfl) rfl rfl rfl rfl pre0 rfl rfl rfl (k' := 23) rfl ?_
      refine hd_p 40 (hstep_or _ _ rfl rfl rfl) rfl rfl rfl (k' := 24) rfl ?_
      refine hd_q 41 (hop_move rfl) rfl rfl pre0 rfl rfl (k' := 25) rfl ?_
      refine hd_g 42 24 41 false _ (fun hb => hop_move rfl) rfl rfl rfl rfl pre0 rfl rfl rfl (k' := 26) rfl ?_
      refine hd_g 43 24 41 false _ (fun hb => hop_move rfl) rfl rfl rfl rfl pre0 rfl rfl rfl (k' := 27) rfl ?_
      refine hd_g 44 24 41 false _ (fun hb => hop_ia_sl el_55 rfl rfl (by (simp at hb; first | omega | (dsimp only; omega) | (simp <;> omega))) (by (simp at hb; first | omega | (dsimp only; omega) | (simp <;> omega))) (nb rfl)) rfl rfl rfl rfl pre0 rfl rfl rfl (k' := 28) rfl ?_
      refine hd_g 45 24 41 false _ (fun hb => hop_fa_fp fd_109_2 rfl (nb rfl)) rfl rfl rfl rfl pre0 rfl rfl rfl (k' := 29) rfl ?_
      refine hd_g 46 24 41 false _ (fun hb => HOp.val (v' := intV (a.getD k default).high) (hop_load_fp ty_3 rfl (nb rfl) (fun h => (by rfl))) (rfl)) rfl rfl rfl rfl pre0 rfl rfl rfl (k' := 30) rfl ?_
      refine hd_g 47 24 41 false _ (fun hb => hop_move rfl) rfl rfl rfl rfl pre0 rfl rfl rfl (k' := 31) rfl ?_
      refine hd_g 48 24 41 false _ (fun hb => hop_move rfl) rfl rfl rfl rfl pre0 rfl rfl rfl (k' := 32) rfl ?_
      refine hd_g 49 24 41 false _ (fun hb => hop_ia_sl el_55 rfl rfl (by (simp at hb; first | omega | (dsimp only; omega) | (simp <;> omega))) (by (simp at hb; first | omega | (dsimp only; omega) | (simp <;> omega))) (nb rfl)) rfl rfl rfl rfl pre0 rfl rfl rfl (k' := 33) rfl ?_
      refine hd_g 50 24 41 false _ (fun hb => hop_fa_fp fd_109_2 rfl (nb rfl)) rfl rfl rfl rfl pre0 rfl rfl rfl (k' := 34) rfl ?_
      refine hd_g 51 24 41 false _ (fun hb => HOp.val (v' := intV (b.getD k default).high) (hop_load_fp ty_3 rfl (nb rfl) (fun h => (by rfl))) (rfl)) rfl rfl rfl rfl pre0 rfl rfl rfl (k' := 35) rfl ?_
      refine hd_g 52 24 41 false _ (fun hb => hop_neq rfl rfl) rfl rfl rfl rfl pre0 rfl rfl rfl (k' := 36) rfl ?_
      refine hd_p 53 (hstep_or _ _ rfl rfl rfl) rfl rfl rfl (k' := 37) rfl ?_
      refine hd_q 54 (hop_move rfl) rfl rfl pre0 rfl rfl (k' := 38) rfl ?_
      refine hd_g 55 37 54 false _ (fun hb => hop_move rfl) rfl rfl rfl rfl pre0 rfl rfl rfl (k' := 39) rfl ?_
      refine hd_g 56 37 54 false _ (fun hb => hop_move rfl) rfl rfl rfl rfl pre0 rfl rfl rfl (k' := 40) rfl ?_
      refine hd_g 57 37 54 false _ (fun hb => hop_ia_sl el_55 rfl rfl (by (simp at hb; first | omega | (dsimp only; omega) | (simp <;> omega))) (by (simp at hb; first | omega | (dsimp only; omega) | (simp <;> omega))) (nb rfl)) rfl rfl rfl rfl pre0 rfl rfl rfl (k' := 41) rfl ?_
      refine hd_g 58 37 54 false _ (fun hb => hop_fa_fp fd_109_3 rfl (nb rfl)) rfl rfl rfl rfl pre0 rfl rfl rfl (k' := 42) rfl ?_
      refine hd_g 59 37 54 false _ (fun hb => HOp.val (v' := strV (a.getD k default).name) (hop_load_fp ty_9 rfl (nb rfl) (fun h => (by rfl))) (rfl)) rfl rfl rfl rfl pre0 rfl rfl rfl (k' := 43) rfl ?_
      refine hd_g 60 37 54 false _ (fun hb => hop_move rfl) rfl rfl rfl rfl pre0 rfl rfl rfl (k' := 44) rfl ?_
      refine hd_g 61 37 54 false _ (fun hb => hop_move rfl) rfl rfl rfl rfl pre0 rfl rfl rfl (k' := 45) rfl ?_
      refine hd_g 62 37 54 false _ (fun hb => hop_ia_sl el_55 rfl rfl (by (simp at hb; first | omega | (dsimp only; omega) | (simp <;> omega))) (by (simp at hb; first | omega | (dsimp only; omega) | (simp <;> omega))) (nb rfl)) rfl rfl rfl rfl pre0 rfl rfl rfl (k' := 46) rfl ?_
      refine hd_g 63 37 54 false _ (fun hb => hop_fa_fp fd_109_3 rfl (nb rfl)) rfl rfl rfl rfl pre0 rfl rfl rfl (k' := 47) rfl ?_
      refine hd_g 64 37 54 false _ (fun hb => HOp.val (v' := strV (b.getD k default).name) (hop_load_fp ty_9 rfl (nb rfl) (fun h => (by rfl))) (rfl)) rfl rfl rfl rfl pre0 rfl rfl rfl (k' := 48) rfl ?_
      refine hd_g 65 37 54 false _ (fun hb => hop_sne_l rfl rfl) rfl rfl rfl rfl pre0 rfl rfl rfl (k' := 49) rfl ?_
      refine hd_p 66 (hstep_or _ _ rfl rfl rfl) rfl rfl rfl (k' := 50) rfl ?_
      refine hd_q 67 (hop_move rfl) rfl rfl pre0 rfl rfl (k' := 51) rfl ?_
      refine hd_g 68 50 67 false _ (fun hb => hop_move rfl) rfl rfl rfl rfl pre0 rfl rfl rfl (k' := 52) rfl ?_
      refine hd_g 69 50 67 false _ (fun hb => hop_move rfl) rfl rfl rfl rfl pre0 rfl rfl rfl (k' := 53) rfl ?_
      refine hd_g 70 50 67 false _ (fun hb => hop_ia_sl el_55 rfl rfl (by (simp at hb; first | omega | (dsimp only; omega) | (simp <;> omega))) (by (simp at hb; first | omega | (dsimp only; omega) | (simp <;> omega))) (nb rfl)) rfl rfl rfl rfl pre0 rfl rfl rfl (k' := 54) rfl ?_
      refine hd_g 71 50 67 false _ (fun hb => hop_fa_fp fd_109_4 rfl (nb rfl)) rfl rfl rfl rfl pre0 rfl rfl rfl (k' := 55) rfl ?_
      refine hd_g 72 50 67 false _ (fun hb => HOp.val (v' := kidsV (a.getD k default).kids) (hop_load_fp ty_98 rfl (nb rfl) (fun h => (by rfl))) (rfl)) rfl rfl rfl rfl pre0 rfl rfl rfl (k' := 56) rfl ?_
      refine hd_g 73 50 67 false _ (fun hb => hop_move rfl) rfl rfl rfl rfl pre0 rfl rfl rfl (k' := 57) rfl ?_
      refine hd_g 74 50 67 false _ (fun hb => hop_move rfl) rfl rfl rfl rfl pre0 rfl rfl rfl (k' := 58) rfl ?_
      refine hd_g 75 50 67 false _ (fun hb => hop_ia_sl el_55 rfl rfl (by (simp at hb; first | omega | (dsimp only; omega) | (simp <;> omega))) (by (simp at hb; first | omega | (dsimp only; omega) | (simp <;> omega))) (nb rfl)) rfl rfl rfl rfl pre0 rfl rfl rfl (k' := 59) rfl ?_
      refine hd_g 76 50 67 false _ (fun hb => hop_fa_fp fd_109_4 rfl (nb rfl)) rfl rfl rfl rfl pre0 rfl rfl rfl (k' := 60) rfl ?_
      refine hd_g 77 50 67 false _ (fun hb => HOp.val (v' := kidsV (b.getD k default).kids) (hop_load_fp ty_98 rfl (nb rfl) (fun h => (by rfl))) (rfl)) rfl rfl rfl rfl pre0 rfl rfl rfl (k' := 61) rfl ?_
      refine hd_g 78 50 67 false _ (fun hb => hop_call0 (xs := [_, _]) (sameInts_h _ _ (by omega) (by omega)) ⟨rfl, ⟨rfl, trivial⟩⟩ ⟨(Fz.eq rfl), ⟨(Fz.eq rfl), trivial⟩⟩) rfl rfl rfl rfl pre0 rfl rfl rfl (k' := 62) rfl ?_
      refine hd_g 79 50 67 false _ (fun hb => hop_not rfl) rfl rfl rfl rfl pre0 rfl rfl rfl (k' := 63) rfl ?_
      refine hd_p 80 (hstep_or _ _ rfl rfl rfl) rfl rfl rfl (k' := 64) rfl ?_
      refine hd_nil (by kernel_rfl) (by kernel_rfl) (c' := c + 64) rfl ?_
      refine h11 _ ?_
      refine hw_cond _ rfl (fun hc2 => ?_) (fun hc2 => ?_)
      · have hr2 := hc2; (try simp only [hcs, Int.reduceToNat] at hc2)
        refine hw_seq (fun Nh12 h12 => ?_)
        refine hw_region ?_
        refine hq_ 4 (hop_assign rfl) rfl rfl pre0 rfl rfl ?_
        refine hseq_nil ?_
        refine h12 _ ?_
        refine hw_ret ?_
        refine hq_block_ret ?_
        refine hq_then_ret ?_
        refine hq_then_ret ?_
        refine hq_block_ret ?_
        refine hq_then_ret ?_
        refine hq_ret1 rfl (rval_tmp rfl) [] rfl pre0 ?_
        rw [decide_eq_false (fun h => by rw [h] at hr2; simp at hr2)]; exact .imm _
      · have hr2 := hc2; (try simp only [hcs, Int.reduceToNat] at hc2)
        have hn : (a.getD k default).kind = (b.getD k default).kind ∧ (a.getD k default).low = (b.getD k default).low ∧ (a.getD k default).high = (b.getD k default).high ∧ (a.getD k default).name = (b.getD k default).name ∧ (a.getD k default).kids = (b.getD k default).kids := (by have h := hr2; simp at h; exact ⟨h.1.1.1.1, h.1.1.1.2, h.1.1.2, h.1.2, h.2⟩)
        refine hw_skip ?_
        refine hq_block ?_
        refine h10 _ ?_
        refine hw_region ?_
        refine hq_ 15 (hop_move rfl) rfl rfl pre0 rfl rfl ?_
        refine hq_ 16 (hop_addi rfl rfl rfl (by omega) (by omega)) rfl rfl pre0 rfl rfl ?_
        refine hq_ 5 (hop_assign rfl) rfl rfl pre0 rfl rfl ?_
        refine hseq_nil ?_
        exact hL7 (k + 1) _ _ (by (try dsimp only); exact ⟨by omega, fun j hj => by by_cases e : j = k; (· subst e; exact pt_ext hn.1 hn.2.1 hn.2.2.1 hn.2.2.2.1 hn.2.2.2.2); exact hE j (by omega)⟩) (by (try dsimp only); omega) (hsub_of rfl (Nat.le_refl _) (TmSub.cons rfl (Sb.refl _) (TmSub.cons rfl (Sb.refl _) (TmSub.cons rfl (Sb.refl _) TmSub.nil))) HpSub.nil)
    · have hr1 := hc1; (try simp only [hcs, Int.reduceToNat] at hc1)
      refine hw_exit ?_
      refine hq_then_exit ?_
      refine hq_then_exit ?_
      refine hq_block_here ?_
      refine h5 _ ?_
      refine hw_seq (fun Nh13 h13 => ?_)
      refine hw_region ?_
      refine hq_ 4 (hop_assign rfl) rfl rfl pre0 rfl rfl ?_
      refine hseq_nil ?_
      refine h13 _ ?_
      refine hw_ret ?_
      refine hq_ret1 rfl (rval_tmp rfl) [] rfl pre0 ?_
      rw [decide_eq_true (ext_getD default (by omega) (fun j hj => hE j (by omega)))]; exact .imm _
theorem take_succ_pt (l : List Pt) {i : Nat} (h : i < l.length) : l.take (i + 1) = l.take i ++ [l.getD i default] := by
  rw [List.take_add_one, List.getD_eq_getElem?_getD, List.getElem?_eq_getElem h]; rfl
theorem sb_take {l : List Pt} {i : Nat} {g ty : Nat} {f : Nat → Nat → HV} (hil : i < l.length) (h : ∀ j, j < 5 → Sb (f 0 j) (ptF (l.getD i default) j)) : OSub ⟨g, i + 1, 5, ty, 0, cat i (ptsF (l.take i)) f⟩ ⟨g, i + 1, 5, ty, 0, ptsF (l.take (i + 1))⟩ := .of fun a j ha hj => by
  rw [take_succ_pt l hil]
  exact sb_cat (l := l.take i) (k := [l.getD i default]) (enc := ptF) (d := default) (by rw [List.length_take]; omega) (fun i j _ _ => .refl _) (sb_one (x := l.getD i default) (enc := ptF) (d := default) h) a j (by rw [List.length_append, List.length_take]; show a < min i l.length + 1; omega) hj
theorem ours_h (e : List Pt) (he : e.length ≤ 100000) : HPure Tryd.prog 31 [ptsV e] (ptsV e) := by
  refine hpure_of Tryd.func31 rfl (by kernel_rfl) _ _ _ rfl 19 rfl rfl (fun w F => ?_)
  refine hw_seq (fun Nh1 h1 => ?_)
  refine hw_region ?_
  refine hq_ 2 (hop_assign rfl) rfl rfl pre0 rfl rfl ?_
  refine hseq_nil ?_
  refine h1 _ ?_
  refine hw_seq (fun Nh2 h2 => ?_)
  refine hw_region ?_
  refine hq_ 3 (hop_assign rfl) rfl rfl pre0 rfl rfl ?_
  refine hseq_nil ?_
  refine h2 _ ?_
  refine hw_seq (fun Nh3 h3 => ?_)
  refine hw_seq (fun Nh4 h4 => ?_)
  refine hw_region ?_
  refine hq_ 4 (hop_assign rfl) rfl rfl pre0 rfl rfl ?_
  refine hseq_nil ?_
  refine h4 _ ?_
  refine hw_block ?_
  refine hw_own 3 3 5 109 ((ptsF [])) rfl (by decide) rfl (c' := 1) rfl ?_
  refine hw_loopc (α := Nat × Nat) (fun x c => ⟨19, [(0, .v (ptsV e)), (3, .v (.os 3 x.2 0 x.1)), (4, .v (intV x.1))], [(3, ⟨x.2, x.1, 5, 109, 0, ptsF (e.take x.1)⟩)], c⟩) (fun x => x.1 ≤ e.length) (fun x => e.length - x.1) ((0, 0)) (by exact Nat.zero_le _) (hsub_of rfl (Nat.le_refl _) (TmSub.cons rfl (Sb.refl _) (TmSub.cons rfl (Sb.refl _) (TmSub.cons rfl (Sb.refl _) TmSub.nil))) (HpSub.cons rfl (OSub.refl _) HpSub.nil)) (fun x c hx NhL5 hL5 => ?_)
  revert hx hL5; obtain ⟨i, g⟩ := x; intro hx hL5; dsimp only at hx hL5 ⊢
  refine hw_seq (fun Nh6 h6 => ?_)
  refine hw_seq (fun Nh7 h7 => ?_)
  refine hw_region ?_
  refine hq_ 5 (hop_move rfl) rfl rfl pre0 rfl rfl ?_
  refine hq_ 6 (hop_move rfl) rfl rfl pre0 rfl rfl ?_
  refine hq_ 7 (hop_len_sl (T := 52) rfl (elOf_spec el_52).1 rfl) rfl rfl pre0 rfl rfl ?_
  refine hq_ 8 (hop_lss rfl rfl) rfl rfl pre0 rfl rfl ?_
  refine hseq_nil ?_
  refine h7 _ ?_
  refine hw_cond _ rfl (fun hc0 => ?_) (fun hc0 => ?_)
  · have hr0 := hc0; (try simp only [hcs, Int.reduceToNat] at hc0)
    refine hw_skip ?_
    refine h6 _ ?_
    refine hw_seq (fun Nh8 h8 => ?_)
    refine hw_block ?_
    refine hw_region ?_
    refine hq_ 11 (hop_move rfl) rfl rfl pre0 rfl rfl ?_
    refine hq_ 12 (hop_move rfl) rfl rfl pre0 rfl rfl ?_
    refine hq_ 13 (hop_move rfl) rfl rfl pre0 rfl rfl ?_
    refine hq_ 14 (hop_ia_sl el_52 rfl rfl (by omega) (by omega) (nb rfl)) rfl rfl pre0 rfl rfl ?_
    refine hq_ 15 (hop_load_fp ty_100 rfl (nb rfl) (fun h => (by cases h))) rfl rfl pre0 rfl rfl ?_
    refine hm_1 16 (hop_buildSlice (id := 16) (hs := [_]) ei_55 (nb rfl) rfl (nb rfl) ⟨rfl, rfl, rfl, rfl, trivial⟩) rfl rfl pre0 rfl rfl (c' := c + 1) rfl ?_
    refine hm_1 17 (hol_append ei_55 (nb rfl) rfl (by omega) (nb rfl) (srl_os0 rfl (nb rfl)) (by omega) rfl) rfl rfl (preC rfl (pre1 rfl)) rfl rfl (c' := c + 2) rfl ?_
    refine hq_ 3 (hop_assign rfl) rfl rfl pre0 rfl rfl ?_
    refine hseq_nil ?_
    refine hq_block ?_
    refine h8 _ ?_
    refine hw_region ?_
    refine hq_ 9 (hop_move rfl) rfl rfl pre0 rfl rfl ?_
    refine hq_ 10 (hop_addi rfl rfl rfl (by omega) (by omega)) rfl rfl pre0 rfl rfl ?_
    refine hq_ 4 (hop_assign rfl) rfl rfl pre0 rfl rfl ?_
    refine hseq_nil ?_
    exact hL5 ((i + 1, c + 1)) _ _ (by (try dsimp only); omega) (by (try dsimp only); omega) (hsub_of rfl (Nat.le_refl _) (TmSub.cons rfl (Sb.refl _) (TmSub.cons rfl (Sb.refl _) (TmSub.cons rfl (Sb.refl _) TmSub.nil))) (HpSub.cons rfl (sb_take (by omega) (sb_pt (.refl _) (.refl _) (.refl _) (.refl _) (.refl _))) HpSub.nil))
  · have hr0 := hc0; (try simp only [hcs, Int.reduceToNat] at hc0)
    refine hw_exit ?_
    refine hq_then_exit ?_
    refine hq_then_exit ?_
    refine hq_block_here ?_
    refine h3 _ ?_
    refine hw_seq (fun Nh9 h9 => ?_)
    obtain rfl : i = e.length := (by omega)
    refine hw_region ?_
    refine hq_ 18 (hop_move rfl) rfl rfl pre0 rfl rfl ?_
    refine hq_ 2 (hop_assign rfl) rfl rfl pre0 rfl rfl ?_
    refine hseq_nil ?_
    refine h9 _ ?_
    refine hw_ret ?_
    refine hq_ret1 rfl (rval_tmp rfl) [(3, _)] rfl (preC rfl pre0) ?_
    exact fz_row (l := e) (enc := ptF) (d := default) (List.mem_cons_self ..) rfl rfl (Nat.le_refl _) (fun i j hi hj => by show Fz _ (ptF ((e.take e.length).getD i default) j) _; rw [List.take_length]; exact pt_fz _ j)
theorem theirs_h (e : List Pt) (he : e.length ≤ 100000) : HPure Tryd.prog 36 [ptsV e] (ptsV e) := by
  refine hpure_of Tryd.func36 rfl (by kernel_rfl) _ _ _ rfl 19 rfl rfl (fun w F => ?_)
  refine hw_seq (fun Nh1 h1 => ?_)
  refine hw_region ?_
  refine hq_ 2 (hop_assign rfl) rfl rfl pre0 rfl rfl ?_
  refine hseq_nil ?_
  refine h1 _ ?_
  refine hw_seq (fun Nh2 h2 => ?_)
  refine hw_region ?_
  refine hq_ 3 (hop_assign rfl) rfl rfl pre0 rfl rfl ?_
  refine hseq_nil ?_
  refine h2 _ ?_
  refine hw_seq (fun Nh3 h3 => ?_)
  refine hw_seq (fun Nh4 h4 => ?_)
  refine hw_region ?_
  refine hq_ 4 (hop_assign rfl) rfl rfl pre0 rfl rfl ?_
  refine hseq_nil ?_
  refine h4 _ ?_
  refine hw_block ?_
  refine hw_own 3 3 5 100 ((ptsF [])) rfl (by decide) rfl (c' := 1) rfl ?_
  refine hw_loopc (α := Nat × Nat) (fun x c => ⟨19, [(0, .v (ptsV e)), (3, .v (.os 3 x.2 0 x.1)), (4, .v (intV x.1))], [(3, ⟨x.2, x.1, 5, 100, 0, ptsF (e.take x.1)⟩)], c⟩) (fun x => x.1 ≤ e.length) (fun x => e.length - x.1) ((0, 0)) (by exact Nat.zero_le _) (hsub_of rfl (Nat.le_refl _) (TmSub.cons rfl (Sb.refl _) (TmSub.cons rfl (Sb.refl _) (TmSub.cons rfl (Sb.refl _) TmSub.nil))) (HpSub.cons rfl (OSub.refl _) HpSub.nil)) (fun x c hx NhL5 hL5 => ?_)
  revert hx hL5; obtain ⟨i, g⟩ := x; intro hx hL5; dsimp only at hx hL5 ⊢
  refine hw_seq (fun Nh6 h6 => ?_)
  refine hw_seq (fun Nh7 h7 => ?_)
  refine hw_region ?_
  refine hq_ 5 (hop_move rfl) rfl rfl pre0 rfl rfl ?_
  refine hq_ 6 (hop_move rfl) rfl rfl pre0 rfl rfl ?_
  refine hq_ 7 (hop_len_sl (T := 55) rfl (elOf_spec el_55).1 rfl) rfl rfl pre0 rfl rfl ?_
  refine hq_ 8 (hop_lss rfl rfl) rfl rfl pre0 rfl rfl ?_
  refine hseq_nil ?_
  refine h7 _ ?_
  refine hw_cond _ rfl (fun hc0 => ?_) (fun hc0 => ?_)
  · have hr0 := hc0; (try simp only [hcs, Int.reduceToNat] at hc0)
    refine hw_skip ?_
    refine h6 _ ?_
    refine hw_seq (fun Nh8 h8 => ?_)
    refine hw_block ?_
    refine hw_region ?_
    refine hq_ 11 (hop_move rfl) rfl rfl pre0 rfl rfl ?_
    refine hq_ 12 (hop_move rfl) rfl rfl pre0 rfl rfl ?_
    refine hq_ 13 (hop_move rfl) rfl rfl pre0 rfl rfl ?_
    refine hq_ 14 (hop_ia_sl el_55 rfl rfl (by omega) (by omega) (nb rfl)) rfl rfl pre0 rfl rfl ?_
    refine hq_ 15 (hop_load_fp ty_109 rfl (nb rfl) (fun h => (by cases h))) rfl rfl pre0 rfl rfl ?_
    refine hm_1 16 (hop_buildSlice (id := 16) (hs := [_]) ei_52 (nb rfl) rfl (nb rfl) ⟨rfl, rfl, rfl, rfl, trivial⟩) rfl rfl pre0 rfl rfl (c' := c + 1) rfl ?_
    refine hm_1 17 (hol_append ei_52 (nb rfl) rfl (by omega) (nb rfl) (srl_os0 rfl (nb rfl)) (by omega) rfl) rfl rfl (preC rfl (pre1 rfl)) rfl rfl (c' := c + 2) rfl ?_
    refine hq_ 3 (hop_assign rfl) rfl rfl pre0 rfl rfl ?_
    refine hseq_nil ?_
    refine hq_block ?_
    refine h8 _ ?_
    refine hw_region ?_
    refine hq_ 9 (hop_move rfl) rfl rfl pre0 rfl rfl ?_
    refine hq_ 10 (hop_addi rfl rfl rfl (by omega) (by omega)) rfl rfl pre0 rfl rfl ?_
    refine hq_ 4 (hop_assign rfl) rfl rfl pre0 rfl rfl ?_
    refine hseq_nil ?_
    exact hL5 ((i + 1, c + 1)) _ _ (by (try dsimp only); omega) (by (try dsimp only); omega) (hsub_of rfl (Nat.le_refl _) (TmSub.cons rfl (Sb.refl _) (TmSub.cons rfl (Sb.refl _) (TmSub.cons rfl (Sb.refl _) TmSub.nil))) (HpSub.cons rfl (sb_take (by omega) (sb_pt (.refl _) (.refl _) (.refl _) (.refl _) (.refl _))) HpSub.nil))
  · have hr0 := hc0; (try simp only [hcs, Int.reduceToNat] at hc0)
    refine hw_exit ?_
    refine hq_then_exit ?_
    refine hq_then_exit ?_
    refine hq_block_here ?_
    refine h3 _ ?_
    refine hw_seq (fun Nh9 h9 => ?_)
    obtain rfl : i = e.length := (by omega)
    refine hw_region ?_
    refine hq_ 18 (hop_move rfl) rfl rfl pre0 rfl rfl ?_
    refine hq_ 2 (hop_assign rfl) rfl rfl pre0 rfl rfl ?_
    refine hseq_nil ?_
    refine h9 _ ?_
    refine hw_ret ?_
    refine hq_ret1 rfl (rval_tmp rfl) [(3, _)] rfl (preC rfl pre0) ?_
    exact fz_row (l := e) (enc := ptF) (d := default) (List.mem_cons_self ..) rfl rfl (Nat.le_refl _) (fun i j hi hj => by show Fz _ (ptF ((e.take e.length).getD i default) j) _; rw [List.take_length]; exact pt_fz _ j)
end Go.Proofs.YtijpdbjcmnpobaaDoor

namespace Go.Proofs.YtijpdbjcmnpobaaDoor
set_option linter.unusedSimpArgs false
set_option linter.unusedVariables false
set_option maxRecDepth 100000
set_option maxHeartbeats 1000000
open Go.RowKit

theorem getD_cut (a : List Int) {lo n k : Nat} (hk : k < n) (h : lo + n ≤ a.length) : ((a.drop lo).take n).getD k 0 = a.getD (lo + k) 0 := by
  rw [List.getD_eq_getElem?_getD, List.getD_eq_getElem?_getD, List.getElem?_take, if_pos hk, List.getElem?_drop]
theorem equal_h (g lo n : Nat) (a b : List Int) (ha : a.length ≤ 1000000) (hb : b.length ≤ 1000000) (hn : lo + n ≤ a.length) : HFunD Tryd.prog 68 [.os 8001 g lo n, kidsV b] [(8001, ⟨g, a.length, 1, 3, 0, kidsF a⟩)] (boolV (decide ((a.drop lo).take n = b))) [(8001, ⟨g, a.length, 1, 3, 0, kidsF a⟩)] := by
  have hcl : ((a.drop lo).take n).length = n := by rw [List.length_take, List.length_drop]; omega
  intro c
  refine hfun_of Tryd.func68 rfl (by kernel_rfl) _ _ _ _ rfl 26 rfl rfl (fun X ok hX => ?_)
  refine hw_seq (fun Nh1 h1 => ?_)
  refine hw_region ?_
  refine hq_ 4 (hop_assign rfl) rfl rfl pre0 rfl rfl ?_
  refine hseq_nil ?_
  refine h1 _ ?_
  refine hw_seq (fun Nh2 h2 => ?_)
  refine hw_seq (fun Nh3 h3 => ?_)
  refine hw_region ?_
  refine hq_ 6 (hop_move rfl) rfl rfl pre0 rfl rfl ?_
  refine hq_ 7 (hop_len_os (T := 98) rfl (elOf_spec el_98).1 rfl) rfl rfl pre0 rfl rfl ?_
  refine hq_ 8 (hop_move rfl) rfl rfl pre0 rfl rfl ?_
  refine hq_ 9 (hop_len_sl (T := 98) rfl (elOf_spec el_98).1 rfl) rfl rfl pre0 rfl rfl ?_
  refine hq_ 10 (hop_neq rfl rfl) rfl rfl pre0 rfl rfl ?_
  refine hseq_nil ?_
  refine h3 _ ?_
  refine hw_cond _ rfl (fun hc0 => ?_) (fun hc0 => ?_)
  · have hr0 := hc0; (try simp only [hcs, Int.reduceToNat] at hc0)
    refine hw_seq (fun Nh4 h4 => ?_)
    refine hw_region ?_
    refine hq_ 4 (hop_assign rfl) rfl rfl pre0 rfl rfl ?_
    refine hseq_nil ?_
    refine h4 _ ?_
    refine hw_ret ?_
    refine hq_then_ret ?_
    refine hf_retR1 ok hX RetS.one rfl (rval_tmp rfl) [] rfl pre0 (()) (trivial) (by rfl) (by rfl) (by rw [decide_eq_false (fun h => hc0 (by rw [← h, hcl]))]; exact (by first | exact .fz _ _ (.imm _) | exact .os _ _ _ _ _ rfl rfl | exact .pt _ _ _ _ _ rfl rfl | exact .nps _ _ _ rfl rfl | (dsimp only; exact .fz _ _ Frz.fz) | exact .fz _ _ (.tup 0 _ _ (fun i hi => absurd hi (Nat.not_lt_zero _))))) ?_
    exact ⟨⟨_, rfl, .of (fun i j _ _ => .fz _ _ (.imm _))⟩, trivial⟩
  · have hr0 := hc0; (try simp only [hcs, Int.reduceToNat] at hc0)
    refine hw_skip ?_
    refine h2 _ ?_
    refine hw_seq (fun Nh5 h5 => ?_)
    refine hw_seq (fun Nh6 h6 => ?_)
    refine hw_region ?_
    refine hq_ 11 (hop_move rfl) rfl rfl pre0 rfl rfl ?_
    refine hq_ 12 (hop_len_os (T := 98) rfl (elOf_spec el_98).1 rfl) rfl rfl pre0 rfl rfl ?_
    refine hq_ 13 (hop_move rfl) rfl rfl pre0 rfl rfl ?_
    refine hseq_nil ?_
    refine h6 _ ?_
    refine hw_block ?_
    refine hw_loopc (α := Nat) (fun x c => ⟨26, [(0, .v (.os 8001 g lo n)), (1, .v (kidsV b)), (12, .v (intV n)), (13, .v (intV x))], [(8001, ⟨g, a.length, 1, 3, 0, kidsF a⟩)], c⟩) (fun x => x ≤ n ∧ ∀ j, j < x → a.getD (lo + j) 0 = b.getD j 0) (fun x => n - x) (0) (by exact ⟨Nat.zero_le _, fun j hj => absurd hj (Nat.not_lt_zero _)⟩) (hsub_of rfl (Nat.le_refl _) (TmSub.cons rfl (Sb.refl _) (TmSub.cons rfl (Sb.refl _) (TmSub.cons rfl (Sb.refl _) (TmSub.cons rfl (Sb.refl _) TmSub.nil)))) (HpSub.cons rfl (OSub.refl _) HpSub.nil)) (fun k c hx NhL7 hL7 => ?_)
    (try dsimp only at hx hL7 ⊢)
    obtain ⟨hk, hE⟩ := hx
    refine hw_seq (fun Nh8 h8 => ?_)
    refine hw_region ?_
    refine hq_ 14 (hop_lss rfl rfl) rfl rfl pre0 rfl rfl ?_
    refine hseq_nil ?_
    refine h8 _ ?_
    refine hw_seq (fun Nh9 h9 => ?_)
    refine hw_cond _ rfl (fun hc1 => ?_) (fun hc1 => ?_)
    · have hr1 := hc1; (try simp only [hcs, Int.reduceToNat] at hc1)
      refine hw_skip ?_
      refine h9 _ ?_
      refine hw_seq (fun Nh10 h10 => ?_)
      refine hw_block ?_
      refine hw_seq (fun Nh11 h11 => ?_)
      refine hw_region ?_
      refine hq_ 15 (hop_move rfl) rfl rfl pre0 rfl rfl ?_
      refine hq_ 5 (hop_assign rfl) rfl rfl pre0 rfl rfl ?_
      refine hseq_nil ?_
      refine h11 _ ?_
      refine hw_seq (fun Nh12 h12 => ?_)
      refine hd_start ?_
      refine hd_q 16 (hop_move rfl) rfl rfl pre0 rfl rfl (k' := 1) rfl ?_
      refine hd_q 17 (hop_move rfl) rfl rfl pre0 rfl rfl (k' := 2) rfl ?_
      refine hd_q 18 (hol_ia_os el_98 rfl rfl (by omega) (by omega)) rfl rfl (pre1 rfl) rfl rfl (k' := 3) rfl ?_
      refine hd_q 19 (HOp.val (v' := intV (a.getD (lo + k) 0)) (hol_load ty_3 rfl (by omega) (nb rfl) (fun h => (by rfl))) (rfl)) rfl rfl (pre1 rfl) rfl rfl (k' := 4) rfl ?_
      refine hd_q 20 (hop_move rfl) rfl rfl pre0 rfl rfl (k' := 5) rfl ?_
      refine hd_q 21 (hop_move rfl) rfl rfl pre0 rfl rfl (k' := 6) rfl ?_
      refine hd_q 22 (hop_ia_sl el_98 rfl rfl (by omega) (by omega) (nb rfl)) rfl rfl pre0 rfl rfl (k' := 7) rfl ?_
      refine hd_q 23 (HOp.val (v' := intV (b.getD k 0)) (hop_load_fp ty_3 rfl (nb rfl) (fun h => (by rfl))) (rfl)) rfl rfl pre0 rfl rfl (k' := 8) rfl ?_
      refine hd_q 24 (hop_neq rfl rfl) rfl rfl pre0 rfl rfl (k' := 9) rfl ?_
      refine hd_nil (by kernel_rfl) (by kernel_rfl) (c' := c + 9) rfl ?_
      refine h12 _ ?_
      refine hw_cond _ rfl (fun hc2 => ?_) (fun hc2 => ?_)
      · have hr2 := hc2; (try simp only [hcs, Int.reduceToNat] at hc2)
        refine hw_seq (fun Nh13 h13 => ?_)
        refine hw_region ?_
        refine hq_ 4 (hop_assign rfl) rfl rfl pre0 rfl rfl ?_
        refine hseq_nil ?_
        refine h13 _ ?_
        refine hw_ret ?_
        refine hq_block_ret ?_
        refine hq_then_ret ?_
        refine hq_then_ret ?_
        refine hq_block_ret ?_
        refine hq_then_ret ?_
        refine hf_retR1 ok hX RetS.one rfl (rval_tmp rfl) [] rfl pre0 (()) (trivial) (by rfl) (by rfl) (by rw [decide_eq_false (fun h => hc2 (by rw [← h, getD_cut a (by omega) hn]))]; exact (by first | exact .fz _ _ (.imm _) | exact .os _ _ _ _ _ rfl rfl | exact .pt _ _ _ _ _ rfl rfl | exact .nps _ _ _ rfl rfl | (dsimp only; exact .fz _ _ Frz.fz) | exact .fz _ _ (.tup 0 _ _ (fun i hi => absurd hi (Nat.not_lt_zero _))))) ?_
        exact ⟨⟨_, rfl, .of (fun i j _ _ => .fz _ _ (.imm _))⟩, trivial⟩
      · have hr2 := hc2; (try simp only [hcs, Int.reduceToNat] at hc2)
        refine hw_skip ?_
        refine hq_block ?_
        refine h10 _ ?_
        refine hw_region ?_
        refine hq_ 25 (hop_addi rfl rfl rfl (by omega) (by omega)) rfl rfl pre0 rfl rfl ?_
        refine hq_ 13 (hop_move rfl) rfl rfl pre0 rfl rfl ?_
        refine hseq_nil ?_
        exact hL7 (k + 1) _ _ (by (try dsimp only); exact ⟨by omega, fun j hj => by by_cases e : j = k; (· subst e; exact hc2); exact hE j (by omega)⟩) (by (try dsimp only); omega) (hsub_of rfl (Nat.le_refl _) (TmSub.cons rfl (Sb.refl _) (TmSub.cons rfl (Sb.refl _) (TmSub.cons rfl (Sb.refl _) (TmSub.cons rfl (Sb.refl _) TmSub.nil)))) (HpSub.cons rfl (OSub.refl _) HpSub.nil))
    · have hr1 := hc1; (try simp only [hcs, Int.reduceToNat] at hc1)
      refine hw_exit ?_
      refine hq_then_exit ?_
      refine hq_then_exit ?_
      refine hq_block_here ?_
      refine h5 _ ?_
      refine hw_seq (fun Nh14 h14 => ?_)
      refine hw_region ?_
      refine hq_ 4 (hop_assign rfl) rfl rfl pre0 rfl rfl ?_
      refine hseq_nil ?_
      refine h14 _ ?_
      refine hw_ret ?_
      refine hf_retR1 ok hX RetS.one rfl (rval_tmp rfl) [] rfl pre0 (()) (trivial) (by rfl) (by rfl) (by rw [decide_eq_true (ext_getD 0 (by omega) (fun j hj => by rw [getD_cut a (by omega) hn]; exact hE j (by omega)))]; exact (by first | exact .fz _ _ (.imm _) | exact .os _ _ _ _ _ rfl rfl | exact .pt _ _ _ _ _ rfl rfl | exact .nps _ _ _ rfl rfl | (dsimp only; exact .fz _ _ Frz.fz) | exact .fz _ _ (.tup 0 _ _ (fun i hi => absurd hi (Nat.not_lt_zero _))))) ?_
      exact ⟨⟨_, rfl, .of (fun i j _ _ => .fz _ _ (.imm _))⟩, trivial⟩
theorem beq_d (a b : Int) : (a == b) = decide (a = b) := rfl
theorem int_0 (n : Nat) : decide ((n : Int) = 0) = decide (n = 0) := decide_eq_decide.2 (by omega)
theorem int_1 (n : Nat) : decide ((n : Int) = 1) = decide (n = 1) := decide_eq_decide.2 (by omega)
theorem int_lt1 (n : Nat) : decide (1 < (n : Int)) = decide (1 < n) := decide_eq_decide.2 (by omega)
theorem name6_h (s : List UInt8) (hs : s.length ≤ 1000000) : HPure Tryd.prog 88 [strV s] (boolV (nameV s)) := by
  have hlen := lexO_len s
  have hlx := lex_h s hs
  have hN : nameV s = (match lexO (lexV s) with | (l, _, e) => decide (e = 0) && decide (l.length = 1) && decide ((l.getD 0 default).kind = 1) && decide ((l.getD 0 default).name = s)) := by
    unfold nameV
    cases hv : lexV s with
    | error e =>
      have h := lexV_err hv
      have h2 : ¬ (e.2 = 0) := h
      show false = (decide (e.2 = 0) && _ && _ && _)
      rw [decide_eq_false h2]; rfl
    | ok l =>
      match l with
      | [] => rfl
      | [x] => rfl
      | x :: y :: l => simp [lexO]
  generalize hr : lexO (lexV s) = r at hlen hlx hN
  rw [hN]
  obtain ⟨l, a, e⟩ := r
  refine hpure_of Tryd.func88 rfl (by kernel_rfl) _ _ _ rfl 34 rfl rfl (fun w F => ?_)
  refine hw_seq (fun Nh1 h1 => ?_)
  refine hw_region ?_
  refine hq_ 2 (hop_assign rfl) rfl rfl pre0 rfl rfl ?_
  refine hseq_nil ?_
  refine h1 _ ?_
  refine hw_seq (fun Nh2 h2 => ?_)
  refine hw_region ?_
  refine hq_ 7 (hop_move rfl) rfl rfl pre0 rfl rfl ?_
  refine hq_ 8 (hop_call0 (xs := [_]) (hlx) ⟨rfl, trivial⟩ ⟨(Fz.eq rfl), trivial⟩) rfl rfl pre0 rfl rfl ?_
  refine hq_ 6 (hop_move rfl) rfl rfl pre0 rfl rfl ?_
  refine hq_ 9 (hop_extract rfl rfl) rfl rfl pre0 rfl rfl ?_
  refine hq_ 10 (hop_extract rfl rfl) rfl rfl pre0 rfl rfl ?_
  refine hq_ 11 (hop_extract rfl rfl) rfl rfl pre0 rfl rfl ?_
  refine hq_ 3 (hop_assign rfl) rfl rfl pre0 rfl rfl ?_
  refine hq_ 4 (hop_assign rfl) rfl rfl pre0 rfl rfl ?_
  refine hq_ 5 (hop_assign rfl) rfl rfl pre0 rfl rfl ?_
  refine hseq_nil ?_
  refine h2 _ ?_
  refine hw_seq (fun Nh3 h3 => ?_)
  refine hw_region ?_
  refine hq_ 12 (hop_move rfl) rfl rfl pre0 rfl rfl ?_
  refine hq_ 13 (hop_eql rfl rfl) rfl rfl pre0 rfl rfl ?_
  refine hq_ 14 (hop_move rfl) rfl rfl pre0 rfl rfl ?_
  refine hq_g 15 2 14 true _ (fun hb => hop_move rfl) rfl rfl rfl rfl pre0 rfl rfl rfl ?_
  refine hq_g 16 2 14 true _ (fun hb => hop_len_sl (T := 33) rfl (elOf_spec el_33).1 rfl) rfl rfl rfl rfl pre0 rfl rfl rfl ?_
  refine hq_g 17 2 14 true _ (fun hb => hop_eql rfl rfl) rfl rfl rfl rfl pre0 rfl rfl rfl ?_
  refine hq_p 18 (hstep_and _ _ rfl rfl rfl) rfl rfl rfl ?_
  refine hq_ 19 (hop_move rfl) rfl rfl pre0 rfl rfl ?_
  refine hq_g 20 7 19 true _ (fun hb => hop_move rfl) rfl rfl rfl rfl pre0 rfl rfl rfl ?_
  refine hq_g 21 7 19 true _ (fun hb => hop_ia_sl el_33 rfl rfl (by (simp at hb; first | omega | (dsimp only; omega) | (simp <;> omega))) (by (simp at hb; first | omega | (dsimp only; omega) | (simp <;> omega))) (nb rfl)) rfl rfl rfl rfl pre0 rfl rfl rfl ?_
  refine hq_g 22 7 19 true _ (fun hb => hop_fa_fp fd_41_0 rfl (nb rfl)) rfl rfl rfl rfl pre0 rfl rfl rfl ?_
  refine hq_g 23 7 19 true _ (fun hb => HOp.val (v' := intV (l.getD 0 default).kind) (hop_load_fp ty_3 rfl (nb rfl) (fun h => (by rfl))) (rfl)) rfl rfl rfl rfl pre0 rfl rfl rfl ?_
  refine hq_g 24 7 19 true _ (fun hb => hop_eql rfl rfl) rfl rfl rfl rfl pre0 rfl rfl rfl ?_
  refine hq_p 25 (hstep_and _ _ rfl rfl rfl) rfl rfl rfl ?_
  refine hq_ 26 (hop_move rfl) rfl rfl pre0 rfl rfl ?_
  refine hq_g 27 14 26 true _ (fun hb => hop_move rfl) rfl rfl rfl rfl pre0 rfl rfl rfl ?_
  refine hq_g 28 14 26 true _ (fun hb => hop_ia_sl el_33 rfl rfl (by (simp at hb; first | omega | (dsimp only; omega) | (simp <;> omega))) (by (simp at hb; first | omega | (dsimp only; omega) | (simp <;> omega))) (nb rfl)) rfl rfl rfl rfl pre0 rfl rfl rfl ?_
  refine hq_g 29 14 26 true _ (fun hb => hop_fa_fp fd_41_4 rfl (nb rfl)) rfl rfl rfl rfl pre0 rfl rfl rfl ?_
  refine hq_g 30 14 26 true _ (fun hb => HOp.val (v' := strV (l.getD 0 default).name) (hop_load_fp ty_9 rfl (nb rfl) (fun h => (by rfl))) (rfl)) rfl rfl rfl rfl pre0 rfl rfl rfl ?_
  refine hq_g 31 14 26 true _ (fun hb => hop_move rfl) rfl rfl rfl rfl pre0 rfl rfl rfl ?_
  refine hq_g 32 14 26 true _ (fun hb => hop_seq_l rfl rfl) rfl rfl rfl rfl pre0 rfl rfl rfl ?_
  refine hq_p 33 (hstep_and _ _ rfl rfl rfl) rfl rfl rfl ?_
  refine hq_ 2 (hop_assign rfl) rfl rfl pre0 rfl rfl ?_
  refine hseq_nilU (by rfl) (by simp only [dropUn, slots]; exact rfl) ?_
  refine h3 _ ?_
  refine hw_ret ?_
  refine hq_ret1 rfl (rval_tmp rfl) [] rfl pre0 ?_
  exact fz_bool (by simp only [beq_d, int_1])
theorem alone_h (x : Pt) (hk : x.kids.length ≤ 1000000) (hn : x.name.length ≤ 1000000) : HPure Tryd.prog 67 [ptH x] (boolV (aloneV x)) := by
  unfold aloneV
  refine hpure_of Tryd.func67 rfl (by kernel_rfl) _ _ _ rfl 89 rfl rfl (fun w F => ?_)
  refine hw_seq (fun Nh1 h1 => ?_)
  refine hw_region ?_
  refine hm_1 1 (hop_box (id := 1) (sz := 5) rfl rfl rfl (nb rfl) (nb rfl)) rfl rfl pre0 rfl rfl (c' := 1) rfl ?_
  refine hq_ 2 (hop_assign rfl) rfl rfl pre0 rfl rfl ?_
  refine hseq_nil ?_
  refine h1 _ ?_
  refine hw_seq (fun Nh2 h2 => ?_)
  refine hw_seq (fun Nh3 h3 => ?_)
  refine hw_region ?_
  refine hq_ 4 (hop_fa fd_100_0 rfl) rfl rfl pre0 rfl rfl ?_
  refine hq_ 5 (hol_load ty_3 rfl (nb rfl) (nb rfl) (fun h => (by rfl))) rfl rfl (pre1 rfl) rfl rfl ?_
  refine hseq_nil ?_
  refine h3 _ ?_
  refine hw_block ?_
  refine hw_seq (fun Nh4 h4 => ?_)
  refine hw_region ?_
  refine hq_ 7 (hop_eql rfl rfl) rfl rfl pre0 rfl rfl ?_
  refine hq_ 6 (hop_assign rfl) rfl rfl pre0 rfl rfl ?_
  refine hseq_nil ?_
  refine h4 _ ?_
  refine hw_cond _ rfl (fun hc0 => ?_) (fun hc0 => ?_)
  · have hr0 := hc0; (try simp only [hcs, Int.reduceToNat] at hc0)
    refine hw_seq (fun Nh5 h5 => ?_)
    refine hw_region ?_
    refine hq_ 8 (hop_fa fd_100_4 rfl) rfl rfl pre0 rfl rfl ?_
    refine hq_ 9 (hol_load ty_98 rfl (nb rfl) (nb rfl) (fun h => (by rfl))) rfl rfl (pre1 rfl) rfl rfl ?_
    refine hq_ 10 (hop_len_sl (T := 98) rfl (elOf_spec el_98).1 rfl) rfl rfl pre0 rfl rfl ?_
    refine hq_ 11 (hop_eql rfl rfl) rfl rfl pre0 rfl rfl ?_
    refine hq_ 12 (hop_move rfl) rfl rfl pre0 rfl rfl ?_
    refine hq_g 13 4 12 true _ (fun hb => hop_fa fd_100_1 rfl) rfl rfl rfl rfl pre0 rfl rfl rfl ?_
    refine hq_g 14 4 12 true _ (fun hb => hol_load ty_3 rfl (nb rfl) (nb rfl) (fun h => (by rfl))) rfl rfl rfl rfl (pre1 rfl) rfl rfl rfl ?_
    refine hq_g 15 4 12 true _ (fun hb => hop_eql rfl rfl) rfl rfl rfl rfl pre0 rfl rfl rfl ?_
    refine hq_p 16 (hstep_and _ _ rfl rfl rfl) rfl rfl rfl ?_
    refine hq_ 17 (hop_move rfl) rfl rfl pre0 rfl rfl ?_
    refine hq_g 18 9 17 true _ (fun hb => hop_fa fd_100_2 rfl) rfl rfl rfl rfl pre0 rfl rfl rfl ?_
    refine hq_g 19 9 17 true _ (fun hb => hol_load ty_3 rfl (nb rfl) (nb rfl) (fun h => (by rfl))) rfl rfl rfl rfl (pre1 rfl) rfl rfl rfl ?_
    refine hq_g 20 9 17 true _ (fun hb => hop_eql rfl rfl) rfl rfl rfl rfl pre0 rfl rfl rfl ?_
    refine hq_p 21 (hstep_and _ _ rfl rfl rfl) rfl rfl rfl ?_
    refine hq_ 22 (hop_move rfl) rfl rfl pre0 rfl rfl ?_
    refine hq_g 23 14 22 true _ (fun hb => hop_fa fd_100_3 rfl) rfl rfl rfl rfl pre0 rfl rfl rfl ?_
    refine hq_g 24 14 22 true _ (fun hb => hol_load ty_9 rfl (nb rfl) (nb rfl) (fun h => (by rfl))) rfl rfl rfl rfl (pre1 rfl) rfl rfl rfl ?_
    refine hq_g 25 14 22 true _ (fun hb => hop_call0 (xs := [_]) (name6_h x.name hn) ⟨rfl, trivial⟩ ⟨(Fz.eq rfl), trivial⟩) rfl rfl rfl rfl pre0 rfl rfl rfl ?_
    refine hq_p 26 (hstep_and _ _ rfl rfl rfl) rfl rfl rfl ?_
    refine hq_ 2 (hop_assign rfl) rfl rfl pre0 rfl rfl ?_
    refine hseq_nilU (by rfl) (by simp only [dropUn, slots]; exact rfl) ?_
    refine h5 _ ?_
    refine hw_ret ?_
    refine hq_block_ret ?_
    refine hq_then_ret ?_
    refine hq_ret1 rfl (rval_tmp rfl) [] rfl pre0 ?_
    rw [if_pos hc0]; exact fz_bool (by simp only [beq_d, int_0])
  · have hr0 := hc0; (try simp only [hcs, Int.reduceToNat] at hc0)
    refine hw_seq (fun Nh6 h6 => ?_)
    refine hw_seq (fun Nh7 h7 => ?_)
    refine hw_region ?_
    refine hq_ 28 (hop_eql rfl rfl) rfl rfl pre0 rfl rfl ?_
    refine hq_ 27 (hop_assign rfl) rfl rfl pre0 rfl rfl ?_
    refine hseq_nil ?_
    refine h7 _ ?_
    refine hw_cond _ rfl (fun hc1 => ?_) (fun hc1 => ?_)
    · have hr1 := hc1; (try simp only [hcs, Int.reduceToNat] at hc1)
      refine hw_skip ?_
      refine h6 _ ?_
      refine hw_cond _ rfl (fun hc2 => ?_) (fun hc2 => ?_)
      · have hr2 := hc2; (try simp only [hcs, Int.reduceToNat] at hc2)
        refine hw_seq (fun Nh8 h8 => ?_)
        refine hw_region ?_
        refine hq_ 30 (hop_fa fd_100_4 rfl) rfl rfl pre0 rfl rfl ?_
        refine hq_ 31 (hol_load ty_98 rfl (nb rfl) (nb rfl) (fun h => (by rfl))) rfl rfl (pre1 rfl) rfl rfl ?_
        refine hq_ 32 (hop_len_sl (T := 98) rfl (elOf_spec el_98).1 rfl) rfl rfl pre0 rfl rfl ?_
        refine hq_ 33 (hop_gtr rfl rfl) rfl rfl pre0 rfl rfl ?_
        refine hq_ 34 (hop_move rfl) rfl rfl pre0 rfl rfl ?_
        refine hq_g 35 4 34 true _ (fun hb => hop_fa fd_100_1 rfl) rfl rfl rfl rfl pre0 rfl rfl rfl ?_
        refine hq_g 36 4 34 true _ (fun hb => hol_load ty_3 rfl (nb rfl) (nb rfl) (fun h => (by rfl))) rfl rfl rfl rfl (pre1 rfl) rfl rfl rfl ?_
        refine hq_g 37 4 34 true _ (fun hb => hop_eql rfl rfl) rfl rfl rfl rfl pre0 rfl rfl rfl ?_
        refine hq_p 38 (hstep_and _ _ rfl rfl rfl) rfl rfl rfl ?_
        refine hq_ 39 (hop_move rfl) rfl rfl pre0 rfl rfl ?_
        refine hq_g 40 9 39 true _ (fun hb => hop_fa fd_100_2 rfl) rfl rfl rfl rfl pre0 rfl rfl rfl ?_
        refine hq_g 41 9 39 true _ (fun hb => hol_load ty_3 rfl (nb rfl) (nb rfl) (fun h => (by rfl))) rfl rfl rfl rfl (pre1 rfl) rfl rfl rfl ?_
        refine hq_g 42 9 39 true _ (fun hb => hop_eql rfl rfl) rfl rfl rfl rfl pre0 rfl rfl rfl ?_
        refine hq_p 43 (hstep_and _ _ rfl rfl rfl) rfl rfl rfl ?_
        refine hq_ 44 (hop_move rfl) rfl rfl pre0 rfl rfl ?_
        refine hq_g 45 14 44 true _ (fun hb => hop_fa fd_100_3 rfl) rfl rfl rfl rfl pre0 rfl rfl rfl ?_
        refine hq_g 46 14 44 true _ (fun hb => hol_load ty_9 rfl (nb rfl) (nb rfl) (fun h => (by rfl))) rfl rfl rfl rfl (pre1 rfl) rfl rfl rfl ?_
        refine hq_g 47 14 44 true _ (fun hb => hop_seq_l rfl rfl) rfl rfl rfl rfl pre0 rfl rfl rfl ?_
        refine hq_p 48 (hstep_and _ _ rfl rfl rfl) rfl rfl rfl ?_
        refine hq_ 2 (hop_assign rfl) rfl rfl pre0 rfl rfl ?_
        refine hseq_nilU (by rfl) (by simp only [dropUn, slots]; exact rfl) ?_
        refine h8 _ ?_
        refine hw_ret ?_
        refine hq_block_ret ?_
        refine hq_then_ret ?_
        refine hq_ret1 rfl (rval_tmp rfl) [] rfl pre0 ?_
        rw [if_neg hc0, if_pos (.inl hc1)]; exact fz_bool (by simp only [beq_d, int_lt1])
      · have hr2 := hc2; (try simp only [hcs, Int.reduceToNat] at hc2)
        exfalso; exact absurd hr2 (by rw [hc1]; decide)
    · have hr1 := hc1; (try simp only [hcs, Int.reduceToNat] at hc1)
      refine hw_region ?_
      refine hq_ 29 (hop_eql rfl rfl) rfl rfl pre0 rfl rfl ?_
      refine hq_ 27 (hop_assign rfl) rfl rfl pre0 rfl rfl ?_
      refine hseq_nil ?_
      refine h6 _ ?_
      refine hw_cond _ rfl (fun hc2 => ?_) (fun hc2 => ?_)
      · have hr2 := hc2; (try simp only [hcs, Int.reduceToNat] at hc2)
        refine hw_seq (fun Nh9 h9 => ?_)
        refine hw_region ?_
        refine hq_ 30 (hop_fa fd_100_4 rfl) rfl rfl pre0 rfl rfl ?_
        refine hq_ 31 (hol_load ty_98 rfl (nb rfl) (nb rfl) (fun h => (by rfl))) rfl rfl (pre1 rfl) rfl rfl ?_
        refine hq_ 32 (hop_len_sl (T := 98) rfl (elOf_spec el_98).1 rfl) rfl rfl pre0 rfl rfl ?_
        refine hq_ 33 (hop_gtr rfl rfl) rfl rfl pre0 rfl rfl ?_
        refine hq_ 34 (hop_move rfl) rfl rfl pre0 rfl rfl ?_
        refine hq_g 35 4 34 true _ (fun hb => hop_fa fd_100_1 rfl) rfl rfl rfl rfl pre0 rfl rfl rfl ?_
        refine hq_g 36 4 34 true _ (fun hb => hol_load ty_3 rfl (nb rfl) (nb rfl) (fun h => (by rfl))) rfl rfl rfl rfl (pre1 rfl) rfl rfl rfl ?_
        refine hq_g 37 4 34 true _ (fun hb => hop_eql rfl rfl) rfl rfl rfl rfl pre0 rfl rfl rfl ?_
        refine hq_p 38 (hstep_and _ _ rfl rfl rfl) rfl rfl rfl ?_
        refine hq_ 39 (hop_move rfl) rfl rfl pre0 rfl rfl ?_
        refine hq_g 40 9 39 true _ (fun hb => hop_fa fd_100_2 rfl) rfl rfl rfl rfl pre0 rfl rfl rfl ?_
        refine hq_g 41 9 39 true _ (fun hb => hol_load ty_3 rfl (nb rfl) (nb rfl) (fun h => (by rfl))) rfl rfl rfl rfl (pre1 rfl) rfl rfl rfl ?_
        refine hq_g 42 9 39 true _ (fun hb => hop_eql rfl rfl) rfl rfl rfl rfl pre0 rfl rfl rfl ?_
        refine hq_p 43 (hstep_and _ _ rfl rfl rfl) rfl rfl rfl ?_
        refine hq_ 44 (hop_move rfl) rfl rfl pre0 rfl rfl ?_
        refine hq_g 45 14 44 true _ (fun hb => hop_fa fd_100_3 rfl) rfl rfl rfl rfl pre0 rfl rfl rfl ?_
        refine hq_g 46 14 44 true _ (fun hb => hol_load ty_9 rfl (nb rfl) (nb rfl) (fun h => (by rfl))) rfl rfl rfl rfl (pre1 rfl) rfl rfl rfl ?_
        refine hq_g 47 14 44 true _ (fun hb => hop_seq_l rfl rfl) rfl rfl rfl rfl pre0 rfl rfl rfl ?_
        refine hq_p 48 (hstep_and _ _ rfl rfl rfl) rfl rfl rfl ?_
        refine hq_ 2 (hop_assign rfl) rfl rfl pre0 rfl rfl ?_
        refine hseq_nilU (by rfl) (by simp only [dropUn, slots]; exact rfl) ?_
        refine h9 _ ?_
        refine hw_ret ?_
        refine hq_block_ret ?_
        refine hq_then_ret ?_
        refine hq_ret1 rfl (rval_tmp rfl) [] rfl pre0 ?_
        rw [if_neg hc0, if_pos (.inr hc2)]; exact fz_bool (by simp only [beq_d, int_lt1])
      · have hr2 := hc2; (try simp only [hcs, Int.reduceToNat] at hc2)
        refine hw_seq (fun Nh10 h10 => ?_)
        refine hw_region ?_
        refine hq_ 50 (hop_eql rfl rfl) rfl rfl pre0 rfl rfl ?_
        refine hq_ 49 (hop_assign rfl) rfl rfl pre0 rfl rfl ?_
        refine hseq_nil ?_
        refine h10 _ ?_
        refine hw_cond _ rfl (fun hc3 => ?_) (fun hc3 => ?_)
        · have hr3 := hc3; (try simp only [hcs, Int.reduceToNat] at hc3)
          refine hw_seq (fun Nh11 h11 => ?_)
          refine hw_region ?_
          refine hq_ 51 (hop_fa fd_100_2 rfl) rfl rfl pre0 rfl rfl ?_
          refine hq_ 52 (hol_load ty_3 rfl (nb rfl) (nb rfl) (fun h => (by rfl))) rfl rfl (pre1 rfl) rfl rfl ?_
          refine hq_ 53 (hop_eql rfl rfl) rfl rfl pre0 rfl rfl ?_
          refine hq_ 54 (hop_move rfl) rfl rfl pre0 rfl rfl ?_
          refine hq_g 55 3 54 false _ (fun hb => hop_fa fd_100_2 rfl) rfl rfl rfl rfl pre0 rfl rfl rfl ?_
          refine hq_g 56 3 54 false _ (fun hb => hol_load ty_3 rfl (nb rfl) (nb rfl) (fun h => (by rfl))) rfl rfl rfl rfl (pre1 rfl) rfl rfl rfl ?_
          refine hq_g 57 3 54 false _ (fun hb => hop_fa fd_100_1 rfl) rfl rfl rfl rfl pre0 rfl rfl rfl ?_
          refine hq_g 58 3 54 false _ (fun hb => hol_load ty_3 rfl (nb rfl) (nb rfl) (fun h => (by rfl))) rfl rfl rfl rfl (pre1 rfl) rfl rfl rfl ?_
          refine hq_g 59 3 54 false _ (fun hb => hop_max rfl rfl) rfl rfl rfl rfl pre0 rfl rfl rfl ?_
          refine hq_g 60 3 54 false _ (fun hb => hop_geq rfl rfl) rfl rfl rfl rfl pre0 rfl rfl rfl ?_
          refine hq_g 61 3 54 false _ (fun hb => hop_move rfl) rfl rfl rfl rfl pre0 rfl rfl rfl ?_
          refine hq_g3 62 10 61 54 false true _ _ (fun hb hb2 => hop_fa fd_100_2 rfl) rfl rfl rfl rfl rfl pre0 rfl rfl rfl ?_
          refine hq_g3 63 10 61 54 false true _ _ (fun hb hb2 => hol_load ty_3 rfl (nb rfl) (nb rfl) (fun h => (by rfl))) rfl rfl rfl rfl rfl (pre1 rfl) rfl rfl rfl ?_
          refine hq_g3 64 10 61 54 false true _ _ (fun hb hb2 => hop_leq rfl rfl) rfl rfl rfl rfl rfl pre0 rfl rfl rfl ?_
          refine hq_pg 65 (hstep_andg (gi := 3) (j := 54) _ _ rfl rfl rfl rfl) rfl rfl rfl rfl ?_
          refine hq_p 66 (hstep_or _ _ rfl rfl rfl) rfl rfl rfl ?_
          refine hq_ 3 (hop_assign rfl) rfl rfl pre0 rfl rfl ?_
          refine hseq_nilU (by rfl) (by simp only [dropUn, slots]; exact rfl) ?_
          refine h11 _ ?_
          refine hw_seq (fun Nh12 h12 => ?_)
          refine hw_region ?_
          refine hq_ 67 (hop_fa fd_100_4 rfl) rfl rfl pre0 rfl rfl ?_
          refine hq_ 68 (hol_load ty_98 rfl (nb rfl) (nb rfl) (fun h => (by rfl))) rfl rfl (pre1 rfl) rfl rfl ?_
          refine hq_ 69 (hop_len_sl (T := 98) rfl (elOf_spec el_98).1 rfl) rfl rfl pre0 rfl rfl ?_
          refine hq_ 70 (hop_eql rfl rfl) rfl rfl pre0 rfl rfl ?_
          refine hq_ 71 (hop_move rfl) rfl rfl pre0 rfl rfl ?_
          refine hq_g 72 4 71 true _ (fun hb => hop_fa fd_100_1 rfl) rfl rfl rfl rfl pre0 rfl rfl rfl ?_
          refine hq_g 73 4 71 true _ (fun hb => hol_load ty_3 rfl (nb rfl) (nb rfl) (fun h => (by rfl))) rfl rfl rfl rfl (pre1 rfl) rfl rfl rfl ?_
          refine hq_g 74 4 71 true _ (fun hb => hop_geq rfl rfl) rfl rfl rfl rfl pre0 rfl rfl rfl ?_
          refine hq_p 75 (hstep_and _ _ rfl rfl rfl) rfl rfl rfl ?_
          refine hq_ 76 (hop_move rfl) rfl rfl pre0 rfl rfl ?_
          refine hq_g 77 9 76 true _ (fun hb => hop_fa fd_100_1 rfl) rfl rfl rfl rfl pre0 rfl rfl rfl ?_
          refine hq_g 78 9 76 true _ (fun hb => hol_load ty_3 rfl (nb rfl) (nb rfl) (fun h => (by rfl))) rfl rfl rfl rfl (pre1 rfl) rfl rfl rfl ?_
          refine hq_g 79 9 76 true _ (fun hb => hop_leq rfl rfl) rfl rfl rfl rfl pre0 rfl rfl rfl ?_
          refine hq_p 80 (hstep_and _ _ rfl rfl rfl) rfl rfl rfl ?_
          refine hq_ 81 (hop_move rfl) rfl rfl pre0 rfl rfl ?_
          refine hq_g 82 14 81 true _ (fun hb => hop_move rfl) rfl rfl rfl rfl pre0 rfl rfl rfl ?_
          refine hq_p 83 (hstep_and _ _ rfl rfl rfl) rfl rfl rfl ?_
          refine hq_ 84 (hop_move rfl) rfl rfl pre0 rfl rfl ?_
          refine hq_g 85 17 84 true _ (fun hb => hop_fa fd_100_3 rfl) rfl rfl rfl rfl pre0 rfl rfl rfl ?_
          refine hq_g 86 17 84 true _ (fun hb => hol_load ty_9 rfl (nb rfl) (nb rfl) (fun h => (by rfl))) rfl rfl rfl rfl (pre1 rfl) rfl rfl rfl ?_
          refine hq_g 87 17 84 true _ (fun hb => hop_seq_l rfl rfl) rfl rfl rfl rfl pre0 rfl rfl rfl ?_
          refine hq_p 88 (hstep_and _ _ rfl rfl rfl) rfl rfl rfl ?_
          refine hq_ 2 (hop_assign rfl) rfl rfl pre0 rfl rfl ?_
          refine hseq_nilU (by rfl) (by simp only [dropUn, slots]; exact rfl) ?_
          refine h12 _ ?_
          refine hw_ret ?_
          refine hq_block_ret ?_
          refine hq_then_ret ?_
          refine hq_ret1 rfl (rval_tmp rfl) [] rfl pre0 ?_
          rw [if_neg hc0, if_neg (show ¬ (x.kind = 2 ∨ x.kind = 3) by omega), if_pos hc3]; exact fz_bool (by simp only [beq_d, int_1])
        · have hr3 := hc3; (try simp only [hcs, Int.reduceToNat] at hc3)
          refine hw_skip ?_
          refine hq_block ?_
          refine h2 _ ?_
          refine hw_seq (fun Nh13 h13 => ?_)
          refine hw_region ?_
          refine hq_ 2 (hop_assign rfl) rfl rfl pre0 rfl rfl ?_
          refine hseq_nil ?_
          refine h13 _ ?_
          refine hw_ret ?_
          refine hq_ret1 rfl (rval_tmp rfl) [] rfl pre0 ?_
          rw [if_neg hc0, if_neg (show ¬ (x.kind = 2 ∨ x.kind = 3) by omega), if_neg hc3]; exact .imm _
theorem right_step {n i : Nat} {e : List Pt} {op : List Int} (hi : i < e.length) : rightL n i (e.drop i) op = ((aloneV (e.getD i default) && (decide ((e.getD i default).kids.length ≤ op.length) && decide (op.drop (op.length - (e.getD i default).kids.length) = (e.getD i default).kids))) && rightL n (i + 1) (e.drop (i + 1)) (op.take (op.length - (e.getD i default).kids.length) ++ [(i : Int)])) := by
  have h : e.drop i = e.getD i default :: e.drop (i + 1) := by
    rw [List.getD_eq_getElem?_getD, List.getElem?_eq_getElem hi, List.drop_eq_getElem_cons hi]; rfl
  rw [h]; rfl
theorem os_eq {id g lo lo' n n' : Nat} (h1 : lo = lo') (h2 : n = n') : HV.os id g lo n = HV.os id g lo' n' := by subst h1; subst h2; rfl
instance frz_ptH (x : Pt) : Frz (ptH x) := ⟨.agg _ _ _ fun j hj => pt_fz x j⟩
theorem cut_all6 {op : List Int} {k : Nat} (h : k ≤ op.length) : (op.drop (op.length - k)).take k = op.drop (op.length - k) := List.take_of_length_le (by rw [List.length_drop]; omega)
theorem right_no {x : Pt} {op : List Int} (h : (!aloneV x || decide ((op.length : Int) - x.kids.length < 0) || !decide ((op.drop (op.length - x.kids.length)).take x.kids.length = x.kids)) = true) : (aloneV x && (decide (x.kids.length ≤ op.length) && decide (op.drop (op.length - x.kids.length) = x.kids))) = false := by
  by_cases hk : x.kids.length ≤ op.length
  · rw [cut_all6 hk, decide_eq_false (show ¬ ((op.length : Int) - x.kids.length < 0) by omega)] at h
    rw [decide_eq_true hk]
    cases ha : aloneV x <;> rw [ha] at h <;> simp at h ⊢
    exact h
  · rw [decide_eq_false hk]; simp
theorem right_yes {x : Pt} {op : List Int} (h : (!aloneV x || decide ((op.length : Int) - x.kids.length < 0) || !decide ((op.drop (op.length - x.kids.length)).take x.kids.length = x.kids)) = false) : (aloneV x && (decide (x.kids.length ≤ op.length) && decide (op.drop (op.length - x.kids.length) = x.kids))) = true ∧ x.kids.length ≤ op.length := by
  simp only [Bool.or_eq_false_iff, Bool.not_eq_false', decide_eq_false_iff_not] at h
  have hk : x.kids.length ≤ op.length := by omega
  have h2 := h.2
  rw [cut_all6 hk] at h2
  exact ⟨by rw [h.1.1, decide_eq_true hk, h2]; rfl, hk⟩
theorem osub_cut {op : List Int} {N k g ty : Nat} {r : Int} {F : Nat → Nat → HV} (hN : N = k) (hk : k ≤ op.length) (hF : ∀ j, F 0 j = intV r) : OSub ⟨g, N + 1, 1, ty, 0, cat N (kidsF op) F⟩ ⟨g, (op.take k ++ [r]).length, 1, ty, 0, kidsF (op.take k ++ [r])⟩ := by
  subst hN
  have hl : (op.take N).length = N := by rw [List.length_take]; omega
  exact osub_snoc (enc := fun x _ => intV x) (d := 0) (out := op.take N) hl.symm (fun i j hi hj => by
    have : (op.take N).getD i 0 = op.getD i 0 := by rw [List.getD_eq_getElem?_getD, List.getD_eq_getElem?_getD, List.getElem?_take, if_pos (by omega)]
    show Sb (intV (op.getD i 0)) (intV ((op.take N).getD i 0))
    rw [this]; exact .refl _) (fun j hj => by rw [hF]; exact .refl _)
theorem right_g {a : Bool} {ol kl : Nat} (h : (!a || decide ((ol : Int) - kl < 0)) = false) : ol - kl + kl ≤ ol := by simp at h; omega
theorem right_h (e : List Pt) (he : PtB e) : HPure Tryd.prog 32 [ptsV e] (boolV (rightV e)) := by
  have hel := he.1
  refine hpure_of Tryd.func32 rfl (by kernel_rfl) _ _ _ rfl 51 rfl rfl (fun w F => ?_)
  refine hw_seq (fun Nh1 h1 => ?_)
  refine hw_region ?_
  refine hq_ 2 (hop_assign rfl) rfl rfl pre0 rfl rfl ?_
  refine hseq_nil ?_
  refine h1 _ ?_
  refine hw_seq (fun Nh2 h2 => ?_)
  refine hw_region ?_
  refine hq_ 3 (hop_assign rfl) rfl rfl pre0 rfl rfl ?_
  refine hseq_nil ?_
  refine h2 _ ?_
  refine hw_seq (fun Nh3 h3 => ?_)
  refine hw_seq (fun Nh4 h4 => ?_)
  refine hw_region ?_
  refine hq_ 7 (hop_move rfl) rfl rfl pre0 rfl rfl ?_
  refine hq_ 8 (hop_len_sl (T := 52) rfl (elOf_spec el_52).1 rfl) rfl rfl pre0 rfl rfl ?_
  refine hq_ 9 (hop_move rfl) rfl rfl pre0 rfl rfl ?_
  refine hseq_nil ?_
  refine h4 _ ?_
  refine hw_block ?_
  refine hw_own 3 8001 1 3 ((kidsF [])) rfl (by decide) rfl (c' := 1) rfl ?_
  refine hw_loopc (α := Nat × List Int × Nat) (fun x c => ⟨51, [(0, .v (ptsV e)), (3, .v (.os 8001 x.2.2 0 x.2.1.length)), (7, .v (ptsV e)), (8, .v (intV e.length)), (9, .v (intV x.1))], [(8001, ⟨x.2.2, x.2.1.length, 1, 3, 0, kidsF x.2.1⟩)], c⟩) (fun x => x.1 ≤ e.length ∧ x.2.1.length ≤ x.1 ∧ rightL e.length x.1 (e.drop x.1) x.2.1 = rightV e) (fun x => e.length - x.1) ((0, [], 0)) (by exact ⟨Nat.zero_le _, Nat.zero_le _, rfl⟩) (hsub_of rfl (Nat.le_refl _) (TmSub.cons rfl (Sb.refl _) (TmSub.cons rfl (Sb.refl _) (TmSub.cons rfl (Sb.refl _) (TmSub.cons rfl (Sb.refl _) (TmSub.cons rfl (Sb.refl _) TmSub.nil))))) (HpSub.cons rfl (OSub.refl _) HpSub.nil)) (fun x c hx NhL5 hL5 => ?_)
  revert hx hL5; obtain ⟨i, op, g⟩ := x; intro hx hL5; dsimp only at hx hL5 ⊢
  obtain ⟨hi, hop, hR⟩ := hx
  refine hw_seq (fun Nh6 h6 => ?_)
  refine hw_region ?_
  refine hq_ 10 (hop_lss rfl rfl) rfl rfl pre0 rfl rfl ?_
  refine hseq_nil ?_
  refine h6 _ ?_
  refine hw_seq (fun Nh7 h7 => ?_)
  refine hw_cond _ rfl (fun hc0 => ?_) (fun hc0 => ?_)
  · have hr0 := hc0; (try simp only [hcs, Int.reduceToNat] at hc0)
    have hil : i < e.length := (by omega); have hkb := he.2 i hil; have hst := right_step (n := e.length) (op := op) hil
    refine hw_skip ?_
    refine h7 _ ?_
    refine hw_seq (fun Nh8 h8 => ?_)
    refine hw_block ?_
    refine hw_seq (fun Nh9 h9 => ?_)
    refine hw_region ?_
    refine hq_ 11 (hop_move rfl) rfl rfl pre0 rfl rfl ?_
    refine hq_ 12 (hop_ia_sl el_52 rfl rfl (by omega) (by omega) (nb rfl)) rfl rfl pre0 rfl rfl ?_
    refine hq_ 13 (HOp.val (v' := ptH (e.getD i default)) (hop_load_fp ty_100 rfl (nb rfl) (fun h => (by cases h))) (rfl)) rfl rfl pre0 rfl rfl ?_
    refine hm_1 5 (hop_alloc (id := 5) (sz := 5) zc_100 rfl rfl (nb rfl) (nb rfl)) rfl rfl pre0 rfl rfl (c' := c + 1) rfl ?_
    refine hq_ 4 (hop_assign rfl) rfl rfl pre0 rfl rfl ?_
    refine hm_s1 (hol_storeW ty_100 rfl rfl rfl rfl) rfl rfl (pre1 rfl) (c' := c + 2) rfl ?_
    refine hseq_nil ?_
    refine h9 _ ?_
    refine hw_seq (fun Nh10 h10 => ?_)
    refine hw_region ?_
    refine hq_ 14 (hop_move rfl) rfl rfl pre0 rfl rfl ?_
    refine hq_ 15 (hop_len_os (T := 98) rfl (elOf_spec el_98).1 rfl) rfl rfl pre0 rfl rfl ?_
    refine hq_ 16 (hop_fa fd_100_4 rfl) rfl rfl pre0 rfl rfl ?_
    refine hq_ 17 (HOp.val (v' := kidsV (e.getD i default).kids) (hol_load ty_98 rfl (nb rfl) (nb rfl) (fun h => (by rfl))) (rfl)) rfl rfl (pre1 rfl) rfl rfl ?_
    refine hq_ 18 (hop_len_sl (T := 98) rfl (elOf_spec el_98).1 rfl) rfl rfl pre0 rfl rfl ?_
    refine hq_ 19 (hop_subi rfl rfl rfl (by omega) (by omega)) rfl rfl pre0 rfl rfl ?_
    refine hq_ 6 (hop_assign rfl) rfl rfl pre0 rfl rfl ?_
    refine hseq_nil ?_
    refine h10 _ ?_
    refine hw_seq (fun Nh11 h11 => ?_)
    refine hw_seq (fun Nh12 h12 => ?_)
    refine hd_start ?_
    refine hd_q 20 (HOp.val (v' := ptH (e.getD i default)) (hol_load ty_100 rfl (nb rfl) (nb rfl) (fun h => (by cases h))) (rfl)) rfl rfl (pre1 rfl) rfl rfl (k' := 1) rfl ?_
    refine hd_q 21 (hop_call0 (xs := [_]) (alone_h (e.getD i default) (by omega) (by omega)) ⟨rfl, trivial⟩ ⟨(Fz.eq rfl), trivial⟩) rfl rfl pre0 rfl rfl (k' := 2) rfl ?_
    refine hd_q 22 (hop_not rfl) rfl rfl pre0 rfl rfl (k' := 3) rfl ?_
    refine hd_q 23 (hop_move rfl) rfl rfl pre0 rfl rfl (k' := 4) rfl ?_
    refine hd_g 24 3 23 false _ (fun hb => hop_move rfl) rfl rfl rfl rfl pre0 rfl rfl rfl (k' := 5) rfl ?_
    refine hd_g 25 3 23 false _ (fun hb => hop_lss rfl rfl) rfl rfl rfl rfl pre0 rfl rfl rfl (k' := 6) rfl ?_
    refine hd_p 26 (hstep_or _ _ rfl rfl rfl) rfl rfl rfl (k' := 7) rfl ?_
    refine hd_q 27 (hop_move rfl) rfl rfl pre0 rfl rfl (k' := 8) rfl ?_
    refine hd_g 28 7 27 false _ (fun hb => hop_move rfl) rfl rfl rfl rfl pre0 rfl rfl rfl (k' := 9) rfl ?_
    refine hd_g 29 7 27 false _ (fun hb => hop_move rfl) rfl rfl rfl rfl pre0 rfl rfl rfl (k' := 10) rfl ?_
    refine hd_g 30 7 27 false _ (fun hb => HOp.val (v' := .os 8001 g (op.length - (e.getD i default).kids.length) (e.getD i default).kids.length) (hol_cut_os el_98 rfl (.inr ⟨_, _, rfl, rfl⟩) (.inl ⟨rfl, rfl⟩) (by (simp at hb; first | omega | (dsimp only; omega) | (simp <;> omega))) (by (simp at hb; first | omega | (dsimp only; omega) | (simp <;> omega))) (by (simp at hb; first | omega | (dsimp only; omega) | (simp <;> omega)))) (os_eq (by simp at hb; omega) (by simp at hb; omega))) rfl rfl rfl rfl (pre1 rfl) rfl rfl rfl (k' := 11) rfl ?_
    refine hd_g 31 7 27 false _ (fun hb => hop_fa fd_100_4 rfl) rfl rfl rfl rfl pre0 rfl rfl rfl (k' := 12) rfl ?_
    refine hd_g 32 7 27 false _ (fun hb => HOp.val (v' := kidsV (e.getD i default).kids) (hol_load ty_98 rfl (nb rfl) (nb rfl) (fun h => (by rfl))) (rfl)) rfl rfl rfl rfl (pre1 rfl) rfl rfl rfl (k' := 13) rfl ?_
    refine hd_g 33 7 27 false _ (fun hb => hop_funR (xs := [_, _]) (pre := [(8001, _)]) (equal_h g (op.length - (e.getD i default).kids.length) (e.getD i default).kids.length op (e.getD i default).kids (by omega) (by omega) (right_g hb)) ⟨rfl, ⟨rfl, trivial⟩⟩) rfl rfl rfl rfl (preC rfl pre0) rfl rfl rfl (k' := 14) rfl ?_
    refine hd_g 34 7 27 false _ (fun hb => hop_not rfl) rfl rfl rfl rfl pre0 rfl rfl rfl (k' := 15) rfl ?_
    refine hd_p 35 (hstep_or _ _ rfl rfl rfl) rfl rfl rfl (k' := 16) rfl ?_
    refine hd_nil (by kernel_rfl) (by kernel_rfl) (c' := c + 18) rfl ?_
    refine h12 _ ?_
    refine hw_cond _ rfl (fun hc1 => ?_) (fun hc1 => ?_)
    · have hr1 := hc1; (try simp only [hcs, Int.reduceToNat] at hc1)
      have hf := right_no hr1; rw [hf, Bool.false_and] at hst
      refine hw_seq (fun Nh13 h13 => ?_)
      refine hw_region ?_
      refine hq_ 2 (hop_assign rfl) rfl rfl pre0 rfl rfl ?_
      refine hseq_nil ?_
      refine h13 _ ?_
      refine hw_ret ?_
      refine hq_then_ret ?_
      refine hq_block_ret ?_
      refine hq_then_ret ?_
      refine hq_then_ret ?_
      refine hq_block_ret ?_
      refine hq_then_ret ?_
      refine hq_ret1 rfl (rval_tmp rfl) [] rfl pre0 ?_
      rw [← hR, hst]; exact .imm _
    · have hr1 := hc1; (try simp only [hcs, Int.reduceToNat] at hc1)
      obtain ⟨hf, hkl⟩ := right_yes hr1; rw [hf, Bool.true_and] at hst
      refine hw_skip ?_
      refine h11 _ ?_
      refine hw_region ?_
      refine hq_ 36 (hop_move rfl) rfl rfl pre0 rfl rfl ?_
      refine hq_ 37 (hop_move rfl) rfl rfl pre0 rfl rfl ?_
      refine hq_ 38 (hol_cut_os el_98 rfl (.inl ⟨rfl, rfl⟩) (.inr ⟨_, _, rfl, rfl⟩) (by omega) (by omega) (by omega)) rfl rfl (pre1 rfl) rfl rfl ?_
      refine hq_ 39 (hop_move rfl) rfl rfl pre0 rfl rfl ?_
      refine hm_1 40 (hop_buildSlice (id := 40) (hs := [_]) ei_98 (nb rfl) rfl (nb rfl) ⟨rfl, rfl, rfl, rfl, trivial⟩) rfl rfl pre0 rfl rfl (c' := c + 19) rfl ?_
      refine hm_1 41 (hol_append ei_98 (nb rfl) rfl (by omega) (nb rfl) (srl_os0 rfl (nb rfl)) (by omega) rfl) rfl rfl (preC rfl (pre1 rfl)) rfl rfl (c' := c + 20) rfl ?_
      refine hq_ 3 (hop_assign rfl) rfl rfl pre0 rfl rfl ?_
      refine hseq_nil ?_
      refine hq_block ?_
      refine h8 _ ?_
      refine hw_region ?_
      refine hq_ 42 (hop_addi rfl rfl rfl (by omega) (by omega)) rfl rfl pre0 rfl rfl ?_
      refine hq_ 9 (hop_move rfl) rfl rfl pre0 rfl rfl ?_
      refine hseq_nil ?_
      exact hL5 ((i + 1, op.take (op.length - (e.getD i default).kids.length) ++ [(i : Int)], c + 19)) _ _ (by (try dsimp only); exact ⟨by omega, by rw [List.length_append, List.length_take]; show _ + 1 ≤ _; omega, by rw [← hst]; exact hR⟩) (by (try dsimp only); omega) (hsub_of rfl (Nat.le_refl _) (TmSub.cons rfl (Sb.refl _) (TmSub.cons rfl (by dsimp only; exact sb_os (by rw [List.length_append, List.length_take]; show _ + 1 = _ + 1; omega)) (TmSub.cons rfl (Sb.refl _) (TmSub.cons rfl (Sb.refl _) (TmSub.cons rfl (Sb.refl _) TmSub.nil))))) (HpSub.cons rfl (by dsimp only; exact osub_cut (k := op.length - (e.getD i default).kids.length) (r := (i : Int)) (by omega) (by omega) (fun _ => rfl)) HpSub.nil))
  · have hr0 := hc0; (try simp only [hcs, Int.reduceToNat] at hc0)
    refine hw_exit ?_
    refine hq_then_exit ?_
    refine hq_then_exit ?_
    refine hq_block_here ?_
    refine h3 _ ?_
    refine hw_seq (fun Nh14 h14 => ?_)
    refine hw_region ?_
    refine hq_ 43 (hop_move rfl) rfl rfl pre0 rfl rfl ?_
    refine hq_ 44 (hop_len_os (T := 98) rfl (elOf_spec el_98).1 rfl) rfl rfl pre0 rfl rfl ?_
    refine hq_ 45 (hop_eql rfl rfl) rfl rfl pre0 rfl rfl ?_
    refine hq_ 46 (hop_move rfl) rfl rfl pre0 rfl rfl ?_
    refine hq_g 47 3 46 false _ (fun hb => hop_move rfl) rfl rfl rfl rfl pre0 rfl rfl rfl ?_
    refine hq_g 48 3 46 false _ (fun hb => hop_len_sl (T := 52) rfl (elOf_spec el_52).1 rfl) rfl rfl rfl rfl pre0 rfl rfl rfl ?_
    refine hq_g 49 3 46 false _ (fun hb => hop_eql rfl rfl) rfl rfl rfl rfl pre0 rfl rfl rfl ?_
    refine hq_p 50 (hstep_or _ _ rfl rfl rfl) rfl rfl rfl ?_
    refine hq_ 2 (hop_assign rfl) rfl rfl pre0 rfl rfl ?_
    refine hseq_nilU (by rfl) (by simp only [dropUn, slots]; exact rfl) ?_
    refine h14 _ ?_
    refine hw_ret ?_
    refine hq_ret1 rfl (rval_tmp rfl) [] rfl pre0 ?_
    rw [← hR, List.drop_eq_nil_of_le (by omega)]; exact fz_bool (by simp only [rightL, beq_d, int_1, int_0])
end Go.Proofs.YtijpdbjcmnpobaaDoor

namespace Go.Proofs.YtijpdbjcmnpobaaDoor
set_option linter.unusedSimpArgs false
set_option linter.unusedVariables false

def T.kind : T → Int
  | .name _ => 1
  | .times _ _ _ => 4
  | .many k _ => k
/-- May a tree stand so within another one? (p: the other one's kind) -/
def inB (p k : Int) : Bool := if p = 3 then decide (k = 3) else if p = 2 then decide (k = 2) || decide (k = 3) else !decide (k = 1)
def wrapS (b : Bool) (l : List Sg) : List Sg := if b = true then [⟨2, 0, 0, 0, []⟩] ++ l ++ [⟨3, 0, 0, 0, []⟩] else l
def orS (k : Int) (f : Bool) : List Sg := if k = 3 ∧ f = false then [⟨4, 0, 0, 0, []⟩] else []
mutual
/-- A tree's signs, without brackets. -/
def T.sig : T → List Sg
  | .name s => [⟨1, 0, 0, 0, s⟩]
  | .times lo hi t => wrapS (inB 4 t.kind) (T.sig t) ++ [⟨5, 0, lo, hi, []⟩]
  | .many k ts => T.sigL k true ts
def T.sigL (k : Int) : Bool → List T → List Sg
  | _, [] => []
  | f, t :: ts => orS k f ++ wrapS (inB k t.kind) (T.sig t) ++ T.sigL k false ts
end
theorem wrap_len (b : Bool) (l : List Sg) : (wrapS b l).length ≤ l.length + 2 ∧ l.length ≤ (wrapS b l).length := by
  unfold wrapS; split
  · simp; omega
  · omega
theorem or_len (k : Int) (f : Bool) : (orS k f).length ≤ 1 := by unfold orS; split <;> simp
theorem T.sigL_snoc (k : Int) : ∀ (ts : List T) (f : Bool) (t : T), T.sigL k f (ts ++ [t]) = T.sigL k f ts ++ orS k (f && decide (ts = [])) ++ wrapS (inB k t.kind) t.sig
  | [], f, t => by simp [T.sigL]
  | x :: ts, f, t => by simp [T.sigL, T.sigL_snoc k ts false t]
mutual
theorem sig_len : ∀ t : T, t.ok = true → t.sig.length + 3 ≤ 4 * t.size ∧ 0 < t.sig.length
  | .name s, _ => by simp [T.sig, T.size]
  | .times lo hi t, h => by
    simp only [T.ok, Bool.and_eq_true] at h
    have a := sig_len t h.2
    have b := wrap_len (inB 4 t.kind) t.sig
    simp only [T.sig, T.size, List.length_append, List.length_singleton]; omega
  | .many k ts, h => by
    simp only [T.ok, Bool.and_eq_true, decide_eq_true_eq] at h
    have a := sigL_len k ts h.2 true
    have b := sigL_pos k ts h.2 (by omega)
    simp only [T.sig, T.size]
    simp only [if_true] at a
    exact ⟨by omega, b⟩
theorem sigL_len (k : Int) : ∀ ts : List T, T.okL ts = true → ∀ f, (T.sigL k f ts).length + (if f = true then min 1 ts.length else 0) ≤ 4 * T.sizeL ts
  | [], _, f => by simp [T.sigL, T.sizeL]
  | t :: ts, h, f => by
    simp only [T.okL, Bool.and_eq_true] at h
    have a := sig_len t h.1
    have b := wrap_len (inB k t.kind) t.sig
    have d := sigL_len k ts h.2 false
    have e := or_len k f
    simp only [Bool.false_eq_true, if_false] at d
    simp only [T.sigL, T.sizeL, List.length_append, List.length_cons]
    cases f with
    | true => have : (orS k true).length = 0 := by unfold orS; rw [if_neg (by simp)]; rfl
              simp only [if_true]; omega
    | false => simp only [Bool.false_eq_true, if_false]; omega
theorem sigL_pos (k : Int) : ∀ ts : List T, T.okL ts = true → 0 < ts.length → 0 < (T.sigL k true ts).length
  | [], _, h => absurd h (by simp)
  | t :: ts, h, _ => by
    simp only [T.okL, Bool.and_eq_true] at h
    have a := sig_len t h.1
    have b := wrap_len (inB k t.kind) t.sig
    simp only [T.sigL, List.length_append]; omega
end
def AtP (e : List Pt) (b : Nat) (l : List Pt) : Prop := ∃ u v, e = u ++ l ++ v ∧ u.length = b
theorem atP_get {e : List Pt} {b : Nat} {l : List Pt} (h : AtP e b l) {i : Nat} (hi : i < l.length) : e.getD (b + i) default = l.getD i default ∧ b + i < e.length := by
  obtain ⟨u, v, rfl, rfl⟩ := h
  refine ⟨?_, by simp only [List.length_append]; omega⟩
  rw [List.append_assoc, List.getD_eq_getElem?_getD, List.getElem?_append_right (by omega), Nat.add_sub_cancel_left, List.getElem?_append_left hi, ← List.getD_eq_getElem?_getD]
theorem atP_left {e : List Pt} {b : Nat} {l k : List Pt} (h : AtP e b (l ++ k)) : AtP e b l := by
  obtain ⟨u, v, rfl, hu⟩ := h
  exact ⟨u, k ++ v, by simp, hu⟩
theorem atP_right {e : List Pt} {b b' : Nat} {l k : List Pt} (h : AtP e b (l ++ k)) (hb : b' = b + l.length) : AtP e b' k := by
  obtain ⟨u, v, rfl, hu⟩ := h
  exact ⟨u ++ l, v, by simp, by rw [List.length_append, hu, hb]⟩
theorem flatL_cut : ∀ (ts : List T) (b i : Nat), i < ts.length → ∃ v, T.flatL b ts = T.flatL b (ts.take i) ++ T.flat (b + T.sizeL (ts.take i)) (ts.getD i default) ++ v
  | t :: ts, b, 0, _ => ⟨T.flatL (b + t.size) ts, by simp [T.flatL, T.sizeL]⟩
  | t :: ts, b, i + 1, h => by
    obtain ⟨v, hv⟩ := flatL_cut ts (b + t.size) i (by simpa using h)
    refine ⟨v, ?_⟩
    simp only [T.flatL, List.take_succ_cons, T.sizeL, hv, List.getD_cons_succ, List.append_assoc, Nat.add_assoc]
theorem at_kid {e : List Pt} {b i : Nat} {ts : List T} {k : Int} (h : AtP e b (T.flat b (.many k ts))) (hi : i < ts.length) : AtP e (b + T.sizeL (ts.take i)) (T.flat (b + T.sizeL (ts.take i)) (ts.getD i default)) := by
  obtain ⟨v, hv⟩ := flatL_cut ts b i hi
  simp only [T.flat, hv] at h
  have h := atP_left (atP_left h)
  exact atP_right h (by rw [T.flatL_len])
theorem roots_get : ∀ (ts : List T) (b i : Nat), i < ts.length → (rootsL b ts).getD i 0 = T.root (b + T.sizeL (ts.take i)) (ts.getD i default)
  | t :: ts, b, 0, _ => by simp [rootsL, T.root, T.sizeL]
  | t :: ts, b, i + 1, h => by
    have := roots_get ts (b + t.size) i (by simpa using h)
    simp only [rootsL, List.getD_cons_succ, List.take_succ_cons, T.sizeL, this, Nat.add_assoc]
/-- A tree's own part. -/
def T.top (b : Nat) : T → Pt
  | .name s => ⟨1, 0, 0, s, []⟩
  | .times lo hi t => ⟨4, lo, hi, [], [((b + t.size : Nat) : Int) - 1]⟩
  | .many k ts => ⟨k, 0, 0, [], rootsL b ts⟩
theorem top_kind (b : Nat) (t : T) : (t.top b).kind = t.kind := by cases t <;> rfl
theorem flat_top (b : Nat) (t : T) : (T.flat b t).getD (t.size - 1) default = t.top b := by
  cases t with
  | name s => rfl
  | times lo hi t => simp only [T.flat, T.size, T.top, Nat.add_sub_cancel]; rw [← T.flat_len b t]; exact getD_snoc _ _ _
  | many k ts => simp only [T.flat, T.size, T.top, Nat.add_sub_cancel]; rw [← T.flatL_len b ts]; exact getD_snoc _ _ _
theorem at_top {e : List Pt} {b : Nat} {t : T} (h : AtP e b (T.flat b t)) : e.getD (b + t.size - 1) default = t.top b ∧ b + t.size ≤ e.length := by
  have hs := t.size_pos
  have := atP_get h (i := t.size - 1) (by rw [T.flat_len]; omega)
  rw [flat_top, show b + (t.size - 1) = b + t.size - 1 by omega] at this
  exact ⟨this.1, by omega⟩
def Like (x y : Sg) : Prop := x.kind = y.kind ∧ x.low = y.low ∧ x.high = y.high ∧ x.name = y.name
def AtS (l : List Sg) (p : Nat) (k : List Sg) : Prop := p + k.length ≤ l.length ∧ ∀ i, i < k.length → Like (l.getD (p + i) default) (k.getD i default)
theorem atS_left {l : List Sg} {p : Nat} {k k' : List Sg} (h : AtS l p (k ++ k')) : AtS l p k :=
  ⟨by have := h.1; rw [List.length_append] at this; omega, fun i hi => by have := h.2 i (by rw [List.length_append]; omega); rwa [getD_app hi] at this⟩
theorem getD_right {α : Type} {k k' : List α} {i : Nat} {d : α} : (k ++ k').getD (k.length + i) d = k'.getD i d := by
  rw [List.getD_eq_getElem?_getD, List.getElem?_append_right (by omega), Nat.add_sub_cancel_left, ← List.getD_eq_getElem?_getD]
theorem atS_right {l : List Sg} {p : Nat} {k k' : List Sg} (h : AtS l p (k ++ k')) : AtS l (p + k.length) k' :=
  ⟨by have := h.1; rw [List.length_append] at this; omega, fun i hi => by have := h.2 (k.length + i) (by rw [List.length_append]; omega); rwa [getD_right, ← Nat.add_assoc] at this⟩
theorem atS_kd {l : List Sg} {p : Nat} {x : Sg} {k : List Sg} (h : AtS l p (x :: k)) : kd l p = x.kind := by
  have := h.2 0 (by simp)
  have h1 := h.1
  rw [List.length_cons] at h1
  rw [kd_in (by omega)]; exact this.1
theorem atS_one {l : List Sg} {p : Nat} {x : Sg} {k : List Sg} (h : AtS l p (x :: k)) : Like (l.getD p default) x := h.2 0 (by simp)
@[reducible] def lvB : T → Nat
  | .name _ => 0
  | .times _ _ _ => 1
  | .many k _ => if k = 2 then 2 else 3
/-- Tells of a tree that its signs are read as it. -/
def SigOk (t : T) : Prop := ∀ (l : List Sg) (p : Nat), AtS l p t.sig → kd l (p + t.sig.length) ≠ 5 → Seg l (lvB t) p (p + t.sig.length) t
def AtomOk (b : Bool) (t : T) : Prop := ∀ (l : List Sg) (p : Nat), AtS l p (wrapS b t.sig) → Seg l 0 p (p + (wrapS b t.sig).length) t
theorem up3 {l : List Sg} {v p q : Nat} {t : T} (h : Seg l v p q t) (h5 : kd l q ≠ 5) : Seg l 3 p q t := by
  have e1 : ∀ {p q t}, Seg l 1 p q t → Seg l 3 p q t := fun h => .choice1 _ _ _ (.row1 _ _ _ h)
  match v, h with
  | 0, h => exact e1 (.item _ _ _ h h5)
  | 1, h => exact e1 h
  | 2, h => exact .choice1 _ _ _ h
  | 3, h => exact h
  | v + 4, h => nomatch h
theorem atom_wrap {t : T} (h : SigOk t) : AtomOk true t := by
  intro l p hp
  simp only [wrapS, if_true] at hp ⊢
  have h2 := atS_kd (by simpa using hp)
  have hb := atS_right (atS_left hp)
  have h3 := atS_right hp
  have k3 := atS_kd h3
  rw [List.length_append, List.length_singleton] at h3 k3
  have := h l (p + 1) hb (by rw [show p + 1 + t.sig.length = p + (1 + t.sig.length) by omega, k3]; decide)
  have g := up3 this (by rw [show p + 1 + t.sig.length = p + (1 + t.sig.length) by omega, k3]; decide)
  have := Seg.group p (p + 1 + t.sig.length) t h2 g (by rw [show p + 1 + t.sig.length = p + (1 + t.sig.length) by omega]; exact k3)
  rw [show p + 1 + t.sig.length + 1 = p + ([⟨2, 0, 0, 0, []⟩] ++ t.sig ++ [⟨3, 0, 0, 0, []⟩] : List Sg).length by simp; omega] at this
  exact this
theorem atom_name (s : List UInt8) : AtomOk false (.name s) := by
  intro l p hp
  have h1 := atS_kd (x := ⟨1, 0, 0, 0, s⟩) (k := []) hp
  have h2 := atS_one (x := ⟨1, 0, 0, 0, s⟩) (k := []) hp
  have := Seg.name p h1
  rw [h2.2.2.2] at this
  exact this
theorem in4 {t : T} (h : t.ok = true) : inB 4 t.kind = true ∨ ∃ s, t = .name s := by
  cases t with
  | name s => exact .inr ⟨s, rfl⟩
  | times _ _ _ => left; rfl
  | many k ts =>
    simp only [T.ok, Bool.and_eq_true, Bool.or_eq_true, decide_eq_true_eq] at h
    left; show inB 4 k = true; unfold inB; rw [if_neg (by decide), if_neg (by decide), decide_eq_false (by omega)]; rfl
theorem raise {l : List Sg} {v m p q : Nat} {t : T} (h : Seg l v p q t) (hm : v ≤ m) (hm1 : 1 ≤ m) (hm3 : m ≤ 3) (h5 : kd l q ≠ 5) : Seg l m p q t := by
  have e1 : Seg l 1 p q t → Seg l m p q t := fun h => by
    match m, hm1, hm3 with
    | 1, _, _ => exact h
    | 2, _, _ => exact .row1 _ _ _ h
    | 3, _, _ => exact .choice1 _ _ _ (.row1 _ _ _ h)
  match v, h, hm with
  | 0, h, _ => exact e1 (.item _ _ _ h h5)
  | 1, h, _ => exact e1 h
  | 2, h, hm =>
    match m, hm, hm3 with
    | 2, _, _ => exact h
    | 3, _, _ => exact .choice1 _ _ _ h
  | 3, h, hm =>
    match m, hm, hm3 with
    | 3, _, _ => exact h
  | v + 4, h, _ => nomatch h
theorem sigL_cut (k : Int) : ∀ (ts : List T) (f : Bool) (i : Nat), i < ts.length → T.sigL k f ts = T.sigL k f (ts.take i) ++ (orS k (f && decide (i = 0)) ++ wrapS (inB k (ts.getD i default).kind) (ts.getD i default).sig) ++ T.sigL k false (ts.drop (i + 1))
  | t :: ts, f, 0, _ => by simp [T.sigL]
  | t :: ts, f, i + 1, h => by
    have := sigL_cut k ts false i (by simpa using h)
    simp only [T.sigL, List.take_succ_cons, List.getD_cons_succ, List.drop_succ_cons]
    rw [this]
    simp
theorem sigL_take (k : Int) (ts : List T) (i : Nat) (h : i < ts.length) : T.sigL k true (ts.take (i + 1)) = T.sigL k true (ts.take i) ++ (orS k (decide (i = 0)) ++ wrapS (inB k (ts.getD i default).kind) (ts.getD i default).sig) := by
  have e : ts.take (i + 1) = ts.take i ++ [ts.getD i default] := by
    rw [List.take_add_one, List.getD_eq_getElem?_getD, List.getElem?_eq_getElem h]; rfl
  rw [e, T.sigL_snoc]
  have : decide (ts.take i = []) = decide (i = 0) := decide_eq_decide.2 (by
    rw [List.take_eq_nil_iff]
    constructor
    · rintro (h1 | h1)
      · exact h1
      · subst h1; exact absurd h (Nat.not_lt_zero _)
    · exact .inl)
  rw [this]
  simp
mutual
theorem sig_head : ∀ t : T, t.ok = true → ∃ x r, t.sig = x :: r ∧ (x.kind = 1 ∨ x.kind = 2)
  | .name s, _ => ⟨_, _, rfl, .inl rfl⟩
  | .times lo hi t, h => by
    simp only [T.ok, Bool.and_eq_true] at h
    simp only [T.sig]
    obtain ⟨x, r, e, hx⟩ := sig_head t h.2
    unfold wrapS
    split
    · exact ⟨_, _, rfl, .inr rfl⟩
    · rw [e]; exact ⟨x, _, rfl, hx⟩
  | .many k [], h => by simp [T.ok] at h
  | .many k (t :: ts), h => by
    simp only [T.ok, T.okL, Bool.and_eq_true] at h
    obtain ⟨x, r, e, hx⟩ := sig_head t h.2.1
    simp only [T.sig, T.sigL]
    have : orS k true = [] := by unfold orS; rw [if_neg (by simp)]
    rw [this]
    unfold wrapS
    split
    · exact ⟨_, _, rfl, .inr rfl⟩
    · rw [e]; exact ⟨x, _, rfl, hx⟩
end
theorem wrap_head (b : Bool) {t : T} (h : t.ok = true) : ∃ x r, wrapS b t.sig = x :: r ∧ (x.kind = 1 ∨ x.kind = 2) := by
  obtain ⟨x, r, e, hx⟩ := sig_head t h
  unfold wrapS
  split
  · exact ⟨_, _, rfl, .inr rfl⟩
  · exact ⟨x, r, e, hx⟩
theorem next5 {l : List Sg} {k : Int} {q : Nat} {ts : List T} (hok : T.okL ts = true) (h : AtS l q (T.sigL k false ts)) (hn : ts = [] → kd l q ≠ 5) : kd l q ≠ 5 := by
  match ts, hok, h, hn with
  | [], _, _, hn => exact hn rfl
  | t :: ts, hok, h, _ =>
    simp only [T.okL, Bool.and_eq_true] at hok
    simp only [T.sigL] at h
    unfold orS at h
    by_cases h3 : k = 3 ∧ false = false
    · rw [if_pos h3] at h
      rw [atS_kd (by simpa using h)]; show (4 : Int) ≠ 5; decide
    · rw [if_neg h3, List.nil_append] at h
      obtain ⟨x, r, e, hx⟩ := wrap_head (inB k t.kind) hok.1
      rw [e] at h
      rw [atS_kd (by simpa using h)]
      rcases hx with hx | hx <;> rw [hx] <;> decide
theorem okL_drop : ∀ (ts : List T) (i : Nat), T.okL ts = true → T.okL (ts.drop i) = true
  | [], i, _ => by simp [T.okL]
  | t :: ts, 0, h => h
  | t :: ts, i + 1, h => by
    simp only [T.okL, Bool.and_eq_true] at h
    exact okL_drop ts i h.2
/-- A kid, at its place. -/
theorem kid_seg {l : List Sg} {k : Int} {p i m : Nat} {ts : List T} (hm : m = if k = 2 then 1 else 2) (hk : k = 2 ∨ k = 3) (hok : T.okL ts = true) (hS : ∀ i, i < ts.length → SigOk (ts.getD i default)) (hA : AtS l p (T.sigL k true ts)) (hn : kd l (p + (T.sigL k true ts).length) ≠ 5) (hi : i < ts.length) :
    Seg l m (p + (T.sigL k true (ts.take i)).length + (orS k (decide (i = 0))).length) (p + (T.sigL k true (ts.take (i + 1))).length) (ts.getD i default) ∧ AtS l (p + (T.sigL k true (ts.take (i + 1))).length) (T.sigL k false (ts.drop (i + 1))) := by
  have hcut := sigL_cut k ts true i hi
  rw [Bool.true_and] at hcut
  have hok1 := okL_at hok i hi
  have hcut2 : T.sigL k true ts = T.sigL k true (ts.take (i + 1)) ++ T.sigL k false (ts.drop (i + 1)) := by rw [sigL_take k ts i hi]; exact hcut
  have hrest : AtS l (p + (T.sigL k true (ts.take (i + 1))).length) (T.sigL k false (ts.drop (i + 1))) := atS_right (hcut2 ▸ hA)
  have h5 : kd l (p + (T.sigL k true (ts.take (i + 1))).length) ≠ 5 := next5 (okL_drop ts (i + 1) hok) hrest (fun he => by
    rw [hcut2, he] at hn
    simpa [T.sigL] using hn)
  refine ⟨?_, hrest⟩
  have hW : AtS l (p + (T.sigL k true (ts.take i)).length + (orS k (decide (i = 0))).length) (wrapS (inB k (ts.getD i default).kind) (ts.getD i default).sig) := atS_right (atS_right (atS_left (hcut ▸ hA)))
  have hq : p + (T.sigL k true (ts.take (i + 1))).length = p + (T.sigL k true (ts.take i)).length + (orS k (decide (i = 0))).length + (wrapS (inB k (ts.getD i default).kind) (ts.getD i default).sig).length := by
    rw [sigL_take k ts i hi]; simp only [List.length_append]; omega
  rw [hq] at h5 ⊢
  cases hb : inB k (ts.getD i default).kind with
  | true =>
    rw [hb] at hW h5
    exact raise (atom_wrap (hS i hi) l _ hW) (Nat.zero_le _) (by rw [hm]; split <;> decide) (by rw [hm]; split <;> decide) h5
  | false =>
    rw [hb] at hW h5
    have hs := hS i hi l _ (by simpa [wrapS] using hW) (by simpa [wrapS] using h5)
    refine raise (v := lvB (ts.getD i default)) (by simpa [wrapS] using hs) ?_ (by rw [hm]; split <;> decide) (by rw [hm]; split <;> decide) (by simpa [wrapS] using h5)
    generalize ts.getD i default = t at hb hok1
    cases t with
    | name s => exact Nat.zero_le _
    | times _ _ _ => show 1 ≤ m; rw [hm]; split <;> decide
    | many k' ts' =>
      simp only [T.ok, Bool.and_eq_true, Bool.or_eq_true, decide_eq_true_eq] at hok1
      show (if k' = 2 then 2 else 3) ≤ m
      have hb : inB k k' = false := hb
      unfold inB at hb
      rcases hk with hk | hk
      · subst hk
        rw [if_neg (by decide), if_pos rfl] at hb
        simp at hb
        omega
      · subst hk
        rw [if_pos rfl] at hb
        have := of_decide_eq_false hb
        rw [if_pos (by omega), hm]; decide
mutual
theorem sig_ok : ∀ t : T, t.ok = true → SigOk t
  | .name s, _ => fun l p hp hn => atom_name s l p hp
  | .times lo hi t, h => fun l p hp hn => by
    simp only [T.ok, Bool.and_eq_true] at h
    have A : AtomOk (inB 4 t.kind) t := by
      rcases in4 h.2 with hb | ⟨s, rfl⟩
      · rw [hb]; exact atom_wrap (sig_ok t h.2)
      · exact atom_name s
    simp only [T.sig] at hp ⊢
    have hs := A l p (atS_left hp)
    have hr := atS_right hp
    have h5 := atS_kd hr
    have hlk := atS_one hr
    have := Seg.times p _ t hs h5
    rw [hlk.2.1, hlk.2.2.1] at this
    rw [List.length_append, List.length_singleton, ← Nat.add_assoc]
    exact this
  | .many k ts, h => fun l p hp hn => by
    simp only [T.ok, Bool.and_eq_true, Bool.or_eq_true, decide_eq_true_eq] at h
    have hS := sig_okL ts h.2
    simp only [T.sig] at hp hn ⊢
    have key := fun (m : Nat) (hm : m = if k = 2 then 1 else 2) (i : Nat) (hi : i < ts.length) => kid_seg (i := i) hm h.1.1 h.2 hS hp hn hi
    have hall : (T.sigL k true (ts.take ts.length)) = T.sigL k true ts := by rw [List.take_length]
    rcases h.1.1 with hk | hk
    · subst hk
      have o0 : ∀ b, (orS 2 b).length = 0 := fun b => by unfold orS; rw [if_neg (by simp)]; rfl
      refine .row p _ ts (fun i => p + (T.sigL 2 true (ts.take i)).length) h.1.2 (by simp [T.sigL]) (by simp only [hall]) (fun i hi => ?_)
      have := (key 1 rfl i hi).1
      rw [o0, Nat.add_zero] at this
      exact this
    · subst hk
      refine .choice p _ ts (fun i => p + (T.sigL 3 true (ts.take i)).length + (orS 3 (decide (i = 0))).length) (fun i => p + (T.sigL 3 true (ts.take (i + 1))).length) h.1.2 (by simp [T.sigL, orS]) (by simp only [show ts.length - 1 + 1 = ts.length by omega, hall]) (fun i hi => (key 2 rfl i hi).1) (fun i hi => ?_)
      have hr := (key 2 rfl i (by omega)).2
      have hd : ts.drop (i + 1) = ts.getD (i + 1) default :: ts.drop (i + 1 + 1) := by
        rw [List.getD_eq_getElem?_getD, List.getElem?_eq_getElem hi, List.drop_eq_getElem_cons hi]; rfl
      rw [hd] at hr
      simp only [T.sigL] at hr
      have o1 : orS 3 false = [⟨4, 0, 0, 0, []⟩] := rfl
      rw [o1] at hr
      refine ⟨atS_kd (by simpa using hr), ?_⟩
      show p + _ + (orS 3 (decide (i + 1 = 0))).length = _
      rw [decide_eq_false (by omega)]; rfl
theorem sig_okL : ∀ ts : List T, T.okL ts = true → ∀ i, i < ts.length → SigOk (ts.getD i default)
  | [], _, i, hi => absurd hi (Nat.not_lt_zero _)
  | t :: ts, h, i, hi => by
    simp only [T.okL, Bool.and_eq_true] at h
    cases i with
    | zero => exact sig_ok t h.1
    | succ i => have := sig_okL ts h.2 i (by simpa using hi); simpa using this
end
theorem sig_seg {l : List Sg} {t : T} (h : t.ok = true) (hl : l.length = t.sig.length) (hL : ∀ i, i < l.length → Like (l.getD i default) (t.sig.getD i default)) : Seg l 3 0 l.length t := by
  have h5 : kd l (0 + t.sig.length) ≠ 5 := by rw [kd_out (by omega)]; decide
  have := sig_ok t h l 0 ⟨by omega, fun i hi => by rw [Nat.zero_add]; exact hL i (by omega)⟩ h5
  rw [hl]
  simpa using up3 this h5
end Go.Proofs.YtijpdbjcmnpobaaDoor

