/-
  The signs of a text, by the document: any sign, all signs.
-/
import Derived.Test.YtijpdbjcmnpobaaDoorLx6
import Derived.Test.YtijpdbjcmnpobaaDoorLx4
namespace Go.Proofs.YtijpdbjcmnpobaaDoor
set_option linter.unusedSimpArgs false
set_option linter.unusedVariables false
set_option maxRecDepth 100000
open Go.RowKit

theorem refBegins_h (x : Int) : HPure Tryd.prog 58 [.imm (.int .u8 x)] (boolV (beginZ x)) := by
  refine hpure_of Tryd.func58 rfl (by kernel_rfl) _ _ _ rfl 33 rfl rfl (fun w F => ?_)
  refine hw_seq (fun Nh1 h1 => ?_)
  refine hw_region ?_
  refine hq_ 2 (hop_assign rfl) rfl rfl pre0 rfl rfl ?_
  refine hseq_nil ?_
  refine h1 _ ?_
  refine hw_seq (fun Nh2 h2 => ?_)
  refine hw_region ?_
  refine hq_ 3 (hop_move rfl) rfl rfl pre0 rfl rfl ?_
  refine hq_ 4 (hop_call0 (xs := [_]) (refSmall_h _) ⟨rfl, trivial⟩ ⟨(Fz.eq rfl), trivial⟩) rfl rfl pre0 rfl rfl ?_
  refine hq_ 5 (hop_move rfl) rfl rfl pre0 rfl rfl ?_
  refine hq_g 6 2 5 false _ (fun hb => hop_move rfl) rfl rfl rfl rfl pre0 rfl rfl rfl ?_
  refine hq_g 7 2 5 false _ (fun hb => hop_eql rfl rfl) rfl rfl rfl rfl pre0 rfl rfl rfl ?_
  refine hq_p 8 (hstep_or _ _ rfl rfl rfl) rfl rfl rfl ?_
  refine hq_ 9 (hop_move rfl) rfl rfl pre0 rfl rfl ?_
  refine hq_g 10 6 9 false _ (fun hb => hop_move rfl) rfl rfl rfl rfl pre0 rfl rfl rfl ?_
  refine hq_g 11 6 9 false _ (fun hb => hop_eql rfl rfl) rfl rfl rfl rfl pre0 rfl rfl rfl ?_
  refine hq_p 12 (hstep_or _ _ rfl rfl rfl) rfl rfl rfl ?_
  refine hq_ 13 (hop_move rfl) rfl rfl pre0 rfl rfl ?_
  refine hq_g 14 10 13 false _ (fun hb => hop_move rfl) rfl rfl rfl rfl pre0 rfl rfl rfl ?_
  refine hq_g 15 10 13 false _ (fun hb => hop_eql rfl rfl) rfl rfl rfl rfl pre0 rfl rfl rfl ?_
  refine hq_p 16 (hstep_or _ _ rfl rfl rfl) rfl rfl rfl ?_
  refine hq_ 17 (hop_move rfl) rfl rfl pre0 rfl rfl ?_
  refine hq_g 18 14 17 false _ (fun hb => hop_move rfl) rfl rfl rfl rfl pre0 rfl rfl rfl ?_
  refine hq_g 19 14 17 false _ (fun hb => hop_eql rfl rfl) rfl rfl rfl rfl pre0 rfl rfl rfl ?_
  refine hq_p 20 (hstep_or _ _ rfl rfl rfl) rfl rfl rfl ?_
  refine hq_ 21 (hop_move rfl) rfl rfl pre0 rfl rfl ?_
  refine hq_g 22 18 21 false _ (fun hb => hop_move rfl) rfl rfl rfl rfl pre0 rfl rfl rfl ?_
  refine hq_g 23 18 21 false _ (fun hb => hop_eql rfl rfl) rfl rfl rfl rfl pre0 rfl rfl rfl ?_
  refine hq_p 24 (hstep_or _ _ rfl rfl rfl) rfl rfl rfl ?_
  refine hq_ 25 (hop_move rfl) rfl rfl pre0 rfl rfl ?_
  refine hq_g 26 22 25 false _ (fun hb => hop_move rfl) rfl rfl rfl rfl pre0 rfl rfl rfl ?_
  refine hq_g 27 22 25 false _ (fun hb => hop_eql rfl rfl) rfl rfl rfl rfl pre0 rfl rfl rfl ?_
  refine hq_p 28 (hstep_or _ _ rfl rfl rfl) rfl rfl rfl ?_
  refine hq_ 29 (hop_move rfl) rfl rfl pre0 rfl rfl ?_
  refine hq_g 30 26 29 false _ (fun hb => hop_move rfl) rfl rfl rfl rfl pre0 rfl rfl rfl ?_
  refine hq_g 31 26 29 false _ (fun hb => hop_eql rfl rfl) rfl rfl rfl rfl pre0 rfl rfl rfl ?_
  refine hq_p 32 (hstep_or _ _ rfl rfl rfl) rfl rfl rfl ?_
  refine hq_ 2 (hop_assign rfl) rfl rfl pre0 rfl rfl ?_
  refine hseq_nilU (by rfl) (by simp only [dropUn, slots]; exact rfl) ?_
  refine h2 _ ?_
  refine hw_ret ?_
  refine hq_ret1 rfl (rval_tmp rfl) [] rfl pre0 ?_
  exact Frz.fz
theorem refOne_h (s : List UInt8) (i : Nat) (hs : s.length ≤ 1000000) (hi : i < s.length) : HPure Tryd.prog 59 [strV s, intV i] (oneH (oneF s i)) := by
  refine hpure_of Tryd.func59 rfl (by kernel_rfl) _ _ _ rfl 93 rfl rfl (fun w F => ?_)
  refine hw_seq (fun Nh1 h1 => ?_)
  refine hw_region ?_
  refine hm_1 4 (hop_alloc (id := 4) (sz := 5) zc_40 rfl rfl (nb rfl) (nb rfl)) rfl rfl pre0 rfl rfl (c' := 1) rfl ?_
  refine hq_ 5 (hop_assign rfl) rfl rfl pre0 rfl rfl ?_
  refine hq_ 6 (hop_assign rfl) rfl rfl pre0 rfl rfl ?_
  refine hseq_nil ?_
  refine h1 _ ?_
  refine hw_seq (fun Nh2 h2 => ?_)
  refine hw_region ?_
  refine hq_ 9 (hop_move rfl) rfl rfl pre0 rfl rfl ?_
  refine hq_ 10 (hop_move rfl) rfl rfl pre0 rfl rfl ?_
  refine hq_ 11 (HOp.val (v' := .imm (.int .u8 (bz s i))) (hop_ix_strl (by kernel_rfl) rfl rfl (by omega) (by omega)) (by rw [bz_in hi, Int.toNat_natCast])) rfl rfl pre0 rfl rfl ?_
  refine hq_ 7 (hop_assign rfl) rfl rfl pre0 rfl rfl ?_
  refine hseq_nil ?_
  refine h2 _ ?_
  refine hw_seq (fun Nh3 h3 => ?_)
  refine hw_seq (fun Nh4 h4 => ?_)
  refine hw_region ?_
  refine hq_ 12 (hop_move rfl) rfl rfl pre0 rfl rfl ?_
  refine hq_ 13 (hop_call0 (xs := [_]) (refSmall_h _) ⟨rfl, trivial⟩ ⟨(Fz.eq rfl), trivial⟩) rfl rfl pre0 rfl rfl ?_
  refine hseq_nil ?_
  refine h4 _ ?_
  refine hw_cond _ rfl (fun hc0 => ?_) (fun hc0 => ?_)
  · have hr0 := hc0; (try simp only [hcs, Int.reduceToNat] at hc0)
    refine hw_seq (fun Nh5 h5 => ?_)
    refine hw_region ?_
    refine hq_ 14 (hop_move rfl) rfl rfl pre0 rfl rfl ?_
    refine hq_ 8 (hop_assign rfl) rfl rfl pre0 rfl rfl ?_
    refine hseq_nil ?_
    refine h5 _ ?_
    refine hw_seq (fun Nh6 h6 => ?_)
    refine hw_block ?_
    refine hw_loopc (α := Nat) (fun x c => ⟨93, [(0, .v (strV s)), (1, .v (intV i)), (4, .v (.pt 4 0 0 0)), (8, .v (intV ((i + x : Nat) : Int)))], [(4, ⟨0, 1, 5, 40, 0, sg0⟩)], c⟩) (fun x => x ≤ 12 ∧ i + x ≤ s.length ∧ (∀ j, j < x → alnumZ (bz s (i + j)) = true)) (fun x => 12 - x) (0) (by exact ⟨by omega, by omega, fun j h => absurd h (by omega)⟩) (hsub_of rfl (Nat.le_refl _) (TmSub.cons rfl (Sb.refl _) (TmSub.cons rfl (Sb.refl _) (TmSub.cons rfl (Sb.refl _) (TmSub.cons rfl (Sb.refl _) TmSub.nil)))) (HpSub.cons rfl (OSub.refl _) HpSub.nil)) (fun k c hx NhL7 hL7 => ?_)
    (try dsimp only at hx hL7 ⊢)
    obtain ⟨hk, hik, hal⟩ := hx
    refine hw_seq (fun Nh8 h8 => ?_)
    refine hw_seq (fun Nh9 h9 => ?_)
    refine hw_region ?_
    refine hq_ 15 (hop_move rfl) rfl rfl pre0 rfl rfl ?_
    refine hq_ 16 (hop_move rfl) rfl rfl pre0 rfl rfl ?_
    refine hq_ 17 (hop_len_strl (T := 9) rfl (by kernel_rfl) rfl) rfl rfl pre0 rfl rfl ?_
    refine hq_ 18 (hop_lss rfl rfl) rfl rfl pre0 rfl rfl ?_
    refine hq_ 19 (hop_move rfl) rfl rfl pre0 rfl rfl ?_
    refine hq_g 20 4 19 true _ (fun hb => hop_move rfl) rfl rfl rfl rfl pre0 rfl rfl rfl ?_
    refine hq_g 21 4 19 true _ (fun hb => hop_move rfl) rfl rfl rfl rfl pre0 rfl rfl rfl ?_
    refine hq_g 22 4 19 true _ (fun hb => hop_ix_strl (by kernel_rfl) rfl rfl (by (simp at hb; first | omega | (dsimp only; omega) | (simp <;> omega))) (by (simp at hb; first | omega | (dsimp only; omega) | (simp <;> omega)))) rfl rfl rfl rfl pre0 rfl rfl rfl ?_
    refine hq_g 23 4 19 true _ (fun hb => hop_call0 (xs := [_]) (refSmall_h _) ⟨rfl, trivial⟩ ⟨(Fz.eq rfl), trivial⟩) rfl rfl rfl rfl pre0 rfl rfl rfl ?_
    refine hq_g 24 4 19 true _ (fun hb => hop_move rfl) rfl rfl rfl rfl pre0 rfl rfl rfl ?_
    refine hq_g3 25 9 24 19 true false _ _ (fun hb hb2 => hop_move rfl) rfl rfl rfl rfl rfl pre0 rfl rfl rfl ?_
    refine hq_g3 26 9 24 19 true false _ _ (fun hb hb2 => hop_move rfl) rfl rfl rfl rfl rfl pre0 rfl rfl rfl ?_
    refine hq_g3 27 9 24 19 true false _ _ (fun hb hb2 => hop_ix_strl (by kernel_rfl) rfl rfl (by simp at hb; omega) (by simp at hb2; omega)) rfl rfl rfl rfl rfl pre0 rfl rfl rfl ?_
    refine hq_g3 28 9 24 19 true false _ _ (fun hb hb2 => hop_call0 (xs := [_]) (refDigit_h _) ⟨rfl, trivial⟩ ⟨(Fz.eq rfl), trivial⟩) rfl rfl rfl rfl rfl pre0 rfl rfl rfl ?_
    refine hq_pg 29 (hstep_org (gi := 4) (j := 19) _ _ rfl rfl rfl rfl) rfl rfl rfl rfl ?_
    refine hq_p 30 (hstep_and _ _ rfl rfl rfl) rfl rfl rfl ?_
    refine hseq_nilU (by rfl) (by simp only [dropUn, slots]; exact rfl) ?_
    refine h9 _ ?_
    refine hw_cond _ rfl (fun hc1 => ?_) (fun hc1 => ?_)
    · have hr1 := hc1; (try simp only [hcs, Int.reduceToNat] at hc1)
      have hall : alnumZ (bz s (i + k)) = true := (by have h := hr1; rw [Int.toNat_natCast, bz_alnum] at h; exact h); have hlt : i + k < s.length := bz_lt (fun h => by rw [h] at hall; exact absurd hall (by decide))
      refine hw_skip ?_
      refine h8 _ ?_
      refine hw_block ?_
      refine hw_seq (fun Nh10 h10 => ?_)
      refine hw_seq (fun Nh11 h11 => ?_)
      refine hw_region ?_
      refine hq_ 31 (hop_move rfl) rfl rfl pre0 rfl rfl ?_
      refine hq_ 32 (hop_move rfl) rfl rfl pre0 rfl rfl ?_
      refine hq_ 33 (hop_subi rfl rfl rfl (by omega) (by omega)) rfl rfl pre0 rfl rfl ?_
      refine hq_ 34 (hop_eql rfl rfl) rfl rfl pre0 rfl rfl ?_
      refine hseq_nil ?_
      refine h11 _ ?_
      refine hw_cond _ rfl (fun hc2 => ?_) (fun hc2 => ?_)
      · have hr2 := hc2; (try simp only [hcs, Int.reduceToNat] at hc2)
        refine hw_seq (fun Nh12 h12 => ?_)
        refine hw_region ?_
        refine hq_ 35 (hop_build (hs := []) st_40 rfl rfl trivial) rfl rfl pre0 rfl rfl ?_
        refine hq_ 36 (hop_move rfl) rfl rfl pre0 rfl rfl ?_
        refine hm_s1 (hol_storeW ty_40 rfl rfl rfl rfl) rfl rfl (pre1 rfl) (c' := c + 1) rfl ?_
        refine hq_ 5 (hop_assign rfl) rfl rfl pre0 rfl rfl ?_
        refine hq_ 6 (hop_assign rfl) rfl rfl pre0 rfl rfl ?_
        refine hseq_nil ?_
        refine h12 _ ?_
        refine hw_ret ?_
        refine hq_then_ret ?_
        refine hq_block_ret ?_
        refine hq_then_ret ?_
        refine hq_block_ret ?_
        refine hq_then_ret ?_
        refine hq_then_ret ?_
        refine hq_ret3 rfl (rvl_cell rfl rfl ty_40 (fun h => by first | rfl | cases h) rfl rfl) (rval_tmp rfl) (rval_tmp rfl) [] rfl pre0 ?_
        obtain rfl : k = 12 := (by omega); have e : oneF s i = (sgZ, ((i + 12 : Nat) : Int), 2) := (by unfold oneF; rw [if_pos hc0]; unfold nameF; rw [if_pos (run_eq (Nat.le_refl _) (fun j hj => by rcases Nat.lt_or_ge j 12 with h | h; exact hal j h; obtain rfl : j = 12 := (by omega); exact hall) (fun h => absurd h (by omega)))]); rw [e]; exact fz_t3 (fz_agg5 (by first | exact .imm _ | exact .nil _ _ _ (by decide) _ | exact fz_toks _ | exact fz_mkss _ | exact Frz.fz) (by first | exact .imm _ | exact .nil _ _ _ (by decide) _ | exact fz_toks _ | exact fz_mkss _ | exact Frz.fz) (by first | exact .imm _ | exact .nil _ _ _ (by decide) _ | exact fz_toks _ | exact fz_mkss _ | exact Frz.fz) (by first | exact .imm _ | exact .nil _ _ _ (by decide) _ | exact fz_toks _ | exact fz_mkss _ | exact Frz.fz) (by first | exact .imm _ | exact .nil _ _ _ (by decide) _ | exact fz_toks _ | exact fz_mkss _ | exact Frz.fz)) (.imm _) (.imm _)
      · have hr2 := hc2; (try simp only [hcs, Int.reduceToNat] at hc2)
        refine hw_skip ?_
        refine h10 _ ?_
        refine hw_region ?_
        refine hq_ 37 (hop_move rfl) rfl rfl pre0 rfl rfl ?_
        refine hq_ 38 (HOp.val (v' := intV ((i + (k + 1) : Nat) : Int)) (hop_addi rfl rfl rfl (by omega) (by omega)) (rfl)) rfl rfl pre0 rfl rfl ?_
        refine hq_ 8 (hop_assign rfl) rfl rfl pre0 rfl rfl ?_
        refine hseq_nil ?_
        refine hq_block ?_
        exact hL7 (k + 1) _ _ (by (try dsimp only); exact ⟨by omega, by omega, fun j hj => by rcases Nat.lt_or_ge j k with h | h; exact hal j h; obtain rfl : j = k := (by omega); exact hall⟩) (by (try dsimp only); omega) (hsub_of rfl (Nat.le_refl _) (TmSub.cons rfl (Sb.refl _) (TmSub.cons rfl (Sb.refl _) (TmSub.cons rfl (Sb.refl _) (TmSub.cons rfl (Sb.refl _) TmSub.nil)))) (HpSub.cons rfl (OSub.refl _) HpSub.nil))
    · have hr1 := hc1; (try simp only [hcs, Int.reduceToNat] at hc1)
      have hno : alnumZ (bz s (i + k)) = false := (by have h := hr1; rw [Int.toNat_natCast, bz_alnum] at h; exact h)
      refine hw_exit ?_
      refine hq_then_exit ?_
      refine hq_then_exit ?_
      refine hq_block_here ?_
      refine h6 _ ?_
      refine hw_seq (fun Nh13 h13 => ?_)
      refine hw_region ?_
      refine hq_ 39 (hop_move rfl) rfl rfl pre0 rfl rfl ?_
      refine hq_ 40 (hop_move rfl) rfl rfl pre0 rfl rfl ?_
      refine hq_ 41 (hop_move rfl) rfl rfl pre0 rfl rfl ?_
      refine hq_ 42 (hop_move rfl) rfl rfl pre0 rfl rfl ?_
      refine hq_ 43 (hop_cut_strl (by kernel_rfl) rfl (.inr ⟨_, _, rfl, rfl⟩) (.inr ⟨_, _, rfl, rfl⟩) (by omega) (by omega) (by omega)) rfl rfl pre0 rfl rfl ?_
      refine hq_ 44 (hop_build (hs := [(0, 1, _), (1, 1, _), (4, 1, _)]) st_40 rfl rfl ⟨rfl, rfl, rfl, rfl, rfl, ⟨rfl, rfl, rfl, rfl, rfl, ⟨rfl, rfl, rfl, rfl, rfl, trivial⟩⟩⟩) rfl rfl pre0 rfl rfl ?_
      refine hq_ 45 (hop_move rfl) rfl rfl pre0 rfl rfl ?_
      refine hm_s1 (hol_storeW ty_40 rfl rfl rfl rfl) rfl rfl (pre1 rfl) (c' := c + 1) rfl ?_
      refine hq_ 5 (hop_assign rfl) rfl rfl pre0 rfl rfl ?_
      refine hq_ 6 (hop_assign rfl) rfl rfl pre0 rfl rfl ?_
      refine hseq_nil ?_
      refine h13 _ ?_
      refine hw_ret ?_
      refine hq_then_ret ?_
      refine hq_ret3 rfl (rvl_cell rfl rfl ty_40 (fun h => by first | rfl | cases h) rfl rfl) (rval_tmp rfl) (rval_tmp rfl) [] rfl pre0 ?_
      have e : oneF s i = (⟨1, i, 0, 0, (s.drop i).take (i + k - i)⟩, ((i + k : Nat) : Int), 0) := (by unfold oneF; rw [if_pos hc0]; unfold nameF; rw [run_eq (f := 13) (show k ≤ 13 by omega) hal (fun _ => hno), if_neg (show ¬ k = 13 by omega), show i + k - i = k by omega]); rw [e]; exact fz_t3 (fz_agg5 (by first | exact .imm _ | exact .nil _ _ _ (by decide) _ | exact fz_toks _ | exact fz_mkss _ | exact Frz.fz) (by first | exact .imm _ | exact .nil _ _ _ (by decide) _ | exact fz_toks _ | exact fz_mkss _ | exact Frz.fz) (by first | exact .imm _ | exact .nil _ _ _ (by decide) _ | exact fz_toks _ | exact fz_mkss _ | exact Frz.fz) (by first | exact .imm _ | exact .nil _ _ _ (by decide) _ | exact fz_toks _ | exact fz_mkss _ | exact Frz.fz) (by first | exact .imm _ | exact .nil _ _ _ (by decide) _ | exact fz_toks _ | exact fz_mkss _ | exact Frz.fz)) (.imm _) (.imm _)
  · have hr0 := hc0; (try simp only [hcs, Int.reduceToNat] at hc0)
    have h0 : ¬ smallZ (bz s i) = true := (by rw [hc0]; decide)
    refine hw_skip ?_
    refine h3 _ ?_
    refine hw_seq (fun Nh14 h14 => ?_)
    refine hw_seq (fun Nh15 h15 => ?_)
    refine hw_region ?_
    refine hq_ 46 (hop_move rfl) rfl rfl pre0 rfl rfl ?_
    refine hseq_nil ?_
    refine h15 _ ?_
    refine hw_block ?_
    refine hw_seq (fun Nh16 h16 => ?_)
    refine hw_region ?_
    refine hq_ 48 (hop_eql rfl rfl) rfl rfl pre0 rfl rfl ?_
    refine hq_ 47 (hop_assign rfl) rfl rfl pre0 rfl rfl ?_
    refine hseq_nil ?_
    refine h16 _ ?_
    refine hw_cond _ rfl (fun hc3 => ?_) (fun hc3 => ?_)
    · have hr3 := hc3; (try simp only [hcs, Int.reduceToNat] at hc3)
      refine hw_seq (fun Nh17 h17 => ?_)
      refine hw_region ?_
      refine hq_ 49 (hop_move rfl) rfl rfl pre0 rfl rfl ?_
      refine hq_ 50 (hop_build (hs := [(0, 1, _), (1, 1, _)]) st_40 rfl rfl ⟨rfl, rfl, rfl, rfl, rfl, ⟨rfl, rfl, rfl, rfl, rfl, trivial⟩⟩) rfl rfl pre0 rfl rfl ?_
      refine hq_ 51 (hop_move rfl) rfl rfl pre0 rfl rfl ?_
      refine hq_ 52 (hop_addi rfl rfl rfl (by omega) (by omega)) rfl rfl pre0 rfl rfl ?_
      refine hm_s1 (hol_storeW ty_40 rfl rfl rfl rfl) rfl rfl (pre1 rfl) (c' := 2) rfl ?_
      refine hq_ 5 (hop_assign rfl) rfl rfl pre0 rfl rfl ?_
      refine hq_ 6 (hop_assign rfl) rfl rfl pre0 rfl rfl ?_
      refine hseq_nil ?_
      refine h17 _ ?_
      refine hw_ret ?_
      refine hq_block_ret ?_
      refine hq_then_ret ?_
      refine hq_ret3 rfl (rvl_cell rfl rfl ty_40 (fun h => by first | rfl | cases h) rfl rfl) (rval_tmp rfl) (rval_tmp rfl) [] rfl pre0 ?_
      have e : oneF s i = (⟨2, i, 0, 0, []⟩, ((i + 1 : Nat) : Int), 0) := (by unfold oneF; rw [if_neg h0, if_pos hc3]); rw [e]; exact fz_t3 (fz_agg5 (by first | exact .imm _ | exact .nil _ _ _ (by decide) _ | exact fz_toks _ | exact fz_mkss _ | exact Frz.fz) (by first | exact .imm _ | exact .nil _ _ _ (by decide) _ | exact fz_toks _ | exact fz_mkss _ | exact Frz.fz) (by first | exact .imm _ | exact .nil _ _ _ (by decide) _ | exact fz_toks _ | exact fz_mkss _ | exact Frz.fz) (by first | exact .imm _ | exact .nil _ _ _ (by decide) _ | exact fz_toks _ | exact fz_mkss _ | exact Frz.fz) (by first | exact .imm _ | exact .nil _ _ _ (by decide) _ | exact fz_toks _ | exact fz_mkss _ | exact Frz.fz)) (.imm _) (.imm _)
    · have hr3 := hc3; (try simp only [hcs, Int.reduceToNat] at hc3)
      refine hw_seq (fun Nh18 h18 => ?_)
      refine hw_region ?_
      refine hq_ 54 (hop_eql rfl rfl) rfl rfl pre0 rfl rfl ?_
      refine hq_ 53 (hop_assign rfl) rfl rfl pre0 rfl rfl ?_
      refine hseq_nil ?_
      refine h18 _ ?_
      refine hw_cond _ rfl (fun hc4 => ?_) (fun hc4 => ?_)
      · have hr4 := hc4; (try simp only [hcs, Int.reduceToNat] at hc4)
        refine hw_seq (fun Nh19 h19 => ?_)
        refine hw_region ?_
        refine hq_ 55 (hop_move rfl) rfl rfl pre0 rfl rfl ?_
        refine hq_ 56 (hop_build (hs := [(0, 1, _), (1, 1, _)]) st_40 rfl rfl ⟨rfl, rfl, rfl, rfl, rfl, ⟨rfl, rfl, rfl, rfl, rfl, trivial⟩⟩) rfl rfl pre0 rfl rfl ?_
        refine hq_ 57 (hop_move rfl) rfl rfl pre0 rfl rfl ?_
        refine hq_ 58 (hop_addi rfl rfl rfl (by omega) (by omega)) rfl rfl pre0 rfl rfl ?_
        refine hm_s1 (hol_storeW ty_40 rfl rfl rfl rfl) rfl rfl (pre1 rfl) (c' := 2) rfl ?_
        refine hq_ 5 (hop_assign rfl) rfl rfl pre0 rfl rfl ?_
        refine hq_ 6 (hop_assign rfl) rfl rfl pre0 rfl rfl ?_
        refine hseq_nil ?_
        refine h19 _ ?_
        refine hw_ret ?_
        refine hq_block_ret ?_
        refine hq_then_ret ?_
        refine hq_ret3 rfl (rvl_cell rfl rfl ty_40 (fun h => by first | rfl | cases h) rfl rfl) (rval_tmp rfl) (rval_tmp rfl) [] rfl pre0 ?_
        have e : oneF s i = (⟨3, i, 0, 0, []⟩, ((i + 1 : Nat) : Int), 0) := (by unfold oneF; rw [if_neg h0, if_neg hc3, if_pos hc4]); rw [e]; exact fz_t3 (fz_agg5 (by first | exact .imm _ | exact .nil _ _ _ (by decide) _ | exact fz_toks _ | exact fz_mkss _ | exact Frz.fz) (by first | exact .imm _ | exact .nil _ _ _ (by decide) _ | exact fz_toks _ | exact fz_mkss _ | exact Frz.fz) (by first | exact .imm _ | exact .nil _ _ _ (by decide) _ | exact fz_toks _ | exact fz_mkss _ | exact Frz.fz) (by first | exact .imm _ | exact .nil _ _ _ (by decide) _ | exact fz_toks _ | exact fz_mkss _ | exact Frz.fz) (by first | exact .imm _ | exact .nil _ _ _ (by decide) _ | exact fz_toks _ | exact fz_mkss _ | exact Frz.fz)) (.imm _) (.imm _)
      · have hr4 := hc4; (try simp only [hcs, Int.reduceToNat] at hc4)
        refine hw_seq (fun Nh20 h20 => ?_)
        refine hw_region ?_
        refine hq_ 60 (hop_eql rfl rfl) rfl rfl pre0 rfl rfl ?_
        refine hq_ 59 (hop_assign rfl) rfl rfl pre0 rfl rfl ?_
        refine hseq_nil ?_
        refine h20 _ ?_
        refine hw_cond _ rfl (fun hc5 => ?_) (fun hc5 => ?_)
        · have hr5 := hc5; (try simp only [hcs, Int.reduceToNat] at hc5)
          refine hw_seq (fun Nh21 h21 => ?_)
          refine hw_region ?_
          refine hq_ 61 (hop_move rfl) rfl rfl pre0 rfl rfl ?_
          refine hq_ 62 (hop_build (hs := [(0, 1, _), (1, 1, _)]) st_40 rfl rfl ⟨rfl, rfl, rfl, rfl, rfl, ⟨rfl, rfl, rfl, rfl, rfl, trivial⟩⟩) rfl rfl pre0 rfl rfl ?_
          refine hq_ 63 (hop_move rfl) rfl rfl pre0 rfl rfl ?_
          refine hq_ 64 (hop_addi rfl rfl rfl (by omega) (by omega)) rfl rfl pre0 rfl rfl ?_
          refine hm_s1 (hol_storeW ty_40 rfl rfl rfl rfl) rfl rfl (pre1 rfl) (c' := 2) rfl ?_
          refine hq_ 5 (hop_assign rfl) rfl rfl pre0 rfl rfl ?_
          refine hq_ 6 (hop_assign rfl) rfl rfl pre0 rfl rfl ?_
          refine hseq_nil ?_
          refine h21 _ ?_
          refine hw_ret ?_
          refine hq_block_ret ?_
          refine hq_then_ret ?_
          refine hq_ret3 rfl (rvl_cell rfl rfl ty_40 (fun h => by first | rfl | cases h) rfl rfl) (rval_tmp rfl) (rval_tmp rfl) [] rfl pre0 ?_
          have e : oneF s i = (⟨4, i, 0, 0, []⟩, ((i + 1 : Nat) : Int), 0) := (by unfold oneF; rw [if_neg h0, if_neg hc3, if_neg hc4, if_pos hc5]); rw [e]; exact fz_t3 (fz_agg5 (by first | exact .imm _ | exact .nil _ _ _ (by decide) _ | exact fz_toks _ | exact fz_mkss _ | exact Frz.fz) (by first | exact .imm _ | exact .nil _ _ _ (by decide) _ | exact fz_toks _ | exact fz_mkss _ | exact Frz.fz) (by first | exact .imm _ | exact .nil _ _ _ (by decide) _ | exact fz_toks _ | exact fz_mkss _ | exact Frz.fz) (by first | exact .imm _ | exact .nil _ _ _ (by decide) _ | exact fz_toks _ | exact fz_mkss _ | exact Frz.fz) (by first | exact .imm _ | exact .nil _ _ _ (by decide) _ | exact fz_toks _ | exact fz_mkss _ | exact Frz.fz)) (.imm _) (.imm _)
        · have hr5 := hc5; (try simp only [hcs, Int.reduceToNat] at hc5)
          refine hw_seq (fun Nh22 h22 => ?_)
          refine hw_region ?_
          refine hq_ 66 (hop_eql rfl rfl) rfl rfl pre0 rfl rfl ?_
          refine hq_ 65 (hop_assign rfl) rfl rfl pre0 rfl rfl ?_
          refine hseq_nil ?_
          refine h22 _ ?_
          refine hw_cond _ rfl (fun hc6 => ?_) (fun hc6 => ?_)
          · have hr6 := hc6; (try simp only [hcs, Int.reduceToNat] at hc6)
            refine hw_seq (fun Nh23 h23 => ?_)
            refine hw_region ?_
            refine hq_ 67 (hop_move rfl) rfl rfl pre0 rfl rfl ?_
            refine hq_ 68 (hop_build (hs := [(0, 1, _), (1, 1, _), (3, 1, _)]) st_40 rfl rfl ⟨rfl, rfl, rfl, rfl, rfl, ⟨rfl, rfl, rfl, rfl, rfl, ⟨rfl, rfl, rfl, rfl, rfl, trivial⟩⟩⟩) rfl rfl pre0 rfl rfl ?_
            refine hq_ 69 (hop_move rfl) rfl rfl pre0 rfl rfl ?_
            refine hq_ 70 (hop_addi rfl rfl rfl (by omega) (by omega)) rfl rfl pre0 rfl rfl ?_
            refine hm_s1 (hol_storeW ty_40 rfl rfl rfl rfl) rfl rfl (pre1 rfl) (c' := 2) rfl ?_
            refine hq_ 5 (hop_assign rfl) rfl rfl pre0 rfl rfl ?_
            refine hq_ 6 (hop_assign rfl) rfl rfl pre0 rfl rfl ?_
            refine hseq_nil ?_
            refine h23 _ ?_
            refine hw_ret ?_
            refine hq_block_ret ?_
            refine hq_then_ret ?_
            refine hq_ret3 rfl (rvl_cell rfl rfl ty_40 (fun h => by first | rfl | cases h) rfl rfl) (rval_tmp rfl) (rval_tmp rfl) [] rfl pre0 ?_
            have e : oneF s i = (⟨5, i, 0, -1, []⟩, ((i + 1 : Nat) : Int), 0) := (by unfold oneF; rw [if_neg h0, if_neg hc3, if_neg hc4, if_neg hc5, if_pos hc6]); rw [e]; exact fz_t3 (fz_agg5 (by first | exact .imm _ | exact .nil _ _ _ (by decide) _ | exact fz_toks _ | exact fz_mkss _ | exact Frz.fz) (by first | exact .imm _ | exact .nil _ _ _ (by decide) _ | exact fz_toks _ | exact fz_mkss _ | exact Frz.fz) (by first | exact .imm _ | exact .nil _ _ _ (by decide) _ | exact fz_toks _ | exact fz_mkss _ | exact Frz.fz) (by first | exact .imm _ | exact .nil _ _ _ (by decide) _ | exact fz_toks _ | exact fz_mkss _ | exact Frz.fz) (by first | exact .imm _ | exact .nil _ _ _ (by decide) _ | exact fz_toks _ | exact fz_mkss _ | exact Frz.fz)) (.imm _) (.imm _)
          · have hr6 := hc6; (try simp only [hcs, Int.reduceToNat] at hc6)
            refine hw_seq (fun Nh24 h24 => ?_)
            refine hw_region ?_
            refine hq_ 72 (hop_eql rfl rfl) rfl rfl pre0 rfl rfl ?_
            refine hq_ 71 (hop_assign rfl) rfl rfl pre0 rfl rfl ?_
            refine hseq_nil ?_
            refine h24 _ ?_
            refine hw_cond _ rfl (fun hc7 => ?_) (fun hc7 => ?_)
            · have hr7 := hc7; (try simp only [hcs, Int.reduceToNat] at hc7)
              refine hw_seq (fun Nh25 h25 => ?_)
              refine hw_region ?_
              refine hq_ 73 (hop_move rfl) rfl rfl pre0 rfl rfl ?_
              refine hq_ 74 (hop_build (hs := [(0, 1, _), (1, 1, _), (2, 1, _), (3, 1, _)]) st_40 rfl rfl ⟨rfl, rfl, rfl, rfl, rfl, ⟨rfl, rfl, rfl, rfl, rfl, ⟨rfl, rfl, rfl, rfl, rfl, ⟨rfl, rfl, rfl, rfl, rfl, trivial⟩⟩⟩⟩) rfl rfl pre0 rfl rfl ?_
              refine hq_ 75 (hop_move rfl) rfl rfl pre0 rfl rfl ?_
              refine hq_ 76 (hop_addi rfl rfl rfl (by omega) (by omega)) rfl rfl pre0 rfl rfl ?_
              refine hm_s1 (hol_storeW ty_40 rfl rfl rfl rfl) rfl rfl (pre1 rfl) (c' := 2) rfl ?_
              refine hq_ 5 (hop_assign rfl) rfl rfl pre0 rfl rfl ?_
              refine hq_ 6 (hop_assign rfl) rfl rfl pre0 rfl rfl ?_
              refine hseq_nil ?_
              refine h25 _ ?_
              refine hw_ret ?_
              refine hq_block_ret ?_
              refine hq_then_ret ?_
              refine hq_ret3 rfl (rvl_cell rfl rfl ty_40 (fun h => by first | rfl | cases h) rfl rfl) (rval_tmp rfl) (rval_tmp rfl) [] rfl pre0 ?_
              have e : oneF s i = (⟨5, i, 1, -1, []⟩, ((i + 1 : Nat) : Int), 0) := (by unfold oneF; rw [if_neg h0, if_neg hc3, if_neg hc4, if_neg hc5, if_neg hc6, if_pos hc7]); rw [e]; exact fz_t3 (fz_agg5 (by first | exact .imm _ | exact .nil _ _ _ (by decide) _ | exact fz_toks _ | exact fz_mkss _ | exact Frz.fz) (by first | exact .imm _ | exact .nil _ _ _ (by decide) _ | exact fz_toks _ | exact fz_mkss _ | exact Frz.fz) (by first | exact .imm _ | exact .nil _ _ _ (by decide) _ | exact fz_toks _ | exact fz_mkss _ | exact Frz.fz) (by first | exact .imm _ | exact .nil _ _ _ (by decide) _ | exact fz_toks _ | exact fz_mkss _ | exact Frz.fz) (by first | exact .imm _ | exact .nil _ _ _ (by decide) _ | exact fz_toks _ | exact fz_mkss _ | exact Frz.fz)) (.imm _) (.imm _)
            · have hr7 := hc7; (try simp only [hcs, Int.reduceToNat] at hc7)
              refine hw_seq (fun Nh26 h26 => ?_)
              refine hw_region ?_
              refine hq_ 78 (hop_eql rfl rfl) rfl rfl pre0 rfl rfl ?_
              refine hq_ 77 (hop_assign rfl) rfl rfl pre0 rfl rfl ?_
              refine hseq_nil ?_
              refine h26 _ ?_
              refine hw_cond _ rfl (fun hc8 => ?_) (fun hc8 => ?_)
              · have hr8 := hc8; (try simp only [hcs, Int.reduceToNat] at hc8)
                refine hw_seq (fun Nh27 h27 => ?_)
                refine hw_region ?_
                refine hq_ 79 (hop_move rfl) rfl rfl pre0 rfl rfl ?_
                refine hq_ 80 (hop_build (hs := [(0, 1, _), (1, 1, _), (3, 1, _)]) st_40 rfl rfl ⟨rfl, rfl, rfl, rfl, rfl, ⟨rfl, rfl, rfl, rfl, rfl, ⟨rfl, rfl, rfl, rfl, rfl, trivial⟩⟩⟩) rfl rfl pre0 rfl rfl ?_
                refine hq_ 81 (hop_move rfl) rfl rfl pre0 rfl rfl ?_
                refine hq_ 82 (hop_addi rfl rfl rfl (by omega) (by omega)) rfl rfl pre0 rfl rfl ?_
                refine hm_s1 (hol_storeW ty_40 rfl rfl rfl rfl) rfl rfl (pre1 rfl) (c' := 2) rfl ?_
                refine hq_ 5 (hop_assign rfl) rfl rfl pre0 rfl rfl ?_
                refine hq_ 6 (hop_assign rfl) rfl rfl pre0 rfl rfl ?_
                refine hseq_nil ?_
                refine h27 _ ?_
                refine hw_ret ?_
                refine hq_block_ret ?_
                refine hq_then_ret ?_
                refine hq_ret3 rfl (rvl_cell rfl rfl ty_40 (fun h => by first | rfl | cases h) rfl rfl) (rval_tmp rfl) (rval_tmp rfl) [] rfl pre0 ?_
                have e : oneF s i = (⟨5, i, 0, 1, []⟩, ((i + 1 : Nat) : Int), 0) := (by unfold oneF; rw [if_neg h0, if_neg hc3, if_neg hc4, if_neg hc5, if_neg hc6, if_neg hc7, if_pos hc8]); rw [e]; exact fz_t3 (fz_agg5 (by first | exact .imm _ | exact .nil _ _ _ (by decide) _ | exact fz_toks _ | exact fz_mkss _ | exact Frz.fz) (by first | exact .imm _ | exact .nil _ _ _ (by decide) _ | exact fz_toks _ | exact fz_mkss _ | exact Frz.fz) (by first | exact .imm _ | exact .nil _ _ _ (by decide) _ | exact fz_toks _ | exact fz_mkss _ | exact Frz.fz) (by first | exact .imm _ | exact .nil _ _ _ (by decide) _ | exact fz_toks _ | exact fz_mkss _ | exact Frz.fz) (by first | exact .imm _ | exact .nil _ _ _ (by decide) _ | exact fz_toks _ | exact fz_mkss _ | exact Frz.fz)) (.imm _) (.imm _)
              · have hr8 := hc8; (try simp only [hcs, Int.reduceToNat] at hc8)
                refine hw_seq (fun Nh28 h28 => ?_)
                refine hw_region ?_
                refine hq_ 84 (hop_eql rfl rfl) rfl rfl pre0 rfl rfl ?_
                refine hq_ 83 (hop_assign rfl) rfl rfl pre0 rfl rfl ?_
                refine hseq_nil ?_
                refine h28 _ ?_
                refine hw_cond _ rfl (fun hc9 => ?_) (fun hc9 => ?_)
                · have hr9 := hc9; (try simp only [hcs, Int.reduceToNat] at hc9)
                  refine hw_seq (fun Nh29 h29 => ?_)
                  refine hw_region ?_
                  refine hq_ 85 (hop_move rfl) rfl rfl pre0 rfl rfl ?_
                  refine hq_ 86 (hop_move rfl) rfl rfl pre0 rfl rfl ?_
                  refine hq_ 87 (hop_call0 (xs := [_, _]) (refCount_h s i hs hi) ⟨rfl, ⟨rfl, trivial⟩⟩ ⟨(Fz.eq rfl), ⟨(Fz.eq rfl), trivial⟩⟩) rfl rfl pre0 rfl rfl ?_
                  refine hq_ 88 (hop_extract rfl rfl) rfl rfl pre0 rfl rfl ?_
                  refine hq_ 89 (hop_extract rfl rfl) rfl rfl pre0 rfl rfl ?_
                  refine hq_ 90 (hop_extract rfl rfl) rfl rfl pre0 rfl rfl ?_
                  refine hm_s1 (hol_storeW ty_40 rfl rfl rfl rfl) rfl rfl (pre1 rfl) (c' := 2) rfl ?_
                  refine hq_ 5 (hop_assign rfl) rfl rfl pre0 rfl rfl ?_
                  refine hq_ 6 (hop_assign rfl) rfl rfl pre0 rfl rfl ?_
                  refine hseq_nil ?_
                  refine h29 _ ?_
                  refine hw_ret ?_
                  refine hq_block_ret ?_
                  refine hq_then_ret ?_
                  refine hq_ret3 rfl (rvl_cell rfl rfl ty_40 (fun h => by first | rfl | cases h) rfl rfl) (rval_tmp rfl) (rval_tmp rfl) [] rfl pre0 ?_
                  have e : oneF s i = countF s i := (by unfold oneF; rw [if_neg h0, if_neg hc3, if_neg hc4, if_neg hc5, if_neg hc6, if_neg hc7, if_neg hc8, if_pos hc9]); rw [e]; exact fz_t3 (fz_agg5 (by first | exact .imm _ | exact .nil _ _ _ (by decide) _ | exact fz_toks _ | exact fz_mkss _ | exact Frz.fz) (by first | exact .imm _ | exact .nil _ _ _ (by decide) _ | exact fz_toks _ | exact fz_mkss _ | exact Frz.fz) (by first | exact .imm _ | exact .nil _ _ _ (by decide) _ | exact fz_toks _ | exact fz_mkss _ | exact Frz.fz) (by first | exact .imm _ | exact .nil _ _ _ (by decide) _ | exact fz_toks _ | exact fz_mkss _ | exact Frz.fz) (by first | exact .imm _ | exact .nil _ _ _ (by decide) _ | exact fz_toks _ | exact fz_mkss _ | exact Frz.fz)) (.imm _) (.imm _)
                · have hr9 := hc9; (try simp only [hcs, Int.reduceToNat] at hc9)
                  refine hw_skip ?_
                  refine hq_block ?_
                  refine h14 _ ?_
                  refine hw_seq (fun Nh30 h30 => ?_)
                  refine hw_region ?_
                  refine hq_ 91 (hop_build (hs := []) st_40 rfl rfl trivial) rfl rfl pre0 rfl rfl ?_
                  refine hq_ 92 (hop_move rfl) rfl rfl pre0 rfl rfl ?_
                  refine hm_s1 (hol_storeW ty_40 rfl rfl rfl rfl) rfl rfl (pre1 rfl) (c' := 2) rfl ?_
                  refine hq_ 5 (hop_assign rfl) rfl rfl pre0 rfl rfl ?_
                  refine hq_ 6 (hop_assign rfl) rfl rfl pre0 rfl rfl ?_
                  refine hseq_nil ?_
                  refine h30 _ ?_
                  refine hw_ret ?_
                  refine hq_ret3 rfl (rvl_cell rfl rfl ty_40 (fun h => by first | rfl | cases h) rfl rfl) (rval_tmp rfl) (rval_tmp rfl) [] rfl pre0 ?_
                  have e : oneF s i = (sgZ, (i : Int), 2) := (by unfold oneF; rw [if_neg h0, if_neg hc3, if_neg hc4, if_neg hc5, if_neg hc6, if_neg hc7, if_neg hc8, if_neg hc9]); rw [e]; exact fz_t3 (fz_agg5 (by first | exact .imm _ | exact .nil _ _ _ (by decide) _ | exact fz_toks _ | exact fz_mkss _ | exact Frz.fz) (by first | exact .imm _ | exact .nil _ _ _ (by decide) _ | exact fz_toks _ | exact fz_mkss _ | exact Frz.fz) (by first | exact .imm _ | exact .nil _ _ _ (by decide) _ | exact fz_toks _ | exact fz_mkss _ | exact Frz.fz) (by first | exact .imm _ | exact .nil _ _ _ (by decide) _ | exact fz_toks _ | exact fz_mkss _ | exact Frz.fz) (by first | exact .imm _ | exact .nil _ _ _ (by decide) _ | exact fz_toks _ | exact fz_mkss _ | exact Frz.fz)) (.imm _) (.imm _)
theorem sb_sg {f : Nat → HV} (x : Sg) (h0 : Sb (f 0) (sgF x 0)) (h1 : Sb (f 1) (sgF x 1)) (h2 : Sb (f 2) (sgF x 2)) (h3 : Sb (f 3) (sgF x 3)) (h4 : Sb (f 4) (sgF x 4)) : ∀ j, j < 5 → Sb (f j) (sgF x j) := fun j hj => by
  match j, hj with
  | 0, _ => exact h0
  | 1, _ => exact h1
  | 2, _ => exact h2
  | 3, _ => exact h3
  | 4, _ => exact h4
theorem sg_fz7 {sh : List (Nat × HObj)} (x : Sg) (j : Nat) : Fz sh (sgF x j) (sgF x j) := by
  match j with
  | 0 => exact .imm _
  | 1 => exact .imm _
  | 2 => exact .imm _
  | 3 => exact .imm _
  | j + 4 => exact .imm _
theorem refLex_h (s : List UInt8) (hs : s.length ≤ 1000000) : HPure Tryd.prog 23 [strV s] (lexH (lexO (lexV s))) := by
  have hV := lexV_at s
  refine hpure_of Tryd.func23 rfl (by kernel_rfl) _ _ _ rfl 47 rfl rfl (fun w F => ?_)
  refine hw_seq (fun Nh1 h1 => ?_)
  refine hw_region ?_
  refine hq_ 2 (hop_assign rfl) rfl rfl pre0 rfl rfl ?_
  refine hq_ 3 (hop_assign rfl) rfl rfl pre0 rfl rfl ?_
  refine hq_ 4 (hop_assign rfl) rfl rfl pre0 rfl rfl ?_
  refine hseq_nil ?_
  refine h1 _ ?_
  refine hw_seq (fun Nh2 h2 => ?_)
  refine hw_region ?_
  refine hq_ 5 (hop_assign rfl) rfl rfl pre0 rfl rfl ?_
  refine hseq_nil ?_
  refine h2 _ ?_
  refine hw_seq (fun Nh3 h3 => ?_)
  refine hw_seq (fun Nh4 h4 => ?_)
  refine hw_region ?_
  refine hq_ 6 (hop_assign rfl) rfl rfl pre0 rfl rfl ?_
  refine hseq_nil ?_
  refine h4 _ ?_
  refine hw_block ?_
  refine hw_own 5 5 5 40 ((sgsF [])) rfl (by decide) rfl (c' := 1) rfl ?_
  refine hw_loopc (α := Nat × List Sg × Nat × Nat) (fun x c => ⟨47, [(0, .v (strV s)), (6, .v (intV x.1)), (5, .v (.os 5 x.2.2.1 0 x.2.2.2))], [(5, ⟨x.2.2.1, x.2.2.2, 5, 40, 0, sgsF x.2.1⟩)], c⟩) (fun x => x.1 ≤ s.length ∧ x.2.1.length ≤ 200 ∧ x.2.2.2 = x.2.1.length ∧ lexAt s x.1 x.2.1 = lexV s) (fun x => s.length - x.1) ((0, [], 0, 0)) (by exact ⟨Nat.zero_le _, Nat.zero_le _, rfl, hV⟩) (hsub_of rfl (Nat.le_refl _) (TmSub.cons rfl (Sb.refl _) (TmSub.cons rfl (Sb.refl _) (TmSub.cons rfl (Sb.refl _) TmSub.nil))) (HpSub.cons rfl (OSub.refl _) HpSub.nil)) (fun x c hx NhL5 hL5 => ?_)
  revert hx hL5; obtain ⟨i, out, gl, n⟩ := x; intro hx hL5; dsimp only at hx hL5 ⊢
  obtain ⟨hi, hol, hn, hL⟩ := hx
  refine hw_seq (fun Nh6 h6 => ?_)
  refine hw_seq (fun Nh7 h7 => ?_)
  refine hw_region ?_
  refine hq_ 10 (hop_move rfl) rfl rfl pre0 rfl rfl ?_
  refine hq_ 11 (hop_move rfl) rfl rfl pre0 rfl rfl ?_
  refine hq_ 12 (hop_len_strl (T := 9) rfl (by kernel_rfl) rfl) rfl rfl pre0 rfl rfl ?_
  refine hq_ 13 (hop_lss rfl rfl) rfl rfl pre0 rfl rfl ?_
  refine hseq_nil ?_
  refine h7 _ ?_
  refine hw_cond _ rfl (fun hc0 => ?_) (fun hc0 => ?_)
  · have hr0 := hc0; (try simp only [hcs, Int.reduceToNat] at hc0)
    have hil : i < s.length := (by omega)
    refine hw_skip ?_
    refine h6 _ ?_
    refine hw_block ?_
    refine hw_seq (fun Nh8 h8 => ?_)
    refine hw_seq (fun Nh9 h9 => ?_)
    refine hw_region ?_
    refine hq_ 14 (hop_move rfl) rfl rfl pre0 rfl rfl ?_
    refine hq_ 15 (hop_move rfl) rfl rfl pre0 rfl rfl ?_
    refine hq_ 16 (HOp.val (v' := .imm (.int .u8 (bz s i))) (hop_ix_strl (by kernel_rfl) rfl rfl (by omega) (by omega)) (by rw [bz_in hil, Int.toNat_natCast])) rfl rfl pre0 rfl rfl ?_
    refine hq_ 17 (hop_eql rfl rfl) rfl rfl pre0 rfl rfl ?_
    refine hseq_nil ?_
    refine h9 _ ?_
    refine hw_cond _ rfl (fun hc1 => ?_) (fun hc1 => ?_)
    · have hr1 := hc1; (try simp only [hcs, Int.reduceToNat] at hc1)
      refine hw_seq (fun Nh10 h10 => ?_)
      refine hw_region ?_
      refine hq_ 18 (hop_move rfl) rfl rfl pre0 rfl rfl ?_
      refine hq_ 19 (HOp.val (v' := intV ((i + 1 : Nat) : Int)) (hop_addi rfl rfl rfl (by omega) (by omega)) (rfl)) rfl rfl pre0 rfl rfl ?_
      refine hq_ 6 (hop_assign rfl) rfl rfl pre0 rfl rfl ?_
      refine hseq_nil ?_
      refine h10 _ ?_
      refine hw_exit ?_
      refine hq_then_exit ?_
      refine hq_block_here ?_
      exact hL5 ((i + 1, out, gl, n)) _ _ (by (try dsimp only); exact ⟨hil, hol, hn, by rw [← lexAt_sp hil hc1]; exact hL⟩) (by (try dsimp only); omega) (hsub_of rfl (Nat.le_refl _) (TmSub.cons rfl (Sb.refl _) (TmSub.cons rfl (Sb.refl _) (TmSub.cons rfl (Sb.refl _) TmSub.nil))) (HpSub.cons rfl (OSub.refl _) HpSub.nil))
    · have hr1 := hc1; (try simp only [hcs, Int.reduceToNat] at hc1)
      refine hw_skip ?_
      refine h8 _ ?_
      refine hw_seq (fun Nh11 h11 => ?_)
      refine hw_seq (fun Nh12 h12 => ?_)
      refine hw_region ?_
      refine hq_ 20 (hop_move rfl) rfl rfl pre0 rfl rfl ?_
      refine hq_ 21 (hop_len_os (T := 36) rfl (elOf_spec el_36).1 rfl) rfl rfl pre0 rfl rfl ?_
      refine hq_ 22 (hop_eql rfl rfl) rfl rfl pre0 rfl rfl ?_
      refine hq_ 23 (hop_move rfl) rfl rfl pre0 rfl rfl ?_
      refine hq_g 24 3 23 true _ (fun hb => hop_move rfl) rfl rfl rfl rfl pre0 rfl rfl rfl ?_
      refine hq_g 25 3 23 true _ (fun hb => hop_move rfl) rfl rfl rfl rfl pre0 rfl rfl rfl ?_
      refine hq_g 26 3 23 true _ (fun hb => HOp.val (v' := .imm (.int .u8 (bz s i))) (hop_ix_strl (by kernel_rfl) rfl rfl (by (simp at hb; first | omega | (dsimp only; omega) | (simp <;> omega))) (by (simp at hb; first | omega | (dsimp only; omega) | (simp <;> omega)))) (by rw [bz_in hil, Int.toNat_natCast])) rfl rfl rfl rfl pre0 rfl rfl rfl ?_
      refine hq_g 27 3 23 true _ (fun hb => hop_call0 (xs := [_]) (refBegins_h _) ⟨rfl, trivial⟩ ⟨(Fz.eq rfl), trivial⟩) rfl rfl rfl rfl pre0 rfl rfl rfl ?_
      refine hq_p 28 (hstep_and _ _ rfl rfl rfl) rfl rfl rfl ?_
      refine hseq_nilU (by rfl) (by simp only [dropUn, slots]; exact rfl) ?_
      refine h12 _ ?_
      refine hw_cond _ rfl (fun hc2 => ?_) (fun hc2 => ?_)
      · have hr2 := hc2; (try simp only [hcs, Int.reduceToNat] at hc2)
        refine hw_seq (fun Nh13 h13 => ?_)
        refine hw_region ?_
        refine hq_ 29 (hop_move rfl) rfl rfl pre0 rfl rfl ?_
        refine hq_ 2 (hop_assign rfl) rfl rfl pre0 rfl rfl ?_
        refine hq_ 3 (hop_assign rfl) rfl rfl pre0 rfl rfl ?_
        refine hq_ 4 (hop_assign rfl) rfl rfl pre0 rfl rfl ?_
        refine hseq_nil ?_
        refine h13 _ ?_
        refine hw_ret ?_
        refine hq_then_ret ?_
        refine hq_block_ret ?_
        refine hq_then_ret ?_
        refine hq_block_ret ?_
        refine hq_then_ret ?_
        refine hq_ret3 rfl (rval_tmp rfl) (rval_tmp rfl) (rval_tmp rfl) [] rfl pre0 ?_
        have e : lexV s = .error ((i : Int), 4) := (by rw [← hL]; exact lexAt_long hil hc1 (by omega) hc2.2); rw [e]; exact fz_t3 (.nil 0 5 _ (by decide) none) (.imm _) (.imm _)
      · have hr2 := hc2; (try simp only [hcs, Int.reduceToNat] at hc2)
        refine hw_skip ?_
        refine h11 _ ?_
        refine hw_seq (fun Nh14 h14 => ?_)
        have hsm := one_same s i hil; rcases hone : oneR s i with e | ⟨x, q⟩ <;> rw [hone] at hsm
        · skip
          refine hw_region ?_
          refine hq_ 31 (hop_move rfl) rfl rfl pre0 rfl rfl ?_
          refine hq_ 32 (hop_move rfl) rfl rfl pre0 rfl rfl ?_
          refine hq_ 33 (hop_call0 (xs := [_, _]) (refOne_h s i hs hil) ⟨rfl, ⟨rfl, trivial⟩⟩ ⟨(Fz.eq rfl), ⟨(Fz.eq rfl), trivial⟩⟩) rfl rfl pre0 rfl rfl ?_
          refine hq_ 30 (hop_move rfl) rfl rfl pre0 rfl rfl ?_
          refine hq_ 34 (hop_extract rfl rfl) rfl rfl pre0 rfl rfl ?_
          refine hq_ 35 (HOp.val (v' := intV e.1) (hop_extract rfl rfl) (by rw [← hsm.1]; rfl)) rfl rfl pre0 rfl rfl ?_
          refine hq_ 36 (HOp.val (v' := intV e.2) (hop_extract rfl rfl) (by rw [← hsm.1]; rfl)) rfl rfl pre0 rfl rfl ?_
          refine hm_1 7 (hop_alloc (id := 7) (sz := 5) zc_40 rfl rfl (nb rfl) (nb rfl)) rfl rfl pre0 rfl rfl (c' := c + 1) rfl ?_
          refine hm_s1 (hol_storeW ty_40 rfl rfl rfl rfl) rfl rfl (pre1 rfl) (c' := c + 2) rfl ?_
          refine hq_ 8 (hop_assign rfl) rfl rfl pre0 rfl rfl ?_
          refine hq_ 9 (hop_assign rfl) rfl rfl pre0 rfl rfl ?_
          refine hseq_nil ?_
          refine h14 _ ?_
          refine hw_seq (fun Nh15 h15 => ?_)
          refine hw_seq (fun Nh16 h16 => ?_)
          refine hw_region ?_
          refine hq_ 37 (hop_move rfl) rfl rfl pre0 rfl rfl ?_
          refine hq_ 38 (hop_neq rfl rfl) rfl rfl pre0 rfl rfl ?_
          refine hseq_nil ?_
          refine h16 _ ?_
          refine hw_cond _ rfl (fun hc3 => ?_) (fun hc3 => ?_)
          · have hr3 := hc3; (try simp only [hcs, Int.reduceToNat] at hc3)
            refine hw_seq (fun Nh17 h17 => ?_)
            refine hw_region ?_
            refine hq_ 39 (hop_move rfl) rfl rfl pre0 rfl rfl ?_
            refine hq_ 40 (hop_move rfl) rfl rfl pre0 rfl rfl ?_
            refine hq_ 2 (hop_assign rfl) rfl rfl pre0 rfl rfl ?_
            refine hq_ 3 (hop_assign rfl) rfl rfl pre0 rfl rfl ?_
            refine hq_ 4 (hop_assign rfl) rfl rfl pre0 rfl rfl ?_
            refine hseq_nil ?_
            refine h17 _ ?_
            refine hw_ret ?_
            refine hq_then_ret ?_
            refine hq_block_ret ?_
            refine hq_then_ret ?_
            refine hq_block_ret ?_
            refine hq_then_ret ?_
            refine hq_ret3 rfl (rval_tmp rfl) (rval_tmp rfl) (rval_tmp rfl) [] rfl pre0 ?_
            have e' : lexV s = .error e := (by rw [← hL]; rcases Classical.em (out.length = 200) with h200 | h200; (have hb : beginZ (bz s i) = false := (by have h := hr2; rw [show ((n : Int) == 200) = true by (rw [hn, h200]; try rfl), Bool.true_and] at h; exact h); rw [lexAt_odd hil hc1 h200 hb]; rw [one_nobegin hb] at hone; injection hone with hone; rw [hone]); exact lexAt_err hil hc1 h200 hone); rw [e']; exact fz_t3 (.nil 0 5 _ (by decide) none) (.imm _) (.imm _)
          · have hr3 := hc3; (try simp only [hcs, Int.reduceToNat] at hc3)
            exfalso; exact hsm.2 (by simpa using hr3)
        · skip
          refine hw_region ?_
          refine hq_ 31 (hop_move rfl) rfl rfl pre0 rfl rfl ?_
          refine hq_ 32 (hop_move rfl) rfl rfl pre0 rfl rfl ?_
          refine hq_ 33 (hop_call0 (xs := [_, _]) (refOne_h s i hs hil) ⟨rfl, ⟨rfl, trivial⟩⟩ ⟨(Fz.eq rfl), ⟨(Fz.eq rfl), trivial⟩⟩) rfl rfl pre0 rfl rfl ?_
          refine hq_ 30 (hop_move rfl) rfl rfl pre0 rfl rfl ?_
          refine hq_ 34 (HOp.val (v' := sgH x) (hop_extract rfl rfl) (by rw [show oneF s i = (x, (q : Int), 0) from hsm]; rfl)) rfl rfl pre0 rfl rfl ?_
          refine hq_ 35 (HOp.val (v' := intV q) (hop_extract rfl rfl) (by rw [show oneF s i = (x, (q : Int), 0) from hsm]; rfl)) rfl rfl pre0 rfl rfl ?_
          refine hq_ 36 (HOp.val (v' := intV 0) (hop_extract rfl rfl) (by rw [show oneF s i = (x, (q : Int), 0) from hsm]; rfl)) rfl rfl pre0 rfl rfl ?_
          refine hm_1 7 (hop_alloc (id := 7) (sz := 5) zc_40 rfl rfl (nb rfl) (nb rfl)) rfl rfl pre0 rfl rfl (c' := c + 1) rfl ?_
          refine hm_s1 (hol_storeW ty_40 rfl rfl rfl rfl) rfl rfl (pre1 rfl) (c' := c + 2) rfl ?_
          refine hq_ 8 (hop_assign rfl) rfl rfl pre0 rfl rfl ?_
          refine hq_ 9 (hop_assign rfl) rfl rfl pre0 rfl rfl ?_
          refine hseq_nil ?_
          refine h14 _ ?_
          refine hw_seq (fun Nh18 h18 => ?_)
          refine hw_seq (fun Nh19 h19 => ?_)
          refine hw_region ?_
          refine hq_ 37 (hop_move rfl) rfl rfl pre0 rfl rfl ?_
          refine hq_ 38 (hop_neq rfl rfl) rfl rfl pre0 rfl rfl ?_
          refine hseq_nil ?_
          refine h19 _ ?_
          refine hw_cond _ rfl (fun hc3 => ?_) (fun hc3 => ?_)
          · have hr3 := hc3; (try simp only [hcs, Int.reduceToNat] at hc3)
            exfalso; exact absurd hr3 (by decide)
          · have hr3 := hc3; (try simp only [hcs, Int.reduceToNat] at hc3)
            refine hw_skip ?_
            refine h18 _ ?_
            refine hw_seq (fun Nh20 h20 => ?_)
            have hq := oneR_le hone; have h200 : ¬ out.length = 200 := (fun h200 => by have h := hr2; rw [show ((n : Int) == 200) = true by (rw [hn, h200]; try rfl), Bool.true_and] at h; rw [one_nobegin h] at hone; cases hone)
            refine hw_region ?_
            refine hq_ 41 (hop_move rfl) rfl rfl pre0 rfl rfl ?_
            refine hq_ 42 (hol_load ty_40 rfl (nb rfl) (nb rfl) (fun h => (by cases h))) rfl rfl (pre1 rfl) rfl rfl ?_
            refine hm_1 43 (hop_buildSlice (id := 43) (hs := [_]) ei_36 (nb rfl) rfl (nb rfl) ⟨rfl, rfl, rfl, rfl, trivial⟩) rfl rfl pre0 rfl rfl (c' := c + 3) rfl ?_
            refine hm_1 44 (hol_append ei_36 (nb rfl) rfl (by omega) (nb rfl) (srl_os0 rfl (nb rfl)) (by omega) rfl) rfl rfl (preC rfl (pre1 rfl)) rfl rfl (c' := c + 4) rfl ?_
            refine hq_ 5 (hop_assign rfl) rfl rfl pre0 rfl rfl ?_
            refine hseq_nil ?_
            refine h20 _ ?_
            refine hw_region ?_
            refine hq_ 45 (hop_move rfl) rfl rfl pre0 rfl rfl ?_
            refine hq_ 6 (hop_assign rfl) rfl rfl pre0 rfl rfl ?_
            refine hseq_nil ?_
            refine hq_block ?_
            exact hL5 ((q, out ++ [x], c + 3, n + 1)) _ _ (by (try dsimp only); exact ⟨hq.2, by rw [List.length_append]; show out.length + 1 ≤ 200; omega, by rw [List.length_append, hn]; rfl, by rw [← lexAt_go hil hc1 h200 hone]; exact hL⟩) (by (try dsimp only); omega) (hsub_of rfl (Nat.le_refl _) (TmSub.cons rfl (Sb.refl _) (TmSub.cons rfl (Sb.refl _) (TmSub.cons rfl (Sb.refl _) TmSub.nil))) (HpSub.cons rfl (OSub.of fun i j hi hj => sb_cat (l := out) (k := [x]) (enc := sgF) (d := default) hn (fun i j _ _ => .refl _) (sb_one (x := x) (enc := sgF) (d := default) (sb_sg x (.refl _) (.refl _) (.refl _) (.refl _) (.refl _))) i j (by rw [List.length_append, ← hn]; exact hi) hj) HpSub.nil))
  · have hr0 := hc0; (try simp only [hcs, Int.reduceToNat] at hc0)
    refine hw_exit ?_
    refine hq_then_exit ?_
    refine hq_then_exit ?_
    refine hq_block_here ?_
    refine h3 _ ?_
    refine hw_seq (fun Nh21 h21 => ?_)
    refine hw_region ?_
    refine hq_ 46 (hop_move rfl) rfl rfl pre0 rfl rfl ?_
    refine hq_ 2 (hop_assign rfl) rfl rfl pre0 rfl rfl ?_
    refine hq_ 3 (hop_assign rfl) rfl rfl pre0 rfl rfl ?_
    refine hq_ 4 (hop_assign rfl) rfl rfl pre0 rfl rfl ?_
    refine hseq_nil ?_
    refine h21 _ ?_
    refine hw_ret ?_
    refine hq_ret3 rfl (rval_tmp rfl) (rval_tmp rfl) (rval_tmp rfl) [(5, _)] rfl (preC rfl pre0) ?_
    have e : lexV s = .ok out := (by rw [← hL]; exact lexAt_end (by omega)); rw [e]; exact fz_t3 (fz_row (l := out) (enc := sgF) (d := default) (List.mem_cons_self ..) rfl hn (Nat.le_refl _) (fun i j hi hj => sg_fz7 _ j)) (.imm _) (.imm _)
end Go.Proofs.YtijpdbjcmnpobaaDoor

namespace Go.Proofs.YtijpdbjcmnpobaaDoor
set_option linter.unusedSimpArgs false
set_option linter.unusedVariables false
set_option maxRecDepth 100000
open Go.RowKit

end Go.Proofs.YtijpdbjcmnpobaaDoor

namespace Go.Proofs.YtijpdbjcmnpobaaDoor
set_option linter.unusedSimpArgs false
set_option linter.unusedVariables false
set_option maxRecDepth 100000
open Go.RowKit

instance frz_sgs (l : List Sg) : Frz (sgsV l) := ⟨.sl _ _ _ _ fun i j _ _ => sg_fz _ j⟩
theorem lexR_len {s : List UInt8} : ∀ {f i : Nat} {out l : List Sg}, out.length ≤ 200 → lexR s f i out = .ok l → l.length ≤ 200
  | 0, i, out, l, h, e => by injection e with e; subst e; exact h
  | f + 1, i, out, l, h, e => by
    simp only [lexR] at e
    split at e
    · injection e with e; subst e; exact h
    split at e
    · exact lexR_len h e
    split at e
    · split at e <;> cases e
    · rename_i hne
      split at e
      · cases e
      · exact lexR_len (by rw [List.length_append]; show out.length + 1 ≤ 200; omega) e
theorem lexO_len (s : List UInt8) : (lexO (lexV s)).1.length ≤ 200 := by
  cases h : lexV s with
  | error e => exact Nat.zero_le _
  | ok l => exact lexR_len (Nat.zero_le _) h
end Go.Proofs.YtijpdbjcmnpobaaDoor

namespace Go.Proofs.YtijpdbjcmnpobaaDoor
set_option linter.unusedSimpArgs false
set_option linter.unusedVariables false
set_option maxRecDepth 100000
open Go.RowKit

theorem lexR_err {s : List UInt8} : ∀ {f i : Nat} {out : List Sg} {e : Int × Int}, lexR s f i out = .error e → e.2 ≠ 0
  | 0, i, out, e, h => by cases h
  | f + 1, i, out, e, h => by
    simp only [lexR] at h
    split at h
    · cases h
    rename_i hi
    split at h
    · exact lexR_err h
    split at h
    · split at h
      · injection h with h; subst h; show (4 : Int) ≠ 0; decide
      · injection h with h; subst h; exact wrong_ne s i
    · split at h
      · rename_i e' he
        injection h with h; subst h
        have := one_same s i (by omega)
        rw [he] at this
        exact this.2
      · exact lexR_err h
theorem lexV_err {s : List UInt8} {e : Int × Int} (h : lexV s = .error e) : (lexO (.error e)).2.2 ≠ 0 := lexR_err h
end Go.Proofs.YtijpdbjcmnpobaaDoor

namespace Go.Proofs.YtijpdbjcmnpobaaDoor
set_option linter.unusedSimpArgs false
set_option linter.unusedVariables false
set_option maxRecDepth 100000
open Go.RowKit

/-- Where a choice's loop stands. -/
def ChI (l : List Sg) (p : Nat) (out : List Pt) (bad : Bool) (q : Nat) (o : List Pt) (ks : List Int) : Prop :=
  (1 ≤ ks.length ∧ ks.length ≤ 2 * (q - p) + 1) ∧ p ≤ q ∧ q ≤ l.length ∧ match bad with
  | true => BadS l p q ∧ o.length + (if ks.length = 1 then 0 else 1) ≤ out.length + 2 * (q - p)
  | false => (kd l q ≠ 1 ∧ kd l q ≠ 2) ∧ ∃ ts, RowsS l p q ts ∧ o = out ++ T.flatL out.length ts ∧ ks = rootsL out.length ts
theorem ch_start {l : List Sg} {p q g : Nat} {out o : List Pt} {t : Option T} {r : Int} (h : RsOk l 2 p out ⟨t, q, g, o, r⟩) : ChI l p out t.isNone q o [r] := by
  have hle := rs_le h
  refine ⟨⟨Nat.le_refl _, by show 1 ≤ _; omega⟩, hle.1, hle.2.1, ?_⟩
  cases t with
  | none => exact ⟨h.1, h.2⟩
  | some t => exact ⟨h.2.2.2.1 (Nat.le_refl _), [t], rows_one h.1, by rw [show o = _ from h.2.1]; simp [T.flatL], by rw [show r = _ from h.2.2.1]; rfl⟩
theorem ch_next {l : List Sg} {p q q' g : Nat} {out o o' : List Pt} {ks : List Int} {t : Option T} {r : Int} (h : ChI l p out false q o ks) (hk : kd l q = 4) (h2 : RsOk l 2 (q + 1) o ⟨t, q', g, o', r⟩) : ChI l p out t.isNone q' o' (ks ++ [r]) := by
  have hle : q + 1 ≤ q' ∧ q' ≤ l.length ∧ o'.length ≤ o.length + 2 * (q' - (q + 1)) := rs_le h2
  obtain ⟨h1, hpq, hql, _, ts, hi, ho, hks⟩ := h
  have hlt := rows_lt hi
  have hol : o.length = out.length + T.sizeL ts := by rw [ho, List.length_append, T.flatL_len]
  have hkl : ks.length = ts.length := by rw [hks, rootsL_len]
  refine ⟨by rw [List.length_append]; show 1 ≤ ks.length + 1 ∧ ks.length + 1 ≤ _; omega, by omega, hle.2.1, ?_⟩
  cases t with
  | none =>
    refine ⟨bad_rows hi hk h2.1, ?_⟩
    rw [if_neg (by rw [List.length_append]; show ¬ ks.length + 1 = 1; omega)]
    have := hi.1
    omega
  | some t =>
    refine ⟨h2.2.2.2.1 (Nat.le_refl _), ts ++ [t], rows_snoc hi hk h2.1, ?_, ?_⟩
    · rw [show o' = _ from h2.2.1, ho, T.flatL_snoc, List.append_assoc, List.length_append, T.flatL_len]
    · rw [show r = _ from h2.2.2.1, hks, rootsL_snoc, hol]
theorem ch_le {l : List Sg} {p q : Nat} {out o : List Pt} {ks : List Int} {bad : Bool} (h : ChI l p out bad q o ks) : o.length ≤ out.length + 2 * (q - p) := by
  obtain ⟨h1, hpq, hql, h⟩ := h
  cases bad with
  | true => have := h.2; omega
  | false =>
    obtain ⟨_, ts, hi, ho, hks⟩ := h
    have := rows_lt hi
    rw [ho, List.length_append, T.flatL_len]; omega
theorem ch_meas {l : List Sg} {v q q' g : Nat} {o o' : List Pt} {t : Option T} {r : Int} (hq : q < l.length) (h : RsOk l v (q + 1) o ⟨t, q', g, o', r⟩) : 2 * (l.length - q') + (if t.isNone then 0 else 1) < 2 * (l.length - q) + (if false then 0 else 1) := by
  have hle : q + 1 ≤ q' ∧ q' ≤ l.length ∧ o'.length ≤ o.length + 2 * (q' - (q + 1)) := rs_le h
  cases t with
  | none => show _ + 0 < _ + 1; omega
  | some t => show _ + 1 < _ + 1; omega
theorem ch_done {l : List Sg} {p q : Nat} {out o : List Pt} {ks : List Int} {bad : Bool} (h : ChI l p out bad q o ks) (hk : bad = true ∨ kd l q ≠ 4) : ∃ tt : Option T, tt.isNone = bad ∧ ∀ y, manyP 3 o ks y → RsOk l 3 p out ⟨tt, q, y.1, y.2.1, y.2.2⟩ := by
  obtain ⟨h1, hpq, hql, h⟩ := h
  cases bad with
  | true => exact ⟨none, rfl, fun y hy => ⟨h.1, many_le (l := l) h.2 hy⟩⟩
  | false =>
    obtain ⟨hk2, ts, hi, ho, hks⟩ := h
    have hk := hk.resolve_left (by simp)
    have hkl : ks.length = ts.length := by rw [hks, rootsL_len]
    by_cases h2 : ts.length = 1
    · match ts, h2 with
      | [t], _ =>
        refine ⟨some t, rfl, fun y hy => ?_⟩
        have hy : y.2 = (o, ks.getD 0 0) := by unfold manyP at hy; rwa [if_pos (by simpa using hkl)] at hy
        refine ⟨rows_choice1 hi, ?_, ?_, fun _ => hk2, fun _ => hk⟩
        · show y.2.1 = _; rw [hy, ho]; simp [T.flatL]
        · show y.2.2 = _; rw [hy, hks]; rfl
    · refine ⟨some (.many 3 ts), rfl, fun y hy => ?_⟩
      have hy : y.2 = (o ++ [⟨3, 0, 0, [], ks⟩], (o.length : Int)) := by unfold manyP at hy; rwa [if_neg (by omega)] at hy
      refine ⟨rows_choice hi (by have := hi.1; omega), ?_, ?_, fun _ => hk2, fun _ => hk⟩
      · show y.2.1 = _; rw [hy, ho, hks]; simp [T.flat]
      · show y.2.2 = _; rw [hy, ho]; simp [T.root, T.size, T.flatL_len]; omega
theorem choice_h (l : List Sg) (g p : Nat) (hk : KdOk l) (hne : l ≠ []) (hl : l.length ≤ 1000) (hp : p ≤ l.length) (hrow : ∀ p', p ≤ p' → p' ≤ l.length → RsC 84 l 2 g p') : RsC 63 l 3 g p := by
  intro c g2 out ho
  refine hfun_of Tryd.func63 rfl (by kernel_rfl) _ _ _ _ rfl 36 rfl rfl (fun X ok hX => ?_)
  refine hw_seq (fun Nh1 h1 => ?_)
  refine hw_region ?_
  refine hq_ 2 (hop_assign rfl) rfl rfl pre0 rfl rfl ?_
  refine hseq_nil ?_
  refine h1 _ ?_
  refine hw_seq (fun Nh2 h2 => ?_)
  refine hw_region ?_
  refine hq_ 4 (hop_move rfl) rfl rfl pre0 rfl rfl ?_
  refine hf_callR 5 (xs := [_]) (pre := [(9001, _), (9002, _)]) (hrow p (Nat.le_refl _) hp _ g2 out ho) ⟨rfl, trivial⟩ (preC rfl (preC rfl pre0)) rfl rfl (fun x1 c1 hx => ?_)
  obtain ⟨t1, q1, g3, o3, r⟩ := x1
  (try dsimp only)
  refine hm_1 6 (hop_buildSlice (id := 6) (hs := [_]) ei_98 (nb rfl) rfl (nb rfl) ⟨rfl, rfl, rfl, rfl, trivial⟩) rfl rfl pre0 rfl rfl (c' := c1 + 1) rfl ?_
  refine hq_ 3 (hop_assign rfl) rfl rfl pre0 rfl rfl ?_
  refine hseq_nil ?_
  refine h2 _ ?_
  refine hw_seq (fun Nh3 h3 => ?_)
  refine hw_block ?_
  refine hw_loopc (α := Bool × Nat × List Pt × List Int × Nat × Nat) (fun x c => ⟨36, [(0, .v (.pt 9001 g 0 0)), (3, .v (.os 6 x.2.2.2.2.2 0 x.2.2.2.1.length))], [(9001, erO g l x.2.1 x.2.2.2.2.1 x.2.2.1.length x.1), (9002, ptsO x.2.2.2.2.1 x.2.2.1), (6, ⟨x.2.2.2.2.2, x.2.2.2.1.length, 1, 3, 0, kidsF x.2.2.2.1⟩)], c⟩) (fun x => ChI l p out x.1 x.2.1 x.2.2.1 x.2.2.2.1) (fun x => 2 * (l.length - x.2.1) + (if x.1 then 0 else 1)) ((t1.isNone, q1, o3, [r], g3, c1)) (by exact ch_start hx) (hsub_of rfl (Nat.le_refl _) (TmSub.cons rfl (Sb.refl _) (TmSub.cons rfl (Sb.refl _) TmSub.nil)) (HpSub.cons rfl (OSub.refl _) (HpSub.cons rfl (OSub.refl _) (HpSub.cons rfl (OSub.of fun i j hi hj => by obtain rfl : i = 0 := (by omega); exact .refl _) HpSub.nil)))) (fun x c hx NhL4 hL4 => ?_)
  revert hx hL4; obtain ⟨bad, q, o, ks, gg, gk⟩ := x; intro hx hL4; dsimp only at hx hL4 ⊢
  obtain ⟨hq1, hq2, hq3, hR⟩ := hx
  have hI : ChI l p out bad q o ks := ⟨hq1, hq2, hq3, hR⟩; have hol := ch_le hI
  refine hw_seq (fun Nh5 h5 => ?_)
  refine hw_seq (fun Nh6 h6 => ?_)
  refine hw_region ?_
  refine hq_ 7 (hop_move rfl) rfl rfl pre0 rfl rfl ?_
  refine hq_ 8 (hop_nilcheck_pt rfl) rfl rfl pre0 rfl rfl ?_
  refine hq_ 9 (hop_fa fd_105_2 rfl) rfl rfl pre0 rfl rfl ?_
  refine hq_ 10 (hol_load ty_4 rfl (nb rfl) (nb rfl) (fun h => (by rfl))) rfl rfl (pre1 rfl) rfl rfl ?_
  refine hq_ 11 (hop_not rfl) rfl rfl pre0 rfl rfl ?_
  refine hq_ 12 (hop_move rfl) rfl rfl pre0 rfl rfl ?_
  refine hq_g 13 5 12 true _ (fun hb => hop_move rfl) rfl rfl rfl rfl pre0 rfl rfl rfl ?_
  refine hq_g 14 5 12 true _ (fun hb => hop_nilcheck_pt rfl) rfl rfl rfl rfl pre0 rfl rfl rfl ?_
  refine hq_g 15 5 12 true _ (fun hb => hop_fa fd_105_0 rfl) rfl rfl rfl rfl pre0 rfl rfl rfl ?_
  refine hq_g 16 5 12 true _ (fun hb => hop_funR (xs := [_]) (pre := [(9001, _), (9002, _)]) (kind_h g l q gg o bad hl hI.2.2.1) ⟨rfl, trivial⟩) rfl rfl rfl rfl (preC rfl (preC rfl pre0)) rfl rfl rfl ?_
  refine hq_g 17 5 12 true _ (fun hb => hop_eql rfl rfl) rfl rfl rfl rfl pre0 rfl rfl rfl ?_
  refine hq_p 18 (hstep_and _ _ rfl rfl rfl) rfl rfl rfl ?_
  refine hseq_nilU (by rfl) (by simp only [dropUn, slots]; exact rfl) ?_
  refine h6 _ ?_
  refine hw_cond _ rfl (fun hc0 => ?_) (fun hc0 => ?_)
  · have hr0 := hc0; (try simp only [hcs, Int.reduceToNat] at hc0)
    obtain ⟨rfl, hkq⟩ : bad = false ∧ kd l q = 4 := (by cases bad with | true => exact absurd hr0 (by simp) | false => exact ⟨rfl, by simpa using hr0⟩); have hlt := kd_lt (l := l) (i := q) (by rw [hkq]; decide)
    refine hw_skip ?_
    refine h5 _ ?_
    refine hw_block ?_
    refine hw_seq (fun Nh7 h7 => ?_)
    refine hw_region ?_
    refine hq_ 19 (hop_move rfl) rfl rfl pre0 rfl rfl ?_
    refine hq_ 20 (hop_nilcheck_pt rfl) rfl rfl pre0 rfl rfl ?_
    refine hq_ 21 (hop_fa fd_105_0 rfl) rfl rfl pre0 rfl rfl ?_
    refine hq_ 22 (hop_fa fd_103_1 rfl) rfl rfl pre0 rfl rfl ?_
    refine hq_ 23 (hol_load ty_3 rfl (nb rfl) (nb rfl) (fun h => (by rfl))) rfl rfl (pre1 rfl) rfl rfl ?_
    refine hq_ 24 (hop_addi rfl rfl rfl (by omega) (by omega)) rfl rfl pre0 rfl rfl ?_
    refine hq_ 25 (hop_nilcheck_pt rfl) rfl rfl pre0 rfl rfl ?_
    refine hq_ 26 (hop_fa fd_105_0 rfl) rfl rfl pre0 rfl rfl ?_
    refine hq_ 27 (hop_fa fd_103_1 rfl) rfl rfl pre0 rfl rfl ?_
    refine hm_s1 (hol_store ty_3 rfl rfl rfl rfl (nb rfl) (nb rfl) (nb rfl)) rfl rfl (pre1 rfl) (c' := c + 1) rfl ?_
    refine hseq_nil ?_
    refine h7 _ ?_
    refine (hsub_ob 9001 (erO g l (q + 1) gg o.length false) rfl (by exact osub4 (.refl _) (sb_int (by omega)) (.refl _) (.refl _))).wp ?_
    refine hw_region ?_
    refine hq_ 28 (hop_move rfl) rfl rfl pre0 rfl rfl ?_
    refine hq_ 29 (hop_move rfl) rfl rfl pre0 rfl rfl ?_
    refine hf_callR 30 (xs := [_]) (pre := [(9001, _), (9002, _)]) (hrow (q + 1) (by omega) hlt _ gg o (by omega)) ⟨rfl, trivial⟩ (preC rfl (preC rfl pre0)) rfl rfl (fun x2 c2 hx2 => ?_)
    obtain ⟨t, q', g4, o4, r'⟩ := x2
    (try dsimp only)
    refine hm_1 31 (hop_buildSlice (id := 31) (hs := [_]) ei_98 (nb rfl) rfl (nb rfl) ⟨rfl, rfl, rfl, rfl, trivial⟩) rfl rfl pre0 rfl rfl (c' := c2 + 1) rfl ?_
    refine hm_1 32 (hol_append ei_98 (nb rfl) rfl (by omega) (nb rfl) (srl_os0 rfl (nb rfl)) (by omega) rfl) rfl rfl (preC rfl (pre1 rfl)) rfl rfl (c' := c2 + 2) rfl ?_
    refine hq_ 3 (hop_assign rfl) rfl rfl pre0 rfl rfl ?_
    refine hseq_nil ?_
    refine hq_block ?_
    exact hL4 ((t.isNone, q', o4, ks ++ [r'], g4, c2 + 1)) _ _ (by (try dsimp only); exact ch_next hI hkq hx2) (by (try dsimp only); exact ch_meas hlt hx2) (hsub_of rfl (Nat.le_refl _) (TmSub.cons rfl (Sb.refl _) (TmSub.cons rfl (sb_os (by simp)) TmSub.nil)) (HpSub.cons rfl (OSub.refl _) (HpSub.cons rfl (OSub.refl _) (HpSub.cons rfl (osub_snoc (enc := fun x _ => intV x) (d := 0) rfl (fun i j _ _ => .refl _) (fun j hj => .refl _)) HpSub.nil))))
  · have hr0 := hc0; (try simp only [hcs, Int.reduceToNat] at hc0)
    obtain ⟨tt, rfl, hdone⟩ := ch_done hI (by cases bad with | true => exact .inl rfl | false => right; simpa using hr0)
    refine hw_exit ?_
    refine hq_then_exit ?_
    refine hq_then_exit ?_
    refine hq_block_here ?_
    refine h3 _ ?_
    refine hw_seq (fun Nh8 h8 => ?_)
    refine hw_region ?_
    refine hq_ 33 (hop_move rfl) rfl rfl pre0 rfl rfl ?_
    refine hq_ 34 (hop_move rfl) rfl rfl pre0 rfl rfl ?_
    refine (hsub_shr 34 [(6, _)] rfl (preC rfl pre0) rfl ((show Fz _ _ (kidsV ks) from fz_row (l := ks) (enc := fun x _ => intV x) (d := 0) (List.mem_cons_self ..) rfl rfl (Nat.le_refl _) (fun i j hi hj => .imm _)))).seq ?_
    refine hf_callR 35 (xs := [_, _, _]) (pre := [(9001, _), (9002, _)]) (many_h _ g l q gg _ tt.isNone o 3 ks rfl (by omega)) ⟨rfl, ⟨rfl, ⟨rfl, trivial⟩⟩⟩ (preC rfl (preC rfl pre0)) rfl rfl (fun x3 c3 hy => ?_)
    obtain ⟨g5, o5, r5⟩ := x3
    (try dsimp only)
    refine hq_ 2 (hop_assign rfl) rfl rfl pre0 rfl rfl ?_
    refine hseq_nil ?_
    refine h8 _ ?_
    refine hw_ret ?_
    refine hf_retR1 ok hX RetS.one rfl (rval_tmp rfl) [] rfl pre0 (⟨tt, q, g5, o5, r5⟩) (hdone _ hy) (by rfl) (by rfl) ((by first | exact .fz _ _ (.imm _) | exact .os _ _ _ _ _ rfl rfl | exact .pt _ _ _ _ _ rfl rfl | exact .nps _ _ _ rfl rfl | (dsimp only; exact .fz _ _ Frz.fz) | exact .fz _ _ (.tup 0 _ _ (fun i hi => absurd hi (Nat.not_lt_zero _))))) ?_
    exact ⟨⟨_, rfl, okz_er rfl rfl⟩, ⟨⟨_, rfl, okz_pts⟩, trivial⟩⟩
theorem read_h (l : List Sg) (g : Nat) (hk : KdOk l) (hne : l ≠ []) (hl : l.length ≤ 1000) : ∀ n p, l.length - p < n → p ≤ l.length → RsC 63 l 3 g p
  | 0, p, h, _ => absurd h (Nat.not_lt_zero _)
  | n + 1, p, h, hp => choice_h l g p hk hne hl hp fun p1 h1 hp1 => row_h l g p1 hk hne hl hp1 fun p2 h2 hp2 => item_h l g p2 hk hne hl hp2 fun p3 h3 hp3 => read_h l g hk hne hl n p3 (by omega) hp3
/-- What a text's parts are. -/
inductive ParseIs (s : List UInt8) : List Pt × Int × Int → Prop
  | err (e : Int × Int) : lexV s = .error e → ParseIs s ([], e.1, e.2)
  | none : lexV s = .ok [] → ParseIs s ([], 0, 0)
  | odd (l : List Sg) (q : Nat) : lexV s = .ok l → l ≠ [] → q < l.length → chk l 0 0 true true = ((q : Int), false) → ParseIs s ([], (l.getD q default).at_, 2)
  | end_ (l : List Sg) : lexV s = .ok l → l ≠ [] → chk l 0 0 true true = (-1, true) → ParseIs s ([], s.length, 5)
  | ok (l : List Sg) (t : T) : lexV s = .ok l → Seg l 3 0 l.length t → ParseIs s (T.flat 0 t, 0, 0)
@[reducible] def parseH (r : List Pt × Int × Int) : HV := t3 (ptsV r.1) (intV r.2.1) (intV r.2.2)
theorem sgW_kd {l : List Sg} (h : ∀ x ∈ l, SgW x) : KdOk l := fun x hx => by
  have := h x hx
  cases this with
  | name _ _ _ => exact ⟨by show (1 : Int) ≤ 1; decide, by show (1 : Int) ≤ 5; decide⟩
  | open_ => exact ⟨by show (1 : Int) ≤ 2; decide, by show (2 : Int) ≤ 5; decide⟩
  | shut => exact ⟨by show (1 : Int) ≤ 3; decide, by show (3 : Int) ≤ 5; decide⟩
  | or_ => exact ⟨by show (1 : Int) ≤ 4; decide, by show (4 : Int) ≤ 5; decide⟩
  | times _ => exact ⟨by show (1 : Int) ≤ 5; decide, by show (5 : Int) ≤ 5; decide⟩
theorem lex_err {s : List UInt8} {r : List Sg × Int × Int} (hr : lexO (lexV s) = r) (h : r.2.2 ≠ 0) : ParseIs s ([], r.2.1, r.2.2) := by
  cases hv : lexV s with
  | error e => rw [hv] at hr; subst hr; exact .err e hv
  | ok l => rw [hv] at hr; subst hr; exact absurd rfl h
theorem lex_fine {s : List UInt8} {r : List Sg × Int × Int} (hr : lexO (lexV s) = r) (h : r.2.2 = 0) : lexV s = .ok r.1 := by
  cases hv : lexV s with
  | error e => rw [hv] at hr; subst hr; exact absurd h (lexV_err hv)
  | ok l => rw [hv] at hr; subst hr; rfl
theorem parse_odd {s : List UInt8} {l : List Sg} {x : Rs} (hv : lexV s = .ok l) (hk : KdOk l) (hne : l ≠ []) (hx : RsOk l 3 0 [] x) (hq : x.q < l.length) : ParseIs s ([], (l.getD x.q default).at_, 2) := by
  obtain ⟨t, q, g, o, r⟩ := x
  cases t with
  | none => exact .odd l q hv hne hq (by rw [hx.1.bad 0 true]; exact badAt_lt hq)
  | some t => exact .odd l q hv hne hq (rest_bad hk hx.1 hq (hx.2.2.2.1 (by decide)).1 (hx.2.2.2.1 (by decide)).2 (hx.2.2.2.2 (by decide)))
theorem parse_end {s : List UInt8} {l : List Sg} {x : Rs} (hv : lexV s = .ok l) (hne : l ≠ []) (hx : RsOk l 3 0 [] x) (hq : l.length ≤ x.q) (hb : x.t.isNone = true) : ParseIs s ([], s.length, 5) := by
  obtain ⟨t, q, g, o, r⟩ := x
  cases t with
  | none => exact .end_ l hv hne (by rw [hx.1.bad 0 true]; exact badAt_end hq)
  | some t => cases hb
theorem parse_ok {s : List UInt8} {l : List Sg} {x : Rs} (hv : lexV s = .ok l) (hx : RsOk l 3 0 [] x) (hq : l.length ≤ x.q) (hb : x.t.isNone = false) : ParseIs s (x.out, 0, 0) := by
  obtain ⟨t, q, g, o, r⟩ := x
  cases t with
  | none => cases hb
  | some t =>
    have hql := seg_lt hx.1
    simp only at hql hq
    obtain rfl : q = l.length := by omega
    rw [show (⟨some t, l.length, g, o, r⟩ : Rs).out = [] ++ T.flat 0 t from hx.2.1]
    exact .ok l t hv hx.1
theorem parse_h (c : Nat) (s : List UInt8) (hs : s.length ≤ 1000000) : HFun Tryd.prog 28 c [strV s] [] (RetP (fun (r : List Pt × Int × Int) _ => ParseIs s r) parseH (fun _ => [])) := by
  have hlen := lexO_len s
  have hlx := lex_h s hs
  generalize hr : lexO (lexV s) = r at hlen hlx
  refine hfun_of Tryd.func28 rfl (by kernel_rfl) _ _ _ _ rfl 57 rfl rfl (fun X ok hX => ?_)
  refine hw_seq (fun Nh1 h1 => ?_)
  refine hw_region ?_
  refine hq_ 2 (hop_assign rfl) rfl rfl pre0 rfl rfl ?_
  refine hq_ 3 (hop_assign rfl) rfl rfl pre0 rfl rfl ?_
  refine hq_ 4 (hop_assign rfl) rfl rfl pre0 rfl rfl ?_
  refine hseq_nil ?_
  refine h1 _ ?_
  refine hw_seq (fun Nh2 h2 => ?_)
  refine hw_region ?_
  refine hq_ 10 (hop_move rfl) rfl rfl pre0 rfl rfl ?_
  refine hq_ 11 (hop_call0 (xs := [_]) (hlx) ⟨rfl, trivial⟩ ⟨(Fz.eq rfl), trivial⟩) rfl rfl pre0 rfl rfl ?_
  refine hq_ 9 (hop_move rfl) rfl rfl pre0 rfl rfl ?_
  refine hq_ 12 (hop_extract rfl rfl) rfl rfl pre0 rfl rfl ?_
  refine hq_ 13 (hop_extract rfl rfl) rfl rfl pre0 rfl rfl ?_
  refine hq_ 14 (hop_extract rfl rfl) rfl rfl pre0 rfl rfl ?_
  refine hq_ 5 (hop_assign rfl) rfl rfl pre0 rfl rfl ?_
  refine hq_ 6 (hop_assign rfl) rfl rfl pre0 rfl rfl ?_
  refine hq_ 7 (hop_assign rfl) rfl rfl pre0 rfl rfl ?_
  refine hseq_nil ?_
  refine h2 _ ?_
  refine hw_seq (fun Nh3 h3 => ?_)
  refine hw_seq (fun Nh4 h4 => ?_)
  refine hw_region ?_
  refine hq_ 15 (hop_move rfl) rfl rfl pre0 rfl rfl ?_
  refine hq_ 16 (hop_neq rfl rfl) rfl rfl pre0 rfl rfl ?_
  refine hseq_nil ?_
  refine h4 _ ?_
  refine hw_cond _ rfl (fun hc0 => ?_) (fun hc0 => ?_)
  · have hr0 := hc0; (try simp only [hcs, Int.reduceToNat] at hc0)
    refine hw_seq (fun Nh5 h5 => ?_)
    refine hw_region ?_
    refine hq_ 17 (hop_move rfl) rfl rfl pre0 rfl rfl ?_
    refine hq_ 18 (hop_move rfl) rfl rfl pre0 rfl rfl ?_
    refine hq_ 2 (hop_assign rfl) rfl rfl pre0 rfl rfl ?_
    refine hq_ 3 (hop_assign rfl) rfl rfl pre0 rfl rfl ?_
    refine hq_ 4 (hop_assign rfl) rfl rfl pre0 rfl rfl ?_
    refine hseq_nil ?_
    refine h5 _ ?_
    refine hw_ret ?_
    refine hq_then_ret ?_
    refine hf_retR3 ok hX RetS.one rfl (rval_tmp rfl) (rval_tmp rfl) (rval_tmp rfl) [] rfl pre0 (([], r.2.1, r.2.2)) (lex_err hr hc0) (by rfl) (by rfl) (kz_t3 (.fz _ _ (.nil 0 5 _ (by decide) none)) (by first | exact .fz _ _ (.imm _) | exact .os _ _ _ _ _ rfl rfl | exact .pt _ _ _ _ _ rfl rfl | exact .nps _ _ _ rfl rfl | (dsimp only; exact .fz _ _ Frz.fz) | exact .fz _ _ (.tup 0 _ _ (fun i hi => absurd hi (Nat.not_lt_zero _)))) (by first | exact .fz _ _ (.imm _) | exact .os _ _ _ _ _ rfl rfl | exact .pt _ _ _ _ _ rfl rfl | exact .nps _ _ _ rfl rfl | (dsimp only; exact .fz _ _ Frz.fz) | exact .fz _ _ (.tup 0 _ _ (fun i hi => absurd hi (Nat.not_lt_zero _))))) ?_
    exact trivial
  · have hr0 := hc0; (try simp only [hcs, Int.reduceToNat] at hc0)
    have hv := lex_fine hr hc0; have hk := sgW_kd (lexV_W hv)
    refine hw_skip ?_
    refine h3 _ ?_
    refine hw_seq (fun Nh6 h6 => ?_)
    refine hw_seq (fun Nh7 h7 => ?_)
    refine hw_region ?_
    refine hq_ 19 (hop_move rfl) rfl rfl pre0 rfl rfl ?_
    refine hq_ 20 (hop_len_sl (T := 33) rfl (elOf_spec el_33).1 rfl) rfl rfl pre0 rfl rfl ?_
    refine hq_ 21 (hop_eql rfl rfl) rfl rfl pre0 rfl rfl ?_
    refine hseq_nil ?_
    refine h7 _ ?_
    refine hw_cond _ rfl (fun hc1 => ?_) (fun hc1 => ?_)
    · have hr1 := hc1; (try simp only [hcs, Int.reduceToNat] at hc1)
      refine hw_seq (fun Nh8 h8 => ?_)
      refine hw_region ?_
      refine hq_ 2 (hop_assign rfl) rfl rfl pre0 rfl rfl ?_
      refine hq_ 3 (hop_assign rfl) rfl rfl pre0 rfl rfl ?_
      refine hq_ 4 (hop_assign rfl) rfl rfl pre0 rfl rfl ?_
      refine hseq_nil ?_
      refine h8 _ ?_
      refine hw_ret ?_
      refine hq_then_ret ?_
      refine hf_retR3 ok hX RetS.one rfl (rval_tmp rfl) (rval_tmp rfl) (rval_tmp rfl) [] rfl pre0 (([], 0, 0)) (.none (by rw [hv, List.length_eq_zero_iff.1 (show r.1.length = 0 by omega)])) (by rfl) (by rfl) (kz_t3 (.fz _ _ (.nil 0 5 _ (by decide) none)) (by first | exact .fz _ _ (.imm _) | exact .os _ _ _ _ _ rfl rfl | exact .pt _ _ _ _ _ rfl rfl | exact .nps _ _ _ rfl rfl | (dsimp only; exact .fz _ _ Frz.fz) | exact .fz _ _ (.tup 0 _ _ (fun i hi => absurd hi (Nat.not_lt_zero _)))) (by first | exact .fz _ _ (.imm _) | exact .os _ _ _ _ _ rfl rfl | exact .pt _ _ _ _ _ rfl rfl | exact .nps _ _ _ rfl rfl | (dsimp only; exact .fz _ _ Frz.fz) | exact .fz _ _ (.tup 0 _ _ (fun i hi => absurd hi (Nat.not_lt_zero _))))) ?_
      exact trivial
    · have hr1 := hc1; (try simp only [hcs, Int.reduceToNat] at hc1)
      have hne : r.1 ≠ [] := (fun h => by rw [h] at hc1; exact hc1 rfl)
      refine hw_skip ?_
      refine h6 _ ?_
      refine hw_seq (fun Nh9 h9 => ?_)
      refine hw_region ?_
      refine hq_ 22 (hop_move rfl) rfl rfl pre0 rfl rfl ?_
      refine hq_ 23 (hop_build (hs := [(0, 1, _)]) st_103 rfl rfl ⟨rfl, rfl, rfl, rfl, rfl, trivial⟩) rfl rfl pre0 rfl rfl ?_
      refine hq_ 24 (hop_build (hs := [(0, 2, _)]) st_105 rfl rfl ⟨rfl, rfl, rfl, rfl, rfl, trivial⟩) rfl rfl pre0 rfl rfl ?_
      refine hm_1 25 (hop_box (id := 9001) (sz := 4) rfl rfl rfl (by decide) (by decide)) rfl rfl pre0 rfl rfl (c' := c + 1) rfl ?_
      refine hq_ 8 (hop_assign rfl) rfl rfl pre0 rfl rfl ?_
      refine hseq_nil ?_
      refine h9 _ ?_
      refine hw_seq (fun Nh10 h10 => ?_)
      refine (hsub_ownc 9001 2 9002 5 100 (ptsF []) (erF r.1 0 (c + 1) 0 false) rfl rfl (fun j hj => by match j, hj with | 0, _ => exact .inr rfl | 1, _ => exact .inr rfl | 2, _ => exact .inl ⟨rfl, rfl⟩ | 3, _ => exact .inr rfl) (by decide) (by decide) (c' := c + 2) rfl).wp ?_
      refine hw_region ?_
      refine hq_ 26 (hop_move rfl) rfl rfl pre0 rfl rfl ?_
      refine hf_callR 27 (xs := [_]) (pre := [(9001, _), (9002, _)]) (read_h r.1 c hk hne (by omega) _ 0 (Nat.lt_succ_self _) (Nat.zero_le _) _ (c + 1) [] (by simp)) ⟨rfl, trivial⟩ (preC rfl (preC rfl pre0)) rfl rfl (fun x1 c1 hx => ?_)
      obtain ⟨t, q, g2, o2, r2⟩ := x1
      (try dsimp only)
      refine hseq_nil ?_
      refine h10 _ ?_
      refine hw_seq (fun Nh11 h11 => ?_)
      refine hw_block ?_
      refine hw_seq (fun Nh12 h12 => ?_)
      have hle : 0 ≤ q ∧ q ≤ r.1.length ∧ o2.length ≤ 0 + 2 * (q - 0) := rs_le hx
      refine hw_region ?_
      refine hq_ 29 (hop_move rfl) rfl rfl pre0 rfl rfl ?_
      refine hq_ 30 (hop_nilcheck_pt rfl) rfl rfl pre0 rfl rfl ?_
      refine hq_ 31 (hop_fa fd_105_0 rfl) rfl rfl pre0 rfl rfl ?_
      refine hq_ 32 (hop_fa fd_103_1 rfl) rfl rfl pre0 rfl rfl ?_
      refine hq_ 33 (hol_load ty_3 rfl (nb rfl) (nb rfl) (fun h => (by rfl))) rfl rfl (pre1 rfl) rfl rfl ?_
      refine hq_ 34 (hop_move rfl) rfl rfl pre0 rfl rfl ?_
      refine hq_ 35 (hop_len_sl (T := 33) rfl (elOf_spec el_33).1 rfl) rfl rfl pre0 rfl rfl ?_
      refine hq_ 36 (hop_lss rfl rfl) rfl rfl pre0 rfl rfl ?_
      refine hq_ 28 (hop_assign rfl) rfl rfl pre0 rfl rfl ?_
      refine hseq_nil ?_
      refine h12 _ ?_
      refine hw_cond _ rfl (fun hc2 => ?_) (fun hc2 => ?_)
      · have hr2 := hc2; (try simp only [hcs, Int.reduceToNat] at hc2)
        refine hw_seq (fun Nh13 h13 => ?_)
        refine hd_start ?_
        refine hd_q 37 (hop_move rfl) rfl rfl pre0 rfl rfl (k' := 1) rfl ?_
        refine hd_q 38 (hop_move rfl) rfl rfl pre0 rfl rfl (k' := 2) rfl ?_
        refine hd_q 39 (hop_nilcheck_pt rfl) rfl rfl pre0 rfl rfl (k' := 3) rfl ?_
        refine hd_q 40 (hop_fa fd_105_0 rfl) rfl rfl pre0 rfl rfl (k' := 4) rfl ?_
        refine hd_q 41 (hop_fa fd_103_1 rfl) rfl rfl pre0 rfl rfl (k' := 5) rfl ?_
        refine hd_q 42 (hol_load ty_3 rfl (nb rfl) (nb rfl) (fun h => (by rfl))) rfl rfl (pre1 rfl) rfl rfl (k' := 6) rfl ?_
        refine hd_q 43 (hop_ia_sl el_33 rfl rfl (by omega) (by omega) (nb rfl)) rfl rfl pre0 rfl rfl (k' := 7) rfl ?_
        refine hd_q 44 (hop_fa_fp fd_41_1 rfl (nb rfl)) rfl rfl pre0 rfl rfl (k' := 8) rfl ?_
        refine hd_q 45 (hop_load_fp ty_3 rfl (nb rfl) (fun h => (by rfl))) rfl rfl pre0 rfl rfl (k' := 9) rfl ?_
        refine hd_q 2 (hop_assign rfl) rfl rfl pre0 rfl rfl (k' := 10) rfl ?_
        refine hd_q 3 (hop_assign rfl) rfl rfl pre0 rfl rfl (k' := 11) rfl ?_
        refine hd_q 4 (hop_assign rfl) rfl rfl pre0 rfl rfl (k' := 12) rfl ?_
        refine hd_nil (by kernel_rfl) (by kernel_rfl) (c' := c1 + 12) rfl ?_
        refine h13 _ ?_
        refine hw_ret ?_
        refine hq_block_ret ?_
        refine hq_then_ret ?_
        refine hf_retR3 ok hX RetS.one rfl (rval_tmp rfl) (rval_tmp rfl) (rval_tmp rfl) [] rfl pre0 (([], (r.1.getD q default).at_, 2)) (parse_odd hv hk hne hx (show q < r.1.length by omega)) (by rfl) (by rfl) (kz_t3 (.fz _ _ (.nil 0 5 _ (by decide) none)) (by first | exact .fz _ _ (.imm _) | exact .os _ _ _ _ _ rfl rfl | exact .pt _ _ _ _ _ rfl rfl | exact .nps _ _ _ rfl rfl | (dsimp only; exact .fz _ _ Frz.fz) | exact .fz _ _ (.tup 0 _ _ (fun i hi => absurd hi (Nat.not_lt_zero _)))) (by first | exact .fz _ _ (.imm _) | exact .os _ _ _ _ _ rfl rfl | exact .pt _ _ _ _ _ rfl rfl | exact .nps _ _ _ rfl rfl | (dsimp only; exact .fz _ _ Frz.fz) | exact .fz _ _ (.tup 0 _ _ (fun i hi => absurd hi (Nat.not_lt_zero _))))) ?_
        exact trivial
      · have hr2 := hc2; (try simp only [hcs, Int.reduceToNat] at hc2)
        refine hw_seq (fun Nh14 h14 => ?_)
        refine hw_region ?_
        refine hq_ 47 (hop_move rfl) rfl rfl pre0 rfl rfl ?_
        refine hq_ 48 (hop_nilcheck_pt rfl) rfl rfl pre0 rfl rfl ?_
        refine hq_ 49 (hop_fa fd_105_2 rfl) rfl rfl pre0 rfl rfl ?_
        refine hq_ 50 (hol_load ty_4 rfl (nb rfl) (nb rfl) (fun h => (by rfl))) rfl rfl (pre1 rfl) rfl rfl ?_
        refine hq_ 46 (hop_assign rfl) rfl rfl pre0 rfl rfl ?_
        refine hseq_nil ?_
        refine h14 _ ?_
        refine hw_cond _ rfl (fun hc3 => ?_) (fun hc3 => ?_)
        · have hr3 := hc3; (try simp only [hcs, Int.reduceToNat] at hc3)
          refine hw_seq (fun Nh15 h15 => ?_)
          refine hw_region ?_
          refine hq_ 51 (hop_move rfl) rfl rfl pre0 rfl rfl ?_
          refine hq_ 52 (hop_len_strl (T := 9) rfl (by kernel_rfl) rfl) rfl rfl pre0 rfl rfl ?_
          refine hq_ 2 (hop_assign rfl) rfl rfl pre0 rfl rfl ?_
          refine hq_ 3 (hop_assign rfl) rfl rfl pre0 rfl rfl ?_
          refine hq_ 4 (hop_assign rfl) rfl rfl pre0 rfl rfl ?_
          refine hseq_nil ?_
          refine h15 _ ?_
          refine hw_ret ?_
          refine hq_block_ret ?_
          refine hq_then_ret ?_
          refine hf_retR3 ok hX RetS.one rfl (rval_tmp rfl) (rval_tmp rfl) (rval_tmp rfl) [] rfl pre0 (([], (s.length : Int), 5)) (parse_end hv hne hx (show r.1.length ≤ q by omega) hc3) (by rfl) (by rfl) (kz_t3 (.fz _ _ (.nil 0 5 _ (by decide) none)) (by first | exact .fz _ _ (.imm _) | exact .os _ _ _ _ _ rfl rfl | exact .pt _ _ _ _ _ rfl rfl | exact .nps _ _ _ rfl rfl | (dsimp only; exact .fz _ _ Frz.fz) | exact .fz _ _ (.tup 0 _ _ (fun i hi => absurd hi (Nat.not_lt_zero _)))) (by first | exact .fz _ _ (.imm _) | exact .os _ _ _ _ _ rfl rfl | exact .pt _ _ _ _ _ rfl rfl | exact .nps _ _ _ rfl rfl | (dsimp only; exact .fz _ _ Frz.fz) | exact .fz _ _ (.tup 0 _ _ (fun i hi => absurd hi (Nat.not_lt_zero _))))) ?_
          exact trivial
        · have hr3 := hc3; (try simp only [hcs, Int.reduceToNat] at hc3)
          refine hw_skip ?_
          refine hq_block ?_
          refine h11 _ ?_
          refine hw_seq (fun Nh16 h16 => ?_)
          refine hw_region ?_
          refine hq_ 53 (hop_move rfl) rfl rfl pre0 rfl rfl ?_
          refine hq_ 54 (hop_nilcheck_pt rfl) rfl rfl pre0 rfl rfl ?_
          refine hq_ 55 (hop_fa fd_105_1 rfl) rfl rfl pre0 rfl rfl ?_
          refine hq_ 56 (hol_load ty_52 rfl (nb rfl) (nb rfl) (fun h => (by rfl))) rfl rfl (pre1 rfl) rfl rfl ?_
          refine hq_ 2 (hop_assign rfl) rfl rfl pre0 rfl rfl ?_
          refine hq_ 3 (hop_assign rfl) rfl rfl pre0 rfl rfl ?_
          refine hq_ 4 (hop_assign rfl) rfl rfl pre0 rfl rfl ?_
          refine hseq_nil ?_
          refine h16 _ ?_
          refine hw_ret ?_
          refine hf_retR3 ok hX RetS.one rfl (rval_tmp rfl) (rval_tmp rfl) (rval_tmp rfl) [(9002, _)] rfl (preC rfl pre0) ((o2, 0, 0)) (parse_ok hv hx (show r.1.length ≤ q by omega) hc3) (by rfl) (by rfl) (kz_t3 (.fz _ _ (fz_row (l := o2) (enc := ptF) (d := default) (List.mem_cons_self ..) rfl rfl (Nat.le_refl _) (fun i j hi hj => pt_fz _ j))) (by first | exact .fz _ _ (.imm _) | exact .os _ _ _ _ _ rfl rfl | exact .pt _ _ _ _ _ rfl rfl | exact .nps _ _ _ rfl rfl | (dsimp only; exact .fz _ _ Frz.fz) | exact .fz _ _ (.tup 0 _ _ (fun i hi => absurd hi (Nat.not_lt_zero _)))) (by first | exact .fz _ _ (.imm _) | exact .os _ _ _ _ _ rfl rfl | exact .pt _ _ _ _ _ rfl rfl | exact .nps _ _ _ rfl rfl | (dsimp only; exact .fz _ _ Frz.fz) | exact .fz _ _ (.tup 0 _ _ (fun i hi => absurd hi (Nat.not_lt_zero _))))) ?_
          exact trivial
end Go.Proofs.YtijpdbjcmnpobaaDoor

namespace Go.Proofs.YtijpdbjcmnpobaaDoor
set_option linter.unusedSimpArgs false
set_option linter.unusedVariables false

/-- The end of a stretch is one. -/
@[reducible] def EndOk (l : List Sg) (v q : Nat) : Prop := (2 ≤ v → kd l q ≠ 1 ∧ kd l q ≠ 2) ∧ (3 ≤ v → kd l q ≠ 4)
/-- An expression is read in one way. -/
theorem seg_det {l : List Sg} {v p q : Nat} {t : T} (h : Seg l v p q t) : ∀ {q' : Nat} {t' : T}, Seg l v p q' t' → EndOk l v q → EndOk l v q' → q = q' ∧ t = t' := by
  induction h with
  | name p h =>
    intro q' t' h' _ _
    cases h' with
    | name _ _ => exact ⟨rfl, rfl⟩
    | group _ _ _ h2 _ _ => rw [h] at h2; exact absurd h2 (by decide)
  | group p q t h hs h3 ih =>
    intro q' t' h' _ _
    cases h' with
    | name _ h2 => rw [h] at h2; exact absurd h2 (by decide)
    | group _ q2 _ h2 hs2 h32 =>
      have := ih hs2 ⟨fun _ => by rw [h3]; decide, fun _ => by rw [h3]; decide⟩ ⟨fun _ => by rw [h32]; decide, fun _ => by rw [h32]; decide⟩
      exact ⟨by rw [this.1], this.2⟩
  | item p q t hs h5 ih =>
    intro q' t' h' _ _
    have e : EndOk l 0 = fun _ => EndOk l 0 0 := by funext q; simp [EndOk]
    cases h' with
    | item _ _ _ hs2 h52 => exact ih hs2 ⟨fun h => absurd h (by decide), fun h => absurd h (by decide)⟩ ⟨fun h => absurd h (by decide), fun h => absurd h (by decide)⟩
    | times _ q2 t2 hs2 h52 =>
      have := ih hs2 ⟨fun h => absurd h (by decide), fun h => absurd h (by decide)⟩ ⟨fun h => absurd h (by decide), fun h => absurd h (by decide)⟩
      rw [this.1] at h5; exact absurd h52 h5
  | times p q t hs h5 ih =>
    intro q' t' h' _ _
    cases h' with
    | item _ _ _ hs2 h52 =>
      have := ih hs2 ⟨fun h => absurd h (by decide), fun h => absurd h (by decide)⟩ ⟨fun h => absurd h (by decide), fun h => absurd h (by decide)⟩
      rw [this.1] at h5; exact absurd h5 h52
    | times _ q2 t2 hs2 h52 =>
      have := ih hs2 ⟨fun h => absurd h (by decide), fun h => absurd h (by decide)⟩ ⟨fun h => absurd h (by decide), fun h => absurd h (by decide)⟩
      rw [this.1, this.2]; exact ⟨rfl, rfl⟩
  | row1 p q t hs ih =>
    intro q' t' h' he he'
    cases h' with
    | row1 _ _ _ hs2 => exact ih hs2 ⟨fun h => absurd h (by decide), fun h => absurd h (by decide)⟩ ⟨fun h => absurd h (by decide), fun h => absurd h (by decide)⟩
    | row _ _ ts c h2 h0 hq hs2 =>
      have a := hs2 0 (by omega)
      rw [h0] at a
      have b := ih a ⟨fun h => absurd h (by decide), fun h => absurd h (by decide)⟩ ⟨fun h => absurd h (by decide), fun h => absurd h (by decide)⟩
      have d := seg_first (hs2 1 (by omega))
      rw [← b.1] at d
      have := he.1 (by decide)
      exact absurd d (by omega)
  | row p q ts c h2 h0 hq hs ih =>
    intro q' t' h' he he'
    cases h' with
    | row1 _ _ _ hs2 =>
      have b := ih 0 (by omega) (h0.symm ▸ hs2) ⟨fun h => absurd h (by decide), fun h => absurd h (by decide)⟩ ⟨fun h => absurd h (by decide), fun h => absurd h (by decide)⟩
      have d := seg_first (hs 1 (by omega))
      rw [b.1] at d
      have := he'.1 (by decide)
      exact absurd d (by omega)
    | row _ _ ts2 c2 h22 h02 hq2 hs2 =>
      have key : ∀ i, i ≤ ts.length → i ≤ ts2.length → c i = c2 i ∧ ∀ j, j < i → ts.getD j default = ts2.getD j default := by
        intro i
        induction i with
        | zero => intro _ _; exact ⟨by rw [h0, h02], fun j hj => absurd hj (Nat.not_lt_zero _)⟩
        | succ i ihi =>
          intro h1 h3
          have a := ihi (by omega) (by omega)
          have b := ih i h1 (a.1 ▸ hs2 i h3) ⟨fun h => absurd h (by decide), fun h => absurd h (by decide)⟩ ⟨fun h => absurd h (by decide), fun h => absurd h (by decide)⟩
          refine ⟨b.1, fun j hj => ?_⟩
          by_cases e : j = i
          · subst e; exact b.2
          · exact a.2 j (by omega)
      have hlen : ts.length = ts2.length := by
        rcases Nat.lt_trichotomy ts.length ts2.length with h | h | h
        · have a := (key ts.length (Nat.le_refl _) (by omega)).1
          have d := seg_first (hs2 ts.length h)
          rw [← a, hq] at d
          have := he.1 (by decide); exact absurd d (by omega)
        · exact h
        · have a := (key ts2.length (by omega) (Nat.le_refl _)).1
          have d := seg_first (hs ts2.length h)
          rw [a, hq2] at d
          have := he'.1 (by decide); exact absurd d (by omega)
      have k := key ts.length (Nat.le_refl _) (by omega)
      refine ⟨by rw [← hq, k.1, hlen, hq2], ?_⟩
      congr 1
      apply List.ext_getElem hlen
      intro i h1 h3
      have := k.2 i h1
      rwa [List.getD_eq_getElem?_getD, List.getD_eq_getElem?_getD, List.getElem?_eq_getElem h1, List.getElem?_eq_getElem h3] at this
  | choice1 p q t hs ih =>
    intro q' t' h' he he'
    cases h' with
    | choice1 _ _ _ hs2 => exact ih hs2 ⟨fun _ => he.1 (by decide), fun h => absurd h (by decide)⟩ ⟨fun _ => he'.1 (by decide), fun h => absurd h (by decide)⟩
    | choice _ _ ts c e h2 h0 hq hs2 hg =>
      have a := hs2 0 (by omega)
      rw [h0] at a
      have g := (hg 0 (by omega)).1
      have b := ih a ⟨fun _ => he.1 (by decide), fun h => absurd h (by decide)⟩ ⟨fun _ => by rw [g]; decide, fun h => absurd h (by decide)⟩
      rw [← b.1] at g
      exact absurd g (he.2 (by decide))
  | choice p q ts c e h2 h0 hq hs hg ih =>
    intro q' t' h' he he'
    have e4 : ∀ i, i + 1 < ts.length → EndOk l 2 (e i) := fun i hi => ⟨fun _ => by rw [(hg i hi).1]; decide, fun h => absurd h (by decide)⟩
    cases h' with
    | choice1 _ _ _ hs2 =>
      have b := ih 0 (by omega) (h0.symm ▸ hs2) (e4 0 (by omega)) ⟨fun _ => he'.1 (by decide), fun h => absurd h (by decide)⟩
      have g := (hg 0 (by omega)).1
      rw [b.1] at g
      exact absurd g (he'.2 (by decide))
    | choice _ _ ts2 c2 e2 h22 h02 hq2 hs2 hg2 =>
      have e42 : ∀ i, i + 1 < ts2.length → EndOk l 2 (e2 i) := fun i hi => ⟨fun _ => by rw [(hg2 i hi).1]; decide, fun h => absurd h (by decide)⟩
      have en : ∀ i, i < ts.length → EndOk l 2 (e i) := fun i hi => by
        by_cases h : i + 1 < ts.length
        · exact e4 i h
        · rw [show i = ts.length - 1 by omega, hq]; exact ⟨fun _ => he.1 (by decide), fun h => absurd h (by decide)⟩
      have en2 : ∀ i, i < ts2.length → EndOk l 2 (e2 i) := fun i hi => by
        by_cases h : i + 1 < ts2.length
        · exact e42 i h
        · rw [show i = ts2.length - 1 by omega, hq2]; exact ⟨fun _ => he'.1 (by decide), fun h => absurd h (by decide)⟩
      have key : ∀ i, i < ts.length → i < ts2.length → c i = c2 i ∧ e i = e2 i ∧ ∀ j, j < i + 1 → ts.getD j default = ts2.getD j default := by
        intro i
        induction i with
        | zero =>
          intro h1 h3
          have b := ih 0 h1 ((h0.trans h02.symm) ▸ hs2 0 h3) (en 0 h1) (en2 0 h3)
          exact ⟨by rw [h0, h02], b.1, fun j hj => by obtain rfl : j = 0 := by omega
                                                      exact b.2⟩
        | succ i ihi =>
          intro h1 h3
          have a := ihi (by omega) (by omega)
          have hc : c (i + 1) = c2 (i + 1) := by rw [(hg i h1).2, (hg2 i h3).2, a.2.1]
          have b := ih (i + 1) h1 (hc ▸ hs2 (i + 1) h3) (en _ h1) (en2 _ h3)
          refine ⟨hc, b.1, fun j hj => ?_⟩
          by_cases e : j = i + 1
          · subst e; exact b.2
          · exact a.2.2 j (by omega)
      have hlen : ts.length = ts2.length := by
        rcases Nat.lt_trichotomy ts.length ts2.length with h | h | h
        · have a := (key (ts.length - 1) (by omega) (by omega)).2.1
          have d := (hg2 (ts.length - 1) (by omega)).1
          rw [← a, hq] at d
          exact absurd d (he.2 (by decide))
        · exact h
        · have a := (key (ts2.length - 1) (by omega) (by omega)).2.1
          have d := (hg (ts2.length - 1) (by omega)).1
          rw [a, hq2] at d
          exact absurd d (he'.2 (by decide))
      have k := key (ts.length - 1) (by omega) (by omega)
      refine ⟨by rw [← hq, k.2.1, hlen, hq2], ?_⟩
      congr 1
      apply List.ext_getElem hlen
      intro i h1 h3
      have := k.2.2 i (by omega)
      rwa [List.getD_eq_getElem?_getD, List.getD_eq_getElem?_getD, List.getElem?_eq_getElem h1, List.getElem?_eq_getElem h3] at this
/-- The bracket that shuts one, by the document: from a place on, at a depth. -/
def shutN (l : List Sg) : Nat → Nat → Int → Nat
  | 0, i, _ => i
  | f + 1, i, d =>
    let d' := if kd l i = 2 then d + 1 else if kd l i = 3 then d - 1 else d
    if d' = 0 then i else shutN l f (i + 1) d'
def shutAt (l : List Sg) (i : Nat) (d : Int) : Nat := shutN l (l.length - i) i d
theorem shut_end {l : List Sg} {i : Nat} {d : Int} (h : l.length ≤ i) : shutAt l i d = i := by unfold shutAt; rw [show l.length - i = 0 by omega]; rfl
theorem shut_step {l : List Sg} {i : Nat} {d d' : Int} (h : i < l.length) (hd : d' = if kd l i = 2 then d + 1 else if kd l i = 3 then d - 1 else d) : shutAt l i d = if d' = 0 then i else shutAt l (i + 1) d' := by
  subst hd
  unfold shutAt
  rw [show l.length - i = (l.length - (i + 1)) + 1 by omega]
  rfl
theorem shut_le {l : List Sg} : ∀ {n i : Nat} {d : Int}, l.length - i = n → i ≤ l.length → i ≤ shutAt l i d ∧ shutAt l i d ≤ l.length
  | 0, i, d, hn, hi => by rw [shut_end (by omega)]; omega
  | n + 1, i, d, hn, hi => by
    have e := shut_step (l := l) (i := i) (d := d) (by omega) rfl
    generalize (if kd l i = 2 then d + 1 else if kd l i = 3 then d - 1 else d) = d' at e
    rw [e]
    by_cases h : d' = 0
    · rw [if_pos h]; omega
    · rw [if_neg h]
      have := shut_le (l := l) (n := n) (i := i + 1) (d := d') (by omega) (by omega); omega
theorem seg_shut {l : List Sg} {v p q : Nat} {t : T} (h : Seg l v p q t) : ∀ d : Int, 1 ≤ d → shutAt l p d = shutAt l q d := by
  induction h with
  | name p h => intro d hd; rw [shut_step (kd_lt (by rw [h]; decide)) rfl, h]; simp; intro h; omega
  | group p q t h hs h3 ih =>
    intro d hd
    rw [shut_step (kd_lt (by rw [h]; decide)) rfl, h]
    simp only [if_true]
    rw [if_neg (by omega), ih (d + 1) (by omega), shut_step (kd_lt (by rw [h3]; decide)) rfl, h3]
    simp; intro h; omega
  | item p q t _ _ ih => exact ih
  | times p q t _ h5 ih =>
    intro d hd
    rw [ih d hd, shut_step (kd_lt (by rw [h5]; decide)) rfl, h5]
    simp; intro h; omega
  | row1 p q t _ ih => exact ih
  | row p q ts c h2 h0 hq hs ih =>
    intro d hd
    have key : ∀ i, i ≤ ts.length → shutAt l (c 0) d = shutAt l (c i) d := by
      intro i
      induction i with
      | zero => intro _; rfl
      | succ i ihi => intro hi; rw [ihi (by omega)]; exact ih i hi d hd
    rw [← h0, key ts.length (Nat.le_refl _), hq]
  | choice1 p q t _ ih => exact ih
  | choice p q ts c e h2 h0 hq hs hg ih =>
    intro d hd
    have key : ∀ i, i < ts.length → shutAt l (c 0) d = shutAt l (e i) d := by
      intro i
      induction i with
      | zero => intro hi; exact ih 0 hi d hd
      | succ i ihi =>
        intro hi
        have g := hg i hi
        rw [ihi (by omega), shut_step (kd_lt (by rw [g.1]; decide)) rfl, g.1]
        simp only [show ¬ (4 : Int) = 2 by decide, show ¬ (4 : Int) = 3 by decide, if_false]
        rw [if_neg (by omega), ← g.2]
        exact ih (i + 1) hi d hd
    rw [← h0, key (ts.length - 1) (by omega), hq]
theorem shut_group {l : List Sg} {p q : Nat} {t : T} (h : kd l p = 2) (hs : Seg l 3 (p + 1) q t) (h3 : kd l q = 3) : shutAt l p 0 = q := by
  rw [shut_step (kd_lt (by rw [h]; decide)) rfl, h]
  simp only [if_true]
  rw [if_neg (by omega), seg_shut hs (0 + 1) (by omega), shut_step (kd_lt (by rw [h3]; decide)) rfl, h3]
  simp
/-- Where a piece is cut, by the document. -/
def cutN (l : List Sg) (from_ to_ : Nat) (way : Int) : Nat → Nat → List Int → List Int
  | 0, _, acc => acc
  | f + 1, i, acc =>
    if to_ ≤ i then acc
    else
      let a1 := if way = 2 ∧ from_ < i ∧ (kd l i = 1 ∨ kd l i = 2) then acc ++ [(i : Int)] else acc
      let a2 := if way = 3 ∧ kd l i = 4 then a1 ++ [((i + 1 : Nat) : Int)] else a1
      cutN l from_ to_ way f ((if kd l i = 2 then shutAt l i 0 else i) + 1) a2
def cutAt (l : List Sg) (from_ to_ : Nat) (way : Int) (i : Nat) (acc : List Int) : List Int := cutN l from_ to_ way (to_ - i) i acc
theorem cut_fuel {l : List Sg} {from_ to_ : Nat} {way : Int} (hl : to_ ≤ l.length) : ∀ {f f' i : Nat} {acc : List Int}, to_ - i ≤ f → to_ - i ≤ f' → cutN l from_ to_ way f i acc = cutN l from_ to_ way f' i acc
  | 0, 0, _, _, _, _ => rfl
  | 0, f' + 1, i, acc, h, h' => by simp only [cutN]; rw [if_pos (by omega)]
  | f + 1, 0, i, acc, h, h' => by simp only [cutN]; rw [if_pos (by omega)]
  | f + 1, f' + 1, i, acc, h, h' => by
    simp only [cutN]
    by_cases h1 : to_ ≤ i
    · rw [if_pos h1, if_pos h1]
    · rw [if_neg h1, if_neg h1]
      have : i ≤ (if kd l i = 2 then shutAt l i 0 else i) := by
        split
        · exact (shut_le rfl (by omega)).1
        · omega
      exact cut_fuel hl (by omega) (by omega)
theorem cut_end {l : List Sg} {from_ to_ i : Nat} {way : Int} {acc : List Int} (h : to_ ≤ i) : cutAt l from_ to_ way i acc = acc := by
  unfold cutAt; rw [show to_ - i = 0 by omega]; rfl
theorem cut_step {l : List Sg} {from_ to_ i : Nat} {way : Int} {acc a1 a2 : List Int} {j : Nat} (hl : to_ ≤ l.length) (h : i < to_) (h1 : a1 = if way = 2 ∧ from_ < i ∧ (kd l i = 1 ∨ kd l i = 2) then acc ++ [(i : Int)] else acc)
    (h2 : a2 = if way = 3 ∧ kd l i = 4 then a1 ++ [((i + 1 : Nat) : Int)] else a1) (hj : j = if kd l i = 2 then shutAt l i 0 else i) : cutAt l from_ to_ way i acc = cutAt l from_ to_ way (j + 1) a2 := by
  subst h1; subst h2; subst hj
  have : i ≤ (if kd l i = 2 then shutAt l i 0 else i) := by
    split
    · exact (shut_le rfl (by omega)).1
    · omega
  unfold cutAt
  rw [show to_ - i = (to_ - i - 1) + 1 by omega]
  simp only [cutN]
  rw [if_neg (by omega)]
  exact cut_fuel hl (by omega) (by omega)
/-- What an atom, an item adds. -/
@[reducible] def addI (from_ : Nat) (way : Int) (p : Nat) : List Int := if way = 2 ∧ from_ < p then [(p : Int)] else []
theorem cut_item {l : List Sg} {from_ to_ : Nat} {way : Int} (hl : to_ ≤ l.length) {v p q : Nat} {t : T} (h : Seg l v p q t) : v ≤ 1 → q ≤ to_ → ∀ acc, cutAt l from_ to_ way p acc = cutAt l from_ to_ way q (acc ++ addI from_ way p) := by
  induction h with
  | name p h =>
    intro _ hq acc
    rw [cut_step (a1 := acc ++ addI from_ way p) (a2 := acc ++ addI from_ way p) (j := p) hl (by omega) (by rw [h]; unfold addI; by_cases hw : way = 2 ∧ from_ < p <;> simp [hw]) (by rw [h]; simp) (by rw [h]; simp)]
  | group p q t h hs h3 _ =>
    intro _ hq acc
    have := seg_lt hs
    rw [cut_step (a1 := acc ++ addI from_ way p) (a2 := acc ++ addI from_ way p) (j := q) hl (by omega) (by rw [h]; unfold addI; by_cases hw : way = 2 ∧ from_ < p <;> simp [hw]) (by rw [h]; simp) (by rw [h, shut_group h hs h3]; simp)]
  | item p q t _ _ ih => exact fun _ => ih (by decide)
  | times p q t hs h5 ih =>
    intro _ hq acc
    rw [ih (by decide) (by omega) acc]
    rw [cut_step (i := q) (a1 := acc ++ addI from_ way p) (a2 := acc ++ addI from_ way p) (j := q) hl (by omega) (by rw [h5]; simp) (by rw [h5]; simp) (by rw [h5]; simp)]
  | row1 _ _ _ _ _ => intro h; exact absurd h (by decide)
  | row _ _ _ _ _ _ _ _ _ => intro h; exact absurd h (by decide)
  | choice1 _ _ _ _ _ => intro h; exact absurd h (by decide)
  | choice _ _ _ _ _ _ _ _ _ _ _ => intro h; exact absurd h (by decide)
/-- The places of a row of places: from the second one on. -/
def placesF (c : Nat → Nat) (n : Nat) : List Int := (List.range n).map fun i => ((c (i + 1) : Nat) : Int)
theorem places_succ (c : Nat → Nat) (n : Nat) : placesF c (n + 1) = placesF c n ++ [((c (n + 1) : Nat) : Int)] := by simp [placesF, List.range_succ]
theorem cut_row {l : List Sg} {from_ to_ : Nat} {way : Int} (hl : to_ ≤ l.length) {p q : Nat} {t : T} (h : Seg l 2 p q t) (hq : q ≤ to_) (hw : way ≠ 2) : ∀ acc, cutAt l from_ to_ way p acc = cutAt l from_ to_ way q acc := by
  have ad : ∀ p, addI from_ way p = [] := fun p => by unfold addI; rw [if_neg (by omega)]
  cases h with
  | row1 _ _ _ h => intro acc; have := cut_item (from_ := from_) (way := way) hl h (by decide) hq acc; rwa [ad, List.append_nil] at this
  | row _ _ ts c h2 h0 he hs =>
    intro acc
    have up := up_le (n := ts.length) (c := c) (fun i hi => (seg_lt (hs i hi)).1)
    have key : ∀ i, i ≤ ts.length → cutAt l from_ to_ way (c 0) acc = cutAt l from_ to_ way (c i) acc := by
      intro i
      induction i with
      | zero => intro _; rfl
      | succ i ihi =>
        intro hi
        have u := up (i + 1) ts.length hi (Nat.le_refl _)
        have := cut_item (from_ := from_) (way := way) hl (hs i hi) (by decide) (by omega) acc
        rw [ad, List.append_nil] at this
        rw [ihi (by omega), this]
    rw [← h0, key ts.length (Nat.le_refl _), he]
theorem cuts_row3 {l : List Sg} {p q : Nat} {t : T} (h : Seg l 2 p q t) : cutAt l p q 3 p [(p : Int)] ++ [(q : Int)] = [(p : Int), (q : Int)] := by
  rw [cut_row (seg_lt h).2 h (Nat.le_refl _) (by decide), cut_end (Nat.le_refl _)]; rfl
theorem cuts_item {l : List Sg} {v p q : Nat} {way : Int} {t : T} (h : Seg l v p q t) (hv : v ≤ 1) : cutAt l p q way p [(p : Int)] ++ [(q : Int)] = [(p : Int), (q : Int)] := by
  rw [cut_item (seg_lt h).2 h hv (Nat.le_refl _), cut_end (Nat.le_refl _)]
  unfold addI; rw [if_neg (by omega)]; rfl
theorem cuts_items {l : List Sg} {p q : Nat} {ts : List T} {c : Nat → Nat} (h0 : c 0 = p) (he : c ts.length = q) (h1 : 1 ≤ ts.length) (hs : ∀ i, i < ts.length → Seg l 1 (c i) (c (i + 1)) (ts.getD i default)) :
    cutAt l p q 2 p [(p : Int)] ++ [(q : Int)] = [(p : Int)] ++ placesF c ts.length := by
  have up := up_le (n := ts.length) (c := c) (fun i hi => (seg_lt (hs i hi)).1)
  have hql : q ≤ l.length := by rw [← he]; have := (seg_lt (hs (ts.length - 1) (by omega))).2; rwa [show ts.length - 1 + 1 = ts.length by omega] at this
  have key : ∀ i, i < ts.length → cutAt l p q 2 (c 0) [(p : Int)] = cutAt l p q 2 (c (i + 1)) ([(p : Int)] ++ placesF c i) := by
    intro i
    induction i with
    | zero =>
      intro hi
      have u := up (0 + 1) ts.length (by omega) (Nat.le_refl _)
      rw [he] at u
      rw [cut_item hql (hs 0 hi) (by decide) (by omega)]
      unfold addI; rw [if_neg (by omega)]; rfl
    | succ i ihi =>
      intro hi
      have u := up (i + 1 + 1) ts.length (by omega) (Nat.le_refl _)
      have u2 := up 0 (i + 1) (by omega) (by omega)
      rw [he] at u
      rw [ihi (by omega), cut_item hql (hs (i + 1) hi) (by decide) (by omega), places_succ]
      unfold addI; rw [if_pos ⟨rfl, by omega⟩, List.append_assoc]
  have k := key (ts.length - 1) (by omega)
  rw [show ts.length - 1 + 1 = ts.length by omega, h0, he] at k
  rw [k, cut_end (Nat.le_refl _), List.append_assoc]
  congr 1
  have := places_succ c (ts.length - 1)
  rw [show ts.length - 1 + 1 = ts.length by omega, he] at this
  exact this.symm
/-- Where rows begin, and the end of the last one. -/
theorem cuts_rows {l : List Sg} {p q : Nat} {ts : List T} {c e : Nat → Nat} (h1 : 1 ≤ ts.length) (h0 : c 0 = p) (he : e (ts.length - 1) = q) (hs : ∀ i, i < ts.length → Seg l 2 (c i) (e i) (ts.getD i default)) (hg : ∀ i, i + 1 < ts.length → kd l (e i) = 4 ∧ c (i + 1) = e i + 1) :
    cutAt l p q 3 p [(p : Int)] ++ [(q : Int)] = [(p : Int)] ++ placesF c (ts.length - 1) ++ [(q : Int)] := by
  have mono : ∀ j, j < ts.length → ∀ i, i ≤ j → e i ≤ e j := by
    intro j
    induction j with
    | zero => intro _ i hi; rw [show i = 0 by omega]; exact Nat.le_refl _
    | succ j ihj =>
      intro hj i hi
      by_cases h : i = j + 1
      · subst h; exact Nat.le_refl _
      · have a := ihj (by omega) i (by omega)
        have b := (seg_lt (hs (j + 1) hj)).1
        have d := hg j hj
        omega
  have hql : q ≤ l.length := by rw [← he]; exact (seg_lt (hs (ts.length - 1) (by omega))).2
  have key : ∀ i, i < ts.length → cutAt l p q 3 (c 0) [(p : Int)] = cutAt l p q 3 (e i) ([(p : Int)] ++ placesF c i) := by
    intro i
    induction i with
    | zero =>
      intro hi
      rw [cut_row hql (hs 0 hi) (by rw [← he]; exact mono _ (by omega) 0 (by omega)) (by decide)]
      simp [placesF]
    | succ i ihi =>
      intro hi
      have g := hg i hi
      have m1 := mono (ts.length - 1) (by omega) (i + 1) (by omega)
      have m2 := (seg_lt (hs (i + 1) hi)).1
      rw [ihi (by omega), cut_step (i := e i) (a1 := [(p : Int)] ++ placesF c i) (a2 := [(p : Int)] ++ placesF c (i + 1)) (j := e i) hql (by omega) (by rw [g.1]; simp) (by rw [g.1, places_succ, g.2]; simp) (by rw [g.1]; simp), ← g.2]
      exact cut_row hql (hs (i + 1) hi) (by omega) (by decide) _
  have k := key (ts.length - 1) (by omega)
  rw [h0, he] at k
  rw [k, cut_end (Nat.le_refl _)]
end Go.Proofs.YtijpdbjcmnpobaaDoor

namespace Go.Proofs.YtijpdbjcmnpobaaDoor
set_option linter.unusedSimpArgs false
set_option linter.unusedVariables false
set_option maxRecDepth 100000
open Go.RowKit

theorem sb_bool {a b : Bool} (h : a = b) : Sb (boolV a) (boolV b) := by subst h; exact .refl _
theorem fz_snoc {sh : List (Nat × HObj)} {acc : List Int} {r : Int} {j : Nat} (i : Nat) (hi : i < (acc ++ [r]).length) : Fz sh (cat acc.length (kidsF acc) (bsf [intV r]) i j) (intV ((acc ++ [r]).getD i 0)) := by
  by_cases h : i < acc.length
  · rw [cat_lt h, getD_app h]; exact .imm _
  · have : i = acc.length := by rw [List.length_append, List.length_singleton] at hi; omega
    subst this
    rw [cat_ge (Nat.le_refl _), Nat.sub_self, getD_snoc]; exact .imm _
theorem check_h (l : List Sg) (hl : l.length ≤ 1000) : HPure Tryd.prog 64 [sgsV l] (t2 (intV (chk l 0 0 true true).1) (boolV (chk l 0 0 true true).2)) := by
  refine hpure_of Tryd.func64 rfl (by kernel_rfl) _ _ _ rfl 75 rfl rfl (fun w F => ?_)
  refine hw_seq (fun Nh1 h1 => ?_)
  refine hw_region ?_
  refine hq_ 2 (hop_assign rfl) rfl rfl pre0 rfl rfl ?_
  refine hq_ 3 (hop_assign rfl) rfl rfl pre0 rfl rfl ?_
  refine hseq_nil ?_
  refine h1 _ ?_
  refine hw_seq (fun Nh2 h2 => ?_)
  refine hw_region ?_
  refine hq_ 4 (hop_assign rfl) rfl rfl pre0 rfl rfl ?_
  refine hseq_nil ?_
  refine h2 _ ?_
  refine hw_seq (fun Nh3 h3 => ?_)
  refine hw_region ?_
  refine hq_ 5 (hop_assign rfl) rfl rfl pre0 rfl rfl ?_
  refine hseq_nil ?_
  refine h3 _ ?_
  refine hw_seq (fun Nh4 h4 => ?_)
  refine hw_region ?_
  refine hq_ 6 (hop_assign rfl) rfl rfl pre0 rfl rfl ?_
  refine hseq_nil ?_
  refine h4 _ ?_
  refine hw_seq (fun Nh5 h5 => ?_)
  refine hw_seq (fun Nh6 h6 => ?_)
  refine hw_region ?_
  refine hq_ 7 (hop_assign rfl) rfl rfl pre0 rfl rfl ?_
  refine hseq_nil ?_
  refine h6 _ ?_
  refine hw_block ?_
  refine hw_loopc (α := Nat × Nat × Bool × Bool) (fun x c => ⟨75, [(0, .v (sgsV l)), (4, .v (intV x.2.1)), (5, .v (boolV x.2.2.1)), (6, .v (boolV x.2.2.2)), (7, .v (intV x.1))], [], c⟩) (fun x => x.1 ≤ l.length ∧ x.2.1 ≤ x.1 ∧ chk l x.1 x.2.1 x.2.2.1 x.2.2.2 = chk l 0 0 true true) (fun x => l.length - x.1) ((0, 0, true, true)) (by exact ⟨Nat.zero_le _, Nat.zero_le _, rfl⟩) (hsub_of rfl (Nat.le_refl _) (TmSub.cons rfl (Sb.refl _) (TmSub.cons rfl (Sb.refl _) (TmSub.cons rfl (Sb.refl _) (TmSub.cons rfl (Sb.refl _) (TmSub.cons rfl (Sb.refl _) TmSub.nil))))) HpSub.nil) (fun x c hx NhL7 hL7 => ?_)
  revert hx hL7; obtain ⟨i, d, it, ct⟩ := x; intro hx hL7; dsimp only at hx hL7 ⊢
  obtain ⟨hi, hd, hC⟩ := hx
  refine hw_seq (fun Nh8 h8 => ?_)
  refine hw_seq (fun Nh9 h9 => ?_)
  refine hw_region ?_
  refine hq_ 9 (hop_move rfl) rfl rfl pre0 rfl rfl ?_
  refine hq_ 10 (hop_move rfl) rfl rfl pre0 rfl rfl ?_
  refine hq_ 11 (hop_len_sl (T := 36) rfl (elOf_spec el_36).1 rfl) rfl rfl pre0 rfl rfl ?_
  refine hq_ 12 (hop_lss rfl rfl) rfl rfl pre0 rfl rfl ?_
  refine hseq_nil ?_
  refine h9 _ ?_
  refine hw_cond _ rfl (fun hc0 => ?_) (fun hc0 => ?_)
  · have hr0 := hc0; (try simp only [hcs, Int.reduceToNat] at hc0)
    have hil : i < l.length := (by omega)
    refine hw_skip ?_
    refine h8 _ ?_
    refine hw_seq (fun Nh10 h10 => ?_)
    refine hw_block ?_
    refine hw_seq (fun Nh11 h11 => ?_)
    refine hw_region ?_
    refine hq_ 15 (hop_move rfl) rfl rfl pre0 rfl rfl ?_
    refine hq_ 16 (hop_move rfl) rfl rfl pre0 rfl rfl ?_
    refine hq_ 17 (hop_ia_sl el_36 rfl rfl (by omega) (by omega) (nb rfl)) rfl rfl pre0 rfl rfl ?_
    refine hq_ 18 (hop_fa_fp fd_40_0 rfl (nb rfl)) rfl rfl pre0 rfl rfl ?_
    refine hq_ 19 (HOp.val (v' := intV (kd l i)) (hop_load_fp ty_3 rfl (nb rfl) (fun h => (by rfl))) (by rw [kd_in hil]; rfl)) rfl rfl pre0 rfl rfl ?_
    refine hq_ 8 (hop_assign rfl) rfl rfl pre0 rfl rfl ?_
    refine hseq_nil ?_
    refine h11 _ ?_
    refine hw_seq (fun Nh12 h12 => ?_)
    refine hw_seq (fun Nh13 h13 => ?_)
    refine hw_region ?_
    refine hq_ 20 (hop_move rfl) rfl rfl pre0 rfl rfl ?_
    refine hq_ 21 (hop_move rfl) rfl rfl pre0 rfl rfl ?_
    refine hq_g 22 1 21 true _ (fun hb => hop_move rfl) rfl rfl rfl rfl pre0 rfl rfl rfl ?_
    refine hq_g 23 1 21 true _ (fun hb => hop_neq rfl rfl) rfl rfl rfl rfl pre0 rfl rfl rfl ?_
    refine hq_p 24 (hstep_and _ _ rfl rfl rfl) rfl rfl rfl ?_
    refine hq_ 25 (hop_move rfl) rfl rfl pre0 rfl rfl ?_
    refine hq_g 26 5 25 true _ (fun hb => hop_move rfl) rfl rfl rfl rfl pre0 rfl rfl rfl ?_
    refine hq_g 27 5 25 true _ (fun hb => hop_neq rfl rfl) rfl rfl rfl rfl pre0 rfl rfl rfl ?_
    refine hq_p 28 (hstep_and _ _ rfl rfl rfl) rfl rfl rfl ?_
    refine hq_ 29 (hop_move rfl) rfl rfl pre0 rfl rfl ?_
    refine hq_g 30 9 29 false _ (fun hb => hop_move rfl) rfl rfl rfl rfl pre0 rfl rfl rfl ?_
    refine hq_g 31 9 29 false _ (fun hb => hop_eql rfl rfl) rfl rfl rfl rfl pre0 rfl rfl rfl ?_
    refine hq_g 32 9 29 false _ (fun hb => hop_move rfl) rfl rfl rfl rfl pre0 rfl rfl rfl ?_
    refine hq_g3 33 12 32 29 false true _ _ (fun hb hb2 => hop_move rfl) rfl rfl rfl rfl rfl pre0 rfl rfl rfl ?_
    refine hq_g3 34 12 32 29 false true _ _ (fun hb hb2 => hop_eql rfl rfl) rfl rfl rfl rfl rfl pre0 rfl rfl rfl ?_
    refine hq_pg 35 (hstep_andg (gi := 9) (j := 29) _ _ rfl rfl rfl rfl) rfl rfl rfl rfl ?_
    refine hq_p 36 (hstep_or _ _ rfl rfl rfl) rfl rfl rfl ?_
    refine hq_ 37 (hop_move rfl) rfl rfl pre0 rfl rfl ?_
    refine hq_g 38 17 37 false _ (fun hb => hop_move rfl) rfl rfl rfl rfl pre0 rfl rfl rfl ?_
    refine hq_g 39 17 37 false _ (fun hb => hop_eql rfl rfl) rfl rfl rfl rfl pre0 rfl rfl rfl ?_
    refine hq_g 40 17 37 false _ (fun hb => hop_move rfl) rfl rfl rfl rfl pre0 rfl rfl rfl ?_
    refine hq_g3 41 20 40 37 false true _ _ (fun hb hb2 => hop_move rfl) rfl rfl rfl rfl rfl pre0 rfl rfl rfl ?_
    refine hq_pg 42 (hstep_andg (gi := 17) (j := 37) _ _ rfl rfl rfl rfl) rfl rfl rfl rfl ?_
    refine hq_p 43 (hstep_or _ _ rfl rfl rfl) rfl rfl rfl ?_
    refine hseq_nilU (by rfl) (by simp only [dropUn, slots]; exact rfl) ?_
    refine h13 _ ?_
    refine hw_cond _ rfl (fun hc1 => ?_) (fun hc1 => ?_)
    · have hr1 := hc1; (try simp only [hcs, Int.reduceToNat] at hc1)
      have hbad : (it = true ∧ kd l i ≠ 1 ∧ kd l i ≠ 2) ∨ (kd l i = 3 ∧ d = 0) ∨ (kd l i = 5 ∧ ct = true) := (by have h := hr1; cases it <;> cases ct <;> simp at h ⊢ <;> omega)
      refine hw_seq (fun Nh14 h14 => ?_)
      refine hw_region ?_
      refine hq_ 44 (hop_move rfl) rfl rfl pre0 rfl rfl ?_
      refine hq_ 2 (hop_assign rfl) rfl rfl pre0 rfl rfl ?_
      refine hq_ 3 (hop_assign rfl) rfl rfl pre0 rfl rfl ?_
      refine hseq_nil ?_
      refine h14 _ ?_
      refine hw_ret ?_
      refine hq_then_ret ?_
      refine hq_block_ret ?_
      refine hq_then_ret ?_
      refine hq_then_ret ?_
      refine hq_block_ret ?_
      refine hq_then_ret ?_
      refine hq_ret2 rfl (rval_tmp rfl) (rval_tmp rfl) [] rfl pre0 ?_
      rw [← hC, chk_bad hil hbad]; exact fz_t2 (.imm _) (.imm _)
    · have hr1 := hc1; (try simp only [hcs, Int.reduceToNat] at hc1)
      have hbad : ¬ ((it = true ∧ kd l i ≠ 1 ∧ kd l i ≠ 2) ∨ (kd l i = 3 ∧ d = 0) ∨ (kd l i = 5 ∧ ct = true)) := (by have h := hr1; cases it <;> cases ct <;> simp at h ⊢ <;> omega)
      refine hw_skip ?_
      refine h12 _ ?_
      refine hw_seq (fun Nh15 h15 => ?_)
      refine hw_seq (fun Nh16 h16 => ?_)
      refine hw_region ?_
      refine hq_ 45 (hop_move rfl) rfl rfl pre0 rfl rfl ?_
      refine hq_ 46 (hop_eql rfl rfl) rfl rfl pre0 rfl rfl ?_
      refine hseq_nil ?_
      refine h16 _ ?_
      refine hw_cond _ rfl (fun hc2 => ?_) (fun hc2 => ?_)
      · have hr2 := hc2; (try simp only [hcs, Int.reduceToNat] at hc2)
        refine hw_region ?_
        refine hq_ 47 (hop_move rfl) rfl rfl pre0 rfl rfl ?_
        refine hq_ 48 (hop_addi rfl rfl rfl (by omega) (by omega)) rfl rfl pre0 rfl rfl ?_
        refine hq_ 4 (hop_assign rfl) rfl rfl pre0 rfl rfl ?_
        refine hseq_nil ?_
        refine h15 _ ?_
        refine hw_seq (fun Nh17 h17 => ?_)
        refine hw_seq (fun Nh18 h18 => ?_)
        refine hw_region ?_
        refine hq_ 49 (hop_move rfl) rfl rfl pre0 rfl rfl ?_
        refine hq_ 50 (hop_eql rfl rfl) rfl rfl pre0 rfl rfl ?_
        refine hseq_nil ?_
        refine h18 _ ?_
        refine hw_cond _ rfl (fun hc3 => ?_) (fun hc3 => ?_)
        · have hr3 := hc3; (try simp only [hcs, Int.reduceToNat] at hc3)
          exfalso; omega
        · have hr3 := hc3; (try simp only [hcs, Int.reduceToNat] at hc3)
          refine hw_skip ?_
          refine h17 _ ?_
          refine hw_seq (fun Nh19 h19 => ?_)
          refine hw_region ?_
          refine hq_ 53 (hop_move rfl) rfl rfl pre0 rfl rfl ?_
          refine hq_ 54 (hop_eql rfl rfl) rfl rfl pre0 rfl rfl ?_
          refine hq_ 55 (hop_move rfl) rfl rfl pre0 rfl rfl ?_
          refine hq_g 56 2 55 false _ (fun hb => hop_move rfl) rfl rfl rfl rfl pre0 rfl rfl rfl ?_
          refine hq_g 57 2 55 false _ (fun hb => hop_eql rfl rfl) rfl rfl rfl rfl pre0 rfl rfl rfl ?_
          refine hq_p 58 (hstep_or _ _ rfl rfl rfl) rfl rfl rfl ?_
          refine hq_ 5 (hop_assign rfl) rfl rfl pre0 rfl rfl ?_
          refine hseq_nilU (by rfl) (by simp only [dropUn, slots]; exact rfl) ?_
          refine h19 _ ?_
          refine hw_region ?_
          refine hq_ 59 (hop_move rfl) rfl rfl pre0 rfl rfl ?_
          refine hq_ 60 (hop_neq rfl rfl) rfl rfl pre0 rfl rfl ?_
          refine hq_ 61 (hop_move rfl) rfl rfl pre0 rfl rfl ?_
          refine hq_g 62 2 61 true _ (fun hb => hop_move rfl) rfl rfl rfl rfl pre0 rfl rfl rfl ?_
          refine hq_g 63 2 61 true _ (fun hb => hop_neq rfl rfl) rfl rfl rfl rfl pre0 rfl rfl rfl ?_
          refine hq_p 64 (hstep_and _ _ rfl rfl rfl) rfl rfl rfl ?_
          refine hq_ 6 (hop_assign rfl) rfl rfl pre0 rfl rfl ?_
          refine hseq_nilU (by rfl) (by simp only [dropUn, slots]; exact rfl) ?_
          refine hq_block ?_
          refine h10 _ ?_
          refine hw_region ?_
          refine hq_ 13 (hop_move rfl) rfl rfl pre0 rfl rfl ?_
          refine hq_ 14 (hop_addi rfl rfl rfl (by omega) (by omega)) rfl rfl pre0 rfl rfl ?_
          refine hq_ 7 (hop_assign rfl) rfl rfl pre0 rfl rfl ?_
          refine hseq_nil ?_
          exact hL7 ((i + 1, d + 1, (decide (kd l i = 2) || decide (kd l i = 4)), (!decide (kd l i = 1) && !decide (kd l i = 3)))) _ _ (by (try dsimp only); exact ⟨hil, by omega, by rw [← hC, chk_step hil, if_neg hbad, if_pos hc2]⟩) (by (try dsimp only); omega) (hsub_of rfl (Nat.le_refl _) (TmSub.cons rfl (Sb.refl _) (TmSub.cons rfl (by dsimp only; exact sb_int (by omega)) (TmSub.cons rfl (by dsimp only; exact sb_bool (by first | rfl | simp | (trace_state; rfl))) (TmSub.cons rfl (by dsimp only; exact sb_bool (by first | rfl | simp | (trace_state; rfl))) (TmSub.cons rfl (by dsimp only; exact sb_int (by omega)) TmSub.nil))))) HpSub.nil)
      · have hr2 := hc2; (try simp only [hcs, Int.reduceToNat] at hc2)
        refine hw_skip ?_
        refine h15 _ ?_
        refine hw_seq (fun Nh20 h20 => ?_)
        refine hw_seq (fun Nh21 h21 => ?_)
        refine hw_region ?_
        refine hq_ 49 (hop_move rfl) rfl rfl pre0 rfl rfl ?_
        refine hq_ 50 (hop_eql rfl rfl) rfl rfl pre0 rfl rfl ?_
        refine hseq_nil ?_
        refine h21 _ ?_
        refine hw_cond _ rfl (fun hc3 => ?_) (fun hc3 => ?_)
        · have hr3 := hc3; (try simp only [hcs, Int.reduceToNat] at hc3)
          refine hw_region ?_
          refine hq_ 51 (hop_move rfl) rfl rfl pre0 rfl rfl ?_
          refine hq_ 52 (hop_subi rfl rfl rfl (by omega) (by omega)) rfl rfl pre0 rfl rfl ?_
          refine hq_ 4 (hop_assign rfl) rfl rfl pre0 rfl rfl ?_
          refine hseq_nil ?_
          refine h20 _ ?_
          refine hw_seq (fun Nh22 h22 => ?_)
          refine hw_region ?_
          refine hq_ 53 (hop_move rfl) rfl rfl pre0 rfl rfl ?_
          refine hq_ 54 (hop_eql rfl rfl) rfl rfl pre0 rfl rfl ?_
          refine hq_ 55 (hop_move rfl) rfl rfl pre0 rfl rfl ?_
          refine hq_g 56 2 55 false _ (fun hb => hop_move rfl) rfl rfl rfl rfl pre0 rfl rfl rfl ?_
          refine hq_g 57 2 55 false _ (fun hb => hop_eql rfl rfl) rfl rfl rfl rfl pre0 rfl rfl rfl ?_
          refine hq_p 58 (hstep_or _ _ rfl rfl rfl) rfl rfl rfl ?_
          refine hq_ 5 (hop_assign rfl) rfl rfl pre0 rfl rfl ?_
          refine hseq_nilU (by rfl) (by simp only [dropUn, slots]; exact rfl) ?_
          refine h22 _ ?_
          refine hw_region ?_
          refine hq_ 59 (hop_move rfl) rfl rfl pre0 rfl rfl ?_
          refine hq_ 60 (hop_neq rfl rfl) rfl rfl pre0 rfl rfl ?_
          refine hq_ 61 (hop_move rfl) rfl rfl pre0 rfl rfl ?_
          refine hq_g 62 2 61 true _ (fun hb => hop_move rfl) rfl rfl rfl rfl pre0 rfl rfl rfl ?_
          refine hq_g 63 2 61 true _ (fun hb => hop_neq rfl rfl) rfl rfl rfl rfl pre0 rfl rfl rfl ?_
          refine hq_p 64 (hstep_and _ _ rfl rfl rfl) rfl rfl rfl ?_
          refine hq_ 6 (hop_assign rfl) rfl rfl pre0 rfl rfl ?_
          refine hseq_nilU (by rfl) (by simp only [dropUn, slots]; exact rfl) ?_
          refine hq_block ?_
          refine h10 _ ?_
          refine hw_region ?_
          refine hq_ 13 (hop_move rfl) rfl rfl pre0 rfl rfl ?_
          refine hq_ 14 (hop_addi rfl rfl rfl (by omega) (by omega)) rfl rfl pre0 rfl rfl ?_
          refine hq_ 7 (hop_assign rfl) rfl rfl pre0 rfl rfl ?_
          refine hseq_nil ?_
          exact hL7 ((i + 1, d - 1, (decide (kd l i = 2) || decide (kd l i = 4)), (!decide (kd l i = 1) && !decide (kd l i = 3)))) _ _ (by (try dsimp only); exact ⟨hil, by omega, by rw [← hC, chk_step hil, if_neg hbad, if_neg hc2, if_pos hc3]⟩) (by (try dsimp only); omega) (hsub_of rfl (Nat.le_refl _) (TmSub.cons rfl (Sb.refl _) (TmSub.cons rfl (by dsimp only; exact sb_int (by omega)) (TmSub.cons rfl (by dsimp only; exact sb_bool (by first | rfl | simp | (trace_state; rfl))) (TmSub.cons rfl (by dsimp only; exact sb_bool (by first | rfl | simp | (trace_state; rfl))) (TmSub.cons rfl (by dsimp only; exact sb_int (by omega)) TmSub.nil))))) HpSub.nil)
        · have hr3 := hc3; (try simp only [hcs, Int.reduceToNat] at hc3)
          refine hw_skip ?_
          refine h20 _ ?_
          refine hw_seq (fun Nh23 h23 => ?_)
          refine hw_region ?_
          refine hq_ 53 (hop_move rfl) rfl rfl pre0 rfl rfl ?_
          refine hq_ 54 (hop_eql rfl rfl) rfl rfl pre0 rfl rfl ?_
          refine hq_ 55 (hop_move rfl) rfl rfl pre0 rfl rfl ?_
          refine hq_g 56 2 55 false _ (fun hb => hop_move rfl) rfl rfl rfl rfl pre0 rfl rfl rfl ?_
          refine hq_g 57 2 55 false _ (fun hb => hop_eql rfl rfl) rfl rfl rfl rfl pre0 rfl rfl rfl ?_
          refine hq_p 58 (hstep_or _ _ rfl rfl rfl) rfl rfl rfl ?_
          refine hq_ 5 (hop_assign rfl) rfl rfl pre0 rfl rfl ?_
          refine hseq_nilU (by rfl) (by simp only [dropUn, slots]; exact rfl) ?_
          refine h23 _ ?_
          refine hw_region ?_
          refine hq_ 59 (hop_move rfl) rfl rfl pre0 rfl rfl ?_
          refine hq_ 60 (hop_neq rfl rfl) rfl rfl pre0 rfl rfl ?_
          refine hq_ 61 (hop_move rfl) rfl rfl pre0 rfl rfl ?_
          refine hq_g 62 2 61 true _ (fun hb => hop_move rfl) rfl rfl rfl rfl pre0 rfl rfl rfl ?_
          refine hq_g 63 2 61 true _ (fun hb => hop_neq rfl rfl) rfl rfl rfl rfl pre0 rfl rfl rfl ?_
          refine hq_p 64 (hstep_and _ _ rfl rfl rfl) rfl rfl rfl ?_
          refine hq_ 6 (hop_assign rfl) rfl rfl pre0 rfl rfl ?_
          refine hseq_nilU (by rfl) (by simp only [dropUn, slots]; exact rfl) ?_
          refine hq_block ?_
          refine h10 _ ?_
          refine hw_region ?_
          refine hq_ 13 (hop_move rfl) rfl rfl pre0 rfl rfl ?_
          refine hq_ 14 (hop_addi rfl rfl rfl (by omega) (by omega)) rfl rfl pre0 rfl rfl ?_
          refine hq_ 7 (hop_assign rfl) rfl rfl pre0 rfl rfl ?_
          refine hseq_nil ?_
          exact hL7 ((i + 1, d, (decide (kd l i = 2) || decide (kd l i = 4)), (!decide (kd l i = 1) && !decide (kd l i = 3)))) _ _ (by (try dsimp only); exact ⟨hil, by omega, by rw [← hC, chk_step hil, if_neg hbad, if_neg hc2, if_neg hc3]⟩) (by (try dsimp only); omega) (hsub_of rfl (Nat.le_refl _) (TmSub.cons rfl (Sb.refl _) (TmSub.cons rfl (by dsimp only; exact sb_int (by omega)) (TmSub.cons rfl (by dsimp only; exact sb_bool (by first | rfl | simp | (trace_state; rfl))) (TmSub.cons rfl (by dsimp only; exact sb_bool (by first | rfl | simp | (trace_state; rfl))) (TmSub.cons rfl (by dsimp only; exact sb_int (by omega)) TmSub.nil))))) HpSub.nil)
  · have hr0 := hc0; (try simp only [hcs, Int.reduceToNat] at hc0)
    refine hw_exit ?_
    refine hq_then_exit ?_
    refine hq_then_exit ?_
    refine hq_block_here ?_
    refine h5 _ ?_
    refine hw_seq (fun Nh24 h24 => ?_)
    refine hw_region ?_
    refine hq_ 65 (hop_move rfl) rfl rfl pre0 rfl rfl ?_
    refine hq_ 66 (hop_len_sl (T := 36) rfl (elOf_spec el_36).1 rfl) rfl rfl pre0 rfl rfl ?_
    refine hq_ 67 (hop_gtr rfl rfl) rfl rfl pre0 rfl rfl ?_
    refine hq_ 68 (hop_move rfl) rfl rfl pre0 rfl rfl ?_
    refine hq_g 69 3 68 true _ (fun hb => hop_move rfl) rfl rfl rfl rfl pre0 rfl rfl rfl ?_
    refine hq_g 70 3 68 true _ (fun hb => hop_move rfl) rfl rfl rfl rfl pre0 rfl rfl rfl ?_
    refine hq_g3 71 5 70 68 true false _ _ (fun hb hb2 => hop_move rfl) rfl rfl rfl rfl rfl pre0 rfl rfl rfl ?_
    refine hq_g3 72 5 70 68 true false _ _ (fun hb hb2 => hop_gtr rfl rfl) rfl rfl rfl rfl rfl pre0 rfl rfl rfl ?_
    refine hq_pg 73 (hstep_org (gi := 3) (j := 68) _ _ rfl rfl rfl rfl) rfl rfl rfl rfl ?_
    refine hq_p 74 (hstep_and _ _ rfl rfl rfl) rfl rfl rfl ?_
    refine hq_ 2 (hop_assign rfl) rfl rfl pre0 rfl rfl ?_
    refine hq_ 3 (hop_assign rfl) rfl rfl pre0 rfl rfl ?_
    refine hseq_nilU (by rfl) (by simp only [dropUn, slots]; exact rfl) ?_
    refine h24 _ ?_
    refine hw_ret ?_
    refine hq_ret2 rfl (rval_tmp rfl) (rval_tmp rfl) [] rfl pre0 ?_
    rw [← hC, chk_end (by omega)]; exact fz_t2 (.imm _) (fz_bool (by cases it <;> simp))
theorem shut_h (l : List Sg) (p : Nat) (hl : l.length ≤ 1000) (hp : p ≤ l.length) : HPure Tryd.prog 107 [sgsV l, intV p] (intV (shutAt l p 0)) := by
  refine hpure_of Tryd.func107 rfl (by kernel_rfl) _ _ _ rfl 35 rfl rfl (fun w F => ?_)
  refine hw_seq (fun Nh1 h1 => ?_)
  refine hw_region ?_
  refine hq_ 4 (hop_assign rfl) rfl rfl pre0 rfl rfl ?_
  refine hseq_nil ?_
  refine h1 _ ?_
  refine hw_seq (fun Nh2 h2 => ?_)
  refine hw_region ?_
  refine hq_ 5 (hop_assign rfl) rfl rfl pre0 rfl rfl ?_
  refine hseq_nil ?_
  refine h2 _ ?_
  refine hw_seq (fun Nh3 h3 => ?_)
  refine hw_seq (fun Nh4 h4 => ?_)
  refine hw_region ?_
  refine hq_ 7 (hop_move rfl) rfl rfl pre0 rfl rfl ?_
  refine hq_ 6 (hop_assign rfl) rfl rfl pre0 rfl rfl ?_
  refine hseq_nil ?_
  refine h4 _ ?_
  refine hw_block ?_
  refine hw_loopc (α := Nat × Int) (fun x c => ⟨35, [(0, .v (sgsV l)), (1, .v (intV p)), (5, .v (intV x.2)), (6, .v (intV x.1))], [], c⟩) (fun x => x.1 ≤ l.length ∧ (-(x.1 : Int) ≤ x.2 ∧ x.2 ≤ x.1) ∧ shutAt l x.1 x.2 = shutAt l p 0) (fun x => l.length - x.1) ((p, 0)) (by exact ⟨hp, by omega, rfl⟩) (hsub_of rfl (Nat.le_refl _) (TmSub.cons rfl (Sb.refl _) (TmSub.cons rfl (Sb.refl _) (TmSub.cons rfl (Sb.refl _) (TmSub.cons rfl (Sb.refl _) TmSub.nil)))) HpSub.nil) (fun x c hx NhL5 hL5 => ?_)
  revert hx hL5; obtain ⟨i, d⟩ := x; intro hx hL5; dsimp only at hx hL5 ⊢
  obtain ⟨hi, hd, hC⟩ := hx
  refine hw_seq (fun Nh6 h6 => ?_)
  refine hw_seq (fun Nh7 h7 => ?_)
  refine hw_region ?_
  refine hq_ 8 (hop_move rfl) rfl rfl pre0 rfl rfl ?_
  refine hq_ 9 (hop_move rfl) rfl rfl pre0 rfl rfl ?_
  refine hq_ 10 (hop_len_sl (T := 36) rfl (elOf_spec el_36).1 rfl) rfl rfl pre0 rfl rfl ?_
  refine hq_ 11 (hop_lss rfl rfl) rfl rfl pre0 rfl rfl ?_
  refine hseq_nil ?_
  refine h7 _ ?_
  refine hw_cond _ rfl (fun hc0 => ?_) (fun hc0 => ?_)
  · have hr0 := hc0; (try simp only [hcs, Int.reduceToNat] at hc0)
    have hil : i < l.length := (by omega)
    refine hw_skip ?_
    refine h6 _ ?_
    refine hw_seq (fun Nh8 h8 => ?_)
    refine hw_block ?_
    refine hw_seq (fun Nh9 h9 => ?_)
    refine hw_seq (fun Nh10 h10 => ?_)
    refine hw_region ?_
    refine hq_ 14 (hop_move rfl) rfl rfl pre0 rfl rfl ?_
    refine hq_ 15 (hop_move rfl) rfl rfl pre0 rfl rfl ?_
    refine hq_ 16 (hop_ia_sl el_36 rfl rfl (by omega) (by omega) (nb rfl)) rfl rfl pre0 rfl rfl ?_
    refine hq_ 17 (hop_fa_fp fd_40_0 rfl (nb rfl)) rfl rfl pre0 rfl rfl ?_
    refine hq_ 18 (HOp.val (v' := intV (kd l i)) (hop_load_fp ty_3 rfl (nb rfl) (fun h => (by rfl))) (by rw [kd_in hil]; rfl)) rfl rfl pre0 rfl rfl ?_
    refine hq_ 19 (hop_eql rfl rfl) rfl rfl pre0 rfl rfl ?_
    refine hseq_nil ?_
    refine h10 _ ?_
    refine hw_cond _ rfl (fun hc1 => ?_) (fun hc1 => ?_)
    · have hr1 := hc1; (try simp only [hcs, Int.reduceToNat] at hc1)
      have hk1 : kd l i = 2 := hc1
      refine hw_region ?_
      refine hq_ 20 (hop_move rfl) rfl rfl pre0 rfl rfl ?_
      refine hq_ 21 (hop_addi rfl rfl rfl (by omega) (by omega)) rfl rfl pre0 rfl rfl ?_
      refine hq_ 5 (hop_assign rfl) rfl rfl pre0 rfl rfl ?_
      refine hseq_nil ?_
      refine h9 _ ?_
      refine hw_seq (fun Nh11 h11 => ?_)
      refine hw_seq (fun Nh12 h12 => ?_)
      refine hw_region ?_
      refine hq_ 22 (hop_move rfl) rfl rfl pre0 rfl rfl ?_
      refine hq_ 23 (hop_move rfl) rfl rfl pre0 rfl rfl ?_
      refine hq_ 24 (hop_ia_sl el_36 rfl rfl (by omega) (by omega) (nb rfl)) rfl rfl pre0 rfl rfl ?_
      refine hq_ 25 (hop_fa_fp fd_40_0 rfl (nb rfl)) rfl rfl pre0 rfl rfl ?_
      refine hq_ 26 (HOp.val (v' := intV (kd l i)) (hop_load_fp ty_3 rfl (nb rfl) (fun h => (by rfl))) (by rw [kd_in hil]; rfl)) rfl rfl pre0 rfl rfl ?_
      refine hq_ 27 (hop_eql rfl rfl) rfl rfl pre0 rfl rfl ?_
      refine hseq_nil ?_
      refine h12 _ ?_
      refine hw_cond _ rfl (fun hc2 => ?_) (fun hc2 => ?_)
      · have hr2 := hc2; (try simp only [hcs, Int.reduceToNat] at hc2)
        exfalso; omega
      · have hr2 := hc2; (try simp only [hcs, Int.reduceToNat] at hc2)
        have hk2 : ¬ kd l i = 3 := hc2
        refine hw_skip ?_
        refine h11 _ ?_
        refine hw_seq (fun Nh13 h13 => ?_)
        refine hw_region ?_
        refine hq_ 30 (hop_move rfl) rfl rfl pre0 rfl rfl ?_
        refine hq_ 31 (hop_eql rfl rfl) rfl rfl pre0 rfl rfl ?_
        refine hseq_nil ?_
        refine h13 _ ?_
        refine hw_cond _ rfl (fun hc3 => ?_) (fun hc3 => ?_)
        · have hr3 := hc3; (try simp only [hcs, Int.reduceToNat] at hc3)
          refine hw_seq (fun Nh14 h14 => ?_)
          refine hw_region ?_
          refine hq_ 32 (hop_move rfl) rfl rfl pre0 rfl rfl ?_
          refine hq_ 4 (hop_assign rfl) rfl rfl pre0 rfl rfl ?_
          refine hseq_nil ?_
          refine h14 _ ?_
          refine hw_ret ?_
          refine hq_block_ret ?_
          refine hq_then_ret ?_
          refine hq_then_ret ?_
          refine hq_block_ret ?_
          refine hq_then_ret ?_
          refine hq_ret1 rfl (rval_tmp rfl) [] rfl pre0 ?_
          rw [← hC, shut_step (d' := d + 1) hil (by rw [if_pos hk1]), if_pos hc3]; exact .imm _
        · have hr3 := hc3; (try simp only [hcs, Int.reduceToNat] at hc3)
          refine hw_skip ?_
          refine hq_block ?_
          refine h8 _ ?_
          refine hw_region ?_
          refine hq_ 12 (hop_move rfl) rfl rfl pre0 rfl rfl ?_
          refine hq_ 13 (hop_addi rfl rfl rfl (by omega) (by omega)) rfl rfl pre0 rfl rfl ?_
          refine hq_ 6 (hop_assign rfl) rfl rfl pre0 rfl rfl ?_
          refine hseq_nil ?_
          exact hL5 ((i + 1, d + 1)) _ _ (by (try dsimp only); exact ⟨hil, by omega, by rw [← hC, shut_step (d' := d + 1) hil (by rw [if_pos hk1]), if_neg hc3]⟩) (by (try dsimp only); omega) (hsub_of rfl (Nat.le_refl _) (TmSub.cons rfl (Sb.refl _) (TmSub.cons rfl (Sb.refl _) (TmSub.cons rfl (Sb.refl _) (TmSub.cons rfl (by dsimp only; exact sb_int (by omega)) TmSub.nil)))) HpSub.nil)
    · have hr1 := hc1; (try simp only [hcs, Int.reduceToNat] at hc1)
      have hk1 : ¬ kd l i = 2 := hc1
      refine hw_skip ?_
      refine h9 _ ?_
      refine hw_seq (fun Nh15 h15 => ?_)
      refine hw_seq (fun Nh16 h16 => ?_)
      refine hw_region ?_
      refine hq_ 22 (hop_move rfl) rfl rfl pre0 rfl rfl ?_
      refine hq_ 23 (hop_move rfl) rfl rfl pre0 rfl rfl ?_
      refine hq_ 24 (hop_ia_sl el_36 rfl rfl (by omega) (by omega) (nb rfl)) rfl rfl pre0 rfl rfl ?_
      refine hq_ 25 (hop_fa_fp fd_40_0 rfl (nb rfl)) rfl rfl pre0 rfl rfl ?_
      refine hq_ 26 (HOp.val (v' := intV (kd l i)) (hop_load_fp ty_3 rfl (nb rfl) (fun h => (by rfl))) (by rw [kd_in hil]; rfl)) rfl rfl pre0 rfl rfl ?_
      refine hq_ 27 (hop_eql rfl rfl) rfl rfl pre0 rfl rfl ?_
      refine hseq_nil ?_
      refine h16 _ ?_
      refine hw_cond _ rfl (fun hc2 => ?_) (fun hc2 => ?_)
      · have hr2 := hc2; (try simp only [hcs, Int.reduceToNat] at hc2)
        have hk2 : kd l i = 3 := hc2
        refine hw_region ?_
        refine hq_ 28 (hop_move rfl) rfl rfl pre0 rfl rfl ?_
        refine hq_ 29 (hop_subi rfl rfl rfl (by omega) (by omega)) rfl rfl pre0 rfl rfl ?_
        refine hq_ 5 (hop_assign rfl) rfl rfl pre0 rfl rfl ?_
        refine hseq_nil ?_
        refine h15 _ ?_
        refine hw_seq (fun Nh17 h17 => ?_)
        refine hw_region ?_
        refine hq_ 30 (hop_move rfl) rfl rfl pre0 rfl rfl ?_
        refine hq_ 31 (hop_eql rfl rfl) rfl rfl pre0 rfl rfl ?_
        refine hseq_nil ?_
        refine h17 _ ?_
        refine hw_cond _ rfl (fun hc3 => ?_) (fun hc3 => ?_)
        · have hr3 := hc3; (try simp only [hcs, Int.reduceToNat] at hc3)
          refine hw_seq (fun Nh18 h18 => ?_)
          refine hw_region ?_
          refine hq_ 32 (hop_move rfl) rfl rfl pre0 rfl rfl ?_
          refine hq_ 4 (hop_assign rfl) rfl rfl pre0 rfl rfl ?_
          refine hseq_nil ?_
          refine h18 _ ?_
          refine hw_ret ?_
          refine hq_block_ret ?_
          refine hq_then_ret ?_
          refine hq_then_ret ?_
          refine hq_block_ret ?_
          refine hq_then_ret ?_
          refine hq_ret1 rfl (rval_tmp rfl) [] rfl pre0 ?_
          rw [← hC, shut_step (d' := d - 1) hil (by rw [if_neg hk1, if_pos hk2]), if_pos hc3]; exact .imm _
        · have hr3 := hc3; (try simp only [hcs, Int.reduceToNat] at hc3)
          refine hw_skip ?_
          refine hq_block ?_
          refine h8 _ ?_
          refine hw_region ?_
          refine hq_ 12 (hop_move rfl) rfl rfl pre0 rfl rfl ?_
          refine hq_ 13 (hop_addi rfl rfl rfl (by omega) (by omega)) rfl rfl pre0 rfl rfl ?_
          refine hq_ 6 (hop_assign rfl) rfl rfl pre0 rfl rfl ?_
          refine hseq_nil ?_
          exact hL5 ((i + 1, d - 1)) _ _ (by (try dsimp only); exact ⟨hil, by omega, by rw [← hC, shut_step (d' := d - 1) hil (by rw [if_neg hk1, if_pos hk2]), if_neg hc3]⟩) (by (try dsimp only); omega) (hsub_of rfl (Nat.le_refl _) (TmSub.cons rfl (Sb.refl _) (TmSub.cons rfl (Sb.refl _) (TmSub.cons rfl (Sb.refl _) (TmSub.cons rfl (by dsimp only; exact sb_int (by omega)) TmSub.nil)))) HpSub.nil)
      · have hr2 := hc2; (try simp only [hcs, Int.reduceToNat] at hc2)
        have hk2 : ¬ kd l i = 3 := hc2
        refine hw_skip ?_
        refine h15 _ ?_
        refine hw_seq (fun Nh19 h19 => ?_)
        refine hw_region ?_
        refine hq_ 30 (hop_move rfl) rfl rfl pre0 rfl rfl ?_
        refine hq_ 31 (hop_eql rfl rfl) rfl rfl pre0 rfl rfl ?_
        refine hseq_nil ?_
        refine h19 _ ?_
        refine hw_cond _ rfl (fun hc3 => ?_) (fun hc3 => ?_)
        · have hr3 := hc3; (try simp only [hcs, Int.reduceToNat] at hc3)
          refine hw_seq (fun Nh20 h20 => ?_)
          refine hw_region ?_
          refine hq_ 32 (hop_move rfl) rfl rfl pre0 rfl rfl ?_
          refine hq_ 4 (hop_assign rfl) rfl rfl pre0 rfl rfl ?_
          refine hseq_nil ?_
          refine h20 _ ?_
          refine hw_ret ?_
          refine hq_block_ret ?_
          refine hq_then_ret ?_
          refine hq_then_ret ?_
          refine hq_block_ret ?_
          refine hq_then_ret ?_
          refine hq_ret1 rfl (rval_tmp rfl) [] rfl pre0 ?_
          rw [← hC, shut_step (d' := d) hil (by rw [if_neg hk1, if_neg hk2]), if_pos hc3]; exact .imm _
        · have hr3 := hc3; (try simp only [hcs, Int.reduceToNat] at hc3)
          refine hw_skip ?_
          refine hq_block ?_
          refine h8 _ ?_
          refine hw_region ?_
          refine hq_ 12 (hop_move rfl) rfl rfl pre0 rfl rfl ?_
          refine hq_ 13 (hop_addi rfl rfl rfl (by omega) (by omega)) rfl rfl pre0 rfl rfl ?_
          refine hq_ 6 (hop_assign rfl) rfl rfl pre0 rfl rfl ?_
          refine hseq_nil ?_
          exact hL5 ((i + 1, d)) _ _ (by (try dsimp only); exact ⟨hil, by omega, by rw [← hC, shut_step (d' := d) hil (by rw [if_neg hk1, if_neg hk2]), if_neg hc3]⟩) (by (try dsimp only); omega) (hsub_of rfl (Nat.le_refl _) (TmSub.cons rfl (Sb.refl _) (TmSub.cons rfl (Sb.refl _) (TmSub.cons rfl (Sb.refl _) (TmSub.cons rfl (by dsimp only; exact sb_int (by omega)) TmSub.nil)))) HpSub.nil)
  · have hr0 := hc0; (try simp only [hcs, Int.reduceToNat] at hc0)
    refine hw_exit ?_
    refine hq_then_exit ?_
    refine hq_then_exit ?_
    refine hq_block_here ?_
    refine h3 _ ?_
    refine hw_seq (fun Nh21 h21 => ?_)
    refine hw_region ?_
    refine hq_ 33 (hop_move rfl) rfl rfl pre0 rfl rfl ?_
    refine hq_ 34 (hop_len_sl (T := 36) rfl (elOf_spec el_36).1 rfl) rfl rfl pre0 rfl rfl ?_
    refine hq_ 4 (hop_assign rfl) rfl rfl pre0 rfl rfl ?_
    refine hseq_nil ?_
    refine h21 _ ?_
    refine hw_ret ?_
    refine hq_ret1 rfl (rval_tmp rfl) [] rfl pre0 ?_
    rw [← hC, shut_end (by omega), show i = l.length by omega]; exact .imm _
theorem cuts_h (l : List Sg) (p q : Nat) (way : Int) (hl : l.length ≤ 1000) (hq : q ≤ l.length) (hp : p ≤ q) : HPure Tryd.prog 87 [sgsV l, intV p, intV q, intV way] (kidsV (cutAt l p q way p [(p : Int)] ++ [(q : Int)])) := by
  refine hpure_of Tryd.func87 rfl (by kernel_rfl) _ _ _ rfl 64 rfl rfl (fun w F => ?_)
  refine hw_seq (fun Nh1 h1 => ?_)
  refine hw_region ?_
  refine hq_ 8 (hop_assign rfl) rfl rfl pre0 rfl rfl ?_
  refine hseq_nil ?_
  refine h1 _ ?_
  refine hw_seq (fun Nh2 h2 => ?_)
  refine hw_region ?_
  refine hq_ 12 (hop_move rfl) rfl rfl pre0 rfl rfl ?_
  refine hm_1 13 (hop_buildSlice (id := 13) (hs := [_]) ei_98 (nb rfl) rfl (nb rfl) ⟨rfl, rfl, rfl, rfl, trivial⟩) rfl rfl pre0 rfl rfl (c' := 1) rfl ?_
  refine hq_ 9 (hop_assign rfl) rfl rfl pre0 rfl rfl ?_
  refine hseq_nil ?_
  refine h2 _ ?_
  refine hw_seq (fun Nh3 h3 => ?_)
  refine hw_seq (fun Nh4 h4 => ?_)
  refine hw_region ?_
  refine hq_ 14 (hop_move rfl) rfl rfl pre0 rfl rfl ?_
  refine hq_ 10 (hop_assign rfl) rfl rfl pre0 rfl rfl ?_
  refine hseq_nil ?_
  refine h4 _ ?_
  refine hw_block ?_
  refine hw_loopc (α := Nat × List Int × Nat) (fun x c => ⟨64, [(0, .v (sgsV l)), (1, .v (intV p)), (2, .v (intV q)), (3, .v (intV way)), (9, .v (.os 13 x.2.2 0 x.2.1.length)), (10, .v (intV x.1))], [(13, ⟨x.2.2, x.2.1.length, 1, 3, 0, kidsF x.2.1⟩)], c⟩) (fun x => p ≤ x.1 ∧ x.1 ≤ l.length + 1 ∧ x.2.1.length ≤ 2 * (x.1 - p) + 1 ∧ cutAt l p q way x.1 x.2.1 = cutAt l p q way p [(p : Int)]) (fun x => q - x.1) ((p, [(p : Int)], 0)) (by exact ⟨Nat.le_refl _, by omega, by show 1 ≤ _; omega, rfl⟩) (hsub_of rfl (Nat.le_refl _) (TmSub.cons rfl (Sb.refl _) (TmSub.cons rfl (Sb.refl _) (TmSub.cons rfl (Sb.refl _) (TmSub.cons rfl (Sb.refl _) (TmSub.cons rfl (Sb.refl _) (TmSub.cons rfl (Sb.refl _) TmSub.nil)))))) (HpSub.cons rfl (OSub.of fun i j hi hj => by obtain rfl : i = 0 := (by omega); exact .refl _) HpSub.nil)) (fun x c hx NhL5 hL5 => ?_)
  revert hx hL5; obtain ⟨i, acc, g⟩ := x; intro hx hL5; dsimp only at hx hL5 ⊢
  obtain ⟨hpi, hi, hal, hC⟩ := hx
  refine hw_seq (fun Nh6 h6 => ?_)
  refine hw_seq (fun Nh7 h7 => ?_)
  refine hw_region ?_
  refine hq_ 15 (hop_move rfl) rfl rfl pre0 rfl rfl ?_
  refine hq_ 16 (hop_move rfl) rfl rfl pre0 rfl rfl ?_
  refine hq_ 17 (hop_lss rfl rfl) rfl rfl pre0 rfl rfl ?_
  refine hseq_nil ?_
  refine h7 _ ?_
  refine hw_cond _ rfl (fun hc0 => ?_) (fun hc0 => ?_)
  · have hr0 := hc0; (try simp only [hcs, Int.reduceToNat] at hc0)
    have hiq : i < q := (by omega); have hsl := shut_le (l := l) (d := 0) (n := l.length - i) (i := i) rfl (by omega)
    refine hw_skip ?_
    refine h6 _ ?_
    refine hw_seq (fun Nh8 h8 => ?_)
    refine hw_block ?_
    refine hw_seq (fun Nh9 h9 => ?_)
    refine hw_region ?_
    refine hq_ 20 (hop_move rfl) rfl rfl pre0 rfl rfl ?_
    refine hq_ 21 (hop_move rfl) rfl rfl pre0 rfl rfl ?_
    refine hq_ 22 (hop_ia_sl el_36 rfl rfl (by omega) (by omega) (nb rfl)) rfl rfl pre0 rfl rfl ?_
    refine hq_ 23 (hop_fa_fp fd_40_0 rfl (nb rfl)) rfl rfl pre0 rfl rfl ?_
    refine hq_ 24 (HOp.val (v' := intV (kd l i)) (hop_load_fp ty_3 rfl (nb rfl) (fun h => (by rfl))) (by rw [kd_in (show i < l.length by omega)]; rfl)) rfl rfl pre0 rfl rfl ?_
    refine hq_ 11 (hop_assign rfl) rfl rfl pre0 rfl rfl ?_
    refine hseq_nil ?_
    refine h9 _ ?_
    refine hw_seq (fun Nh10 h10 => ?_)
    refine hw_seq (fun Nh11 h11 => ?_)
    refine hw_region ?_
    refine hq_ 25 (hop_move rfl) rfl rfl pre0 rfl rfl ?_
    refine hq_ 26 (hop_eql rfl rfl) rfl rfl pre0 rfl rfl ?_
    refine hq_ 27 (hop_move rfl) rfl rfl pre0 rfl rfl ?_
    refine hq_g 28 2 27 true _ (fun hb => hop_move rfl) rfl rfl rfl rfl pre0 rfl rfl rfl ?_
    refine hq_g 29 2 27 true _ (fun hb => hop_move rfl) rfl rfl rfl rfl pre0 rfl rfl rfl ?_
    refine hq_g 30 2 27 true _ (fun hb => hop_gtr rfl rfl) rfl rfl rfl rfl pre0 rfl rfl rfl ?_
    refine hq_p 31 (hstep_and _ _ rfl rfl rfl) rfl rfl rfl ?_
    refine hq_ 32 (hop_move rfl) rfl rfl pre0 rfl rfl ?_
    refine hq_g 33 7 32 true _ (fun hb => hop_move rfl) rfl rfl rfl rfl pre0 rfl rfl rfl ?_
    refine hq_g 34 7 32 true _ (fun hb => hop_eql rfl rfl) rfl rfl rfl rfl pre0 rfl rfl rfl ?_
    refine hq_g 35 7 32 true _ (fun hb => hop_move rfl) rfl rfl rfl rfl pre0 rfl rfl rfl ?_
    refine hq_g3 36 10 35 32 true false _ _ (fun hb hb2 => hop_move rfl) rfl rfl rfl rfl rfl pre0 rfl rfl rfl ?_
    refine hq_g3 37 10 35 32 true false _ _ (fun hb hb2 => hop_eql rfl rfl) rfl rfl rfl rfl rfl pre0 rfl rfl rfl ?_
    refine hq_pg 38 (hstep_org (gi := 7) (j := 32) _ _ rfl rfl rfl rfl) rfl rfl rfl rfl ?_
    refine hq_p 39 (hstep_and _ _ rfl rfl rfl) rfl rfl rfl ?_
    refine hseq_nilU (by rfl) (by simp only [dropUn, slots]; exact rfl) ?_
    refine h11 _ ?_
    refine hw_cond _ rfl (fun hc1 => ?_) (fun hc1 => ?_)
    · have hr1 := hc1; (try simp only [hcs, Int.reduceToNat] at hc1)
      have h1 : way = 2 ∧ p < i ∧ (kd l i = 1 ∨ kd l i = 2) := (by have h := hr1; simp at h; omega)
      refine hw_region ?_
      refine hq_ 40 (hop_move rfl) rfl rfl pre0 rfl rfl ?_
      refine hq_ 41 (hop_move rfl) rfl rfl pre0 rfl rfl ?_
      refine hm_1 42 (hop_buildSlice (id := 42) (hs := [_]) ei_98 (nb rfl) rfl (nb rfl) ⟨rfl, rfl, rfl, rfl, trivial⟩) rfl rfl pre0 rfl rfl (c' := c + 1) rfl ?_
      refine hm_1 43 (hol_append ei_98 (nb rfl) rfl (by omega) (nb rfl) (srl_os0 rfl (nb rfl)) (by omega) rfl) rfl rfl (preC rfl (pre1 rfl)) rfl rfl (c' := c + 2) rfl ?_
      refine hq_ 9 (hop_assign rfl) rfl rfl pre0 rfl rfl ?_
      refine hseq_nil ?_
      refine h10 _ ?_
      refine hw_seq (fun Nh12 h12 => ?_)
      refine hw_seq (fun Nh13 h13 => ?_)
      refine hw_region ?_
      refine hq_ 44 (hop_move rfl) rfl rfl pre0 rfl rfl ?_
      refine hq_ 45 (hop_eql rfl rfl) rfl rfl pre0 rfl rfl ?_
      refine hq_ 46 (hop_move rfl) rfl rfl pre0 rfl rfl ?_
      refine hq_g 47 2 46 true _ (fun hb => hop_move rfl) rfl rfl rfl rfl pre0 rfl rfl rfl ?_
      refine hq_g 48 2 46 true _ (fun hb => hop_eql rfl rfl) rfl rfl rfl rfl pre0 rfl rfl rfl ?_
      refine hq_p 49 (hstep_and _ _ rfl rfl rfl) rfl rfl rfl ?_
      refine hseq_nilU (by rfl) (by simp only [dropUn, slots]; exact rfl) ?_
      refine h13 _ ?_
      refine hw_cond _ rfl (fun hc2 => ?_) (fun hc2 => ?_)
      · have hr2 := hc2; (try simp only [hcs, Int.reduceToNat] at hc2)
        exfalso; have h := hr2; simp at h; omega
      · have hr2 := hc2; (try simp only [hcs, Int.reduceToNat] at hc2)
        have h2 : ¬ (way = 3 ∧ kd l i = 4) := (by have h := hr2; simp at h; omega)
        refine hw_skip ?_
        refine h12 _ ?_
        refine hw_seq (fun Nh14 h14 => ?_)
        refine hw_region ?_
        refine hq_ 55 (hop_move rfl) rfl rfl pre0 rfl rfl ?_
        refine hq_ 56 (hop_eql rfl rfl) rfl rfl pre0 rfl rfl ?_
        refine hseq_nil ?_
        refine h14 _ ?_
        refine hw_cond _ rfl (fun hc3 => ?_) (fun hc3 => ?_)
        · have hr3 := hc3; (try simp only [hcs, Int.reduceToNat] at hc3)
          have h3 : kd l i = 2 := hc3
          refine hw_region ?_
          refine hq_ 57 (hop_move rfl) rfl rfl pre0 rfl rfl ?_
          refine hq_ 58 (hop_move rfl) rfl rfl pre0 rfl rfl ?_
          refine hq_ 59 (hop_call0 (xs := [_, _]) (shut_h l i hl (by omega)) ⟨rfl, ⟨rfl, trivial⟩⟩ ⟨(Fz.eq rfl), ⟨(Fz.eq rfl), trivial⟩⟩) rfl rfl pre0 rfl rfl ?_
          refine hq_ 10 (hop_assign rfl) rfl rfl pre0 rfl rfl ?_
          refine hseq_nil ?_
          refine hq_block ?_
          refine h8 _ ?_
          refine hw_region ?_
          refine hq_ 18 (hop_move rfl) rfl rfl pre0 rfl rfl ?_
          refine hq_ 19 (hop_addi rfl rfl rfl (by omega) (by omega)) rfl rfl pre0 rfl rfl ?_
          refine hq_ 10 (hop_assign rfl) rfl rfl pre0 rfl rfl ?_
          refine hseq_nil ?_
          exact hL5 ((shutAt l i 0 + 1, acc ++ [(i : Int)], c + 1)) _ _ (by (try dsimp only); exact ⟨by omega, by omega, by rw [List.length_append]; show acc.length + 1 ≤ _; omega, by rw [← hC]; exact (cut_step (a1 := acc ++ [(i : Int)]) (a2 := acc ++ [(i : Int)]) (j := shutAt l i 0) hq hiq (by rw [if_pos h1]) (by rw [if_neg h2]) (by rw [if_pos h3])).symm⟩) (by (try dsimp only); omega) (hsub_of rfl (Nat.le_refl _) (TmSub.cons rfl (Sb.refl _) (TmSub.cons rfl (Sb.refl _) (TmSub.cons rfl (Sb.refl _) (TmSub.cons rfl (Sb.refl _) (TmSub.cons rfl (sb_os (by simp)) (TmSub.cons rfl (Sb.refl _) TmSub.nil)))))) (HpSub.cons rfl (osub_snoc (enc := fun x _ => intV x) (d := 0) rfl (fun i j _ _ => .refl _) (fun j hj => .refl _)) HpSub.nil))
        · have hr3 := hc3; (try simp only [hcs, Int.reduceToNat] at hc3)
          have h3 : ¬ kd l i = 2 := hc3
          refine hw_skip ?_
          refine hq_block ?_
          refine h8 _ ?_
          refine hw_region ?_
          refine hq_ 18 (hop_move rfl) rfl rfl pre0 rfl rfl ?_
          refine hq_ 19 (hop_addi rfl rfl rfl (by omega) (by omega)) rfl rfl pre0 rfl rfl ?_
          refine hq_ 10 (hop_assign rfl) rfl rfl pre0 rfl rfl ?_
          refine hseq_nil ?_
          exact hL5 ((i + 1, acc ++ [(i : Int)], c + 1)) _ _ (by (try dsimp only); exact ⟨by omega, by omega, by rw [List.length_append]; show acc.length + 1 ≤ _; omega, by rw [← hC]; exact (cut_step (a1 := acc ++ [(i : Int)]) (a2 := acc ++ [(i : Int)]) (j := i) hq hiq (by rw [if_pos h1]) (by rw [if_neg h2]) (by rw [if_neg h3])).symm⟩) (by (try dsimp only); omega) (hsub_of rfl (Nat.le_refl _) (TmSub.cons rfl (Sb.refl _) (TmSub.cons rfl (Sb.refl _) (TmSub.cons rfl (Sb.refl _) (TmSub.cons rfl (Sb.refl _) (TmSub.cons rfl (sb_os (by simp)) (TmSub.cons rfl (Sb.refl _) TmSub.nil)))))) (HpSub.cons rfl (osub_snoc (enc := fun x _ => intV x) (d := 0) rfl (fun i j _ _ => .refl _) (fun j hj => .refl _)) HpSub.nil))
    · have hr1 := hc1; (try simp only [hcs, Int.reduceToNat] at hc1)
      have h1 : ¬ (way = 2 ∧ p < i ∧ (kd l i = 1 ∨ kd l i = 2)) := (by have h := hr1; simp at h; omega)
      refine hw_skip ?_
      refine h10 _ ?_
      refine hw_seq (fun Nh15 h15 => ?_)
      refine hw_seq (fun Nh16 h16 => ?_)
      refine hw_region ?_
      refine hq_ 44 (hop_move rfl) rfl rfl pre0 rfl rfl ?_
      refine hq_ 45 (hop_eql rfl rfl) rfl rfl pre0 rfl rfl ?_
      refine hq_ 46 (hop_move rfl) rfl rfl pre0 rfl rfl ?_
      refine hq_g 47 2 46 true _ (fun hb => hop_move rfl) rfl rfl rfl rfl pre0 rfl rfl rfl ?_
      refine hq_g 48 2 46 true _ (fun hb => hop_eql rfl rfl) rfl rfl rfl rfl pre0 rfl rfl rfl ?_
      refine hq_p 49 (hstep_and _ _ rfl rfl rfl) rfl rfl rfl ?_
      refine hseq_nilU (by rfl) (by simp only [dropUn, slots]; exact rfl) ?_
      refine h16 _ ?_
      refine hw_cond _ rfl (fun hc2 => ?_) (fun hc2 => ?_)
      · have hr2 := hc2; (try simp only [hcs, Int.reduceToNat] at hc2)
        have h2 : way = 3 ∧ kd l i = 4 := (by have h := hr2; simp at h; omega)
        refine hw_region ?_
        refine hq_ 50 (hop_move rfl) rfl rfl pre0 rfl rfl ?_
        refine hq_ 51 (hop_move rfl) rfl rfl pre0 rfl rfl ?_
        refine hq_ 52 (hop_addi rfl rfl rfl (by omega) (by omega)) rfl rfl pre0 rfl rfl ?_
        refine hm_1 53 (hop_buildSlice (id := 53) (hs := [_]) ei_98 (nb rfl) rfl (nb rfl) ⟨rfl, rfl, rfl, rfl, trivial⟩) rfl rfl pre0 rfl rfl (c' := c + 1) rfl ?_
        refine hm_1 54 (hol_append ei_98 (nb rfl) rfl (by omega) (nb rfl) (srl_os0 rfl (nb rfl)) (by omega) rfl) rfl rfl (preC rfl (pre1 rfl)) rfl rfl (c' := c + 2) rfl ?_
        refine hq_ 9 (hop_assign rfl) rfl rfl pre0 rfl rfl ?_
        refine hseq_nil ?_
        refine h15 _ ?_
        refine hw_seq (fun Nh17 h17 => ?_)
        refine hw_region ?_
        refine hq_ 55 (hop_move rfl) rfl rfl pre0 rfl rfl ?_
        refine hq_ 56 (hop_eql rfl rfl) rfl rfl pre0 rfl rfl ?_
        refine hseq_nil ?_
        refine h17 _ ?_
        refine hw_cond _ rfl (fun hc3 => ?_) (fun hc3 => ?_)
        · have hr3 := hc3; (try simp only [hcs, Int.reduceToNat] at hc3)
          exfalso; omega
        · have hr3 := hc3; (try simp only [hcs, Int.reduceToNat] at hc3)
          have h3 : ¬ kd l i = 2 := hc3
          refine hw_skip ?_
          refine hq_block ?_
          refine h8 _ ?_
          refine hw_region ?_
          refine hq_ 18 (hop_move rfl) rfl rfl pre0 rfl rfl ?_
          refine hq_ 19 (hop_addi rfl rfl rfl (by omega) (by omega)) rfl rfl pre0 rfl rfl ?_
          refine hq_ 10 (hop_assign rfl) rfl rfl pre0 rfl rfl ?_
          refine hseq_nil ?_
          exact hL5 ((i + 1, acc ++ [((i + 1 : Nat) : Int)], c + 1)) _ _ (by (try dsimp only); exact ⟨by omega, by omega, by rw [List.length_append]; show acc.length + 1 ≤ _; omega, by rw [← hC]; exact (cut_step (a1 := acc) (a2 := acc ++ [((i + 1 : Nat) : Int)]) (j := i) hq hiq (by rw [if_neg h1]) (by rw [if_pos h2]) (by rw [if_neg h3])).symm⟩) (by (try dsimp only); omega) (hsub_of rfl (Nat.le_refl _) (TmSub.cons rfl (Sb.refl _) (TmSub.cons rfl (Sb.refl _) (TmSub.cons rfl (Sb.refl _) (TmSub.cons rfl (Sb.refl _) (TmSub.cons rfl (sb_os (by simp)) (TmSub.cons rfl (Sb.refl _) TmSub.nil)))))) (HpSub.cons rfl (osub_snoc (enc := fun x _ => intV x) (d := 0) rfl (fun i j _ _ => .refl _) (fun j hj => .refl _)) HpSub.nil))
      · have hr2 := hc2; (try simp only [hcs, Int.reduceToNat] at hc2)
        have h2 : ¬ (way = 3 ∧ kd l i = 4) := (by have h := hr2; simp at h; omega)
        refine hw_skip ?_
        refine h15 _ ?_
        refine hw_seq (fun Nh18 h18 => ?_)
        refine hw_region ?_
        refine hq_ 55 (hop_move rfl) rfl rfl pre0 rfl rfl ?_
        refine hq_ 56 (hop_eql rfl rfl) rfl rfl pre0 rfl rfl ?_
        refine hseq_nil ?_
        refine h18 _ ?_
        refine hw_cond _ rfl (fun hc3 => ?_) (fun hc3 => ?_)
        · have hr3 := hc3; (try simp only [hcs, Int.reduceToNat] at hc3)
          have h3 : kd l i = 2 := hc3
          refine hw_region ?_
          refine hq_ 57 (hop_move rfl) rfl rfl pre0 rfl rfl ?_
          refine hq_ 58 (hop_move rfl) rfl rfl pre0 rfl rfl ?_
          refine hq_ 59 (hop_call0 (xs := [_, _]) (shut_h l i hl (by omega)) ⟨rfl, ⟨rfl, trivial⟩⟩ ⟨(Fz.eq rfl), ⟨(Fz.eq rfl), trivial⟩⟩) rfl rfl pre0 rfl rfl ?_
          refine hq_ 10 (hop_assign rfl) rfl rfl pre0 rfl rfl ?_
          refine hseq_nil ?_
          refine hq_block ?_
          refine h8 _ ?_
          refine hw_region ?_
          refine hq_ 18 (hop_move rfl) rfl rfl pre0 rfl rfl ?_
          refine hq_ 19 (hop_addi rfl rfl rfl (by omega) (by omega)) rfl rfl pre0 rfl rfl ?_
          refine hq_ 10 (hop_assign rfl) rfl rfl pre0 rfl rfl ?_
          refine hseq_nil ?_
          exact hL5 ((shutAt l i 0 + 1, acc, g)) _ _ (by (try dsimp only); exact ⟨by omega, by omega, by omega, by rw [← hC]; exact (cut_step (a1 := acc) (a2 := acc) (j := shutAt l i 0) hq hiq (by rw [if_neg h1]) (by rw [if_neg h2]) (by rw [if_pos h3])).symm⟩) (by (try dsimp only); omega) (hsub_of rfl (Nat.le_refl _) (TmSub.cons rfl (Sb.refl _) (TmSub.cons rfl (Sb.refl _) (TmSub.cons rfl (Sb.refl _) (TmSub.cons rfl (Sb.refl _) (TmSub.cons rfl (Sb.refl _) (TmSub.cons rfl (Sb.refl _) TmSub.nil)))))) (HpSub.cons rfl (OSub.refl _) HpSub.nil))
        · have hr3 := hc3; (try simp only [hcs, Int.reduceToNat] at hc3)
          have h3 : ¬ kd l i = 2 := hc3
          refine hw_skip ?_
          refine hq_block ?_
          refine h8 _ ?_
          refine hw_region ?_
          refine hq_ 18 (hop_move rfl) rfl rfl pre0 rfl rfl ?_
          refine hq_ 19 (hop_addi rfl rfl rfl (by omega) (by omega)) rfl rfl pre0 rfl rfl ?_
          refine hq_ 10 (hop_assign rfl) rfl rfl pre0 rfl rfl ?_
          refine hseq_nil ?_
          exact hL5 ((i + 1, acc, g)) _ _ (by (try dsimp only); exact ⟨by omega, by omega, by omega, by rw [← hC]; exact (cut_step (a1 := acc) (a2 := acc) (j := i) hq hiq (by rw [if_neg h1]) (by rw [if_neg h2]) (by rw [if_neg h3])).symm⟩) (by (try dsimp only); omega) (hsub_of rfl (Nat.le_refl _) (TmSub.cons rfl (Sb.refl _) (TmSub.cons rfl (Sb.refl _) (TmSub.cons rfl (Sb.refl _) (TmSub.cons rfl (Sb.refl _) (TmSub.cons rfl (Sb.refl _) (TmSub.cons rfl (Sb.refl _) TmSub.nil)))))) (HpSub.cons rfl (OSub.refl _) HpSub.nil))
  · have hr0 := hc0; (try simp only [hcs, Int.reduceToNat] at hc0)
    refine hw_exit ?_
    refine hq_then_exit ?_
    refine hq_then_exit ?_
    refine hq_block_here ?_
    refine h3 _ ?_
    refine hw_seq (fun Nh19 h19 => ?_)
    have e := cut_end (l := l) (from_ := p) (way := way) (acc := acc) (show q ≤ i by omega); rw [e] at hC
    refine hw_region ?_
    refine hq_ 60 (hop_move rfl) rfl rfl pre0 rfl rfl ?_
    refine hq_ 61 (hop_move rfl) rfl rfl pre0 rfl rfl ?_
    refine hm_1 62 (hop_buildSlice (id := 62) (hs := [_]) ei_98 (nb rfl) rfl (nb rfl) ⟨rfl, rfl, rfl, rfl, trivial⟩) rfl rfl pre0 rfl rfl (c' := c + 1) rfl ?_
    refine hm_1 63 (hol_append ei_98 (nb rfl) rfl (by omega) (nb rfl) (srl_os0 rfl (nb rfl)) (by omega) rfl) rfl rfl (preC rfl (pre1 rfl)) rfl rfl (c' := c + 2) rfl ?_
    refine hq_ 8 (hop_assign rfl) rfl rfl pre0 rfl rfl ?_
    refine hseq_nil ?_
    refine h19 _ ?_
    refine hw_ret ?_
    refine hq_ret1 rfl (rval_tmp rfl) [(13, _)] rfl (preC rfl pre0) ?_
    rw [← hC]; exact fz_row (l := acc ++ [(q : Int)]) (enc := fun x _ => intV x) (d := 0) (List.mem_cons_self ..) rfl (by simp) (by simp) (fun i j hi hj => fz_snoc i hi)
end Go.Proofs.YtijpdbjcmnpobaaDoor

