/-
  stetref27.Two in the reader's words.
-/
import Derived.Test.YtkeeipfglmpgjaaHw3
namespace Go.Proofs.Ytkeeipfglmpgjaa
set_option linter.unusedSimpArgs false
set_option linter.unusedVariables false
set_option maxRecDepth 100000
open Go.RowKit

theorem b_and {a b : St} {n : Nat} : (((a.k == 1) && (a.f + (n : Int) == b.f)) = true) ↔ (a.k = 1 ∧ a.f + n = b.f) := by simp
theorem ref_none {a b : St} (s1 : a.shape = true) (s2 : b.shape = true) (s3 : a.k = b.k) (h : a.weld b = Option.none) : a.two b = Option.none := by rw [two_w s3 s1 s2, h]
theorem ref_some {a b x : St} (s1 : a.shape = true) (s2 : b.shape = true) (s3 : a.k = b.k) (h : a.weld b = some x) : a.two b = if x.shape = true then some x else Option.none := by rw [two_w s3 s1 s2, h]
theorem ref_bad {a b : St} (h : ((!a.shape || !b.shape) || (a.k != b.k)) = true) : a.two b = Option.none := by
  unfold St.two
  rw [if_neg]
  rintro ⟨h1, h2, h3⟩
  simp [h1, h2, h3] at h
theorem weld_no {a b : St} (h1 : ((a.k == 1) && (a.f + (a.sl.length : Int) == b.f)) = false) (h2 : ((a.k == 1) && (b.t == a.f)) = false)
    (h3 : (((((a.k == 3 || a.k == 4) && (a.mark == b.mark)) && (a.vl == b.vl)) && decide (a.f ≤ b.t)) && decide (b.f ≤ a.t)) = false) : a.weld b = Option.none := by
  unfold St.weld
  by_cases k1 : a.k = 1
  · rw [if_pos k1, if_neg (by intro h; simp [k1, h] at h1), if_neg (by intro h; simp [k1, h] at h2)]
  · rw [if_neg k1]
    by_cases k3 : a.k = 3 ∨ a.k = 4
    · rw [if_pos k3, if_neg]
      intro hs
      unfold St.same at hs
      simp only [Bool.not_eq_true', Bool.or_eq_false_iff, bne_eq_false_iff_eq, decide_eq_false_iff_not] at hs
      obtain ⟨⟨⟨hm, hv⟩, hf⟩, ht⟩ := hs
      have hk : ((a.k == 3) || (a.k == 4)) = true := by simpa using k3
      have h5 : decide (a.f ≤ b.t) = true := by simp; omega
      have h6 : decide (b.f ≤ a.t) = true := by simp; omega
      rw [hk, hm, hv, h5, h6] at h3
      simp at h3
    · rw [if_neg k3]
theorem Two27_h (a b : St) (o : Option St) (ho : a.two b = o) (l1 : a.sl.length ≤ 20000) (l2 : b.sl.length ≤ 20000) (l3 : a.sets.length ≤ 20000) (l4 : b.sets.length ≤ 20000) : HPure Try.prog 31 [stV a, stV b] (optV o) := by
  refine hpure_of Try.func31 rfl (by kernel_rfl) _ _ _ rfl 146 rfl rfl (fun w F => ?_)
  refine hw_seq (fun Nh1 h1 => ?_)
  refine hw_region ?_
  refine hm_1 2 (hop_box (id := 2) (sz := 10) rfl rfl rfl (by first | exact Nat.le_of_ble_eq_true rfl | omega | (dsimp only; omega) | (simp <;> omega)) (by first | exact Nat.le_of_ble_eq_true rfl | omega | (dsimp only; omega) | (simp <;> omega))) rfl rfl pre0 rfl rfl (c' := 1) rfl ?_
  refine hm_1 3 (hop_box (id := 3) (sz := 10) rfl rfl rfl (by first | exact Nat.le_of_ble_eq_true rfl | omega | (dsimp only; omega) | (simp <;> omega)) (by first | exact Nat.le_of_ble_eq_true rfl | omega | (dsimp only; omega) | (simp <;> omega))) rfl rfl pre0 rfl rfl (c' := 2) rfl ?_
  refine hm_1 4 (hop_alloc (id := 4) (sz := 10) zc_77 rfl rfl (by first | exact Nat.le_of_ble_eq_true rfl | omega | (dsimp only; omega) | (simp <;> omega)) (by first | exact Nat.le_of_ble_eq_true rfl | omega | (dsimp only; omega) | (simp <;> omega))) rfl rfl pre0 rfl rfl (c' := 3) rfl ?_
  refine hq_ 5 (hop_assign rfl) rfl rfl pre0 rfl rfl ?_
  refine hseq_nil ?_
  refine h1 _ ?_
  refine hw_seq (fun Nh2 h2 => ?_)
  refine hw_region ?_
  refine hq_ 8 (hop_build (hs := []) st_77 rfl rfl trivial) rfl rfl pre0 rfl rfl ?_
  refine hm_1 6 (hop_alloc (id := 6) (sz := 10) zc_77 rfl rfl (by first | exact Nat.le_of_ble_eq_true rfl | omega | (dsimp only; omega) | (simp <;> omega)) (by first | exact Nat.le_of_ble_eq_true rfl | omega | (dsimp only; omega) | (simp <;> omega))) rfl rfl pre0 rfl rfl (c' := 4) rfl ?_
  first
  | refine hm_s1 (hol_storeW ty_77 rfl rfl rfl rfl) rfl rfl (pre1 rfl) (c' := 5) rfl ?_
  | refine hm_s1 (hol_store ty_77 rfl rfl rfl rfl (by first | exact Nat.le_of_ble_eq_true rfl | omega | (dsimp only; omega) | (simp <;> omega)) (by first | exact Nat.le_of_ble_eq_true rfl | omega | (dsimp only; omega) | (simp <;> omega)) (by first | exact Nat.le_of_ble_eq_true rfl | omega | (dsimp only; omega) | (simp <;> omega))) rfl rfl (pre1 rfl) (c' := 5) rfl ?_
  refine hseq_nil ?_
  refine h2 _ ?_
  refine hw_seq (fun Nh3 h3 => ?_)
  refine hw_seq (fun Nh4 h4 => ?_)
  refine hw_region ?_
  first
  | refine hq_ 9 (hol_load ty_77 rfl (by first | exact Nat.le_of_ble_eq_true rfl | omega | (dsimp only; omega) | (simp <;> omega)) (by first | exact Nat.le_of_ble_eq_true rfl | omega | (dsimp only; omega) | (simp <;> omega)) (fun h => by first | rfl | cases h)) rfl rfl (pre1 rfl) rfl rfl ?_
  | refine hq_ 9 (hop_load_fp ty_77 rfl (by first | exact Nat.le_of_ble_eq_true rfl | omega | (dsimp only; omega) | (simp <;> omega)) (fun h => by first | rfl | cases h)) rfl rfl pre0 rfl rfl ?_
  refine hq_ 10 (hop_call0 (xs := [_]) (shape25_h a (by omega) (by omega)) ⟨rfl, trivial⟩ ⟨(Fz.eq rfl), trivial⟩) rfl rfl pre0 rfl rfl ?_
  refine hq_ 11 (hop_not rfl) rfl rfl pre0 rfl rfl ?_
  refine hq_ 12 (hop_move rfl) rfl rfl pre0 rfl rfl ?_
  first
  | refine hq_g 13 3 12 false _ (fun hb => hol_load ty_77 rfl (by first | exact Nat.le_of_ble_eq_true rfl | (simp at hb; first | omega | (dsimp only; omega) | (simp <;> omega))) (by first | exact Nat.le_of_ble_eq_true rfl | (simp at hb; first | omega | (dsimp only; omega) | (simp <;> omega))) (fun h => by first | rfl | cases h)) rfl rfl rfl rfl (pre1 rfl) rfl rfl rfl ?_
  | refine hq_g2 13 3 12 _ _ false _ (fun hb => hol_load ty_77 rfl (by first | exact Nat.le_of_ble_eq_true rfl | (simp at hb; first | omega | (dsimp only; omega) | (simp <;> omega))) (by first | exact Nat.le_of_ble_eq_true rfl | (simp at hb; first | omega | (dsimp only; omega) | (simp <;> omega))) (fun h => by first | rfl | cases h)) rfl rfl rfl rfl (pre1 rfl) rfl rfl rfl ?_
  | refine hq_g 13 3 12 false _ (fun hb => hop_load_fp ty_77 rfl (by first | exact Nat.le_of_ble_eq_true rfl | (simp at hb; first | omega | (dsimp only; omega) | (simp <;> omega))) (fun h => by first | rfl | cases h)) rfl rfl rfl rfl pre0 rfl rfl rfl ?_
  | refine hq_g2 13 3 12 _ _ false _ (fun hb => hop_load_fp ty_77 rfl (by first | exact Nat.le_of_ble_eq_true rfl | (simp at hb; first | omega | (dsimp only; omega) | (simp <;> omega))) (fun h => by first | rfl | cases h)) rfl rfl rfl rfl pre0 rfl rfl rfl ?_
  first
  | refine hq_g 14 3 12 false _ (fun hb => hop_call0 (xs := [_]) (shape25_h b (by omega) (by omega)) ⟨rfl, trivial⟩ ⟨(Fz.eq rfl), trivial⟩) rfl rfl rfl rfl pre0 rfl rfl rfl ?_
  | refine hq_g2 14 3 12 _ _ false _ (fun hb => hop_call0 (xs := [_]) (shape25_h b (by omega) (by omega)) ⟨rfl, trivial⟩ ⟨(Fz.eq rfl), trivial⟩) rfl rfl rfl rfl pre0 rfl rfl rfl ?_
  first
  | refine hq_g 15 3 12 false _ (fun hb => hop_not rfl) rfl rfl rfl rfl pre0 rfl rfl rfl ?_
  | refine hq_g2 15 3 12 _ _ false _ (fun hb => hop_not rfl) rfl rfl rfl rfl pre0 rfl rfl rfl ?_
  first
  | refine hq_p 16 (hstep_and _ _ rfl rfl rfl) rfl rfl rfl ?_
  | refine hq_p 16 (hstep_or _ _ rfl rfl rfl) rfl rfl rfl ?_
  | refine hq_p 16 (hstep_ite _ _ _ rfl rfl rfl) rfl rfl rfl ?_
  | refine hq_p 16 (hstep_pick _ _ _ _ rfl rfl rfl (fun _ => .refl _) (fun _ => .refl _)) rfl rfl rfl ?_
  refine hq_ 17 (hop_move rfl) rfl rfl pre0 rfl rfl ?_
  first
  | refine hq_g 18 8 17 false _ (fun hb => hop_fa fd_77_0 rfl) rfl rfl rfl rfl pre0 rfl rfl rfl ?_
  | refine hq_g2 18 8 17 _ _ false _ (fun hb => hop_fa fd_77_0 rfl) rfl rfl rfl rfl pre0 rfl rfl rfl ?_
  | refine hq_g 18 8 17 false _ (fun hb => hop_fa_fp fd_77_0 rfl (by first | exact Nat.le_of_ble_eq_true rfl | (simp at hb; first | omega | (dsimp only; omega) | (simp <;> omega)))) rfl rfl rfl rfl pre0 rfl rfl rfl ?_
  | refine hq_g2 18 8 17 _ _ false _ (fun hb => hop_fa_fp fd_77_0 rfl (by first | exact Nat.le_of_ble_eq_true rfl | (simp at hb; first | omega | (dsimp only; omega) | (simp <;> omega)))) rfl rfl rfl rfl pre0 rfl rfl rfl ?_
  first
  | refine hq_g 19 8 17 false _ (fun hb => hol_load ty_3 rfl (by first | exact Nat.le_of_ble_eq_true rfl | (simp at hb; first | omega | (dsimp only; omega) | (simp <;> omega))) (by first | exact Nat.le_of_ble_eq_true rfl | (simp at hb; first | omega | (dsimp only; omega) | (simp <;> omega))) (fun h => by first | rfl | cases h)) rfl rfl rfl rfl (pre1 rfl) rfl rfl rfl ?_
  | refine hq_g2 19 8 17 _ _ false _ (fun hb => hol_load ty_3 rfl (by first | exact Nat.le_of_ble_eq_true rfl | (simp at hb; first | omega | (dsimp only; omega) | (simp <;> omega))) (by first | exact Nat.le_of_ble_eq_true rfl | (simp at hb; first | omega | (dsimp only; omega) | (simp <;> omega))) (fun h => by first | rfl | cases h)) rfl rfl rfl rfl (pre1 rfl) rfl rfl rfl ?_
  | refine hq_g 19 8 17 false _ (fun hb => hop_load_fp ty_3 rfl (by first | exact Nat.le_of_ble_eq_true rfl | (simp at hb; first | omega | (dsimp only; omega) | (simp <;> omega))) (fun h => by first | rfl | cases h)) rfl rfl rfl rfl pre0 rfl rfl rfl ?_
  | refine hq_g2 19 8 17 _ _ false _ (fun hb => hop_load_fp ty_3 rfl (by first | exact Nat.le_of_ble_eq_true rfl | (simp at hb; first | omega | (dsimp only; omega) | (simp <;> omega))) (fun h => by first | rfl | cases h)) rfl rfl rfl rfl pre0 rfl rfl rfl ?_
  first
  | refine hq_g 20 8 17 false _ (fun hb => hop_fa fd_77_0 rfl) rfl rfl rfl rfl pre0 rfl rfl rfl ?_
  | refine hq_g2 20 8 17 _ _ false _ (fun hb => hop_fa fd_77_0 rfl) rfl rfl rfl rfl pre0 rfl rfl rfl ?_
  | refine hq_g 20 8 17 false _ (fun hb => hop_fa_fp fd_77_0 rfl (by first | exact Nat.le_of_ble_eq_true rfl | (simp at hb; first | omega | (dsimp only; omega) | (simp <;> omega)))) rfl rfl rfl rfl pre0 rfl rfl rfl ?_
  | refine hq_g2 20 8 17 _ _ false _ (fun hb => hop_fa_fp fd_77_0 rfl (by first | exact Nat.le_of_ble_eq_true rfl | (simp at hb; first | omega | (dsimp only; omega) | (simp <;> omega)))) rfl rfl rfl rfl pre0 rfl rfl rfl ?_
  first
  | refine hq_g 21 8 17 false _ (fun hb => hol_load ty_3 rfl (by first | exact Nat.le_of_ble_eq_true rfl | (simp at hb; first | omega | (dsimp only; omega) | (simp <;> omega))) (by first | exact Nat.le_of_ble_eq_true rfl | (simp at hb; first | omega | (dsimp only; omega) | (simp <;> omega))) (fun h => by first | rfl | cases h)) rfl rfl rfl rfl (pre1 rfl) rfl rfl rfl ?_
  | refine hq_g2 21 8 17 _ _ false _ (fun hb => hol_load ty_3 rfl (by first | exact Nat.le_of_ble_eq_true rfl | (simp at hb; first | omega | (dsimp only; omega) | (simp <;> omega))) (by first | exact Nat.le_of_ble_eq_true rfl | (simp at hb; first | omega | (dsimp only; omega) | (simp <;> omega))) (fun h => by first | rfl | cases h)) rfl rfl rfl rfl (pre1 rfl) rfl rfl rfl ?_
  | refine hq_g 21 8 17 false _ (fun hb => hop_load_fp ty_3 rfl (by first | exact Nat.le_of_ble_eq_true rfl | (simp at hb; first | omega | (dsimp only; omega) | (simp <;> omega))) (fun h => by first | rfl | cases h)) rfl rfl rfl rfl pre0 rfl rfl rfl ?_
  | refine hq_g2 21 8 17 _ _ false _ (fun hb => hop_load_fp ty_3 rfl (by first | exact Nat.le_of_ble_eq_true rfl | (simp at hb; first | omega | (dsimp only; omega) | (simp <;> omega))) (fun h => by first | rfl | cases h)) rfl rfl rfl rfl pre0 rfl rfl rfl ?_
  first
  | refine hq_g 22 8 17 false _ (fun hb => hop_neq rfl rfl) rfl rfl rfl rfl pre0 rfl rfl rfl ?_
  | refine hq_g2 22 8 17 _ _ false _ (fun hb => hop_neq rfl rfl) rfl rfl rfl rfl pre0 rfl rfl rfl ?_
  first
  | refine hq_p 23 (hstep_and _ _ rfl rfl rfl) rfl rfl rfl ?_
  | refine hq_p 23 (hstep_or _ _ rfl rfl rfl) rfl rfl rfl ?_
  | refine hq_p 23 (hstep_ite _ _ _ rfl rfl rfl) rfl rfl rfl ?_
  | refine hq_p 23 (hstep_pick _ _ _ _ rfl rfl rfl (fun _ => .refl _) (fun _ => .refl _)) rfl rfl rfl ?_
  refine hseq_nilU (by rfl) (by simp only [dropUn, slots]; exact rfl) ?_
  refine h4 _ ?_
  refine hw_cond _ rfl (fun hc0 => ?_) (fun hc0 => ?_)
  · have hr0 := hc0; (try simp only [decide_eq_true_eq, decide_eq_false_iff_not, Bool.and_eq_true, Bool.or_eq_true, Bool.not_eq_true', Bool.or_eq_false_iff, beq_iff_eq, bne_iff_ne, ne_eq, beq_eq_false_iff_ne, bne_eq_false_iff_eq, Bool.not_eq_true, Bool.not_eq_false, Bool.not_eq_false', Int.toNat_natCast, Int.reduceToNat] at hc0)
    refine hw_seq (fun Nh5 h5 => ?_)
    refine hw_region ?_
    first
    | refine hq_ 24 (hol_load ty_77 rfl (by first | exact Nat.le_of_ble_eq_true rfl | omega | (dsimp only; omega) | (simp <;> omega)) (by first | exact Nat.le_of_ble_eq_true rfl | omega | (dsimp only; omega) | (simp <;> omega)) (fun h => by first | rfl | cases h)) rfl rfl (pre1 rfl) rfl rfl ?_
    | refine hq_ 24 (hop_load_fp ty_77 rfl (by first | exact Nat.le_of_ble_eq_true rfl | omega | (dsimp only; omega) | (simp <;> omega)) (fun h => by first | rfl | cases h)) rfl rfl pre0 rfl rfl ?_
    first
    | refine hm_s1 (hol_storeW ty_77 rfl rfl rfl rfl) rfl rfl (pre1 rfl) (c' := 6) rfl ?_
    | refine hm_s1 (hol_store ty_77 rfl rfl rfl rfl (by first | exact Nat.le_of_ble_eq_true rfl | omega | (dsimp only; omega) | (simp <;> omega)) (by first | exact Nat.le_of_ble_eq_true rfl | omega | (dsimp only; omega) | (simp <;> omega)) (by first | exact Nat.le_of_ble_eq_true rfl | omega | (dsimp only; omega) | (simp <;> omega))) rfl rfl (pre1 rfl) (c' := 6) rfl ?_
    refine hq_ 5 (hop_assign rfl) rfl rfl pre0 rfl rfl ?_
    refine hseq_nil ?_
    refine h5 _ ?_
    refine hw_ret ?_
    refine hq_then_ret ?_
    refine hq_ret2 rfl (rvl_cell rfl rfl ty_77 (fun h => by first | rfl | cases h) rfl rfl) (rval_tmp rfl) [] rfl pre0 ?_
    obtain rfl : Option.none = o := (by rw [← ho]; exact (ref_bad hr0).symm); exact fz_t2 (fz_agg10 (by first | exact .imm _ | exact .nil _ _ _ (by decide) _ | exact fz_toks _ | exact fz_mkss _ | exact Frz.fz) (by first | exact .imm _ | exact .nil _ _ _ (by decide) _ | exact fz_toks _ | exact fz_mkss _ | exact Frz.fz) (by first | exact .imm _ | exact .nil _ _ _ (by decide) _ | exact fz_toks _ | exact fz_mkss _ | exact Frz.fz) (by first | exact .imm _ | exact .nil _ _ _ (by decide) _ | exact fz_toks _ | exact fz_mkss _ | exact Frz.fz) (by first | exact .imm _ | exact .nil _ _ _ (by decide) _ | exact fz_toks _ | exact fz_mkss _ | exact Frz.fz) (by first | exact .imm _ | exact .nil _ _ _ (by decide) _ | exact fz_toks _ | exact fz_mkss _ | exact Frz.fz) (by first | exact .imm _ | exact .nil _ _ _ (by decide) _ | exact fz_toks _ | exact fz_mkss _ | exact Frz.fz) (by first | exact .imm _ | exact .nil _ _ _ (by decide) _ | exact fz_toks _ | exact fz_mkss _ | exact Frz.fz) (by first | exact .imm _ | exact .nil _ _ _ (by decide) _ | exact fz_toks _ | exact fz_mkss _ | exact Frz.fz) (by first | exact .imm _ | exact .nil _ _ _ (by decide) _ | exact fz_toks _ | exact fz_mkss _ | exact Frz.fz)) (.imm _)
  · have hr0 := hc0; (try simp only [decide_eq_true_eq, decide_eq_false_iff_not, Bool.and_eq_true, Bool.or_eq_true, Bool.not_eq_true', Bool.or_eq_false_iff, beq_iff_eq, bne_iff_ne, ne_eq, beq_eq_false_iff_ne, bne_eq_false_iff_eq, Bool.not_eq_true, Bool.not_eq_false, Bool.not_eq_false', Int.toNat_natCast, Int.reduceToNat] at hc0)
    have hs : a.shape = true ∧ b.shape = true ∧ a.k = b.k := (by simp at hr0; exact ⟨hr0.1.1, hr0.1.2, hr0.2⟩); obtain ⟨s1, s2, s3⟩ := hs; obtain ⟨q1, q2, q3, q4, q5⟩ := shape_in s1; obtain ⟨r1, r2, r3, r4, r5⟩ := shape_in s2
    refine hw_skip ?_
    refine h3 _ ?_
    refine hw_seq (fun Nh6 h6 => ?_)
    refine hw_region ?_
    first
    | refine hq_ 25 (hop_fa fd_77_0 rfl) rfl rfl pre0 rfl rfl ?_
    | refine hq_ 25 (hop_fa_fp fd_77_0 rfl (by first | exact Nat.le_of_ble_eq_true rfl | omega | (dsimp only; omega) | (simp <;> omega))) rfl rfl pre0 rfl rfl ?_
    first
    | refine hq_ 26 (hol_load ty_3 rfl (by first | exact Nat.le_of_ble_eq_true rfl | omega | (dsimp only; omega) | (simp <;> omega)) (by first | exact Nat.le_of_ble_eq_true rfl | omega | (dsimp only; omega) | (simp <;> omega)) (fun h => by first | rfl | cases h)) rfl rfl (pre1 rfl) rfl rfl ?_
    | refine hq_ 26 (hop_load_fp ty_3 rfl (by first | exact Nat.le_of_ble_eq_true rfl | omega | (dsimp only; omega) | (simp <;> omega)) (fun h => by first | rfl | cases h)) rfl rfl pre0 rfl rfl ?_
    refine hq_ 27 (hop_build (hs := [(0, 1, _)]) st_77 rfl rfl ⟨rfl, rfl, rfl, rfl, rfl, trivial⟩) rfl rfl pre0 rfl rfl ?_
    refine hm_1 7 (hop_alloc (id := 7) (sz := 10) zc_77 rfl rfl (by first | exact Nat.le_of_ble_eq_true rfl | omega | (dsimp only; omega) | (simp <;> omega)) (by first | exact Nat.le_of_ble_eq_true rfl | omega | (dsimp only; omega) | (simp <;> omega))) rfl rfl pre0 rfl rfl (c' := 6) rfl ?_
    first
    | refine hm_s1 (hol_storeW ty_77 rfl rfl rfl rfl) rfl rfl (pre1 rfl) (c' := 7) rfl ?_
    | refine hm_s1 (hol_store ty_77 rfl rfl rfl rfl (by first | exact Nat.le_of_ble_eq_true rfl | omega | (dsimp only; omega) | (simp <;> omega)) (by first | exact Nat.le_of_ble_eq_true rfl | omega | (dsimp only; omega) | (simp <;> omega)) (by first | exact Nat.le_of_ble_eq_true rfl | omega | (dsimp only; omega) | (simp <;> omega))) rfl rfl (pre1 rfl) (c' := 7) rfl ?_
    refine hseq_nil ?_
    refine h6 _ ?_
    refine hw_seq (fun Nh7 h7 => ?_)
    refine hw_seq (fun Nh8 h8 => ?_)
    refine hw_region ?_
    first
    | refine hq_ 28 (hop_fa fd_77_0 rfl) rfl rfl pre0 rfl rfl ?_
    | refine hq_ 28 (hop_fa_fp fd_77_0 rfl (by first | exact Nat.le_of_ble_eq_true rfl | omega | (dsimp only; omega) | (simp <;> omega))) rfl rfl pre0 rfl rfl ?_
    first
    | refine hq_ 29 (hol_load ty_3 rfl (by first | exact Nat.le_of_ble_eq_true rfl | omega | (dsimp only; omega) | (simp <;> omega)) (by first | exact Nat.le_of_ble_eq_true rfl | omega | (dsimp only; omega) | (simp <;> omega)) (fun h => by first | rfl | cases h)) rfl rfl (pre1 rfl) rfl rfl ?_
    | refine hq_ 29 (hop_load_fp ty_3 rfl (by first | exact Nat.le_of_ble_eq_true rfl | omega | (dsimp only; omega) | (simp <;> omega)) (fun h => by first | rfl | cases h)) rfl rfl pre0 rfl rfl ?_
    refine hq_ 30 (hop_eql rfl rfl) rfl rfl pre0 rfl rfl ?_
    refine hq_ 31 (hop_move rfl) rfl rfl pre0 rfl rfl ?_
    first
    | refine hq_g 32 3 31 true _ (fun hb => hop_fa fd_77_1 rfl) rfl rfl rfl rfl pre0 rfl rfl rfl ?_
    | refine hq_g2 32 3 31 _ _ true _ (fun hb => hop_fa fd_77_1 rfl) rfl rfl rfl rfl pre0 rfl rfl rfl ?_
    | refine hq_g 32 3 31 true _ (fun hb => hop_fa_fp fd_77_1 rfl (by first | exact Nat.le_of_ble_eq_true rfl | (simp at hb; first | omega | (dsimp only; omega) | (simp <;> omega)))) rfl rfl rfl rfl pre0 rfl rfl rfl ?_
    | refine hq_g2 32 3 31 _ _ true _ (fun hb => hop_fa_fp fd_77_1 rfl (by first | exact Nat.le_of_ble_eq_true rfl | (simp at hb; first | omega | (dsimp only; omega) | (simp <;> omega)))) rfl rfl rfl rfl pre0 rfl rfl rfl ?_
    first
    | refine hq_g 33 3 31 true _ (fun hb => hol_load ty_3 rfl (by first | exact Nat.le_of_ble_eq_true rfl | (simp at hb; first | omega | (dsimp only; omega) | (simp <;> omega))) (by first | exact Nat.le_of_ble_eq_true rfl | (simp at hb; first | omega | (dsimp only; omega) | (simp <;> omega))) (fun h => by first | rfl | cases h)) rfl rfl rfl rfl (pre1 rfl) rfl rfl rfl ?_
    | refine hq_g2 33 3 31 _ _ true _ (fun hb => hol_load ty_3 rfl (by first | exact Nat.le_of_ble_eq_true rfl | (simp at hb; first | omega | (dsimp only; omega) | (simp <;> omega))) (by first | exact Nat.le_of_ble_eq_true rfl | (simp at hb; first | omega | (dsimp only; omega) | (simp <;> omega))) (fun h => by first | rfl | cases h)) rfl rfl rfl rfl (pre1 rfl) rfl rfl rfl ?_
    | refine hq_g 33 3 31 true _ (fun hb => hop_load_fp ty_3 rfl (by first | exact Nat.le_of_ble_eq_true rfl | (simp at hb; first | omega | (dsimp only; omega) | (simp <;> omega))) (fun h => by first | rfl | cases h)) rfl rfl rfl rfl pre0 rfl rfl rfl ?_
    | refine hq_g2 33 3 31 _ _ true _ (fun hb => hop_load_fp ty_3 rfl (by first | exact Nat.le_of_ble_eq_true rfl | (simp at hb; first | omega | (dsimp only; omega) | (simp <;> omega))) (fun h => by first | rfl | cases h)) rfl rfl rfl rfl pre0 rfl rfl rfl ?_
    first
    | refine hq_g 34 3 31 true _ (fun hb => hop_fa fd_77_8 rfl) rfl rfl rfl rfl pre0 rfl rfl rfl ?_
    | refine hq_g2 34 3 31 _ _ true _ (fun hb => hop_fa fd_77_8 rfl) rfl rfl rfl rfl pre0 rfl rfl rfl ?_
    | refine hq_g 34 3 31 true _ (fun hb => hop_fa_fp fd_77_8 rfl (by first | exact Nat.le_of_ble_eq_true rfl | (simp at hb; first | omega | (dsimp only; omega) | (simp <;> omega)))) rfl rfl rfl rfl pre0 rfl rfl rfl ?_
    | refine hq_g2 34 3 31 _ _ true _ (fun hb => hop_fa_fp fd_77_8 rfl (by first | exact Nat.le_of_ble_eq_true rfl | (simp at hb; first | omega | (dsimp only; omega) | (simp <;> omega)))) rfl rfl rfl rfl pre0 rfl rfl rfl ?_
    first
    | refine hq_g 35 3 31 true _ (fun hb => hol_load ty_26 rfl (by first | exact Nat.le_of_ble_eq_true rfl | (simp at hb; first | omega | (dsimp only; omega) | (simp <;> omega))) (by first | exact Nat.le_of_ble_eq_true rfl | (simp at hb; first | omega | (dsimp only; omega) | (simp <;> omega))) (fun h => by first | rfl | cases h)) rfl rfl rfl rfl (pre1 rfl) rfl rfl rfl ?_
    | refine hq_g2 35 3 31 _ _ true _ (fun hb => hol_load ty_26 rfl (by first | exact Nat.le_of_ble_eq_true rfl | (simp at hb; first | omega | (dsimp only; omega) | (simp <;> omega))) (by first | exact Nat.le_of_ble_eq_true rfl | (simp at hb; first | omega | (dsimp only; omega) | (simp <;> omega))) (fun h => by first | rfl | cases h)) rfl rfl rfl rfl (pre1 rfl) rfl rfl rfl ?_
    | refine hq_g 35 3 31 true _ (fun hb => hop_load_fp ty_26 rfl (by first | exact Nat.le_of_ble_eq_true rfl | (simp at hb; first | omega | (dsimp only; omega) | (simp <;> omega))) (fun h => by first | rfl | cases h)) rfl rfl rfl rfl pre0 rfl rfl rfl ?_
    | refine hq_g2 35 3 31 _ _ true _ (fun hb => hop_load_fp ty_26 rfl (by first | exact Nat.le_of_ble_eq_true rfl | (simp at hb; first | omega | (dsimp only; omega) | (simp <;> omega))) (fun h => by first | rfl | cases h)) rfl rfl rfl rfl pre0 rfl rfl rfl ?_
    first
    | refine hq_g 36 3 31 true _ (fun hb => hop_len_sl (T := 26) rfl (elOf_spec el_26).1 rfl) rfl rfl rfl rfl pre0 rfl rfl rfl ?_
    | refine hq_g2 36 3 31 _ _ true _ (fun hb => hop_len_sl (T := 26) rfl (elOf_spec el_26).1 rfl) rfl rfl rfl rfl pre0 rfl rfl rfl ?_
    | refine hq_g 36 3 31 true _ (fun hb => hop_len_os (T := 26) rfl (elOf_spec el_26).1 rfl) rfl rfl rfl rfl pre0 rfl rfl rfl ?_
    | refine hq_g2 36 3 31 _ _ true _ (fun hb => hop_len_os (T := 26) rfl (elOf_spec el_26).1 rfl) rfl rfl rfl rfl pre0 rfl rfl rfl ?_
    | refine hq_g 36 3 31 true _ (fun hb => hop_len_nil (T := 26) rfl (elOf_spec el_26).1 rfl) rfl rfl rfl rfl pre0 rfl rfl rfl ?_
    | refine hq_g2 36 3 31 _ _ true _ (fun hb => hop_len_nil (T := 26) rfl (elOf_spec el_26).1 rfl) rfl rfl rfl rfl pre0 rfl rfl rfl ?_
    first
    | refine hq_g 37 3 31 true _ (fun hb => hop_addi rfl rfl rfl (by first | exact Nat.le_of_ble_eq_true rfl | (simp at hb; first | omega | (dsimp only; omega) | (simp <;> omega))) (by first | exact Nat.le_of_ble_eq_true rfl | (simp at hb; first | omega | (dsimp only; omega) | (simp <;> omega)))) rfl rfl rfl rfl pre0 rfl rfl rfl ?_
    | refine hq_g2 37 3 31 _ _ true _ (fun hb => hop_addi rfl rfl rfl (by first | exact Nat.le_of_ble_eq_true rfl | (simp at hb; first | omega | (dsimp only; omega) | (simp <;> omega))) (by first | exact Nat.le_of_ble_eq_true rfl | (simp at hb; first | omega | (dsimp only; omega) | (simp <;> omega)))) rfl rfl rfl rfl pre0 rfl rfl rfl ?_
    | refine hq_g 37 3 31 true _ (fun hb => hop_add rfl rfl) rfl rfl rfl rfl pre0 rfl rfl rfl ?_
    | refine hq_g2 37 3 31 _ _ true _ (fun hb => hop_add rfl rfl) rfl rfl rfl rfl pre0 rfl rfl rfl ?_
    first
    | refine hq_g 38 3 31 true _ (fun hb => hop_fa fd_77_1 rfl) rfl rfl rfl rfl pre0 rfl rfl rfl ?_
    | refine hq_g2 38 3 31 _ _ true _ (fun hb => hop_fa fd_77_1 rfl) rfl rfl rfl rfl pre0 rfl rfl rfl ?_
    | refine hq_g 38 3 31 true _ (fun hb => hop_fa_fp fd_77_1 rfl (by first | exact Nat.le_of_ble_eq_true rfl | (simp at hb; first | omega | (dsimp only; omega) | (simp <;> omega)))) rfl rfl rfl rfl pre0 rfl rfl rfl ?_
    | refine hq_g2 38 3 31 _ _ true _ (fun hb => hop_fa_fp fd_77_1 rfl (by first | exact Nat.le_of_ble_eq_true rfl | (simp at hb; first | omega | (dsimp only; omega) | (simp <;> omega)))) rfl rfl rfl rfl pre0 rfl rfl rfl ?_
    first
    | refine hq_g 39 3 31 true _ (fun hb => hol_load ty_3 rfl (by first | exact Nat.le_of_ble_eq_true rfl | (simp at hb; first | omega | (dsimp only; omega) | (simp <;> omega))) (by first | exact Nat.le_of_ble_eq_true rfl | (simp at hb; first | omega | (dsimp only; omega) | (simp <;> omega))) (fun h => by first | rfl | cases h)) rfl rfl rfl rfl (pre1 rfl) rfl rfl rfl ?_
    | refine hq_g2 39 3 31 _ _ true _ (fun hb => hol_load ty_3 rfl (by first | exact Nat.le_of_ble_eq_true rfl | (simp at hb; first | omega | (dsimp only; omega) | (simp <;> omega))) (by first | exact Nat.le_of_ble_eq_true rfl | (simp at hb; first | omega | (dsimp only; omega) | (simp <;> omega))) (fun h => by first | rfl | cases h)) rfl rfl rfl rfl (pre1 rfl) rfl rfl rfl ?_
    | refine hq_g 39 3 31 true _ (fun hb => hop_load_fp ty_3 rfl (by first | exact Nat.le_of_ble_eq_true rfl | (simp at hb; first | omega | (dsimp only; omega) | (simp <;> omega))) (fun h => by first | rfl | cases h)) rfl rfl rfl rfl pre0 rfl rfl rfl ?_
    | refine hq_g2 39 3 31 _ _ true _ (fun hb => hop_load_fp ty_3 rfl (by first | exact Nat.le_of_ble_eq_true rfl | (simp at hb; first | omega | (dsimp only; omega) | (simp <;> omega))) (fun h => by first | rfl | cases h)) rfl rfl rfl rfl pre0 rfl rfl rfl ?_
    first
    | refine hq_g 40 3 31 true _ (fun hb => hop_eql rfl rfl) rfl rfl rfl rfl pre0 rfl rfl rfl ?_
    | refine hq_g2 40 3 31 _ _ true _ (fun hb => hop_eql rfl rfl) rfl rfl rfl rfl pre0 rfl rfl rfl ?_
    first
    | refine hq_p 41 (hstep_and _ _ rfl rfl rfl) rfl rfl rfl ?_
    | refine hq_p 41 (hstep_or _ _ rfl rfl rfl) rfl rfl rfl ?_
    | refine hq_p 41 (hstep_ite _ _ _ rfl rfl rfl) rfl rfl rfl ?_
    | refine hq_p 41 (hstep_pick _ _ _ _ rfl rfl rfl (fun _ => .refl _) (fun _ => .refl _)) rfl rfl rfl ?_
    refine hseq_nilU (by rfl) (by simp only [dropUn, slots]; exact rfl) ?_
    refine h8 _ ?_
    refine hw_cond _ rfl (fun hc1 => ?_) (fun hc1 => ?_)
    · have hr1 := hc1; (try simp only [decide_eq_true_eq, decide_eq_false_iff_not, Bool.and_eq_true, Bool.or_eq_true, Bool.not_eq_true', Bool.or_eq_false_iff, beq_iff_eq, bne_iff_ne, ne_eq, beq_eq_false_iff_ne, bne_eq_false_iff_eq, Bool.not_eq_true, Bool.not_eq_false, Bool.not_eq_false', Int.toNat_natCast, Int.reduceToNat] at hc1)
      have ka : a.k = 1 := (by simp at hr1; exact hr1.1); have hw : a.weld b = some (a.ahead b) := (by simp at hr1; unfold St.weld; rw [if_pos hr1.1, if_pos hr1.2])
      refine hw_seq (fun Nh9 h9 => ?_)
      refine hw_region ?_
      first
      | refine hq_ 42 (hop_fa fd_77_1 rfl) rfl rfl pre0 rfl rfl ?_
      | refine hq_ 42 (hop_fa_fp fd_77_1 rfl (by first | exact Nat.le_of_ble_eq_true rfl | omega | (dsimp only; omega) | (simp <;> omega))) rfl rfl pre0 rfl rfl ?_
      first
      | refine hq_ 43 (hol_load ty_3 rfl (by first | exact Nat.le_of_ble_eq_true rfl | omega | (dsimp only; omega) | (simp <;> omega)) (by first | exact Nat.le_of_ble_eq_true rfl | omega | (dsimp only; omega) | (simp <;> omega)) (fun h => by first | rfl | cases h)) rfl rfl (pre1 rfl) rfl rfl ?_
      | refine hq_ 43 (hop_load_fp ty_3 rfl (by first | exact Nat.le_of_ble_eq_true rfl | omega | (dsimp only; omega) | (simp <;> omega)) (fun h => by first | rfl | cases h)) rfl rfl pre0 rfl rfl ?_
      first
      | refine hq_ 44 (hop_fa fd_77_1 rfl) rfl rfl pre0 rfl rfl ?_
      | refine hq_ 44 (hop_fa_fp fd_77_1 rfl (by first | exact Nat.le_of_ble_eq_true rfl | omega | (dsimp only; omega) | (simp <;> omega))) rfl rfl pre0 rfl rfl ?_
      first
      | refine hm_s1 (hol_storeW ty_3 rfl rfl rfl rfl) rfl rfl (pre1 rfl) (c' := 8) rfl ?_
      | refine hm_s1 (hol_store ty_3 rfl rfl rfl rfl (by first | exact Nat.le_of_ble_eq_true rfl | omega | (dsimp only; omega) | (simp <;> omega)) (by first | exact Nat.le_of_ble_eq_true rfl | omega | (dsimp only; omega) | (simp <;> omega)) (by first | exact Nat.le_of_ble_eq_true rfl | omega | (dsimp only; omega) | (simp <;> omega))) rfl rfl (pre1 rfl) (c' := 8) rfl ?_
      refine hseq_nil ?_
      refine h9 _ ?_
      refine hw_seq (fun Nh10 h10 => ?_)
      refine hw_region ?_
      first
      | refine hq_ 45 (hop_fa fd_77_2 rfl) rfl rfl pre0 rfl rfl ?_
      | refine hq_ 45 (hop_fa_fp fd_77_2 rfl (by first | exact Nat.le_of_ble_eq_true rfl | omega | (dsimp only; omega) | (simp <;> omega))) rfl rfl pre0 rfl rfl ?_
      first
      | refine hq_ 46 (hol_load ty_3 rfl (by first | exact Nat.le_of_ble_eq_true rfl | omega | (dsimp only; omega) | (simp <;> omega)) (by first | exact Nat.le_of_ble_eq_true rfl | omega | (dsimp only; omega) | (simp <;> omega)) (fun h => by first | rfl | cases h)) rfl rfl (pre1 rfl) rfl rfl ?_
      | refine hq_ 46 (hop_load_fp ty_3 rfl (by first | exact Nat.le_of_ble_eq_true rfl | omega | (dsimp only; omega) | (simp <;> omega)) (fun h => by first | rfl | cases h)) rfl rfl pre0 rfl rfl ?_
      first
      | refine hq_ 47 (hop_fa fd_77_2 rfl) rfl rfl pre0 rfl rfl ?_
      | refine hq_ 47 (hop_fa_fp fd_77_2 rfl (by first | exact Nat.le_of_ble_eq_true rfl | omega | (dsimp only; omega) | (simp <;> omega))) rfl rfl pre0 rfl rfl ?_
      first
      | refine hq_ 48 (hol_load ty_3 rfl (by first | exact Nat.le_of_ble_eq_true rfl | omega | (dsimp only; omega) | (simp <;> omega)) (by first | exact Nat.le_of_ble_eq_true rfl | omega | (dsimp only; omega) | (simp <;> omega)) (fun h => by first | rfl | cases h)) rfl rfl (pre1 rfl) rfl rfl ?_
      | refine hq_ 48 (hop_load_fp ty_3 rfl (by first | exact Nat.le_of_ble_eq_true rfl | omega | (dsimp only; omega) | (simp <;> omega)) (fun h => by first | rfl | cases h)) rfl rfl pre0 rfl rfl ?_
      first
      | refine hq_ 49 (hop_addi rfl rfl rfl (by first | exact Nat.le_of_ble_eq_true rfl | omega | (dsimp only; omega) | (simp <;> omega)) (by first | exact Nat.le_of_ble_eq_true rfl | omega | (dsimp only; omega) | (simp <;> omega))) rfl rfl pre0 rfl rfl ?_
      | refine hq_ 49 (hop_add rfl rfl) rfl rfl pre0 rfl rfl ?_
      first
      | refine hq_ 50 (hop_fa fd_77_1 rfl) rfl rfl pre0 rfl rfl ?_
      | refine hq_ 50 (hop_fa_fp fd_77_1 rfl (by first | exact Nat.le_of_ble_eq_true rfl | omega | (dsimp only; omega) | (simp <;> omega))) rfl rfl pre0 rfl rfl ?_
      first
      | refine hq_ 51 (hol_load ty_3 rfl (by first | exact Nat.le_of_ble_eq_true rfl | omega | (dsimp only; omega) | (simp <;> omega)) (by first | exact Nat.le_of_ble_eq_true rfl | omega | (dsimp only; omega) | (simp <;> omega)) (fun h => by first | rfl | cases h)) rfl rfl (pre1 rfl) rfl rfl ?_
      | refine hq_ 51 (hop_load_fp ty_3 rfl (by first | exact Nat.le_of_ble_eq_true rfl | omega | (dsimp only; omega) | (simp <;> omega)) (fun h => by first | rfl | cases h)) rfl rfl pre0 rfl rfl ?_
      first
      | refine hq_ 52 (hop_subi rfl rfl rfl (by first | exact Nat.le_of_ble_eq_true rfl | omega | (dsimp only; omega) | (simp <;> omega)) (by first | exact Nat.le_of_ble_eq_true rfl | omega | (dsimp only; omega) | (simp <;> omega))) rfl rfl pre0 rfl rfl ?_
      | refine hq_ 52 (hop_sub rfl rfl) rfl rfl pre0 rfl rfl ?_
      first
      | refine hq_ 53 (hop_fa fd_77_2 rfl) rfl rfl pre0 rfl rfl ?_
      | refine hq_ 53 (hop_fa_fp fd_77_2 rfl (by first | exact Nat.le_of_ble_eq_true rfl | omega | (dsimp only; omega) | (simp <;> omega))) rfl rfl pre0 rfl rfl ?_
      first
      | refine hm_s1 (hol_storeW ty_3 rfl rfl rfl rfl) rfl rfl (pre1 rfl) (c' := 9) rfl ?_
      | refine hm_s1 (hol_store ty_3 rfl rfl rfl rfl (by first | exact Nat.le_of_ble_eq_true rfl | omega | (dsimp only; omega) | (simp <;> omega)) (by first | exact Nat.le_of_ble_eq_true rfl | omega | (dsimp only; omega) | (simp <;> omega)) (by first | exact Nat.le_of_ble_eq_true rfl | omega | (dsimp only; omega) | (simp <;> omega))) rfl rfl (pre1 rfl) (c' := 9) rfl ?_
      refine hseq_nil ?_
      refine h10 _ ?_
      refine hd_start ?_
      refine hd_1 54 (hop_buildSlice (id := 54) (hs := []) ei_26 (by first | exact Nat.le_of_ble_eq_true rfl | omega | (dsimp only; omega) | (simp <;> omega)) rfl (by first | exact Nat.le_of_ble_eq_true rfl | omega | (dsimp only; omega) | (simp <;> omega)) trivial) rfl rfl pre0 rfl rfl (k' := 1) rfl ?_
      first
      | refine hd_q 55 (hop_fa fd_77_8 rfl) rfl rfl pre0 rfl rfl (k' := 2) rfl ?_
      | refine hd_q 55 (hop_fa_fp fd_77_8 rfl (by first | exact Nat.le_of_ble_eq_true rfl | omega | (dsimp only; omega) | (simp <;> omega))) rfl rfl pre0 rfl rfl (k' := 2) rfl ?_
      first
      | refine hd_q 56 (hol_load ty_26 rfl (by first | exact Nat.le_of_ble_eq_true rfl | omega | (dsimp only; omega) | (simp <;> omega)) (by first | exact Nat.le_of_ble_eq_true rfl | omega | (dsimp only; omega) | (simp <;> omega)) (fun h => by first | rfl | cases h)) rfl rfl (pre1 rfl) rfl rfl (k' := 3) rfl ?_
      | refine hd_q 56 (hop_load_fp ty_26 rfl (by first | exact Nat.le_of_ble_eq_true rfl | omega | (dsimp only; omega) | (simp <;> omega)) (fun h => by first | rfl | cases h)) rfl rfl pre0 rfl rfl (k' := 3) rfl ?_
      first
      | refine hd_1 57 (hol_append ei_26 (by first | exact Nat.le_of_ble_eq_true rfl | omega | (dsimp only; omega) | (simp <;> omega)) rfl (by first | exact Nat.le_of_ble_eq_true rfl | omega | (dsimp only; omega) | (simp <;> omega)) (by first | exact Nat.le_of_ble_eq_true rfl | omega | (dsimp only; omega) | (simp <;> omega)) (srl_os0 rfl (by first | exact Nat.le_of_ble_eq_true rfl | omega | (dsimp only; omega) | (simp <;> omega))) (by first | exact Nat.le_of_ble_eq_true rfl | omega | (dsimp only; omega) | (simp <;> omega)) rfl) rfl rfl (preC rfl (pre1 rfl)) rfl rfl (k' := 4) rfl ?_
      | refine hd_1 57 (hol_append ei_26 (by first | exact Nat.le_of_ble_eq_true rfl | omega | (dsimp only; omega) | (simp <;> omega)) rfl (by first | exact Nat.le_of_ble_eq_true rfl | omega | (dsimp only; omega) | (simp <;> omega)) (by first | exact Nat.le_of_ble_eq_true rfl | omega | (dsimp only; omega) | (simp <;> omega)) (srl_os rfl (by first | exact Nat.le_of_ble_eq_true rfl | omega | (dsimp only; omega) | (simp <;> omega))) (by first | exact Nat.le_of_ble_eq_true rfl | omega | (dsimp only; omega) | (simp <;> omega)) rfl) rfl rfl (preC rfl (pre1 rfl)) rfl rfl (k' := 4) rfl ?_
      | refine hd_1 57 (hol_append ei_26 (by first | exact Nat.le_of_ble_eq_true rfl | omega | (dsimp only; omega) | (simp <;> omega)) rfl (by first | exact Nat.le_of_ble_eq_true rfl | omega | (dsimp only; omega) | (simp <;> omega)) (by first | exact Nat.le_of_ble_eq_true rfl | omega | (dsimp only; omega) | (simp <;> omega)) (src_sl rfl) (by first | exact Nat.le_of_ble_eq_true rfl | omega | (dsimp only; omega) | (simp <;> omega)) rfl) rfl rfl (preC rfl pre0) rfl rfl (k' := 4) rfl ?_
      | refine hd_1 57 (hol_append ei_26 (by first | exact Nat.le_of_ble_eq_true rfl | omega | (dsimp only; omega) | (simp <;> omega)) rfl (by first | exact Nat.le_of_ble_eq_true rfl | omega | (dsimp only; omega) | (simp <;> omega)) (by first | exact Nat.le_of_ble_eq_true rfl | omega | (dsimp only; omega) | (simp <;> omega)) (src_nil 12 (fun _ _ => default) rfl) (by first | exact Nat.le_of_ble_eq_true rfl | omega | (dsimp only; omega) | (simp <;> omega)) rfl) rfl rfl (preC rfl pre0) rfl rfl (k' := 4) rfl ?_
      first
      | refine hd_q 58 (hop_fa fd_77_8 rfl) rfl rfl pre0 rfl rfl (k' := 5) rfl ?_
      | refine hd_q 58 (hop_fa_fp fd_77_8 rfl (by first | exact Nat.le_of_ble_eq_true rfl | omega | (dsimp only; omega) | (simp <;> omega))) rfl rfl pre0 rfl rfl (k' := 5) rfl ?_
      first
      | refine hd_q 59 (hol_load ty_26 rfl (by first | exact Nat.le_of_ble_eq_true rfl | omega | (dsimp only; omega) | (simp <;> omega)) (by first | exact Nat.le_of_ble_eq_true rfl | omega | (dsimp only; omega) | (simp <;> omega)) (fun h => by first | rfl | cases h)) rfl rfl (pre1 rfl) rfl rfl (k' := 6) rfl ?_
      | refine hd_q 59 (hop_load_fp ty_26 rfl (by first | exact Nat.le_of_ble_eq_true rfl | omega | (dsimp only; omega) | (simp <;> omega)) (fun h => by first | rfl | cases h)) rfl rfl pre0 rfl rfl (k' := 6) rfl ?_
      first
      | refine hd_1 60 (hol_append ei_26 (by first | exact Nat.le_of_ble_eq_true rfl | omega | (dsimp only; omega) | (simp <;> omega)) rfl (by first | exact Nat.le_of_ble_eq_true rfl | omega | (dsimp only; omega) | (simp <;> omega)) (by first | exact Nat.le_of_ble_eq_true rfl | omega | (dsimp only; omega) | (simp <;> omega)) (srl_os0 rfl (by first | exact Nat.le_of_ble_eq_true rfl | omega | (dsimp only; omega) | (simp <;> omega))) (by first | exact Nat.le_of_ble_eq_true rfl | omega | (dsimp only; omega) | (simp <;> omega)) rfl) rfl rfl (preC rfl (pre1 rfl)) rfl rfl (k' := 7) rfl ?_
      | refine hd_1 60 (hol_append ei_26 (by first | exact Nat.le_of_ble_eq_true rfl | omega | (dsimp only; omega) | (simp <;> omega)) rfl (by first | exact Nat.le_of_ble_eq_true rfl | omega | (dsimp only; omega) | (simp <;> omega)) (by first | exact Nat.le_of_ble_eq_true rfl | omega | (dsimp only; omega) | (simp <;> omega)) (srl_os rfl (by first | exact Nat.le_of_ble_eq_true rfl | omega | (dsimp only; omega) | (simp <;> omega))) (by first | exact Nat.le_of_ble_eq_true rfl | omega | (dsimp only; omega) | (simp <;> omega)) rfl) rfl rfl (preC rfl (pre1 rfl)) rfl rfl (k' := 7) rfl ?_
      | refine hd_1 60 (hol_append ei_26 (by first | exact Nat.le_of_ble_eq_true rfl | omega | (dsimp only; omega) | (simp <;> omega)) rfl (by first | exact Nat.le_of_ble_eq_true rfl | omega | (dsimp only; omega) | (simp <;> omega)) (by first | exact Nat.le_of_ble_eq_true rfl | omega | (dsimp only; omega) | (simp <;> omega)) (src_sl rfl) (by first | exact Nat.le_of_ble_eq_true rfl | omega | (dsimp only; omega) | (simp <;> omega)) rfl) rfl rfl (preC rfl pre0) rfl rfl (k' := 7) rfl ?_
      | refine hd_1 60 (hol_append ei_26 (by first | exact Nat.le_of_ble_eq_true rfl | omega | (dsimp only; omega) | (simp <;> omega)) rfl (by first | exact Nat.le_of_ble_eq_true rfl | omega | (dsimp only; omega) | (simp <;> omega)) (by first | exact Nat.le_of_ble_eq_true rfl | omega | (dsimp only; omega) | (simp <;> omega)) (src_nil 12 (fun _ _ => default) rfl) (by first | exact Nat.le_of_ble_eq_true rfl | omega | (dsimp only; omega) | (simp <;> omega)) rfl) rfl rfl (preC rfl pre0) rfl rfl (k' := 7) rfl ?_
      first
      | refine hd_q 61 (hop_fa fd_77_8 rfl) rfl rfl pre0 rfl rfl (k' := 8) rfl ?_
      | refine hd_q 61 (hop_fa_fp fd_77_8 rfl (by first | exact Nat.le_of_ble_eq_true rfl | omega | (dsimp only; omega) | (simp <;> omega))) rfl rfl pre0 rfl rfl (k' := 8) rfl ?_
      first
      | refine hd_s1 (hol_storeW ty_26 rfl rfl rfl rfl) rfl rfl (pre1 rfl) (k' := 9) rfl ?_
      | refine hd_s1 (hol_store ty_26 rfl rfl rfl rfl (by first | exact Nat.le_of_ble_eq_true rfl | omega | (dsimp only; omega) | (simp <;> omega)) (by first | exact Nat.le_of_ble_eq_true rfl | omega | (dsimp only; omega) | (simp <;> omega)) (by first | exact Nat.le_of_ble_eq_true rfl | omega | (dsimp only; omega) | (simp <;> omega))) rfl rfl (pre1 rfl) (k' := 9) rfl ?_
      refine hd_nil (by kernel_rfl) (by kernel_rfl) (c' := 18) rfl ?_
      refine h7 _ ?_
      refine hw_seq (fun Nh11 h11 => ?_)
      refine hw_seq (fun Nh12 h12 => ?_)
      refine hw_region ?_
      first
      | refine hq_ 141 (hol_load ty_77 rfl (by first | exact Nat.le_of_ble_eq_true rfl | omega | (dsimp only; omega) | (simp <;> omega)) (by first | exact Nat.le_of_ble_eq_true rfl | omega | (dsimp only; omega) | (simp <;> omega)) (fun h => by first | rfl | cases h)) rfl rfl (pre1 rfl) rfl rfl ?_
      | refine hq_ 141 (hop_load_fp ty_77 rfl (by first | exact Nat.le_of_ble_eq_true rfl | omega | (dsimp only; omega) | (simp <;> omega)) (fun h => by first | rfl | cases h)) rfl rfl pre0 rfl rfl ?_
      refine hm_ 142 (hop_call (xs := [_]) [(54, _)] (shape25_h (a.ahead b) (by show (a.sl ++ b.sl).length ≤ _; rw [List.length_append]; omega) (by show ([] : List Mks).length ≤ _; simp)) ⟨rfl, trivial⟩ ⟨(fz_agg10 (by exact (show Fz _ (intV a.k) (intV 1) from by rw [ka]; exact .imm _)) (by first | exact .imm _ | exact .nil _ _ _ (by decide) _ | exact fz_toks _ | exact fz_mkss _ | exact Frz.fz) (by first | exact .imm _ | exact .nil _ _ _ (by decide) _ | exact fz_toks _ | exact fz_mkss _ | exact Frz.fz) (by first | exact .imm _ | exact .nil _ _ _ (by decide) _ | exact fz_toks _ | exact fz_mkss _ | exact Frz.fz) (by first | exact .imm _ | exact .nil _ _ _ (by decide) _ | exact fz_toks _ | exact fz_mkss _ | exact Frz.fz) (by first | exact .imm _ | exact .nil _ _ _ (by decide) _ | exact fz_toks _ | exact fz_mkss _ | exact Frz.fz) (by first | exact .imm _ | exact .nil _ _ _ (by decide) _ | exact fz_toks _ | exact fz_mkss _ | exact Frz.fz) (by first | exact .imm _ | exact .nil _ _ _ (by decide) _ | exact fz_toks _ | exact fz_mkss _ | exact Frz.fz) (by exact fz_row (l := a.sl ++ b.sl) (enc := tokF) (d := tok0) (List.mem_cons_self ..) rfl (by rw [List.length_append]; omega) (Nat.le_refl _) (fz_cat (l := a.sl) (k := b.sl) (by omega) (fz_cat (l := []) rfl fz_none (fun i j _ _ => fz_tokF _ _)) (fun i j _ _ => fz_tokF _ _))) (by first | exact .imm _ | exact .nil _ _ _ (by decide) _ | exact fz_toks _ | exact fz_mkss _ | exact Frz.fz)), trivial⟩ rfl) rfl rfl (preC rfl pre0) rfl rfl (c' := 19) rfl ?_
      refine hq_ 143 (hop_not rfl) rfl rfl pre0 rfl rfl ?_
      refine hseq_nil ?_
      refine h12 _ ?_
      refine hw_cond _ rfl (fun hc4 => ?_) (fun hc4 => ?_)
      · have hr4 := hc4; (try simp only [decide_eq_true_eq, decide_eq_false_iff_not, Bool.and_eq_true, Bool.or_eq_true, Bool.not_eq_true', Bool.or_eq_false_iff, beq_iff_eq, bne_iff_ne, ne_eq, beq_eq_false_iff_ne, bne_eq_false_iff_eq, Bool.not_eq_true, Bool.not_eq_false, Bool.not_eq_false', Int.toNat_natCast, Int.reduceToNat] at hc4)
        refine hw_seq (fun Nh13 h13 => ?_)
        refine hw_region ?_
        first
        | refine hq_ 144 (hol_load ty_77 rfl (by first | exact Nat.le_of_ble_eq_true rfl | omega | (dsimp only; omega) | (simp <;> omega)) (by first | exact Nat.le_of_ble_eq_true rfl | omega | (dsimp only; omega) | (simp <;> omega)) (fun h => by first | rfl | cases h)) rfl rfl (pre1 rfl) rfl rfl ?_
        | refine hq_ 144 (hop_load_fp ty_77 rfl (by first | exact Nat.le_of_ble_eq_true rfl | omega | (dsimp only; omega) | (simp <;> omega)) (fun h => by first | rfl | cases h)) rfl rfl pre0 rfl rfl ?_
        first
        | refine hm_s1 (hol_storeW ty_77 rfl rfl rfl rfl) rfl rfl (pre1 rfl) (c' := 20) rfl ?_
        | refine hm_s1 (hol_store ty_77 rfl rfl rfl rfl (by first | exact Nat.le_of_ble_eq_true rfl | omega | (dsimp only; omega) | (simp <;> omega)) (by first | exact Nat.le_of_ble_eq_true rfl | omega | (dsimp only; omega) | (simp <;> omega)) (by first | exact Nat.le_of_ble_eq_true rfl | omega | (dsimp only; omega) | (simp <;> omega))) rfl rfl (pre1 rfl) (c' := 20) rfl ?_
        refine hq_ 5 (hop_assign rfl) rfl rfl pre0 rfl rfl ?_
        refine hseq_nil ?_
        refine h13 _ ?_
        refine hw_ret ?_
        refine hq_then_ret ?_
        refine hq_ret2 rfl (rvl_cell rfl rfl ty_77 (fun h => by first | rfl | cases h) rfl rfl) (rval_tmp rfl) [] rfl pre0 ?_
        obtain rfl : Option.none = o := (by rw [← ho, ref_some s1 s2 s3 hw, if_neg]; simpa using hr4); exact fz_t2 (fz_agg10 (by first | exact .imm _ | exact .nil _ _ _ (by decide) _ | exact fz_toks _ | exact fz_mkss _ | exact Frz.fz) (by first | exact .imm _ | exact .nil _ _ _ (by decide) _ | exact fz_toks _ | exact fz_mkss _ | exact Frz.fz) (by first | exact .imm _ | exact .nil _ _ _ (by decide) _ | exact fz_toks _ | exact fz_mkss _ | exact Frz.fz) (by first | exact .imm _ | exact .nil _ _ _ (by decide) _ | exact fz_toks _ | exact fz_mkss _ | exact Frz.fz) (by first | exact .imm _ | exact .nil _ _ _ (by decide) _ | exact fz_toks _ | exact fz_mkss _ | exact Frz.fz) (by first | exact .imm _ | exact .nil _ _ _ (by decide) _ | exact fz_toks _ | exact fz_mkss _ | exact Frz.fz) (by first | exact .imm _ | exact .nil _ _ _ (by decide) _ | exact fz_toks _ | exact fz_mkss _ | exact Frz.fz) (by first | exact .imm _ | exact .nil _ _ _ (by decide) _ | exact fz_toks _ | exact fz_mkss _ | exact Frz.fz) (by first | exact .imm _ | exact .nil _ _ _ (by decide) _ | exact fz_toks _ | exact fz_mkss _ | exact Frz.fz) (by first | exact .imm _ | exact .nil _ _ _ (by decide) _ | exact fz_toks _ | exact fz_mkss _ | exact Frz.fz)) (.imm _)
      · have hr4 := hc4; (try simp only [decide_eq_true_eq, decide_eq_false_iff_not, Bool.and_eq_true, Bool.or_eq_true, Bool.not_eq_true', Bool.or_eq_false_iff, beq_iff_eq, bne_iff_ne, ne_eq, beq_eq_false_iff_ne, bne_eq_false_iff_eq, Bool.not_eq_true, Bool.not_eq_false, Bool.not_eq_false', Int.toNat_natCast, Int.reduceToNat] at hc4)
        refine hw_skip ?_
        refine h11 _ ?_
        refine hw_seq (fun Nh14 h14 => ?_)
        refine hw_region ?_
        first
        | refine hq_ 145 (hol_load ty_77 rfl (by first | exact Nat.le_of_ble_eq_true rfl | omega | (dsimp only; omega) | (simp <;> omega)) (by first | exact Nat.le_of_ble_eq_true rfl | omega | (dsimp only; omega) | (simp <;> omega)) (fun h => by first | rfl | cases h)) rfl rfl (pre1 rfl) rfl rfl ?_
        | refine hq_ 145 (hop_load_fp ty_77 rfl (by first | exact Nat.le_of_ble_eq_true rfl | omega | (dsimp only; omega) | (simp <;> omega)) (fun h => by first | rfl | cases h)) rfl rfl pre0 rfl rfl ?_
        first
        | refine hm_s1 (hol_storeW ty_77 rfl rfl rfl rfl) rfl rfl (pre1 rfl) (c' := 20) rfl ?_
        | refine hm_s1 (hol_store ty_77 rfl rfl rfl rfl (by first | exact Nat.le_of_ble_eq_true rfl | omega | (dsimp only; omega) | (simp <;> omega)) (by first | exact Nat.le_of_ble_eq_true rfl | omega | (dsimp only; omega) | (simp <;> omega)) (by first | exact Nat.le_of_ble_eq_true rfl | omega | (dsimp only; omega) | (simp <;> omega))) rfl rfl (pre1 rfl) (c' := 20) rfl ?_
        refine hq_ 5 (hop_assign rfl) rfl rfl pre0 rfl rfl ?_
        refine hseq_nil ?_
        refine h14 _ ?_
        refine hw_ret ?_
        refine hq_ret2 rfl (rvl_cell rfl rfl ty_77 (fun h => by first | rfl | cases h) rfl rfl) (rval_tmp rfl) [(54, _)] rfl (preC rfl pre0) ?_
        obtain rfl : some (a.ahead b) = o := (by rw [← ho, ref_some s1 s2 s3 hw, if_pos]; simpa using hr4); exact fz_t2 (fz_agg10 (by exact (show Fz _ (intV a.k) (intV 1) from by rw [ka]; exact .imm _)) (by first | exact .imm _ | exact .nil _ _ _ (by decide) _ | exact fz_toks _ | exact fz_mkss _ | exact Frz.fz) (by first | exact .imm _ | exact .nil _ _ _ (by decide) _ | exact fz_toks _ | exact fz_mkss _ | exact Frz.fz) (by first | exact .imm _ | exact .nil _ _ _ (by decide) _ | exact fz_toks _ | exact fz_mkss _ | exact Frz.fz) (by first | exact .imm _ | exact .nil _ _ _ (by decide) _ | exact fz_toks _ | exact fz_mkss _ | exact Frz.fz) (by first | exact .imm _ | exact .nil _ _ _ (by decide) _ | exact fz_toks _ | exact fz_mkss _ | exact Frz.fz) (by first | exact .imm _ | exact .nil _ _ _ (by decide) _ | exact fz_toks _ | exact fz_mkss _ | exact Frz.fz) (by first | exact .imm _ | exact .nil _ _ _ (by decide) _ | exact fz_toks _ | exact fz_mkss _ | exact Frz.fz) (by exact fz_row (l := a.sl ++ b.sl) (enc := tokF) (d := tok0) (List.mem_cons_self ..) rfl (by rw [List.length_append]; omega) (Nat.le_refl _) (fz_cat (l := a.sl) (k := b.sl) (by omega) (fz_cat (l := []) rfl fz_none (fun i j _ _ => fz_tokF _ _)) (fun i j _ _ => fz_tokF _ _))) (by first | exact .imm _ | exact .nil _ _ _ (by decide) _ | exact fz_toks _ | exact fz_mkss _ | exact Frz.fz)) (.imm _)
    · have hr1 := hc1; (try simp only [decide_eq_true_eq, decide_eq_false_iff_not, Bool.and_eq_true, Bool.or_eq_true, Bool.not_eq_true', Bool.or_eq_false_iff, beq_iff_eq, bne_iff_ne, ne_eq, beq_eq_false_iff_ne, bne_eq_false_iff_eq, Bool.not_eq_true, Bool.not_eq_false, Bool.not_eq_false', Int.toNat_natCast, Int.reduceToNat] at hc1)
      refine hw_seq (fun Nh15 h15 => ?_)
      refine hw_region ?_
      first
      | refine hq_ 62 (hop_fa fd_77_0 rfl) rfl rfl pre0 rfl rfl ?_
      | refine hq_ 62 (hop_fa_fp fd_77_0 rfl (by first | exact Nat.le_of_ble_eq_true rfl | omega | (dsimp only; omega) | (simp <;> omega))) rfl rfl pre0 rfl rfl ?_
      first
      | refine hq_ 63 (hol_load ty_3 rfl (by first | exact Nat.le_of_ble_eq_true rfl | omega | (dsimp only; omega) | (simp <;> omega)) (by first | exact Nat.le_of_ble_eq_true rfl | omega | (dsimp only; omega) | (simp <;> omega)) (fun h => by first | rfl | cases h)) rfl rfl (pre1 rfl) rfl rfl ?_
      | refine hq_ 63 (hop_load_fp ty_3 rfl (by first | exact Nat.le_of_ble_eq_true rfl | omega | (dsimp only; omega) | (simp <;> omega)) (fun h => by first | rfl | cases h)) rfl rfl pre0 rfl rfl ?_
      refine hq_ 64 (hop_eql rfl rfl) rfl rfl pre0 rfl rfl ?_
      refine hq_ 65 (hop_move rfl) rfl rfl pre0 rfl rfl ?_
      first
      | refine hq_g 66 3 65 true _ (fun hb => hop_fa fd_77_2 rfl) rfl rfl rfl rfl pre0 rfl rfl rfl ?_
      | refine hq_g2 66 3 65 _ _ true _ (fun hb => hop_fa fd_77_2 rfl) rfl rfl rfl rfl pre0 rfl rfl rfl ?_
      | refine hq_g 66 3 65 true _ (fun hb => hop_fa_fp fd_77_2 rfl (by first | exact Nat.le_of_ble_eq_true rfl | (simp at hb; first | omega | (dsimp only; omega) | (simp <;> omega)))) rfl rfl rfl rfl pre0 rfl rfl rfl ?_
      | refine hq_g2 66 3 65 _ _ true _ (fun hb => hop_fa_fp fd_77_2 rfl (by first | exact Nat.le_of_ble_eq_true rfl | (simp at hb; first | omega | (dsimp only; omega) | (simp <;> omega)))) rfl rfl rfl rfl pre0 rfl rfl rfl ?_
      first
      | refine hq_g 67 3 65 true _ (fun hb => hol_load ty_3 rfl (by first | exact Nat.le_of_ble_eq_true rfl | (simp at hb; first | omega | (dsimp only; omega) | (simp <;> omega))) (by first | exact Nat.le_of_ble_eq_true rfl | (simp at hb; first | omega | (dsimp only; omega) | (simp <;> omega))) (fun h => by first | rfl | cases h)) rfl rfl rfl rfl (pre1 rfl) rfl rfl rfl ?_
      | refine hq_g2 67 3 65 _ _ true _ (fun hb => hol_load ty_3 rfl (by first | exact Nat.le_of_ble_eq_true rfl | (simp at hb; first | omega | (dsimp only; omega) | (simp <;> omega))) (by first | exact Nat.le_of_ble_eq_true rfl | (simp at hb; first | omega | (dsimp only; omega) | (simp <;> omega))) (fun h => by first | rfl | cases h)) rfl rfl rfl rfl (pre1 rfl) rfl rfl rfl ?_
      | refine hq_g 67 3 65 true _ (fun hb => hop_load_fp ty_3 rfl (by first | exact Nat.le_of_ble_eq_true rfl | (simp at hb; first | omega | (dsimp only; omega) | (simp <;> omega))) (fun h => by first | rfl | cases h)) rfl rfl rfl rfl pre0 rfl rfl rfl ?_
      | refine hq_g2 67 3 65 _ _ true _ (fun hb => hop_load_fp ty_3 rfl (by first | exact Nat.le_of_ble_eq_true rfl | (simp at hb; first | omega | (dsimp only; omega) | (simp <;> omega))) (fun h => by first | rfl | cases h)) rfl rfl rfl rfl pre0 rfl rfl rfl ?_
      first
      | refine hq_g 68 3 65 true _ (fun hb => hop_fa fd_77_1 rfl) rfl rfl rfl rfl pre0 rfl rfl rfl ?_
      | refine hq_g2 68 3 65 _ _ true _ (fun hb => hop_fa fd_77_1 rfl) rfl rfl rfl rfl pre0 rfl rfl rfl ?_
      | refine hq_g 68 3 65 true _ (fun hb => hop_fa_fp fd_77_1 rfl (by first | exact Nat.le_of_ble_eq_true rfl | (simp at hb; first | omega | (dsimp only; omega) | (simp <;> omega)))) rfl rfl rfl rfl pre0 rfl rfl rfl ?_
      | refine hq_g2 68 3 65 _ _ true _ (fun hb => hop_fa_fp fd_77_1 rfl (by first | exact Nat.le_of_ble_eq_true rfl | (simp at hb; first | omega | (dsimp only; omega) | (simp <;> omega)))) rfl rfl rfl rfl pre0 rfl rfl rfl ?_
      first
      | refine hq_g 69 3 65 true _ (fun hb => hol_load ty_3 rfl (by first | exact Nat.le_of_ble_eq_true rfl | (simp at hb; first | omega | (dsimp only; omega) | (simp <;> omega))) (by first | exact Nat.le_of_ble_eq_true rfl | (simp at hb; first | omega | (dsimp only; omega) | (simp <;> omega))) (fun h => by first | rfl | cases h)) rfl rfl rfl rfl (pre1 rfl) rfl rfl rfl ?_
      | refine hq_g2 69 3 65 _ _ true _ (fun hb => hol_load ty_3 rfl (by first | exact Nat.le_of_ble_eq_true rfl | (simp at hb; first | omega | (dsimp only; omega) | (simp <;> omega))) (by first | exact Nat.le_of_ble_eq_true rfl | (simp at hb; first | omega | (dsimp only; omega) | (simp <;> omega))) (fun h => by first | rfl | cases h)) rfl rfl rfl rfl (pre1 rfl) rfl rfl rfl ?_
      | refine hq_g 69 3 65 true _ (fun hb => hop_load_fp ty_3 rfl (by first | exact Nat.le_of_ble_eq_true rfl | (simp at hb; first | omega | (dsimp only; omega) | (simp <;> omega))) (fun h => by first | rfl | cases h)) rfl rfl rfl rfl pre0 rfl rfl rfl ?_
      | refine hq_g2 69 3 65 _ _ true _ (fun hb => hop_load_fp ty_3 rfl (by first | exact Nat.le_of_ble_eq_true rfl | (simp at hb; first | omega | (dsimp only; omega) | (simp <;> omega))) (fun h => by first | rfl | cases h)) rfl rfl rfl rfl pre0 rfl rfl rfl ?_
      first
      | refine hq_g 70 3 65 true _ (fun hb => hop_eql rfl rfl) rfl rfl rfl rfl pre0 rfl rfl rfl ?_
      | refine hq_g2 70 3 65 _ _ true _ (fun hb => hop_eql rfl rfl) rfl rfl rfl rfl pre0 rfl rfl rfl ?_
      first
      | refine hq_p 71 (hstep_and _ _ rfl rfl rfl) rfl rfl rfl ?_
      | refine hq_p 71 (hstep_or _ _ rfl rfl rfl) rfl rfl rfl ?_
      | refine hq_p 71 (hstep_ite _ _ _ rfl rfl rfl) rfl rfl rfl ?_
      | refine hq_p 71 (hstep_pick _ _ _ _ rfl rfl rfl (fun _ => .refl _) (fun _ => .refl _)) rfl rfl rfl ?_
      refine hseq_nilU (by rfl) (by simp only [dropUn, slots]; exact rfl) ?_
      refine h15 _ ?_
      refine hw_cond _ rfl (fun hc2 => ?_) (fun hc2 => ?_)
      · have hr2 := hc2; (try simp only [decide_eq_true_eq, decide_eq_false_iff_not, Bool.and_eq_true, Bool.or_eq_true, Bool.not_eq_true', Bool.or_eq_false_iff, beq_iff_eq, bne_iff_ne, ne_eq, beq_eq_false_iff_ne, bne_eq_false_iff_eq, Bool.not_eq_true, Bool.not_eq_false, Bool.not_eq_false', Int.toNat_natCast, Int.reduceToNat] at hc2)
        have ka : a.k = 1 := (by simp at hr2; exact hr2.1); have hw : a.weld b = some (a.behind b) := (by simp at hr1 hr2; unfold St.weld; rw [if_pos hr2.1, if_neg (fun h => hr1 hr2.1 h), if_pos hr2.2])
        refine hw_seq (fun Nh16 h16 => ?_)
        refine hw_region ?_
        first
        | refine hq_ 72 (hop_fa fd_77_1 rfl) rfl rfl pre0 rfl rfl ?_
        | refine hq_ 72 (hop_fa_fp fd_77_1 rfl (by first | exact Nat.le_of_ble_eq_true rfl | omega | (dsimp only; omega) | (simp <;> omega))) rfl rfl pre0 rfl rfl ?_
        first
        | refine hq_ 73 (hol_load ty_3 rfl (by first | exact Nat.le_of_ble_eq_true rfl | omega | (dsimp only; omega) | (simp <;> omega)) (by first | exact Nat.le_of_ble_eq_true rfl | omega | (dsimp only; omega) | (simp <;> omega)) (fun h => by first | rfl | cases h)) rfl rfl (pre1 rfl) rfl rfl ?_
        | refine hq_ 73 (hop_load_fp ty_3 rfl (by first | exact Nat.le_of_ble_eq_true rfl | omega | (dsimp only; omega) | (simp <;> omega)) (fun h => by first | rfl | cases h)) rfl rfl pre0 rfl rfl ?_
        first
        | refine hq_ 74 (hop_fa fd_77_1 rfl) rfl rfl pre0 rfl rfl ?_
        | refine hq_ 74 (hop_fa_fp fd_77_1 rfl (by first | exact Nat.le_of_ble_eq_true rfl | omega | (dsimp only; omega) | (simp <;> omega))) rfl rfl pre0 rfl rfl ?_
        first
        | refine hm_s1 (hol_storeW ty_3 rfl rfl rfl rfl) rfl rfl (pre1 rfl) (c' := 8) rfl ?_
        | refine hm_s1 (hol_store ty_3 rfl rfl rfl rfl (by first | exact Nat.le_of_ble_eq_true rfl | omega | (dsimp only; omega) | (simp <;> omega)) (by first | exact Nat.le_of_ble_eq_true rfl | omega | (dsimp only; omega) | (simp <;> omega)) (by first | exact Nat.le_of_ble_eq_true rfl | omega | (dsimp only; omega) | (simp <;> omega))) rfl rfl (pre1 rfl) (c' := 8) rfl ?_
        refine hseq_nil ?_
        refine h16 _ ?_
        refine hw_seq (fun Nh17 h17 => ?_)
        refine hw_region ?_
        first
        | refine hq_ 75 (hop_fa fd_77_2 rfl) rfl rfl pre0 rfl rfl ?_
        | refine hq_ 75 (hop_fa_fp fd_77_2 rfl (by first | exact Nat.le_of_ble_eq_true rfl | omega | (dsimp only; omega) | (simp <;> omega))) rfl rfl pre0 rfl rfl ?_
        first
        | refine hq_ 76 (hol_load ty_3 rfl (by first | exact Nat.le_of_ble_eq_true rfl | omega | (dsimp only; omega) | (simp <;> omega)) (by first | exact Nat.le_of_ble_eq_true rfl | omega | (dsimp only; omega) | (simp <;> omega)) (fun h => by first | rfl | cases h)) rfl rfl (pre1 rfl) rfl rfl ?_
        | refine hq_ 76 (hop_load_fp ty_3 rfl (by first | exact Nat.le_of_ble_eq_true rfl | omega | (dsimp only; omega) | (simp <;> omega)) (fun h => by first | rfl | cases h)) rfl rfl pre0 rfl rfl ?_
        first
        | refine hq_ 77 (hop_fa fd_77_2 rfl) rfl rfl pre0 rfl rfl ?_
        | refine hq_ 77 (hop_fa_fp fd_77_2 rfl (by first | exact Nat.le_of_ble_eq_true rfl | omega | (dsimp only; omega) | (simp <;> omega))) rfl rfl pre0 rfl rfl ?_
        first
        | refine hm_s1 (hol_storeW ty_3 rfl rfl rfl rfl) rfl rfl (pre1 rfl) (c' := 9) rfl ?_
        | refine hm_s1 (hol_store ty_3 rfl rfl rfl rfl (by first | exact Nat.le_of_ble_eq_true rfl | omega | (dsimp only; omega) | (simp <;> omega)) (by first | exact Nat.le_of_ble_eq_true rfl | omega | (dsimp only; omega) | (simp <;> omega)) (by first | exact Nat.le_of_ble_eq_true rfl | omega | (dsimp only; omega) | (simp <;> omega))) rfl rfl (pre1 rfl) (c' := 9) rfl ?_
        refine hseq_nil ?_
        refine h17 _ ?_
        refine hd_start ?_
        refine hd_1 78 (hop_buildSlice (id := 78) (hs := []) ei_26 (by first | exact Nat.le_of_ble_eq_true rfl | omega | (dsimp only; omega) | (simp <;> omega)) rfl (by first | exact Nat.le_of_ble_eq_true rfl | omega | (dsimp only; omega) | (simp <;> omega)) trivial) rfl rfl pre0 rfl rfl (k' := 1) rfl ?_
        first
        | refine hd_q 79 (hop_fa fd_77_8 rfl) rfl rfl pre0 rfl rfl (k' := 2) rfl ?_
        | refine hd_q 79 (hop_fa_fp fd_77_8 rfl (by first | exact Nat.le_of_ble_eq_true rfl | omega | (dsimp only; omega) | (simp <;> omega))) rfl rfl pre0 rfl rfl (k' := 2) rfl ?_
        first
        | refine hd_q 80 (hol_load ty_26 rfl (by first | exact Nat.le_of_ble_eq_true rfl | omega | (dsimp only; omega) | (simp <;> omega)) (by first | exact Nat.le_of_ble_eq_true rfl | omega | (dsimp only; omega) | (simp <;> omega)) (fun h => by first | rfl | cases h)) rfl rfl (pre1 rfl) rfl rfl (k' := 3) rfl ?_
        | refine hd_q 80 (hop_load_fp ty_26 rfl (by first | exact Nat.le_of_ble_eq_true rfl | omega | (dsimp only; omega) | (simp <;> omega)) (fun h => by first | rfl | cases h)) rfl rfl pre0 rfl rfl (k' := 3) rfl ?_
        first
        | refine hd_1 81 (hol_append ei_26 (by first | exact Nat.le_of_ble_eq_true rfl | omega | (dsimp only; omega) | (simp <;> omega)) rfl (by first | exact Nat.le_of_ble_eq_true rfl | omega | (dsimp only; omega) | (simp <;> omega)) (by first | exact Nat.le_of_ble_eq_true rfl | omega | (dsimp only; omega) | (simp <;> omega)) (srl_os0 rfl (by first | exact Nat.le_of_ble_eq_true rfl | omega | (dsimp only; omega) | (simp <;> omega))) (by first | exact Nat.le_of_ble_eq_true rfl | omega | (dsimp only; omega) | (simp <;> omega)) rfl) rfl rfl (preC rfl (pre1 rfl)) rfl rfl (k' := 4) rfl ?_
        | refine hd_1 81 (hol_append ei_26 (by first | exact Nat.le_of_ble_eq_true rfl | omega | (dsimp only; omega) | (simp <;> omega)) rfl (by first | exact Nat.le_of_ble_eq_true rfl | omega | (dsimp only; omega) | (simp <;> omega)) (by first | exact Nat.le_of_ble_eq_true rfl | omega | (dsimp only; omega) | (simp <;> omega)) (srl_os rfl (by first | exact Nat.le_of_ble_eq_true rfl | omega | (dsimp only; omega) | (simp <;> omega))) (by first | exact Nat.le_of_ble_eq_true rfl | omega | (dsimp only; omega) | (simp <;> omega)) rfl) rfl rfl (preC rfl (pre1 rfl)) rfl rfl (k' := 4) rfl ?_
        | refine hd_1 81 (hol_append ei_26 (by first | exact Nat.le_of_ble_eq_true rfl | omega | (dsimp only; omega) | (simp <;> omega)) rfl (by first | exact Nat.le_of_ble_eq_true rfl | omega | (dsimp only; omega) | (simp <;> omega)) (by first | exact Nat.le_of_ble_eq_true rfl | omega | (dsimp only; omega) | (simp <;> omega)) (src_sl rfl) (by first | exact Nat.le_of_ble_eq_true rfl | omega | (dsimp only; omega) | (simp <;> omega)) rfl) rfl rfl (preC rfl pre0) rfl rfl (k' := 4) rfl ?_
        | refine hd_1 81 (hol_append ei_26 (by first | exact Nat.le_of_ble_eq_true rfl | omega | (dsimp only; omega) | (simp <;> omega)) rfl (by first | exact Nat.le_of_ble_eq_true rfl | omega | (dsimp only; omega) | (simp <;> omega)) (by first | exact Nat.le_of_ble_eq_true rfl | omega | (dsimp only; omega) | (simp <;> omega)) (src_nil 12 (fun _ _ => default) rfl) (by first | exact Nat.le_of_ble_eq_true rfl | omega | (dsimp only; omega) | (simp <;> omega)) rfl) rfl rfl (preC rfl pre0) rfl rfl (k' := 4) rfl ?_
        first
        | refine hd_q 82 (hop_fa fd_77_8 rfl) rfl rfl pre0 rfl rfl (k' := 5) rfl ?_
        | refine hd_q 82 (hop_fa_fp fd_77_8 rfl (by first | exact Nat.le_of_ble_eq_true rfl | omega | (dsimp only; omega) | (simp <;> omega))) rfl rfl pre0 rfl rfl (k' := 5) rfl ?_
        first
        | refine hd_q 83 (hol_load ty_26 rfl (by first | exact Nat.le_of_ble_eq_true rfl | omega | (dsimp only; omega) | (simp <;> omega)) (by first | exact Nat.le_of_ble_eq_true rfl | omega | (dsimp only; omega) | (simp <;> omega)) (fun h => by first | rfl | cases h)) rfl rfl (pre1 rfl) rfl rfl (k' := 6) rfl ?_
        | refine hd_q 83 (hop_load_fp ty_26 rfl (by first | exact Nat.le_of_ble_eq_true rfl | omega | (dsimp only; omega) | (simp <;> omega)) (fun h => by first | rfl | cases h)) rfl rfl pre0 rfl rfl (k' := 6) rfl ?_
        first
        | refine hd_1 84 (hol_append ei_26 (by first | exact Nat.le_of_ble_eq_true rfl | omega | (dsimp only; omega) | (simp <;> omega)) rfl (by first | exact Nat.le_of_ble_eq_true rfl | omega | (dsimp only; omega) | (simp <;> omega)) (by first | exact Nat.le_of_ble_eq_true rfl | omega | (dsimp only; omega) | (simp <;> omega)) (srl_os0 rfl (by first | exact Nat.le_of_ble_eq_true rfl | omega | (dsimp only; omega) | (simp <;> omega))) (by first | exact Nat.le_of_ble_eq_true rfl | omega | (dsimp only; omega) | (simp <;> omega)) rfl) rfl rfl (preC rfl (pre1 rfl)) rfl rfl (k' := 7) rfl ?_
        | refine hd_1 84 (hol_append ei_26 (by first | exact Nat.le_of_ble_eq_true rfl | omega | (dsimp only; omega) | (simp <;> omega)) rfl (by first | exact Nat.le_of_ble_eq_true rfl | omega | (dsimp only; omega) | (simp <;> omega)) (by first | exact Nat.le_of_ble_eq_true rfl | omega | (dsimp only; omega) | (simp <;> omega)) (srl_os rfl (by first | exact Nat.le_of_ble_eq_true rfl | omega | (dsimp only; omega) | (simp <;> omega))) (by first | exact Nat.le_of_ble_eq_true rfl | omega | (dsimp only; omega) | (simp <;> omega)) rfl) rfl rfl (preC rfl (pre1 rfl)) rfl rfl (k' := 7) rfl ?_
        | refine hd_1 84 (hol_append ei_26 (by first | exact Nat.le_of_ble_eq_true rfl | omega | (dsimp only; omega) | (simp <;> omega)) rfl (by first | exact Nat.le_of_ble_eq_true rfl | omega | (dsimp only; omega) | (simp <;> omega)) (by first | exact Nat.le_of_ble_eq_true rfl | omega | (dsimp only; omega) | (simp <;> omega)) (src_sl rfl) (by first | exact Nat.le_of_ble_eq_true rfl | omega | (dsimp only; omega) | (simp <;> omega)) rfl) rfl rfl (preC rfl pre0) rfl rfl (k' := 7) rfl ?_
        | refine hd_1 84 (hol_append ei_26 (by first | exact Nat.le_of_ble_eq_true rfl | omega | (dsimp only; omega) | (simp <;> omega)) rfl (by first | exact Nat.le_of_ble_eq_true rfl | omega | (dsimp only; omega) | (simp <;> omega)) (by first | exact Nat.le_of_ble_eq_true rfl | omega | (dsimp only; omega) | (simp <;> omega)) (src_nil 12 (fun _ _ => default) rfl) (by first | exact Nat.le_of_ble_eq_true rfl | omega | (dsimp only; omega) | (simp <;> omega)) rfl) rfl rfl (preC rfl pre0) rfl rfl (k' := 7) rfl ?_
        first
        | refine hd_q 85 (hop_fa fd_77_8 rfl) rfl rfl pre0 rfl rfl (k' := 8) rfl ?_
        | refine hd_q 85 (hop_fa_fp fd_77_8 rfl (by first | exact Nat.le_of_ble_eq_true rfl | omega | (dsimp only; omega) | (simp <;> omega))) rfl rfl pre0 rfl rfl (k' := 8) rfl ?_
        first
        | refine hd_s1 (hol_storeW ty_26 rfl rfl rfl rfl) rfl rfl (pre1 rfl) (k' := 9) rfl ?_
        | refine hd_s1 (hol_store ty_26 rfl rfl rfl rfl (by first | exact Nat.le_of_ble_eq_true rfl | omega | (dsimp only; omega) | (simp <;> omega)) (by first | exact Nat.le_of_ble_eq_true rfl | omega | (dsimp only; omega) | (simp <;> omega)) (by first | exact Nat.le_of_ble_eq_true rfl | omega | (dsimp only; omega) | (simp <;> omega))) rfl rfl (pre1 rfl) (k' := 9) rfl ?_
        refine hd_nil (by kernel_rfl) (by kernel_rfl) (c' := 18) rfl ?_
        refine h7 _ ?_
        refine hw_seq (fun Nh18 h18 => ?_)
        refine hw_seq (fun Nh19 h19 => ?_)
        refine hw_region ?_
        first
        | refine hq_ 141 (hol_load ty_77 rfl (by first | exact Nat.le_of_ble_eq_true rfl | omega | (dsimp only; omega) | (simp <;> omega)) (by first | exact Nat.le_of_ble_eq_true rfl | omega | (dsimp only; omega) | (simp <;> omega)) (fun h => by first | rfl | cases h)) rfl rfl (pre1 rfl) rfl rfl ?_
        | refine hq_ 141 (hop_load_fp ty_77 rfl (by first | exact Nat.le_of_ble_eq_true rfl | omega | (dsimp only; omega) | (simp <;> omega)) (fun h => by first | rfl | cases h)) rfl rfl pre0 rfl rfl ?_
        refine hm_ 142 (hop_call (xs := [_]) [(78, _)] (shape25_h (a.behind b) (by show (b.sl ++ a.sl).length ≤ _; rw [List.length_append]; omega) (by show ([] : List Mks).length ≤ _; simp)) ⟨rfl, trivial⟩ ⟨(fz_agg10 (by exact (show Fz _ (intV a.k) (intV 1) from by rw [ka]; exact .imm _)) (by first | exact .imm _ | exact .nil _ _ _ (by decide) _ | exact fz_toks _ | exact fz_mkss _ | exact Frz.fz) (by first | exact .imm _ | exact .nil _ _ _ (by decide) _ | exact fz_toks _ | exact fz_mkss _ | exact Frz.fz) (by first | exact .imm _ | exact .nil _ _ _ (by decide) _ | exact fz_toks _ | exact fz_mkss _ | exact Frz.fz) (by first | exact .imm _ | exact .nil _ _ _ (by decide) _ | exact fz_toks _ | exact fz_mkss _ | exact Frz.fz) (by first | exact .imm _ | exact .nil _ _ _ (by decide) _ | exact fz_toks _ | exact fz_mkss _ | exact Frz.fz) (by first | exact .imm _ | exact .nil _ _ _ (by decide) _ | exact fz_toks _ | exact fz_mkss _ | exact Frz.fz) (by first | exact .imm _ | exact .nil _ _ _ (by decide) _ | exact fz_toks _ | exact fz_mkss _ | exact Frz.fz) (by exact fz_row (l := b.sl ++ a.sl) (enc := tokF) (d := tok0) (List.mem_cons_self ..) rfl (by rw [List.length_append]; omega) (Nat.le_refl _) (fz_cat (l := b.sl) (k := a.sl) (by omega) (fz_cat (l := []) rfl fz_none (fun i j _ _ => fz_tokF _ _)) (fun i j _ _ => fz_tokF _ _))) (by first | exact .imm _ | exact .nil _ _ _ (by decide) _ | exact fz_toks _ | exact fz_mkss _ | exact Frz.fz)), trivial⟩ rfl) rfl rfl (preC rfl pre0) rfl rfl (c' := 19) rfl ?_
        refine hq_ 143 (hop_not rfl) rfl rfl pre0 rfl rfl ?_
        refine hseq_nil ?_
        refine h19 _ ?_
        refine hw_cond _ rfl (fun hc4 => ?_) (fun hc4 => ?_)
        · have hr4 := hc4; (try simp only [decide_eq_true_eq, decide_eq_false_iff_not, Bool.and_eq_true, Bool.or_eq_true, Bool.not_eq_true', Bool.or_eq_false_iff, beq_iff_eq, bne_iff_ne, ne_eq, beq_eq_false_iff_ne, bne_eq_false_iff_eq, Bool.not_eq_true, Bool.not_eq_false, Bool.not_eq_false', Int.toNat_natCast, Int.reduceToNat] at hc4)
          refine hw_seq (fun Nh20 h20 => ?_)
          refine hw_region ?_
          first
          | refine hq_ 144 (hol_load ty_77 rfl (by first | exact Nat.le_of_ble_eq_true rfl | omega | (dsimp only; omega) | (simp <;> omega)) (by first | exact Nat.le_of_ble_eq_true rfl | omega | (dsimp only; omega) | (simp <;> omega)) (fun h => by first | rfl | cases h)) rfl rfl (pre1 rfl) rfl rfl ?_
          | refine hq_ 144 (hop_load_fp ty_77 rfl (by first | exact Nat.le_of_ble_eq_true rfl | omega | (dsimp only; omega) | (simp <;> omega)) (fun h => by first | rfl | cases h)) rfl rfl pre0 rfl rfl ?_
          first
          | refine hm_s1 (hol_storeW ty_77 rfl rfl rfl rfl) rfl rfl (pre1 rfl) (c' := 20) rfl ?_
          | refine hm_s1 (hol_store ty_77 rfl rfl rfl rfl (by first | exact Nat.le_of_ble_eq_true rfl | omega | (dsimp only; omega) | (simp <;> omega)) (by first | exact Nat.le_of_ble_eq_true rfl | omega | (dsimp only; omega) | (simp <;> omega)) (by first | exact Nat.le_of_ble_eq_true rfl | omega | (dsimp only; omega) | (simp <;> omega))) rfl rfl (pre1 rfl) (c' := 20) rfl ?_
          refine hq_ 5 (hop_assign rfl) rfl rfl pre0 rfl rfl ?_
          refine hseq_nil ?_
          refine h20 _ ?_
          refine hw_ret ?_
          refine hq_then_ret ?_
          refine hq_ret2 rfl (rvl_cell rfl rfl ty_77 (fun h => by first | rfl | cases h) rfl rfl) (rval_tmp rfl) [] rfl pre0 ?_
          obtain rfl : Option.none = o := (by rw [← ho, ref_some s1 s2 s3 hw, if_neg]; simpa using hr4); exact fz_t2 (fz_agg10 (by first | exact .imm _ | exact .nil _ _ _ (by decide) _ | exact fz_toks _ | exact fz_mkss _ | exact Frz.fz) (by first | exact .imm _ | exact .nil _ _ _ (by decide) _ | exact fz_toks _ | exact fz_mkss _ | exact Frz.fz) (by first | exact .imm _ | exact .nil _ _ _ (by decide) _ | exact fz_toks _ | exact fz_mkss _ | exact Frz.fz) (by first | exact .imm _ | exact .nil _ _ _ (by decide) _ | exact fz_toks _ | exact fz_mkss _ | exact Frz.fz) (by first | exact .imm _ | exact .nil _ _ _ (by decide) _ | exact fz_toks _ | exact fz_mkss _ | exact Frz.fz) (by first | exact .imm _ | exact .nil _ _ _ (by decide) _ | exact fz_toks _ | exact fz_mkss _ | exact Frz.fz) (by first | exact .imm _ | exact .nil _ _ _ (by decide) _ | exact fz_toks _ | exact fz_mkss _ | exact Frz.fz) (by first | exact .imm _ | exact .nil _ _ _ (by decide) _ | exact fz_toks _ | exact fz_mkss _ | exact Frz.fz) (by first | exact .imm _ | exact .nil _ _ _ (by decide) _ | exact fz_toks _ | exact fz_mkss _ | exact Frz.fz) (by first | exact .imm _ | exact .nil _ _ _ (by decide) _ | exact fz_toks _ | exact fz_mkss _ | exact Frz.fz)) (.imm _)
        · have hr4 := hc4; (try simp only [decide_eq_true_eq, decide_eq_false_iff_not, Bool.and_eq_true, Bool.or_eq_true, Bool.not_eq_true', Bool.or_eq_false_iff, beq_iff_eq, bne_iff_ne, ne_eq, beq_eq_false_iff_ne, bne_eq_false_iff_eq, Bool.not_eq_true, Bool.not_eq_false, Bool.not_eq_false', Int.toNat_natCast, Int.reduceToNat] at hc4)
          refine hw_skip ?_
          refine h18 _ ?_
          refine hw_seq (fun Nh21 h21 => ?_)
          refine hw_region ?_
          first
          | refine hq_ 145 (hol_load ty_77 rfl (by first | exact Nat.le_of_ble_eq_true rfl | omega | (dsimp only; omega) | (simp <;> omega)) (by first | exact Nat.le_of_ble_eq_true rfl | omega | (dsimp only; omega) | (simp <;> omega)) (fun h => by first | rfl | cases h)) rfl rfl (pre1 rfl) rfl rfl ?_
          | refine hq_ 145 (hop_load_fp ty_77 rfl (by first | exact Nat.le_of_ble_eq_true rfl | omega | (dsimp only; omega) | (simp <;> omega)) (fun h => by first | rfl | cases h)) rfl rfl pre0 rfl rfl ?_
          first
          | refine hm_s1 (hol_storeW ty_77 rfl rfl rfl rfl) rfl rfl (pre1 rfl) (c' := 20) rfl ?_
          | refine hm_s1 (hol_store ty_77 rfl rfl rfl rfl (by first | exact Nat.le_of_ble_eq_true rfl | omega | (dsimp only; omega) | (simp <;> omega)) (by first | exact Nat.le_of_ble_eq_true rfl | omega | (dsimp only; omega) | (simp <;> omega)) (by first | exact Nat.le_of_ble_eq_true rfl | omega | (dsimp only; omega) | (simp <;> omega))) rfl rfl (pre1 rfl) (c' := 20) rfl ?_
          refine hq_ 5 (hop_assign rfl) rfl rfl pre0 rfl rfl ?_
          refine hseq_nil ?_
          refine h21 _ ?_
          refine hw_ret ?_
          refine hq_ret2 rfl (rvl_cell rfl rfl ty_77 (fun h => by first | rfl | cases h) rfl rfl) (rval_tmp rfl) [(78, _)] rfl (preC rfl pre0) ?_
          obtain rfl : some (a.behind b) = o := (by rw [← ho, ref_some s1 s2 s3 hw, if_pos]; simpa using hr4); exact fz_t2 (fz_agg10 (by exact (show Fz _ (intV a.k) (intV 1) from by rw [ka]; exact .imm _)) (by first | exact .imm _ | exact .nil _ _ _ (by decide) _ | exact fz_toks _ | exact fz_mkss _ | exact Frz.fz) (by first | exact .imm _ | exact .nil _ _ _ (by decide) _ | exact fz_toks _ | exact fz_mkss _ | exact Frz.fz) (by first | exact .imm _ | exact .nil _ _ _ (by decide) _ | exact fz_toks _ | exact fz_mkss _ | exact Frz.fz) (by first | exact .imm _ | exact .nil _ _ _ (by decide) _ | exact fz_toks _ | exact fz_mkss _ | exact Frz.fz) (by first | exact .imm _ | exact .nil _ _ _ (by decide) _ | exact fz_toks _ | exact fz_mkss _ | exact Frz.fz) (by first | exact .imm _ | exact .nil _ _ _ (by decide) _ | exact fz_toks _ | exact fz_mkss _ | exact Frz.fz) (by first | exact .imm _ | exact .nil _ _ _ (by decide) _ | exact fz_toks _ | exact fz_mkss _ | exact Frz.fz) (by exact fz_row (l := b.sl ++ a.sl) (enc := tokF) (d := tok0) (List.mem_cons_self ..) rfl (by rw [List.length_append]; omega) (Nat.le_refl _) (fz_cat (l := b.sl) (k := a.sl) (by omega) (fz_cat (l := []) rfl fz_none (fun i j _ _ => fz_tokF _ _)) (fun i j _ _ => fz_tokF _ _))) (by first | exact .imm _ | exact .nil _ _ _ (by decide) _ | exact fz_toks _ | exact fz_mkss _ | exact Frz.fz)) (.imm _)
      · have hr2 := hc2; (try simp only [decide_eq_true_eq, decide_eq_false_iff_not, Bool.and_eq_true, Bool.or_eq_true, Bool.not_eq_true', Bool.or_eq_false_iff, beq_iff_eq, bne_iff_ne, ne_eq, beq_eq_false_iff_ne, bne_eq_false_iff_eq, Bool.not_eq_true, Bool.not_eq_false, Bool.not_eq_false', Int.toNat_natCast, Int.reduceToNat] at hc2)
        refine hw_seq (fun Nh22 h22 => ?_)
        refine hw_region ?_
        first
        | refine hq_ 86 (hop_fa fd_77_0 rfl) rfl rfl pre0 rfl rfl ?_
        | refine hq_ 86 (hop_fa_fp fd_77_0 rfl (by first | exact Nat.le_of_ble_eq_true rfl | omega | (dsimp only; omega) | (simp <;> omega))) rfl rfl pre0 rfl rfl ?_
        first
        | refine hq_ 87 (hol_load ty_3 rfl (by first | exact Nat.le_of_ble_eq_true rfl | omega | (dsimp only; omega) | (simp <;> omega)) (by first | exact Nat.le_of_ble_eq_true rfl | omega | (dsimp only; omega) | (simp <;> omega)) (fun h => by first | rfl | cases h)) rfl rfl (pre1 rfl) rfl rfl ?_
        | refine hq_ 87 (hop_load_fp ty_3 rfl (by first | exact Nat.le_of_ble_eq_true rfl | omega | (dsimp only; omega) | (simp <;> omega)) (fun h => by first | rfl | cases h)) rfl rfl pre0 rfl rfl ?_
        refine hq_ 88 (hop_eql rfl rfl) rfl rfl pre0 rfl rfl ?_
        refine hq_ 89 (hop_move rfl) rfl rfl pre0 rfl rfl ?_
        first
        | refine hq_g 90 3 89 false _ (fun hb => hop_fa fd_77_0 rfl) rfl rfl rfl rfl pre0 rfl rfl rfl ?_
        | refine hq_g2 90 3 89 _ _ false _ (fun hb => hop_fa fd_77_0 rfl) rfl rfl rfl rfl pre0 rfl rfl rfl ?_
        | refine hq_g 90 3 89 false _ (fun hb => hop_fa_fp fd_77_0 rfl (by first | exact Nat.le_of_ble_eq_true rfl | (simp at hb; first | omega | (dsimp only; omega) | (simp <;> omega)))) rfl rfl rfl rfl pre0 rfl rfl rfl ?_
        | refine hq_g2 90 3 89 _ _ false _ (fun hb => hop_fa_fp fd_77_0 rfl (by first | exact Nat.le_of_ble_eq_true rfl | (simp at hb; first | omega | (dsimp only; omega) | (simp <;> omega)))) rfl rfl rfl rfl pre0 rfl rfl rfl ?_
        first
        | refine hq_g 91 3 89 false _ (fun hb => hol_load ty_3 rfl (by first | exact Nat.le_of_ble_eq_true rfl | (simp at hb; first | omega | (dsimp only; omega) | (simp <;> omega))) (by first | exact Nat.le_of_ble_eq_true rfl | (simp at hb; first | omega | (dsimp only; omega) | (simp <;> omega))) (fun h => by first | rfl | cases h)) rfl rfl rfl rfl (pre1 rfl) rfl rfl rfl ?_
        | refine hq_g2 91 3 89 _ _ false _ (fun hb => hol_load ty_3 rfl (by first | exact Nat.le_of_ble_eq_true rfl | (simp at hb; first | omega | (dsimp only; omega) | (simp <;> omega))) (by first | exact Nat.le_of_ble_eq_true rfl | (simp at hb; first | omega | (dsimp only; omega) | (simp <;> omega))) (fun h => by first | rfl | cases h)) rfl rfl rfl rfl (pre1 rfl) rfl rfl rfl ?_
        | refine hq_g 91 3 89 false _ (fun hb => hop_load_fp ty_3 rfl (by first | exact Nat.le_of_ble_eq_true rfl | (simp at hb; first | omega | (dsimp only; omega) | (simp <;> omega))) (fun h => by first | rfl | cases h)) rfl rfl rfl rfl pre0 rfl rfl rfl ?_
        | refine hq_g2 91 3 89 _ _ false _ (fun hb => hop_load_fp ty_3 rfl (by first | exact Nat.le_of_ble_eq_true rfl | (simp at hb; first | omega | (dsimp only; omega) | (simp <;> omega))) (fun h => by first | rfl | cases h)) rfl rfl rfl rfl pre0 rfl rfl rfl ?_
        first
        | refine hq_g 92 3 89 false _ (fun hb => hop_eql rfl rfl) rfl rfl rfl rfl pre0 rfl rfl rfl ?_
        | refine hq_g2 92 3 89 _ _ false _ (fun hb => hop_eql rfl rfl) rfl rfl rfl rfl pre0 rfl rfl rfl ?_
        first
        | refine hq_p 93 (hstep_and _ _ rfl rfl rfl) rfl rfl rfl ?_
        | refine hq_p 93 (hstep_or _ _ rfl rfl rfl) rfl rfl rfl ?_
        | refine hq_p 93 (hstep_ite _ _ _ rfl rfl rfl) rfl rfl rfl ?_
        | refine hq_p 93 (hstep_pick _ _ _ _ rfl rfl rfl (fun _ => .refl _) (fun _ => .refl _)) rfl rfl rfl ?_
        refine hq_ 94 (hop_move rfl) rfl rfl pre0 rfl rfl ?_
        first
        | refine hq_g 95 8 94 true _ (fun hb => hop_fa fd_77_6 rfl) rfl rfl rfl rfl pre0 rfl rfl rfl ?_
        | refine hq_g2 95 8 94 _ _ true _ (fun hb => hop_fa fd_77_6 rfl) rfl rfl rfl rfl pre0 rfl rfl rfl ?_
        | refine hq_g 95 8 94 true _ (fun hb => hop_fa_fp fd_77_6 rfl (by first | exact Nat.le_of_ble_eq_true rfl | (simp at hb; first | omega | (dsimp only; omega) | (simp <;> omega)))) rfl rfl rfl rfl pre0 rfl rfl rfl ?_
        | refine hq_g2 95 8 94 _ _ true _ (fun hb => hop_fa_fp fd_77_6 rfl (by first | exact Nat.le_of_ble_eq_true rfl | (simp at hb; first | omega | (dsimp only; omega) | (simp <;> omega)))) rfl rfl rfl rfl pre0 rfl rfl rfl ?_
        first
        | refine hq_g 96 8 94 true _ (fun hb => hol_load ty_3 rfl (by first | exact Nat.le_of_ble_eq_true rfl | (simp at hb; first | omega | (dsimp only; omega) | (simp <;> omega))) (by first | exact Nat.le_of_ble_eq_true rfl | (simp at hb; first | omega | (dsimp only; omega) | (simp <;> omega))) (fun h => by first | rfl | cases h)) rfl rfl rfl rfl (pre1 rfl) rfl rfl rfl ?_
        | refine hq_g2 96 8 94 _ _ true _ (fun hb => hol_load ty_3 rfl (by first | exact Nat.le_of_ble_eq_true rfl | (simp at hb; first | omega | (dsimp only; omega) | (simp <;> omega))) (by first | exact Nat.le_of_ble_eq_true rfl | (simp at hb; first | omega | (dsimp only; omega) | (simp <;> omega))) (fun h => by first | rfl | cases h)) rfl rfl rfl rfl (pre1 rfl) rfl rfl rfl ?_
        | refine hq_g 96 8 94 true _ (fun hb => hop_load_fp ty_3 rfl (by first | exact Nat.le_of_ble_eq_true rfl | (simp at hb; first | omega | (dsimp only; omega) | (simp <;> omega))) (fun h => by first | rfl | cases h)) rfl rfl rfl rfl pre0 rfl rfl rfl ?_
        | refine hq_g2 96 8 94 _ _ true _ (fun hb => hop_load_fp ty_3 rfl (by first | exact Nat.le_of_ble_eq_true rfl | (simp at hb; first | omega | (dsimp only; omega) | (simp <;> omega))) (fun h => by first | rfl | cases h)) rfl rfl rfl rfl pre0 rfl rfl rfl ?_
        first
        | refine hq_g 97 8 94 true _ (fun hb => hop_fa fd_77_6 rfl) rfl rfl rfl rfl pre0 rfl rfl rfl ?_
        | refine hq_g2 97 8 94 _ _ true _ (fun hb => hop_fa fd_77_6 rfl) rfl rfl rfl rfl pre0 rfl rfl rfl ?_
        | refine hq_g 97 8 94 true _ (fun hb => hop_fa_fp fd_77_6 rfl (by first | exact Nat.le_of_ble_eq_true rfl | (simp at hb; first | omega | (dsimp only; omega) | (simp <;> omega)))) rfl rfl rfl rfl pre0 rfl rfl rfl ?_
        | refine hq_g2 97 8 94 _ _ true _ (fun hb => hop_fa_fp fd_77_6 rfl (by first | exact Nat.le_of_ble_eq_true rfl | (simp at hb; first | omega | (dsimp only; omega) | (simp <;> omega)))) rfl rfl rfl rfl pre0 rfl rfl rfl ?_
        first
        | refine hq_g 98 8 94 true _ (fun hb => hol_load ty_3 rfl (by first | exact Nat.le_of_ble_eq_true rfl | (simp at hb; first | omega | (dsimp only; omega) | (simp <;> omega))) (by first | exact Nat.le_of_ble_eq_true rfl | (simp at hb; first | omega | (dsimp only; omega) | (simp <;> omega))) (fun h => by first | rfl | cases h)) rfl rfl rfl rfl (pre1 rfl) rfl rfl rfl ?_
        | refine hq_g2 98 8 94 _ _ true _ (fun hb => hol_load ty_3 rfl (by first | exact Nat.le_of_ble_eq_true rfl | (simp at hb; first | omega | (dsimp only; omega) | (simp <;> omega))) (by first | exact Nat.le_of_ble_eq_true rfl | (simp at hb; first | omega | (dsimp only; omega) | (simp <;> omega))) (fun h => by first | rfl | cases h)) rfl rfl rfl rfl (pre1 rfl) rfl rfl rfl ?_
        | refine hq_g 98 8 94 true _ (fun hb => hop_load_fp ty_3 rfl (by first | exact Nat.le_of_ble_eq_true rfl | (simp at hb; first | omega | (dsimp only; omega) | (simp <;> omega))) (fun h => by first | rfl | cases h)) rfl rfl rfl rfl pre0 rfl rfl rfl ?_
        | refine hq_g2 98 8 94 _ _ true _ (fun hb => hop_load_fp ty_3 rfl (by first | exact Nat.le_of_ble_eq_true rfl | (simp at hb; first | omega | (dsimp only; omega) | (simp <;> omega))) (fun h => by first | rfl | cases h)) rfl rfl rfl rfl pre0 rfl rfl rfl ?_
        first
        | refine hq_g 99 8 94 true _ (fun hb => hop_eql rfl rfl) rfl rfl rfl rfl pre0 rfl rfl rfl ?_
        | refine hq_g2 99 8 94 _ _ true _ (fun hb => hop_eql rfl rfl) rfl rfl rfl rfl pre0 rfl rfl rfl ?_
        first
        | refine hq_p 100 (hstep_and _ _ rfl rfl rfl) rfl rfl rfl ?_
        | refine hq_p 100 (hstep_or _ _ rfl rfl rfl) rfl rfl rfl ?_
        | refine hq_p 100 (hstep_ite _ _ _ rfl rfl rfl) rfl rfl rfl ?_
        | refine hq_p 100 (hstep_pick _ _ _ _ rfl rfl rfl (fun _ => .refl _) (fun _ => .refl _)) rfl rfl rfl ?_
        refine hq_ 101 (hop_move rfl) rfl rfl pre0 rfl rfl ?_
        first
        | refine hq_g 102 15 101 true _ (fun hb => hop_fa fd_77_7 rfl) rfl rfl rfl rfl pre0 rfl rfl rfl ?_
        | refine hq_g2 102 15 101 _ _ true _ (fun hb => hop_fa fd_77_7 rfl) rfl rfl rfl rfl pre0 rfl rfl rfl ?_
        | refine hq_g 102 15 101 true _ (fun hb => hop_fa_fp fd_77_7 rfl (by first | exact Nat.le_of_ble_eq_true rfl | (simp at hb; first | omega | (dsimp only; omega) | (simp <;> omega)))) rfl rfl rfl rfl pre0 rfl rfl rfl ?_
        | refine hq_g2 102 15 101 _ _ true _ (fun hb => hop_fa_fp fd_77_7 rfl (by first | exact Nat.le_of_ble_eq_true rfl | (simp at hb; first | omega | (dsimp only; omega) | (simp <;> omega)))) rfl rfl rfl rfl pre0 rfl rfl rfl ?_
        first
        | refine hq_g 103 15 101 true _ (fun hb => hol_load ty_3 rfl (by first | exact Nat.le_of_ble_eq_true rfl | (simp at hb; first | omega | (dsimp only; omega) | (simp <;> omega))) (by first | exact Nat.le_of_ble_eq_true rfl | (simp at hb; first | omega | (dsimp only; omega) | (simp <;> omega))) (fun h => by first | rfl | cases h)) rfl rfl rfl rfl (pre1 rfl) rfl rfl rfl ?_
        | refine hq_g2 103 15 101 _ _ true _ (fun hb => hol_load ty_3 rfl (by first | exact Nat.le_of_ble_eq_true rfl | (simp at hb; first | omega | (dsimp only; omega) | (simp <;> omega))) (by first | exact Nat.le_of_ble_eq_true rfl | (simp at hb; first | omega | (dsimp only; omega) | (simp <;> omega))) (fun h => by first | rfl | cases h)) rfl rfl rfl rfl (pre1 rfl) rfl rfl rfl ?_
        | refine hq_g 103 15 101 true _ (fun hb => hop_load_fp ty_3 rfl (by first | exact Nat.le_of_ble_eq_true rfl | (simp at hb; first | omega | (dsimp only; omega) | (simp <;> omega))) (fun h => by first | rfl | cases h)) rfl rfl rfl rfl pre0 rfl rfl rfl ?_
        | refine hq_g2 103 15 101 _ _ true _ (fun hb => hop_load_fp ty_3 rfl (by first | exact Nat.le_of_ble_eq_true rfl | (simp at hb; first | omega | (dsimp only; omega) | (simp <;> omega))) (fun h => by first | rfl | cases h)) rfl rfl rfl rfl pre0 rfl rfl rfl ?_
        first
        | refine hq_g 104 15 101 true _ (fun hb => hop_fa fd_77_7 rfl) rfl rfl rfl rfl pre0 rfl rfl rfl ?_
        | refine hq_g2 104 15 101 _ _ true _ (fun hb => hop_fa fd_77_7 rfl) rfl rfl rfl rfl pre0 rfl rfl rfl ?_
        | refine hq_g 104 15 101 true _ (fun hb => hop_fa_fp fd_77_7 rfl (by first | exact Nat.le_of_ble_eq_true rfl | (simp at hb; first | omega | (dsimp only; omega) | (simp <;> omega)))) rfl rfl rfl rfl pre0 rfl rfl rfl ?_
        | refine hq_g2 104 15 101 _ _ true _ (fun hb => hop_fa_fp fd_77_7 rfl (by first | exact Nat.le_of_ble_eq_true rfl | (simp at hb; first | omega | (dsimp only; omega) | (simp <;> omega)))) rfl rfl rfl rfl pre0 rfl rfl rfl ?_
        first
        | refine hq_g 105 15 101 true _ (fun hb => hol_load ty_3 rfl (by first | exact Nat.le_of_ble_eq_true rfl | (simp at hb; first | omega | (dsimp only; omega) | (simp <;> omega))) (by first | exact Nat.le_of_ble_eq_true rfl | (simp at hb; first | omega | (dsimp only; omega) | (simp <;> omega))) (fun h => by first | rfl | cases h)) rfl rfl rfl rfl (pre1 rfl) rfl rfl rfl ?_
        | refine hq_g2 105 15 101 _ _ true _ (fun hb => hol_load ty_3 rfl (by first | exact Nat.le_of_ble_eq_true rfl | (simp at hb; first | omega | (dsimp only; omega) | (simp <;> omega))) (by first | exact Nat.le_of_ble_eq_true rfl | (simp at hb; first | omega | (dsimp only; omega) | (simp <;> omega))) (fun h => by first | rfl | cases h)) rfl rfl rfl rfl (pre1 rfl) rfl rfl rfl ?_
        | refine hq_g 105 15 101 true _ (fun hb => hop_load_fp ty_3 rfl (by first | exact Nat.le_of_ble_eq_true rfl | (simp at hb; first | omega | (dsimp only; omega) | (simp <;> omega))) (fun h => by first | rfl | cases h)) rfl rfl rfl rfl pre0 rfl rfl rfl ?_
        | refine hq_g2 105 15 101 _ _ true _ (fun hb => hop_load_fp ty_3 rfl (by first | exact Nat.le_of_ble_eq_true rfl | (simp at hb; first | omega | (dsimp only; omega) | (simp <;> omega))) (fun h => by first | rfl | cases h)) rfl rfl rfl rfl pre0 rfl rfl rfl ?_
        first
        | refine hq_g 106 15 101 true _ (fun hb => hop_eql rfl rfl) rfl rfl rfl rfl pre0 rfl rfl rfl ?_
        | refine hq_g2 106 15 101 _ _ true _ (fun hb => hop_eql rfl rfl) rfl rfl rfl rfl pre0 rfl rfl rfl ?_
        first
        | refine hq_p 107 (hstep_and _ _ rfl rfl rfl) rfl rfl rfl ?_
        | refine hq_p 107 (hstep_or _ _ rfl rfl rfl) rfl rfl rfl ?_
        | refine hq_p 107 (hstep_ite _ _ _ rfl rfl rfl) rfl rfl rfl ?_
        | refine hq_p 107 (hstep_pick _ _ _ _ rfl rfl rfl (fun _ => .refl _) (fun _ => .refl _)) rfl rfl rfl ?_
        refine hq_ 108 (hop_move rfl) rfl rfl pre0 rfl rfl ?_
        first
        | refine hq_g 109 22 108 true _ (fun hb => hop_fa fd_77_1 rfl) rfl rfl rfl rfl pre0 rfl rfl rfl ?_
        | refine hq_g2 109 22 108 _ _ true _ (fun hb => hop_fa fd_77_1 rfl) rfl rfl rfl rfl pre0 rfl rfl rfl ?_
        | refine hq_g 109 22 108 true _ (fun hb => hop_fa_fp fd_77_1 rfl (by first | exact Nat.le_of_ble_eq_true rfl | (simp at hb; first | omega | (dsimp only; omega) | (simp <;> omega)))) rfl rfl rfl rfl pre0 rfl rfl rfl ?_
        | refine hq_g2 109 22 108 _ _ true _ (fun hb => hop_fa_fp fd_77_1 rfl (by first | exact Nat.le_of_ble_eq_true rfl | (simp at hb; first | omega | (dsimp only; omega) | (simp <;> omega)))) rfl rfl rfl rfl pre0 rfl rfl rfl ?_
        first
        | refine hq_g 110 22 108 true _ (fun hb => hol_load ty_3 rfl (by first | exact Nat.le_of_ble_eq_true rfl | (simp at hb; first | omega | (dsimp only; omega) | (simp <;> omega))) (by first | exact Nat.le_of_ble_eq_true rfl | (simp at hb; first | omega | (dsimp only; omega) | (simp <;> omega))) (fun h => by first | rfl | cases h)) rfl rfl rfl rfl (pre1 rfl) rfl rfl rfl ?_
        | refine hq_g2 110 22 108 _ _ true _ (fun hb => hol_load ty_3 rfl (by first | exact Nat.le_of_ble_eq_true rfl | (simp at hb; first | omega | (dsimp only; omega) | (simp <;> omega))) (by first | exact Nat.le_of_ble_eq_true rfl | (simp at hb; first | omega | (dsimp only; omega) | (simp <;> omega))) (fun h => by first | rfl | cases h)) rfl rfl rfl rfl (pre1 rfl) rfl rfl rfl ?_
        | refine hq_g 110 22 108 true _ (fun hb => hop_load_fp ty_3 rfl (by first | exact Nat.le_of_ble_eq_true rfl | (simp at hb; first | omega | (dsimp only; omega) | (simp <;> omega))) (fun h => by first | rfl | cases h)) rfl rfl rfl rfl pre0 rfl rfl rfl ?_
        | refine hq_g2 110 22 108 _ _ true _ (fun hb => hop_load_fp ty_3 rfl (by first | exact Nat.le_of_ble_eq_true rfl | (simp at hb; first | omega | (dsimp only; omega) | (simp <;> omega))) (fun h => by first | rfl | cases h)) rfl rfl rfl rfl pre0 rfl rfl rfl ?_
        first
        | refine hq_g 111 22 108 true _ (fun hb => hop_fa fd_77_2 rfl) rfl rfl rfl rfl pre0 rfl rfl rfl ?_
        | refine hq_g2 111 22 108 _ _ true _ (fun hb => hop_fa fd_77_2 rfl) rfl rfl rfl rfl pre0 rfl rfl rfl ?_
        | refine hq_g 111 22 108 true _ (fun hb => hop_fa_fp fd_77_2 rfl (by first | exact Nat.le_of_ble_eq_true rfl | (simp at hb; first | omega | (dsimp only; omega) | (simp <;> omega)))) rfl rfl rfl rfl pre0 rfl rfl rfl ?_
        | refine hq_g2 111 22 108 _ _ true _ (fun hb => hop_fa_fp fd_77_2 rfl (by first | exact Nat.le_of_ble_eq_true rfl | (simp at hb; first | omega | (dsimp only; omega) | (simp <;> omega)))) rfl rfl rfl rfl pre0 rfl rfl rfl ?_
        first
        | refine hq_g 112 22 108 true _ (fun hb => hol_load ty_3 rfl (by first | exact Nat.le_of_ble_eq_true rfl | (simp at hb; first | omega | (dsimp only; omega) | (simp <;> omega))) (by first | exact Nat.le_of_ble_eq_true rfl | (simp at hb; first | omega | (dsimp only; omega) | (simp <;> omega))) (fun h => by first | rfl | cases h)) rfl rfl rfl rfl (pre1 rfl) rfl rfl rfl ?_
        | refine hq_g2 112 22 108 _ _ true _ (fun hb => hol_load ty_3 rfl (by first | exact Nat.le_of_ble_eq_true rfl | (simp at hb; first | omega | (dsimp only; omega) | (simp <;> omega))) (by first | exact Nat.le_of_ble_eq_true rfl | (simp at hb; first | omega | (dsimp only; omega) | (simp <;> omega))) (fun h => by first | rfl | cases h)) rfl rfl rfl rfl (pre1 rfl) rfl rfl rfl ?_
        | refine hq_g 112 22 108 true _ (fun hb => hop_load_fp ty_3 rfl (by first | exact Nat.le_of_ble_eq_true rfl | (simp at hb; first | omega | (dsimp only; omega) | (simp <;> omega))) (fun h => by first | rfl | cases h)) rfl rfl rfl rfl pre0 rfl rfl rfl ?_
        | refine hq_g2 112 22 108 _ _ true _ (fun hb => hop_load_fp ty_3 rfl (by first | exact Nat.le_of_ble_eq_true rfl | (simp at hb; first | omega | (dsimp only; omega) | (simp <;> omega))) (fun h => by first | rfl | cases h)) rfl rfl rfl rfl pre0 rfl rfl rfl ?_
        first
        | refine hq_g 113 22 108 true _ (fun hb => hop_leq rfl rfl) rfl rfl rfl rfl pre0 rfl rfl rfl ?_
        | refine hq_g2 113 22 108 _ _ true _ (fun hb => hop_leq rfl rfl) rfl rfl rfl rfl pre0 rfl rfl rfl ?_
        first
        | refine hq_p 114 (hstep_and _ _ rfl rfl rfl) rfl rfl rfl ?_
        | refine hq_p 114 (hstep_or _ _ rfl rfl rfl) rfl rfl rfl ?_
        | refine hq_p 114 (hstep_ite _ _ _ rfl rfl rfl) rfl rfl rfl ?_
        | refine hq_p 114 (hstep_pick _ _ _ _ rfl rfl rfl (fun _ => .refl _) (fun _ => .refl _)) rfl rfl rfl ?_
        refine hq_ 115 (hop_move rfl) rfl rfl pre0 rfl rfl ?_
        first
        | refine hq_g 116 29 115 true _ (fun hb => hop_fa fd_77_1 rfl) rfl rfl rfl rfl pre0 rfl rfl rfl ?_
        | refine hq_g2 116 29 115 _ _ true _ (fun hb => hop_fa fd_77_1 rfl) rfl rfl rfl rfl pre0 rfl rfl rfl ?_
        | refine hq_g 116 29 115 true _ (fun hb => hop_fa_fp fd_77_1 rfl (by first | exact Nat.le_of_ble_eq_true rfl | (simp at hb; first | omega | (dsimp only; omega) | (simp <;> omega)))) rfl rfl rfl rfl pre0 rfl rfl rfl ?_
        | refine hq_g2 116 29 115 _ _ true _ (fun hb => hop_fa_fp fd_77_1 rfl (by first | exact Nat.le_of_ble_eq_true rfl | (simp at hb; first | omega | (dsimp only; omega) | (simp <;> omega)))) rfl rfl rfl rfl pre0 rfl rfl rfl ?_
        first
        | refine hq_g 117 29 115 true _ (fun hb => hol_load ty_3 rfl (by first | exact Nat.le_of_ble_eq_true rfl | (simp at hb; first | omega | (dsimp only; omega) | (simp <;> omega))) (by first | exact Nat.le_of_ble_eq_true rfl | (simp at hb; first | omega | (dsimp only; omega) | (simp <;> omega))) (fun h => by first | rfl | cases h)) rfl rfl rfl rfl (pre1 rfl) rfl rfl rfl ?_
        | refine hq_g2 117 29 115 _ _ true _ (fun hb => hol_load ty_3 rfl (by first | exact Nat.le_of_ble_eq_true rfl | (simp at hb; first | omega | (dsimp only; omega) | (simp <;> omega))) (by first | exact Nat.le_of_ble_eq_true rfl | (simp at hb; first | omega | (dsimp only; omega) | (simp <;> omega))) (fun h => by first | rfl | cases h)) rfl rfl rfl rfl (pre1 rfl) rfl rfl rfl ?_
        | refine hq_g 117 29 115 true _ (fun hb => hop_load_fp ty_3 rfl (by first | exact Nat.le_of_ble_eq_true rfl | (simp at hb; first | omega | (dsimp only; omega) | (simp <;> omega))) (fun h => by first | rfl | cases h)) rfl rfl rfl rfl pre0 rfl rfl rfl ?_
        | refine hq_g2 117 29 115 _ _ true _ (fun hb => hop_load_fp ty_3 rfl (by first | exact Nat.le_of_ble_eq_true rfl | (simp at hb; first | omega | (dsimp only; omega) | (simp <;> omega))) (fun h => by first | rfl | cases h)) rfl rfl rfl rfl pre0 rfl rfl rfl ?_
        first
        | refine hq_g 118 29 115 true _ (fun hb => hop_fa fd_77_2 rfl) rfl rfl rfl rfl pre0 rfl rfl rfl ?_
        | refine hq_g2 118 29 115 _ _ true _ (fun hb => hop_fa fd_77_2 rfl) rfl rfl rfl rfl pre0 rfl rfl rfl ?_
        | refine hq_g 118 29 115 true _ (fun hb => hop_fa_fp fd_77_2 rfl (by first | exact Nat.le_of_ble_eq_true rfl | (simp at hb; first | omega | (dsimp only; omega) | (simp <;> omega)))) rfl rfl rfl rfl pre0 rfl rfl rfl ?_
        | refine hq_g2 118 29 115 _ _ true _ (fun hb => hop_fa_fp fd_77_2 rfl (by first | exact Nat.le_of_ble_eq_true rfl | (simp at hb; first | omega | (dsimp only; omega) | (simp <;> omega)))) rfl rfl rfl rfl pre0 rfl rfl rfl ?_
        first
        | refine hq_g 119 29 115 true _ (fun hb => hol_load ty_3 rfl (by first | exact Nat.le_of_ble_eq_true rfl | (simp at hb; first | omega | (dsimp only; omega) | (simp <;> omega))) (by first | exact Nat.le_of_ble_eq_true rfl | (simp at hb; first | omega | (dsimp only; omega) | (simp <;> omega))) (fun h => by first | rfl | cases h)) rfl rfl rfl rfl (pre1 rfl) rfl rfl rfl ?_
        | refine hq_g2 119 29 115 _ _ true _ (fun hb => hol_load ty_3 rfl (by first | exact Nat.le_of_ble_eq_true rfl | (simp at hb; first | omega | (dsimp only; omega) | (simp <;> omega))) (by first | exact Nat.le_of_ble_eq_true rfl | (simp at hb; first | omega | (dsimp only; omega) | (simp <;> omega))) (fun h => by first | rfl | cases h)) rfl rfl rfl rfl (pre1 rfl) rfl rfl rfl ?_
        | refine hq_g 119 29 115 true _ (fun hb => hop_load_fp ty_3 rfl (by first | exact Nat.le_of_ble_eq_true rfl | (simp at hb; first | omega | (dsimp only; omega) | (simp <;> omega))) (fun h => by first | rfl | cases h)) rfl rfl rfl rfl pre0 rfl rfl rfl ?_
        | refine hq_g2 119 29 115 _ _ true _ (fun hb => hop_load_fp ty_3 rfl (by first | exact Nat.le_of_ble_eq_true rfl | (simp at hb; first | omega | (dsimp only; omega) | (simp <;> omega))) (fun h => by first | rfl | cases h)) rfl rfl rfl rfl pre0 rfl rfl rfl ?_
        first
        | refine hq_g 120 29 115 true _ (fun hb => hop_leq rfl rfl) rfl rfl rfl rfl pre0 rfl rfl rfl ?_
        | refine hq_g2 120 29 115 _ _ true _ (fun hb => hop_leq rfl rfl) rfl rfl rfl rfl pre0 rfl rfl rfl ?_
        first
        | refine hq_p 121 (hstep_and _ _ rfl rfl rfl) rfl rfl rfl ?_
        | refine hq_p 121 (hstep_or _ _ rfl rfl rfl) rfl rfl rfl ?_
        | refine hq_p 121 (hstep_ite _ _ _ rfl rfl rfl) rfl rfl rfl ?_
        | refine hq_p 121 (hstep_pick _ _ _ _ rfl rfl rfl (fun _ => .refl _) (fun _ => .refl _)) rfl rfl rfl ?_
        refine hseq_nilU (by rfl) (by simp only [dropUn, slots]; exact rfl) ?_
        refine h22 _ ?_
        refine hw_cond _ rfl (fun hc3 => ?_) (fun hc3 => ?_)
        · have hr3 := hc3; (try simp only [decide_eq_true_eq, decide_eq_false_iff_not, Bool.and_eq_true, Bool.or_eq_true, Bool.not_eq_true', Bool.or_eq_false_iff, beq_iff_eq, bne_iff_ne, ne_eq, beq_eq_false_iff_ne, bne_eq_false_iff_eq, Bool.not_eq_true, Bool.not_eq_false, Bool.not_eq_false', Int.toNat_natCast, Int.reduceToNat] at hc3)
          have hw : a.weld b = some (a.marked b) := (by simp at hr3; unfold St.weld; have h34 : a.k = 3 ∨ a.k = 4 := hr3.1.1.1.1; have n1 : ¬ a.k = 1 := (by omega); rw [if_neg n1, if_pos h34, if_pos]; unfold St.same; rw [hr3.1.1.1.2, hr3.1.1.2]; simp; omega)
          refine hw_seq (fun Nh23 h23 => ?_)
          refine hw_region ?_
          first
          | refine hq_ 122 (hop_fa fd_77_6 rfl) rfl rfl pre0 rfl rfl ?_
          | refine hq_ 122 (hop_fa_fp fd_77_6 rfl (by first | exact Nat.le_of_ble_eq_true rfl | omega | (dsimp only; omega) | (simp <;> omega))) rfl rfl pre0 rfl rfl ?_
          first
          | refine hq_ 123 (hol_load ty_3 rfl (by first | exact Nat.le_of_ble_eq_true rfl | omega | (dsimp only; omega) | (simp <;> omega)) (by first | exact Nat.le_of_ble_eq_true rfl | omega | (dsimp only; omega) | (simp <;> omega)) (fun h => by first | rfl | cases h)) rfl rfl (pre1 rfl) rfl rfl ?_
          | refine hq_ 123 (hop_load_fp ty_3 rfl (by first | exact Nat.le_of_ble_eq_true rfl | omega | (dsimp only; omega) | (simp <;> omega)) (fun h => by first | rfl | cases h)) rfl rfl pre0 rfl rfl ?_
          first
          | refine hq_ 124 (hop_fa fd_77_6 rfl) rfl rfl pre0 rfl rfl ?_
          | refine hq_ 124 (hop_fa_fp fd_77_6 rfl (by first | exact Nat.le_of_ble_eq_true rfl | omega | (dsimp only; omega) | (simp <;> omega))) rfl rfl pre0 rfl rfl ?_
          first
          | refine hm_s1 (hol_storeW ty_3 rfl rfl rfl rfl) rfl rfl (pre1 rfl) (c' := 8) rfl ?_
          | refine hm_s1 (hol_store ty_3 rfl rfl rfl rfl (by first | exact Nat.le_of_ble_eq_true rfl | omega | (dsimp only; omega) | (simp <;> omega)) (by first | exact Nat.le_of_ble_eq_true rfl | omega | (dsimp only; omega) | (simp <;> omega)) (by first | exact Nat.le_of_ble_eq_true rfl | omega | (dsimp only; omega) | (simp <;> omega))) rfl rfl (pre1 rfl) (c' := 8) rfl ?_
          refine hseq_nil ?_
          refine h23 _ ?_
          refine hw_seq (fun Nh24 h24 => ?_)
          refine hw_region ?_
          first
          | refine hq_ 125 (hop_fa fd_77_7 rfl) rfl rfl pre0 rfl rfl ?_
          | refine hq_ 125 (hop_fa_fp fd_77_7 rfl (by first | exact Nat.le_of_ble_eq_true rfl | omega | (dsimp only; omega) | (simp <;> omega))) rfl rfl pre0 rfl rfl ?_
          first
          | refine hq_ 126 (hol_load ty_3 rfl (by first | exact Nat.le_of_ble_eq_true rfl | omega | (dsimp only; omega) | (simp <;> omega)) (by first | exact Nat.le_of_ble_eq_true rfl | omega | (dsimp only; omega) | (simp <;> omega)) (fun h => by first | rfl | cases h)) rfl rfl (pre1 rfl) rfl rfl ?_
          | refine hq_ 126 (hop_load_fp ty_3 rfl (by first | exact Nat.le_of_ble_eq_true rfl | omega | (dsimp only; omega) | (simp <;> omega)) (fun h => by first | rfl | cases h)) rfl rfl pre0 rfl rfl ?_
          first
          | refine hq_ 127 (hop_fa fd_77_7 rfl) rfl rfl pre0 rfl rfl ?_
          | refine hq_ 127 (hop_fa_fp fd_77_7 rfl (by first | exact Nat.le_of_ble_eq_true rfl | omega | (dsimp only; omega) | (simp <;> omega))) rfl rfl pre0 rfl rfl ?_
          first
          | refine hm_s1 (hol_storeW ty_3 rfl rfl rfl rfl) rfl rfl (pre1 rfl) (c' := 9) rfl ?_
          | refine hm_s1 (hol_store ty_3 rfl rfl rfl rfl (by first | exact Nat.le_of_ble_eq_true rfl | omega | (dsimp only; omega) | (simp <;> omega)) (by first | exact Nat.le_of_ble_eq_true rfl | omega | (dsimp only; omega) | (simp <;> omega)) (by first | exact Nat.le_of_ble_eq_true rfl | omega | (dsimp only; omega) | (simp <;> omega))) rfl rfl (pre1 rfl) (c' := 9) rfl ?_
          refine hseq_nil ?_
          refine h24 _ ?_
          refine hw_seq (fun Nh25 h25 => ?_)
          refine hw_region ?_
          first
          | refine hq_ 128 (hop_fa fd_77_1 rfl) rfl rfl pre0 rfl rfl ?_
          | refine hq_ 128 (hop_fa_fp fd_77_1 rfl (by first | exact Nat.le_of_ble_eq_true rfl | omega | (dsimp only; omega) | (simp <;> omega))) rfl rfl pre0 rfl rfl ?_
          first
          | refine hq_ 129 (hol_load ty_3 rfl (by first | exact Nat.le_of_ble_eq_true rfl | omega | (dsimp only; omega) | (simp <;> omega)) (by first | exact Nat.le_of_ble_eq_true rfl | omega | (dsimp only; omega) | (simp <;> omega)) (fun h => by first | rfl | cases h)) rfl rfl (pre1 rfl) rfl rfl ?_
          | refine hq_ 129 (hop_load_fp ty_3 rfl (by first | exact Nat.le_of_ble_eq_true rfl | omega | (dsimp only; omega) | (simp <;> omega)) (fun h => by first | rfl | cases h)) rfl rfl pre0 rfl rfl ?_
          first
          | refine hq_ 130 (hop_fa fd_77_1 rfl) rfl rfl pre0 rfl rfl ?_
          | refine hq_ 130 (hop_fa_fp fd_77_1 rfl (by first | exact Nat.le_of_ble_eq_true rfl | omega | (dsimp only; omega) | (simp <;> omega))) rfl rfl pre0 rfl rfl ?_
          first
          | refine hq_ 131 (hol_load ty_3 rfl (by first | exact Nat.le_of_ble_eq_true rfl | omega | (dsimp only; omega) | (simp <;> omega)) (by first | exact Nat.le_of_ble_eq_true rfl | omega | (dsimp only; omega) | (simp <;> omega)) (fun h => by first | rfl | cases h)) rfl rfl (pre1 rfl) rfl rfl ?_
          | refine hq_ 131 (hop_load_fp ty_3 rfl (by first | exact Nat.le_of_ble_eq_true rfl | omega | (dsimp only; omega) | (simp <;> omega)) (fun h => by first | rfl | cases h)) rfl rfl pre0 rfl rfl ?_
          refine hq_ 132 (hop_min rfl rfl) rfl rfl pre0 rfl rfl ?_
          first
          | refine hq_ 133 (hop_fa fd_77_1 rfl) rfl rfl pre0 rfl rfl ?_
          | refine hq_ 133 (hop_fa_fp fd_77_1 rfl (by first | exact Nat.le_of_ble_eq_true rfl | omega | (dsimp only; omega) | (simp <;> omega))) rfl rfl pre0 rfl rfl ?_
          first
          | refine hm_s1 (hol_storeW ty_3 rfl rfl rfl rfl) rfl rfl (pre1 rfl) (c' := 10) rfl ?_
          | refine hm_s1 (hol_store ty_3 rfl rfl rfl rfl (by first | exact Nat.le_of_ble_eq_true rfl | omega | (dsimp only; omega) | (simp <;> omega)) (by first | exact Nat.le_of_ble_eq_true rfl | omega | (dsimp only; omega) | (simp <;> omega)) (by first | exact Nat.le_of_ble_eq_true rfl | omega | (dsimp only; omega) | (simp <;> omega))) rfl rfl (pre1 rfl) (c' := 10) rfl ?_
          refine hseq_nil ?_
          refine h25 _ ?_
          refine hw_region ?_
          first
          | refine hq_ 134 (hop_fa fd_77_2 rfl) rfl rfl pre0 rfl rfl ?_
          | refine hq_ 134 (hop_fa_fp fd_77_2 rfl (by first | exact Nat.le_of_ble_eq_true rfl | omega | (dsimp only; omega) | (simp <;> omega))) rfl rfl pre0 rfl rfl ?_
          first
          | refine hq_ 135 (hol_load ty_3 rfl (by first | exact Nat.le_of_ble_eq_true rfl | omega | (dsimp only; omega) | (simp <;> omega)) (by first | exact Nat.le_of_ble_eq_true rfl | omega | (dsimp only; omega) | (simp <;> omega)) (fun h => by first | rfl | cases h)) rfl rfl (pre1 rfl) rfl rfl ?_
          | refine hq_ 135 (hop_load_fp ty_3 rfl (by first | exact Nat.le_of_ble_eq_true rfl | omega | (dsimp only; omega) | (simp <;> omega)) (fun h => by first | rfl | cases h)) rfl rfl pre0 rfl rfl ?_
          first
          | refine hq_ 136 (hop_fa fd_77_2 rfl) rfl rfl pre0 rfl rfl ?_
          | refine hq_ 136 (hop_fa_fp fd_77_2 rfl (by first | exact Nat.le_of_ble_eq_true rfl | omega | (dsimp only; omega) | (simp <;> omega))) rfl rfl pre0 rfl rfl ?_
          first
          | refine hq_ 137 (hol_load ty_3 rfl (by first | exact Nat.le_of_ble_eq_true rfl | omega | (dsimp only; omega) | (simp <;> omega)) (by first | exact Nat.le_of_ble_eq_true rfl | omega | (dsimp only; omega) | (simp <;> omega)) (fun h => by first | rfl | cases h)) rfl rfl (pre1 rfl) rfl rfl ?_
          | refine hq_ 137 (hop_load_fp ty_3 rfl (by first | exact Nat.le_of_ble_eq_true rfl | omega | (dsimp only; omega) | (simp <;> omega)) (fun h => by first | rfl | cases h)) rfl rfl pre0 rfl rfl ?_
          refine hq_ 138 (hop_max rfl rfl) rfl rfl pre0 rfl rfl ?_
          first
          | refine hq_ 139 (hop_fa fd_77_2 rfl) rfl rfl pre0 rfl rfl ?_
          | refine hq_ 139 (hop_fa_fp fd_77_2 rfl (by first | exact Nat.le_of_ble_eq_true rfl | omega | (dsimp only; omega) | (simp <;> omega))) rfl rfl pre0 rfl rfl ?_
          first
          | refine hm_s1 (hol_storeW ty_3 rfl rfl rfl rfl) rfl rfl (pre1 rfl) (c' := 11) rfl ?_
          | refine hm_s1 (hol_store ty_3 rfl rfl rfl rfl (by first | exact Nat.le_of_ble_eq_true rfl | omega | (dsimp only; omega) | (simp <;> omega)) (by first | exact Nat.le_of_ble_eq_true rfl | omega | (dsimp only; omega) | (simp <;> omega)) (by first | exact Nat.le_of_ble_eq_true rfl | omega | (dsimp only; omega) | (simp <;> omega))) rfl rfl (pre1 rfl) (c' := 11) rfl ?_
          refine hseq_nil ?_
          refine h7 _ ?_
          refine hw_seq (fun Nh26 h26 => ?_)
          refine hw_seq (fun Nh27 h27 => ?_)
          refine hw_region ?_
          first
          | refine hq_ 141 (hol_load ty_77 rfl (by first | exact Nat.le_of_ble_eq_true rfl | omega | (dsimp only; omega) | (simp <;> omega)) (by first | exact Nat.le_of_ble_eq_true rfl | omega | (dsimp only; omega) | (simp <;> omega)) (fun h => by first | rfl | cases h)) rfl rfl (pre1 rfl) rfl rfl ?_
          | refine hq_ 141 (hop_load_fp ty_77 rfl (by first | exact Nat.le_of_ble_eq_true rfl | omega | (dsimp only; omega) | (simp <;> omega)) (fun h => by first | rfl | cases h)) rfl rfl pre0 rfl rfl ?_
          refine hq_ 142 (hop_call0 (xs := [_]) (shape25_h (a.marked b) (by show ([] : List Tok).length ≤ _; simp) (by show ([] : List Mks).length ≤ _; simp)) ⟨rfl, trivial⟩ ⟨(fz_agg10 (by first | exact .imm _ | exact .nil _ _ _ (by decide) _ | exact fz_toks _ | exact fz_mkss _ | exact Frz.fz) (by first | exact .imm _ | exact .nil _ _ _ (by decide) _ | exact fz_toks _ | exact fz_mkss _ | exact Frz.fz) (by first | exact .imm _ | exact .nil _ _ _ (by decide) _ | exact fz_toks _ | exact fz_mkss _ | exact Frz.fz) (by first | exact .imm _ | exact .nil _ _ _ (by decide) _ | exact fz_toks _ | exact fz_mkss _ | exact Frz.fz) (by first | exact .imm _ | exact .nil _ _ _ (by decide) _ | exact fz_toks _ | exact fz_mkss _ | exact Frz.fz) (by first | exact .imm _ | exact .nil _ _ _ (by decide) _ | exact fz_toks _ | exact fz_mkss _ | exact Frz.fz) (by first | exact .imm _ | exact .nil _ _ _ (by decide) _ | exact fz_toks _ | exact fz_mkss _ | exact Frz.fz) (by first | exact .imm _ | exact .nil _ _ _ (by decide) _ | exact fz_toks _ | exact fz_mkss _ | exact Frz.fz) (by first | exact .imm _ | exact .nil _ _ _ (by decide) _ | exact fz_toks _ | exact fz_mkss _ | exact Frz.fz) (by first | exact .imm _ | exact .nil _ _ _ (by decide) _ | exact fz_toks _ | exact fz_mkss _ | exact Frz.fz)), trivial⟩) rfl rfl pre0 rfl rfl ?_
          refine hq_ 143 (hop_not rfl) rfl rfl pre0 rfl rfl ?_
          refine hseq_nil ?_
          refine h27 _ ?_
          refine hw_cond _ rfl (fun hc4 => ?_) (fun hc4 => ?_)
          · have hr4 := hc4; (try simp only [decide_eq_true_eq, decide_eq_false_iff_not, Bool.and_eq_true, Bool.or_eq_true, Bool.not_eq_true', Bool.or_eq_false_iff, beq_iff_eq, bne_iff_ne, ne_eq, beq_eq_false_iff_ne, bne_eq_false_iff_eq, Bool.not_eq_true, Bool.not_eq_false, Bool.not_eq_false', Int.toNat_natCast, Int.reduceToNat] at hc4)
            refine hw_seq (fun Nh28 h28 => ?_)
            refine hw_region ?_
            first
            | refine hq_ 144 (hol_load ty_77 rfl (by first | exact Nat.le_of_ble_eq_true rfl | omega | (dsimp only; omega) | (simp <;> omega)) (by first | exact Nat.le_of_ble_eq_true rfl | omega | (dsimp only; omega) | (simp <;> omega)) (fun h => by first | rfl | cases h)) rfl rfl (pre1 rfl) rfl rfl ?_
            | refine hq_ 144 (hop_load_fp ty_77 rfl (by first | exact Nat.le_of_ble_eq_true rfl | omega | (dsimp only; omega) | (simp <;> omega)) (fun h => by first | rfl | cases h)) rfl rfl pre0 rfl rfl ?_
            first
            | refine hm_s1 (hol_storeW ty_77 rfl rfl rfl rfl) rfl rfl (pre1 rfl) (c' := 12) rfl ?_
            | refine hm_s1 (hol_store ty_77 rfl rfl rfl rfl (by first | exact Nat.le_of_ble_eq_true rfl | omega | (dsimp only; omega) | (simp <;> omega)) (by first | exact Nat.le_of_ble_eq_true rfl | omega | (dsimp only; omega) | (simp <;> omega)) (by first | exact Nat.le_of_ble_eq_true rfl | omega | (dsimp only; omega) | (simp <;> omega))) rfl rfl (pre1 rfl) (c' := 12) rfl ?_
            refine hq_ 5 (hop_assign rfl) rfl rfl pre0 rfl rfl ?_
            refine hseq_nil ?_
            refine h28 _ ?_
            refine hw_ret ?_
            refine hq_then_ret ?_
            refine hq_ret2 rfl (rvl_cell rfl rfl ty_77 (fun h => by first | rfl | cases h) rfl rfl) (rval_tmp rfl) [] rfl pre0 ?_
            obtain rfl : Option.none = o := (by rw [← ho, ref_some s1 s2 s3 hw, if_neg]; simpa using hr4); exact fz_t2 (fz_agg10 (by first | exact .imm _ | exact .nil _ _ _ (by decide) _ | exact fz_toks _ | exact fz_mkss _ | exact Frz.fz) (by first | exact .imm _ | exact .nil _ _ _ (by decide) _ | exact fz_toks _ | exact fz_mkss _ | exact Frz.fz) (by first | exact .imm _ | exact .nil _ _ _ (by decide) _ | exact fz_toks _ | exact fz_mkss _ | exact Frz.fz) (by first | exact .imm _ | exact .nil _ _ _ (by decide) _ | exact fz_toks _ | exact fz_mkss _ | exact Frz.fz) (by first | exact .imm _ | exact .nil _ _ _ (by decide) _ | exact fz_toks _ | exact fz_mkss _ | exact Frz.fz) (by first | exact .imm _ | exact .nil _ _ _ (by decide) _ | exact fz_toks _ | exact fz_mkss _ | exact Frz.fz) (by first | exact .imm _ | exact .nil _ _ _ (by decide) _ | exact fz_toks _ | exact fz_mkss _ | exact Frz.fz) (by first | exact .imm _ | exact .nil _ _ _ (by decide) _ | exact fz_toks _ | exact fz_mkss _ | exact Frz.fz) (by first | exact .imm _ | exact .nil _ _ _ (by decide) _ | exact fz_toks _ | exact fz_mkss _ | exact Frz.fz) (by first | exact .imm _ | exact .nil _ _ _ (by decide) _ | exact fz_toks _ | exact fz_mkss _ | exact Frz.fz)) (.imm _)
          · have hr4 := hc4; (try simp only [decide_eq_true_eq, decide_eq_false_iff_not, Bool.and_eq_true, Bool.or_eq_true, Bool.not_eq_true', Bool.or_eq_false_iff, beq_iff_eq, bne_iff_ne, ne_eq, beq_eq_false_iff_ne, bne_eq_false_iff_eq, Bool.not_eq_true, Bool.not_eq_false, Bool.not_eq_false', Int.toNat_natCast, Int.reduceToNat] at hc4)
            refine hw_skip ?_
            refine h26 _ ?_
            refine hw_seq (fun Nh29 h29 => ?_)
            refine hw_region ?_
            first
            | refine hq_ 145 (hol_load ty_77 rfl (by first | exact Nat.le_of_ble_eq_true rfl | omega | (dsimp only; omega) | (simp <;> omega)) (by first | exact Nat.le_of_ble_eq_true rfl | omega | (dsimp only; omega) | (simp <;> omega)) (fun h => by first | rfl | cases h)) rfl rfl (pre1 rfl) rfl rfl ?_
            | refine hq_ 145 (hop_load_fp ty_77 rfl (by first | exact Nat.le_of_ble_eq_true rfl | omega | (dsimp only; omega) | (simp <;> omega)) (fun h => by first | rfl | cases h)) rfl rfl pre0 rfl rfl ?_
            first
            | refine hm_s1 (hol_storeW ty_77 rfl rfl rfl rfl) rfl rfl (pre1 rfl) (c' := 12) rfl ?_
            | refine hm_s1 (hol_store ty_77 rfl rfl rfl rfl (by first | exact Nat.le_of_ble_eq_true rfl | omega | (dsimp only; omega) | (simp <;> omega)) (by first | exact Nat.le_of_ble_eq_true rfl | omega | (dsimp only; omega) | (simp <;> omega)) (by first | exact Nat.le_of_ble_eq_true rfl | omega | (dsimp only; omega) | (simp <;> omega))) rfl rfl (pre1 rfl) (c' := 12) rfl ?_
            refine hq_ 5 (hop_assign rfl) rfl rfl pre0 rfl rfl ?_
            refine hseq_nil ?_
            refine h29 _ ?_
            refine hw_ret ?_
            refine hq_ret2 rfl (rvl_cell rfl rfl ty_77 (fun h => by first | rfl | cases h) rfl rfl) (rval_tmp rfl) [] rfl pre0 ?_
            obtain rfl : some (a.marked b) = o := (by rw [← ho, ref_some s1 s2 s3 hw, if_pos]; simpa using hr4); exact fz_t2 (fz_agg10 (by first | exact .imm _ | exact .nil _ _ _ (by decide) _ | exact fz_toks _ | exact fz_mkss _ | exact Frz.fz) (by first | exact .imm _ | exact .nil _ _ _ (by decide) _ | exact fz_toks _ | exact fz_mkss _ | exact Frz.fz) (by first | exact .imm _ | exact .nil _ _ _ (by decide) _ | exact fz_toks _ | exact fz_mkss _ | exact Frz.fz) (by first | exact .imm _ | exact .nil _ _ _ (by decide) _ | exact fz_toks _ | exact fz_mkss _ | exact Frz.fz) (by first | exact .imm _ | exact .nil _ _ _ (by decide) _ | exact fz_toks _ | exact fz_mkss _ | exact Frz.fz) (by first | exact .imm _ | exact .nil _ _ _ (by decide) _ | exact fz_toks _ | exact fz_mkss _ | exact Frz.fz) (by first | exact .imm _ | exact .nil _ _ _ (by decide) _ | exact fz_toks _ | exact fz_mkss _ | exact Frz.fz) (by first | exact .imm _ | exact .nil _ _ _ (by decide) _ | exact fz_toks _ | exact fz_mkss _ | exact Frz.fz) (by first | exact .imm _ | exact .nil _ _ _ (by decide) _ | exact fz_toks _ | exact fz_mkss _ | exact Frz.fz) (by first | exact .imm _ | exact .nil _ _ _ (by decide) _ | exact fz_toks _ | exact fz_mkss _ | exact Frz.fz)) (.imm _)
        · have hr3 := hc3; (try simp only [decide_eq_true_eq, decide_eq_false_iff_not, Bool.and_eq_true, Bool.or_eq_true, Bool.not_eq_true', Bool.or_eq_false_iff, beq_iff_eq, bne_iff_ne, ne_eq, beq_eq_false_iff_ne, bne_eq_false_iff_eq, Bool.not_eq_true, Bool.not_eq_false, Bool.not_eq_false', Int.toNat_natCast, Int.reduceToNat] at hc3)
          refine hw_seq (fun Nh30 h30 => ?_)
          refine hw_region ?_
          first
          | refine hq_ 140 (hol_load ty_77 rfl (by first | exact Nat.le_of_ble_eq_true rfl | omega | (dsimp only; omega) | (simp <;> omega)) (by first | exact Nat.le_of_ble_eq_true rfl | omega | (dsimp only; omega) | (simp <;> omega)) (fun h => by first | rfl | cases h)) rfl rfl (pre1 rfl) rfl rfl ?_
          | refine hq_ 140 (hop_load_fp ty_77 rfl (by first | exact Nat.le_of_ble_eq_true rfl | omega | (dsimp only; omega) | (simp <;> omega)) (fun h => by first | rfl | cases h)) rfl rfl pre0 rfl rfl ?_
          first
          | refine hm_s1 (hol_storeW ty_77 rfl rfl rfl rfl) rfl rfl (pre1 rfl) (c' := 8) rfl ?_
          | refine hm_s1 (hol_store ty_77 rfl rfl rfl rfl (by first | exact Nat.le_of_ble_eq_true rfl | omega | (dsimp only; omega) | (simp <;> omega)) (by first | exact Nat.le_of_ble_eq_true rfl | omega | (dsimp only; omega) | (simp <;> omega)) (by first | exact Nat.le_of_ble_eq_true rfl | omega | (dsimp only; omega) | (simp <;> omega))) rfl rfl (pre1 rfl) (c' := 8) rfl ?_
          refine hq_ 5 (hop_assign rfl) rfl rfl pre0 rfl rfl ?_
          refine hseq_nil ?_
          refine h30 _ ?_
          refine hw_ret ?_
          refine hq_then_ret ?_
          refine hq_ret2 rfl (rvl_cell rfl rfl ty_77 (fun h => by first | rfl | cases h) rfl rfl) (rval_tmp rfl) [] rfl pre0 ?_
          obtain rfl : Option.none = o := (by rw [← ho]; refine (ref_none s1 s2 s3 ?_).symm; exact weld_no hr1 hr2 hr3); exact fz_t2 (fz_agg10 (by first | exact .imm _ | exact .nil _ _ _ (by decide) _ | exact fz_toks _ | exact fz_mkss _ | exact Frz.fz) (by first | exact .imm _ | exact .nil _ _ _ (by decide) _ | exact fz_toks _ | exact fz_mkss _ | exact Frz.fz) (by first | exact .imm _ | exact .nil _ _ _ (by decide) _ | exact fz_toks _ | exact fz_mkss _ | exact Frz.fz) (by first | exact .imm _ | exact .nil _ _ _ (by decide) _ | exact fz_toks _ | exact fz_mkss _ | exact Frz.fz) (by first | exact .imm _ | exact .nil _ _ _ (by decide) _ | exact fz_toks _ | exact fz_mkss _ | exact Frz.fz) (by first | exact .imm _ | exact .nil _ _ _ (by decide) _ | exact fz_toks _ | exact fz_mkss _ | exact Frz.fz) (by first | exact .imm _ | exact .nil _ _ _ (by decide) _ | exact fz_toks _ | exact fz_mkss _ | exact Frz.fz) (by first | exact .imm _ | exact .nil _ _ _ (by decide) _ | exact fz_toks _ | exact fz_mkss _ | exact Frz.fz) (by first | exact .imm _ | exact .nil _ _ _ (by decide) _ | exact fz_toks _ | exact fz_mkss _ | exact Frz.fz) (by first | exact .imm _ | exact .nil _ _ _ (by decide) _ | exact fz_toks _ | exact fz_mkss _ | exact Frz.fz)) (.imm _)
end Go.Proofs.Ytkeeipfglmpgjaa
