/-
  weld.Two in the reader's words: what two steps weld to.
-/
import Derived.Test.YtkeeipfglmpgjaaHw2
namespace Go.Proofs.Ytkeeipfglmpgjaa
set_option linter.unusedSimpArgs false
set_option linter.unusedVariables false
set_option maxRecDepth 100000
open Go.RowKit

theorem two_no {a b : St} {x y z : Bool} (hx : (a.k != b.k) = x) (hy : a.shape = y) (hz : b.shape = z) (h : ((x || !y) || !z) = true) : a.two b = Option.none := by
  subst hx; subst hy; subst hz
  unfold St.two
  rw [if_neg]
  rintro ⟨h1, h2, h3⟩
  simp [h1, h2, h3] at h
theorem two_yes {a b : St} (h : ((((a.k != b.k) || !a.shape)) || !b.shape) = false) : a.k = b.k ∧ a.shape = true ∧ b.shape = true := by
  simp at h; exact ⟨h.1.1, h.1.2, h.2⟩
theorem two_w {a b : St} (h1 : a.k = b.k) (h2 : a.shape = true) (h3 : b.shape = true) : a.two b = match a.weld b with | some x => if x.shape = true then some x else Option.none | Option.none => Option.none := by
  unfold St.two
  rw [if_pos ⟨h1, h2, h3⟩]
  cases a.weld b <;> rfl
theorem ways1_h' (k : Int) (hk : k = 1) : HPure Try.prog 48 [intV k] (.sl 1 2 (fun i _ => match i with | 0 => fnV 60 | _ => fnV 61)) := by subst hk; exact ways1_h

theorem Two_1a (a b : St) (hk : a.k = 1) (hp : a.f + a.sl.length = b.f) (o : Option St) (ho : a.two b = o) (l1 : a.sl.length ≤ 20000) (l2 : b.sl.length ≤ 20000) (l3 : a.sets.length ≤ 20000) (l4 : b.sets.length ≤ 20000) : HPure Try.prog 30 [stV a, stV b] (optV o) := by
  refine hpure_of Try.func30 rfl (by kernel_rfl) _ _ _ rfl 50 rfl rfl (fun w F => ?_)
  refine hw_seq (fun Nh1 h1 => ?_)
  refine hw_region ?_
  refine hm_1 2 (hop_box (id := 2) (sz := 10) rfl rfl rfl (by first | exact Nat.le_of_ble_eq_true rfl | omega | (dsimp only; omega) | (simp <;> omega)) (by first | exact Nat.le_of_ble_eq_true rfl | omega | (dsimp only; omega) | (simp <;> omega))) rfl rfl pre0 rfl rfl (c' := 1) rfl ?_
  refine hm_1 3 (hop_box (id := 3) (sz := 10) rfl rfl rfl (by first | exact Nat.le_of_ble_eq_true rfl | omega | (dsimp only; omega) | (simp <;> omega)) (by first | exact Nat.le_of_ble_eq_true rfl | omega | (dsimp only; omega) | (simp <;> omega))) rfl rfl pre0 rfl rfl (c' := 2) rfl ?_
  refine hm_1 4 (hop_alloc (id := 4) (sz := 10) zc_77 rfl rfl (by first | exact Nat.le_of_ble_eq_true rfl | omega | (dsimp only; omega) | (simp <;> omega)) (by first | exact Nat.le_of_ble_eq_true rfl | omega | (dsimp only; omega) | (simp <;> omega))) rfl rfl pre0 rfl rfl (c' := 3) rfl ?_
  refine hq_ 5 (hop_assign rfl) rfl rfl pre0 rfl rfl ?_
  refine hseq_nil ?_
  refine h1 _ ?_
  refine hw_seq (fun Nh2 h2 => ?_)
  refine hw_seq (fun Nh3 h3 => ?_)
  refine hw_region ?_
  first
  | refine hq_ 10 (hop_fa fd_77_0 rfl) rfl rfl pre0 rfl rfl ?_
  | refine hq_ 10 (hop_fa_fp fd_77_0 rfl (by first | exact Nat.le_of_ble_eq_true rfl | omega | (dsimp only; omega) | (simp <;> omega))) rfl rfl pre0 rfl rfl ?_
  first
  | refine hq_ 11 (hol_load ty_3 rfl (by first | exact Nat.le_of_ble_eq_true rfl | omega | (dsimp only; omega) | (simp <;> omega)) (by first | exact Nat.le_of_ble_eq_true rfl | omega | (dsimp only; omega) | (simp <;> omega)) (fun h => by first | rfl | cases h)) rfl rfl (pre1 rfl) rfl rfl ?_
  | refine hq_ 11 (hop_load_fp ty_3 rfl (by first | exact Nat.le_of_ble_eq_true rfl | omega | (dsimp only; omega) | (simp <;> omega)) (fun h => by first | rfl | cases h)) rfl rfl pre0 rfl rfl ?_
  first
  | refine hq_ 12 (hop_fa fd_77_0 rfl) rfl rfl pre0 rfl rfl ?_
  | refine hq_ 12 (hop_fa_fp fd_77_0 rfl (by first | exact Nat.le_of_ble_eq_true rfl | omega | (dsimp only; omega) | (simp <;> omega))) rfl rfl pre0 rfl rfl ?_
  first
  | refine hq_ 13 (hol_load ty_3 rfl (by first | exact Nat.le_of_ble_eq_true rfl | omega | (dsimp only; omega) | (simp <;> omega)) (by first | exact Nat.le_of_ble_eq_true rfl | omega | (dsimp only; omega) | (simp <;> omega)) (fun h => by first | rfl | cases h)) rfl rfl (pre1 rfl) rfl rfl ?_
  | refine hq_ 13 (hop_load_fp ty_3 rfl (by first | exact Nat.le_of_ble_eq_true rfl | omega | (dsimp only; omega) | (simp <;> omega)) (fun h => by first | rfl | cases h)) rfl rfl pre0 rfl rfl ?_
  refine hq_ 14 (hop_neq rfl rfl) rfl rfl pre0 rfl rfl ?_
  refine hq_ 15 (hop_move rfl) rfl rfl pre0 rfl rfl ?_
  first
  | refine hq_g 16 5 15 false _ (fun hb => hol_load ty_77 rfl (by first | exact Nat.le_of_ble_eq_true rfl | (simp at hb; first | omega | (dsimp only; omega) | (simp <;> omega))) (by first | exact Nat.le_of_ble_eq_true rfl | (simp at hb; first | omega | (dsimp only; omega) | (simp <;> omega))) (fun h => by first | rfl | cases h)) rfl rfl rfl rfl (pre1 rfl) rfl rfl rfl ?_
  | refine hq_g2 16 5 15 _ _ false _ (fun hb => hol_load ty_77 rfl (by first | exact Nat.le_of_ble_eq_true rfl | (simp at hb; first | omega | (dsimp only; omega) | (simp <;> omega))) (by first | exact Nat.le_of_ble_eq_true rfl | (simp at hb; first | omega | (dsimp only; omega) | (simp <;> omega))) (fun h => by first | rfl | cases h)) rfl rfl rfl rfl (pre1 rfl) rfl rfl rfl ?_
  | refine hq_g 16 5 15 false _ (fun hb => hop_load_fp ty_77 rfl (by first | exact Nat.le_of_ble_eq_true rfl | (simp at hb; first | omega | (dsimp only; omega) | (simp <;> omega))) (fun h => by first | rfl | cases h)) rfl rfl rfl rfl pre0 rfl rfl rfl ?_
  | refine hq_g2 16 5 15 _ _ false _ (fun hb => hop_load_fp ty_77 rfl (by first | exact Nat.le_of_ble_eq_true rfl | (simp at hb; first | omega | (dsimp only; omega) | (simp <;> omega))) (fun h => by first | rfl | cases h)) rfl rfl rfl rfl pre0 rfl rfl rfl ?_
  first
  | refine hq_g 17 5 15 false _ (fun hb => hop_call0 (xs := [_]) (shape_h a (by omega) (by omega)) ⟨rfl, trivial⟩ ⟨(Fz.eq rfl), trivial⟩) rfl rfl rfl rfl pre0 rfl rfl rfl ?_
  | refine hq_g2 17 5 15 _ _ false _ (fun hb => hop_call0 (xs := [_]) (shape_h a (by omega) (by omega)) ⟨rfl, trivial⟩ ⟨(Fz.eq rfl), trivial⟩) rfl rfl rfl rfl pre0 rfl rfl rfl ?_
  first
  | refine hq_g 18 5 15 false _ (fun hb => hop_not rfl) rfl rfl rfl rfl pre0 rfl rfl rfl ?_
  | refine hq_g2 18 5 15 _ _ false _ (fun hb => hop_not rfl) rfl rfl rfl rfl pre0 rfl rfl rfl ?_
  first
  | refine hq_p 19 (hstep_and _ _ rfl rfl rfl) rfl rfl rfl ?_
  | refine hq_p 19 (hstep_or _ _ rfl rfl rfl) rfl rfl rfl ?_
  | refine hq_p 19 (hstep_ite _ _ _ rfl rfl rfl) rfl rfl rfl ?_
  | refine hq_p 19 (hstep_pick _ _ _ _ rfl rfl rfl (fun _ => .refl _) (fun _ => .refl _)) rfl rfl rfl ?_
  refine hq_ 20 (hop_move rfl) rfl rfl pre0 rfl rfl ?_
  first
  | refine hq_g 21 10 20 false _ (fun hb => hol_load ty_77 rfl (by first | exact Nat.le_of_ble_eq_true rfl | (simp at hb; first | omega | (dsimp only; omega) | (simp <;> omega))) (by first | exact Nat.le_of_ble_eq_true rfl | (simp at hb; first | omega | (dsimp only; omega) | (simp <;> omega))) (fun h => by first | rfl | cases h)) rfl rfl rfl rfl (pre1 rfl) rfl rfl rfl ?_
  | refine hq_g2 21 10 20 _ _ false _ (fun hb => hol_load ty_77 rfl (by first | exact Nat.le_of_ble_eq_true rfl | (simp at hb; first | omega | (dsimp only; omega) | (simp <;> omega))) (by first | exact Nat.le_of_ble_eq_true rfl | (simp at hb; first | omega | (dsimp only; omega) | (simp <;> omega))) (fun h => by first | rfl | cases h)) rfl rfl rfl rfl (pre1 rfl) rfl rfl rfl ?_
  | refine hq_g 21 10 20 false _ (fun hb => hop_load_fp ty_77 rfl (by first | exact Nat.le_of_ble_eq_true rfl | (simp at hb; first | omega | (dsimp only; omega) | (simp <;> omega))) (fun h => by first | rfl | cases h)) rfl rfl rfl rfl pre0 rfl rfl rfl ?_
  | refine hq_g2 21 10 20 _ _ false _ (fun hb => hop_load_fp ty_77 rfl (by first | exact Nat.le_of_ble_eq_true rfl | (simp at hb; first | omega | (dsimp only; omega) | (simp <;> omega))) (fun h => by first | rfl | cases h)) rfl rfl rfl rfl pre0 rfl rfl rfl ?_
  first
  | refine hq_g 22 10 20 false _ (fun hb => hop_call0 (xs := [_]) (shape_h b (by omega) (by omega)) ⟨rfl, trivial⟩ ⟨(Fz.eq rfl), trivial⟩) rfl rfl rfl rfl pre0 rfl rfl rfl ?_
  | refine hq_g2 22 10 20 _ _ false _ (fun hb => hop_call0 (xs := [_]) (shape_h b (by omega) (by omega)) ⟨rfl, trivial⟩ ⟨(Fz.eq rfl), trivial⟩) rfl rfl rfl rfl pre0 rfl rfl rfl ?_
  first
  | refine hq_g 23 10 20 false _ (fun hb => hop_not rfl) rfl rfl rfl rfl pre0 rfl rfl rfl ?_
  | refine hq_g2 23 10 20 _ _ false _ (fun hb => hop_not rfl) rfl rfl rfl rfl pre0 rfl rfl rfl ?_
  first
  | refine hq_p 24 (hstep_and _ _ rfl rfl rfl) rfl rfl rfl ?_
  | refine hq_p 24 (hstep_or _ _ rfl rfl rfl) rfl rfl rfl ?_
  | refine hq_p 24 (hstep_ite _ _ _ rfl rfl rfl) rfl rfl rfl ?_
  | refine hq_p 24 (hstep_pick _ _ _ _ rfl rfl rfl (fun _ => .refl _) (fun _ => .refl _)) rfl rfl rfl ?_
  refine hseq_nilU (by rfl) (by simp only [dropUn, slots]; exact rfl) ?_
  refine h3 _ ?_
  refine hw_cond _ rfl (fun hc0 => ?_) (fun hc0 => ?_)
  · have hr0 := hc0; (try simp only [decide_eq_true_eq, decide_eq_false_iff_not, Bool.and_eq_true, Bool.or_eq_true, Bool.not_eq_true', Bool.or_eq_false_iff, beq_iff_eq, bne_iff_ne, ne_eq, beq_eq_false_iff_ne, bne_eq_false_iff_eq, Bool.not_eq_true, Bool.not_eq_false, Bool.not_eq_false', Int.toNat_natCast, Int.reduceToNat] at hc0)
    refine hw_seq (fun Nh4 h4 => ?_)
    refine hw_region ?_
    refine hq_ 25 (hop_build (hs := []) st_77 rfl rfl trivial) rfl rfl pre0 rfl rfl ?_
    first
    | refine hm_s1 (hol_storeW ty_77 rfl rfl rfl rfl) rfl rfl (pre1 rfl) (c' := 4) rfl ?_
    | refine hm_s1 (hol_store ty_77 rfl rfl rfl rfl (by first | exact Nat.le_of_ble_eq_true rfl | omega | (dsimp only; omega) | (simp <;> omega)) (by first | exact Nat.le_of_ble_eq_true rfl | omega | (dsimp only; omega) | (simp <;> omega)) (by first | exact Nat.le_of_ble_eq_true rfl | omega | (dsimp only; omega) | (simp <;> omega))) rfl rfl (pre1 rfl) (c' := 4) rfl ?_
    refine hq_ 5 (hop_assign rfl) rfl rfl pre0 rfl rfl ?_
    refine hseq_nil ?_
    refine h4 _ ?_
    refine hw_ret ?_
    refine hq_then_ret ?_
    refine hq_ret2 rfl (rvl_cell rfl rfl ty_77 (fun h => by first | rfl | cases h) rfl rfl) (rval_tmp rfl) [] rfl pre0 ?_
    obtain rfl : Option.none = o := (by rw [← ho]; exact (two_no rfl rfl rfl hr0).symm); exact fz_t2 (fz_agg10 (by first | exact .imm _ | exact .nil _ _ _ (by decide) _ | exact fz_toks _ | exact fz_mkss _ | exact Frz.fz) (by first | exact .imm _ | exact .nil _ _ _ (by decide) _ | exact fz_toks _ | exact fz_mkss _ | exact Frz.fz) (by first | exact .imm _ | exact .nil _ _ _ (by decide) _ | exact fz_toks _ | exact fz_mkss _ | exact Frz.fz) (by first | exact .imm _ | exact .nil _ _ _ (by decide) _ | exact fz_toks _ | exact fz_mkss _ | exact Frz.fz) (by first | exact .imm _ | exact .nil _ _ _ (by decide) _ | exact fz_toks _ | exact fz_mkss _ | exact Frz.fz) (by first | exact .imm _ | exact .nil _ _ _ (by decide) _ | exact fz_toks _ | exact fz_mkss _ | exact Frz.fz) (by first | exact .imm _ | exact .nil _ _ _ (by decide) _ | exact fz_toks _ | exact fz_mkss _ | exact Frz.fz) (by first | exact .imm _ | exact .nil _ _ _ (by decide) _ | exact fz_toks _ | exact fz_mkss _ | exact Frz.fz) (by first | exact .imm _ | exact .nil _ _ _ (by decide) _ | exact fz_toks _ | exact fz_mkss _ | exact Frz.fz) (by first | exact .imm _ | exact .nil _ _ _ (by decide) _ | exact fz_toks _ | exact fz_mkss _ | exact Frz.fz)) (.imm _)
  · have hr0 := hc0; (try simp only [decide_eq_true_eq, decide_eq_false_iff_not, Bool.and_eq_true, Bool.or_eq_true, Bool.not_eq_true', Bool.or_eq_false_iff, beq_iff_eq, bne_iff_ne, ne_eq, beq_eq_false_iff_ne, bne_eq_false_iff_eq, Bool.not_eq_true, Bool.not_eq_false, Bool.not_eq_false', Int.toNat_natCast, Int.reduceToNat] at hc0)
    obtain ⟨s1, s2, s3⟩ := two_yes hr0; obtain ⟨q1, q2, q3, q4, q5⟩ := shape_in s2; obtain ⟨r1, r2, r3, r4, r5⟩ := shape_in s3
    refine hw_skip ?_
    refine h2 _ ?_
    refine hw_seq (fun Nh5 h5 => ?_)
    refine hw_seq (fun Nh6 h6 => ?_)
    refine hw_region ?_
    first
    | refine hq_ 26 (hop_fa fd_77_0 rfl) rfl rfl pre0 rfl rfl ?_
    | refine hq_ 26 (hop_fa_fp fd_77_0 rfl (by first | exact Nat.le_of_ble_eq_true rfl | omega | (dsimp only; omega) | (simp <;> omega))) rfl rfl pre0 rfl rfl ?_
    first
    | refine hq_ 27 (hol_load ty_3 rfl (by first | exact Nat.le_of_ble_eq_true rfl | omega | (dsimp only; omega) | (simp <;> omega)) (by first | exact Nat.le_of_ble_eq_true rfl | omega | (dsimp only; omega) | (simp <;> omega)) (fun h => by first | rfl | cases h)) rfl rfl (pre1 rfl) rfl rfl ?_
    | refine hq_ 27 (hop_load_fp ty_3 rfl (by first | exact Nat.le_of_ble_eq_true rfl | omega | (dsimp only; omega) | (simp <;> omega)) (fun h => by first | rfl | cases h)) rfl rfl pre0 rfl rfl ?_
    refine hq_ 28 (hop_call0 (xs := [_]) (ways1_h' a.k hk) ⟨rfl, trivial⟩ ⟨(Fz.eq rfl), trivial⟩) rfl rfl pre0 rfl rfl ?_
    first
    | refine hq_ 29 (hop_len_sl (T := 97) rfl (elOf_spec el_97).1 rfl) rfl rfl pre0 rfl rfl ?_
    | refine hq_ 29 (hop_len_os (T := 97) rfl (elOf_spec el_97).1 rfl) rfl rfl pre0 rfl rfl ?_
    | refine hq_ 29 (hop_len_nil (T := 97) rfl (elOf_spec el_97).1 rfl) rfl rfl pre0 rfl rfl ?_
    refine hq_ 30 (hop_move rfl) rfl rfl pre0 rfl rfl ?_
    refine hseq_nil ?_
    refine h6 _ ?_
    refine hw_block ?_
    refine hw_rounds 3 ?_
    refine hr_succ (fun NhU7 hU7 => ?_)
    refine hw_seq (fun Nh8 h8 => ?_)
    refine hw_region ?_
    refine hq_ 31 (hop_lss rfl rfl) rfl rfl pre0 rfl rfl ?_
    refine hseq_nil ?_
    refine h8 _ ?_
    refine hw_seq (fun Nh9 h9 => ?_)
    refine hw_cond _ rfl (fun hc1 => ?_) (fun hc1 => ?_)
    · have hr1 := hc1; (try simp only [decide_eq_true_eq, decide_eq_false_iff_not, Bool.and_eq_true, Bool.or_eq_true, Bool.not_eq_true', Bool.or_eq_false_iff, beq_iff_eq, bne_iff_ne, ne_eq, beq_eq_false_iff_ne, bne_eq_false_iff_eq, Bool.not_eq_true, Bool.not_eq_false, Bool.not_eq_false', Int.toNat_natCast, Int.reduceToNat] at hc1)
      refine hw_skip ?_
      refine h9 _ ?_
      refine hw_seq (fun Nh10 h10 => ?_)
      refine hw_block ?_
      refine hw_seq (fun Nh11 h11 => ?_)
      refine hw_region ?_
      first
      | refine hq_ 32 (hop_ia_sl el_97 rfl rfl (by first | exact Nat.le_of_ble_eq_true rfl | omega | (dsimp only; omega) | (simp <;> omega)) (by first | exact Nat.le_of_ble_eq_true rfl | omega | (dsimp only; omega) | (simp <;> omega)) (by first | exact Nat.le_of_ble_eq_true rfl | omega | (dsimp only; omega) | (simp <;> omega))) rfl rfl pre0 rfl rfl ?_
      | refine hq_ 32 (hol_ia_os el_97 rfl rfl (by first | exact Nat.le_of_ble_eq_true rfl | omega | (dsimp only; omega) | (simp <;> omega)) (by first | exact Nat.le_of_ble_eq_true rfl | omega | (dsimp only; omega) | (simp <;> omega))) rfl rfl (pre1 rfl) rfl rfl ?_
      first
      | refine hq_ 33 (hol_load ty_100 rfl (by first | exact Nat.le_of_ble_eq_true rfl | omega | (dsimp only; omega) | (simp <;> omega)) (by first | exact Nat.le_of_ble_eq_true rfl | omega | (dsimp only; omega) | (simp <;> omega)) (fun h => by first | rfl | cases h)) rfl rfl (pre1 rfl) rfl rfl ?_
      | refine hq_ 33 (hop_load_fp ty_100 rfl (by first | exact Nat.le_of_ble_eq_true rfl | omega | (dsimp only; omega) | (simp <;> omega)) (fun h => by first | rfl | cases h)) rfl rfl pre0 rfl rfl ?_
      refine hm_1 7 (hop_alloc (id := 7) (sz := 1) zc_100 rfl rfl (by first | exact Nat.le_of_ble_eq_true rfl | omega | (dsimp only; omega) | (simp <;> omega)) (by first | exact Nat.le_of_ble_eq_true rfl | omega | (dsimp only; omega) | (simp <;> omega))) rfl rfl pre0 rfl rfl (c' := 4) rfl ?_
      first
      | refine hm_s1 (hol_storeW ty_100 rfl rfl rfl rfl) rfl rfl (pre1 rfl) (c' := 5) rfl ?_
      | refine hm_s1 (hol_store ty_100 rfl rfl rfl rfl (by first | exact Nat.le_of_ble_eq_true rfl | omega | (dsimp only; omega) | (simp <;> omega)) (by first | exact Nat.le_of_ble_eq_true rfl | omega | (dsimp only; omega) | (simp <;> omega)) (by first | exact Nat.le_of_ble_eq_true rfl | omega | (dsimp only; omega) | (simp <;> omega))) rfl rfl (pre1 rfl) (c' := 5) rfl ?_
      refine hseq_nil ?_
      refine h11 _ ?_
      refine hw_seq (fun Nh12 h12 => ?_)
      refine hw_region ?_
      first
      | refine hq_ 35 (hop_fa fd_100_0 rfl) rfl rfl pre0 rfl rfl ?_
      | refine hq_ 35 (hop_fa_fp fd_100_0 rfl (by first | exact Nat.le_of_ble_eq_true rfl | omega | (dsimp only; omega) | (simp <;> omega))) rfl rfl pre0 rfl rfl ?_
      first
      | refine hq_ 36 (hol_load ty_79 rfl (by first | exact Nat.le_of_ble_eq_true rfl | omega | (dsimp only; omega) | (simp <;> omega)) (by first | exact Nat.le_of_ble_eq_true rfl | omega | (dsimp only; omega) | (simp <;> omega)) (fun h => by first | rfl | cases h)) rfl rfl (pre1 rfl) rfl rfl ?_
      | refine hq_ 36 (hop_load_fp ty_79 rfl (by first | exact Nat.le_of_ble_eq_true rfl | omega | (dsimp only; omega) | (simp <;> omega)) (fun h => by first | rfl | cases h)) rfl rfl pre0 rfl rfl ?_
      first
      | refine hq_ 37 (hol_load ty_77 rfl (by first | exact Nat.le_of_ble_eq_true rfl | omega | (dsimp only; omega) | (simp <;> omega)) (by first | exact Nat.le_of_ble_eq_true rfl | omega | (dsimp only; omega) | (simp <;> omega)) (fun h => by first | rfl | cases h)) rfl rfl (pre1 rfl) rfl rfl ?_
      | refine hq_ 37 (hop_load_fp ty_77 rfl (by first | exact Nat.le_of_ble_eq_true rfl | omega | (dsimp only; omega) | (simp <;> omega)) (fun h => by first | rfl | cases h)) rfl rfl pre0 rfl rfl ?_
      first
      | refine hq_ 38 (hol_load ty_77 rfl (by first | exact Nat.le_of_ble_eq_true rfl | omega | (dsimp only; omega) | (simp <;> omega)) (by first | exact Nat.le_of_ble_eq_true rfl | omega | (dsimp only; omega) | (simp <;> omega)) (fun h => by first | rfl | cases h)) rfl rfl (pre1 rfl) rfl rfl ?_
      | refine hq_ 38 (hop_load_fp ty_77 rfl (by first | exact Nat.le_of_ble_eq_true rfl | omega | (dsimp only; omega) | (simp <;> omega)) (fun h => by first | rfl | cases h)) rfl rfl pre0 rfl rfl ?_
      refine hq_ 39 (hop_callv0 (xs := [_, _]) (cs := []) (ahead_h a b (some (a.ahead b)) (by rw [if_pos hp]) (by omega) (by omega) ⟨by omega, by omega, by omega, by omega⟩ ⟨by omega, by omega, by omega, by omega⟩) rfl rfl (fun i hi => by first | rfl | (cases i <;> first | rfl | (simp at hi))) ⟨rfl, ⟨rfl, trivial⟩⟩ ⟨(Fz.eq rfl), ⟨(Fz.eq rfl), trivial⟩⟩) rfl rfl pre0 rfl rfl ?_
      refine hq_ 34 (hop_move rfl) rfl rfl pre0 rfl rfl ?_
      refine hq_ 40 (hop_extract rfl rfl) rfl rfl pre0 rfl rfl ?_
      refine hq_ 41 (hop_extract rfl rfl) rfl rfl pre0 rfl rfl ?_
      refine hm_1 8 (hop_alloc (id := 8) (sz := 10) zc_77 rfl rfl (by first | exact Nat.le_of_ble_eq_true rfl | omega | (dsimp only; omega) | (simp <;> omega)) (by first | exact Nat.le_of_ble_eq_true rfl | omega | (dsimp only; omega) | (simp <;> omega))) rfl rfl pre0 rfl rfl (c' := 6) rfl ?_
      first
      | refine hm_s1 (hol_storeW ty_77 rfl rfl rfl rfl) rfl rfl (pre1 rfl) (c' := 7) rfl ?_
      | refine hm_s1 (hol_store ty_77 rfl rfl rfl rfl (by first | exact Nat.le_of_ble_eq_true rfl | omega | (dsimp only; omega) | (simp <;> omega)) (by first | exact Nat.le_of_ble_eq_true rfl | omega | (dsimp only; omega) | (simp <;> omega)) (by first | exact Nat.le_of_ble_eq_true rfl | omega | (dsimp only; omega) | (simp <;> omega))) rfl rfl (pre1 rfl) (c' := 7) rfl ?_
      refine hq_ 9 (hop_assign rfl) rfl rfl pre0 rfl rfl ?_
      refine hseq_nil ?_
      refine h12 _ ?_
      refine hw_seq (fun Nh13 h13 => ?_)
      refine hw_region ?_
      refine hq_ 42 (hop_move rfl) rfl rfl pre0 rfl rfl ?_
      refine hseq_nil ?_
      refine h13 _ ?_
      refine hw_cond _ rfl (fun hc2 => ?_) (fun hc2 => ?_)
      · have hr2 := hc2; (try simp only [decide_eq_true_eq, decide_eq_false_iff_not, Bool.and_eq_true, Bool.or_eq_true, Bool.not_eq_true', Bool.or_eq_false_iff, beq_iff_eq, bne_iff_ne, ne_eq, beq_eq_false_iff_ne, bne_eq_false_iff_eq, Bool.not_eq_true, Bool.not_eq_false, Bool.not_eq_false', Int.toNat_natCast, Int.reduceToNat] at hc2)
        refine hw_seq (fun Nh14 h14 => ?_)
        refine hw_seq (fun Nh15 h15 => ?_)
        refine hw_region ?_
        first
        | refine hq_ 43 (hol_load ty_77 rfl (by first | exact Nat.le_of_ble_eq_true rfl | omega | (dsimp only; omega) | (simp <;> omega)) (by first | exact Nat.le_of_ble_eq_true rfl | omega | (dsimp only; omega) | (simp <;> omega)) (fun h => by first | rfl | cases h)) rfl rfl (pre1 rfl) rfl rfl ?_
        | refine hq_ 43 (hop_load_fp ty_77 rfl (by first | exact Nat.le_of_ble_eq_true rfl | omega | (dsimp only; omega) | (simp <;> omega)) (fun h => by first | rfl | cases h)) rfl rfl pre0 rfl rfl ?_
        refine hq_ 44 (hop_call0 (xs := [_]) (shape_h (a.ahead b) (by show (a.sl ++ b.sl).length ≤ _; rw [List.length_append]; omega) (by show ([] : List Mks).length ≤ _; simp)) ⟨rfl, trivial⟩ ⟨(Fz.eq rfl), trivial⟩) rfl rfl pre0 rfl rfl ?_
        refine hq_ 45 (hop_not rfl) rfl rfl pre0 rfl rfl ?_
        refine hseq_nil ?_
        refine h15 _ ?_
        refine hw_cond _ rfl (fun hc3 => ?_) (fun hc3 => ?_)
        · have hr3 := hc3; (try simp only [decide_eq_true_eq, decide_eq_false_iff_not, Bool.and_eq_true, Bool.or_eq_true, Bool.not_eq_true', Bool.or_eq_false_iff, beq_iff_eq, bne_iff_ne, ne_eq, beq_eq_false_iff_ne, bne_eq_false_iff_eq, Bool.not_eq_true, Bool.not_eq_false, Bool.not_eq_false', Int.toNat_natCast, Int.reduceToNat] at hc3)
          refine hw_seq (fun Nh16 h16 => ?_)
          refine hw_region ?_
          refine hq_ 46 (hop_build (hs := []) st_77 rfl rfl trivial) rfl rfl pre0 rfl rfl ?_
          first
          | refine hm_s1 (hol_storeW ty_77 rfl rfl rfl rfl) rfl rfl (pre1 rfl) (c' := 8) rfl ?_
          | refine hm_s1 (hol_store ty_77 rfl rfl rfl rfl (by first | exact Nat.le_of_ble_eq_true rfl | omega | (dsimp only; omega) | (simp <;> omega)) (by first | exact Nat.le_of_ble_eq_true rfl | omega | (dsimp only; omega) | (simp <;> omega)) (by first | exact Nat.le_of_ble_eq_true rfl | omega | (dsimp only; omega) | (simp <;> omega))) rfl rfl (pre1 rfl) (c' := 8) rfl ?_
          refine hq_ 5 (hop_assign rfl) rfl rfl pre0 rfl rfl ?_
          refine hseq_nil ?_
          refine h16 _ ?_
          refine hw_ret ?_
          refine hq_then_ret ?_
          refine hq_block_ret ?_
          refine hq_then_ret ?_
          refine hq_then_ret ?_
          refine hq_block_ret ?_
          refine hq_then_ret ?_
          refine hq_ret2 rfl (rvl_cell rfl rfl ty_77 (fun h => by first | rfl | cases h) rfl rfl) (rval_tmp rfl) [] rfl pre0 ?_
          obtain rfl : Option.none = o := (by rw [← ho, two_w s1 s2 s3]; unfold St.weld; rw [if_pos hk, if_pos hp]; simp only; rw [if_neg]; simpa using hr3); exact fz_t2 (fz_agg10 (by first | exact .imm _ | exact .nil _ _ _ (by decide) _ | exact fz_toks _ | exact fz_mkss _ | exact Frz.fz) (by first | exact .imm _ | exact .nil _ _ _ (by decide) _ | exact fz_toks _ | exact fz_mkss _ | exact Frz.fz) (by first | exact .imm _ | exact .nil _ _ _ (by decide) _ | exact fz_toks _ | exact fz_mkss _ | exact Frz.fz) (by first | exact .imm _ | exact .nil _ _ _ (by decide) _ | exact fz_toks _ | exact fz_mkss _ | exact Frz.fz) (by first | exact .imm _ | exact .nil _ _ _ (by decide) _ | exact fz_toks _ | exact fz_mkss _ | exact Frz.fz) (by first | exact .imm _ | exact .nil _ _ _ (by decide) _ | exact fz_toks _ | exact fz_mkss _ | exact Frz.fz) (by first | exact .imm _ | exact .nil _ _ _ (by decide) _ | exact fz_toks _ | exact fz_mkss _ | exact Frz.fz) (by first | exact .imm _ | exact .nil _ _ _ (by decide) _ | exact fz_toks _ | exact fz_mkss _ | exact Frz.fz) (by first | exact .imm _ | exact .nil _ _ _ (by decide) _ | exact fz_toks _ | exact fz_mkss _ | exact Frz.fz) (by first | exact .imm _ | exact .nil _ _ _ (by decide) _ | exact fz_toks _ | exact fz_mkss _ | exact Frz.fz)) (.imm _)
        · have hr3 := hc3; (try simp only [decide_eq_true_eq, decide_eq_false_iff_not, Bool.and_eq_true, Bool.or_eq_true, Bool.not_eq_true', Bool.or_eq_false_iff, beq_iff_eq, bne_iff_ne, ne_eq, beq_eq_false_iff_ne, bne_eq_false_iff_eq, Bool.not_eq_true, Bool.not_eq_false, Bool.not_eq_false', Int.toNat_natCast, Int.reduceToNat] at hc3)
          refine hw_skip ?_
          refine h14 _ ?_
          refine hw_seq (fun Nh17 h17 => ?_)
          refine hw_region ?_
          first
          | refine hq_ 47 (hol_load ty_77 rfl (by first | exact Nat.le_of_ble_eq_true rfl | omega | (dsimp only; omega) | (simp <;> omega)) (by first | exact Nat.le_of_ble_eq_true rfl | omega | (dsimp only; omega) | (simp <;> omega)) (fun h => by first | rfl | cases h)) rfl rfl (pre1 rfl) rfl rfl ?_
          | refine hq_ 47 (hop_load_fp ty_77 rfl (by first | exact Nat.le_of_ble_eq_true rfl | omega | (dsimp only; omega) | (simp <;> omega)) (fun h => by first | rfl | cases h)) rfl rfl pre0 rfl rfl ?_
          first
          | refine hm_s1 (hol_storeW ty_77 rfl rfl rfl rfl) rfl rfl (pre1 rfl) (c' := 8) rfl ?_
          | refine hm_s1 (hol_store ty_77 rfl rfl rfl rfl (by first | exact Nat.le_of_ble_eq_true rfl | omega | (dsimp only; omega) | (simp <;> omega)) (by first | exact Nat.le_of_ble_eq_true rfl | omega | (dsimp only; omega) | (simp <;> omega)) (by first | exact Nat.le_of_ble_eq_true rfl | omega | (dsimp only; omega) | (simp <;> omega))) rfl rfl (pre1 rfl) (c' := 8) rfl ?_
          refine hq_ 5 (hop_assign rfl) rfl rfl pre0 rfl rfl ?_
          refine hseq_nil ?_
          refine h17 _ ?_
          refine hw_ret ?_
          refine hq_block_ret ?_
          refine hq_then_ret ?_
          refine hq_then_ret ?_
          refine hq_block_ret ?_
          refine hq_then_ret ?_
          refine hq_ret2 rfl (rvl_cell rfl rfl ty_77 (fun h => by first | rfl | cases h) rfl rfl) (rval_tmp rfl) [] rfl pre0 ?_
          obtain rfl : some (a.ahead b) = o := (by rw [← ho, two_w s1 s2 s3]; unfold St.weld; rw [if_pos hk, if_pos hp]; simp only; rw [if_pos]; simpa using hr3); exact fz_t2 (fz_agg10 (by first | exact .imm _ | exact .nil _ _ _ (by decide) _ | exact fz_toks _ | exact fz_mkss _ | exact Frz.fz) (by first | exact .imm _ | exact .nil _ _ _ (by decide) _ | exact fz_toks _ | exact fz_mkss _ | exact Frz.fz) (by first | exact .imm _ | exact .nil _ _ _ (by decide) _ | exact fz_toks _ | exact fz_mkss _ | exact Frz.fz) (by first | exact .imm _ | exact .nil _ _ _ (by decide) _ | exact fz_toks _ | exact fz_mkss _ | exact Frz.fz) (by first | exact .imm _ | exact .nil _ _ _ (by decide) _ | exact fz_toks _ | exact fz_mkss _ | exact Frz.fz) (by first | exact .imm _ | exact .nil _ _ _ (by decide) _ | exact fz_toks _ | exact fz_mkss _ | exact Frz.fz) (by first | exact .imm _ | exact .nil _ _ _ (by decide) _ | exact fz_toks _ | exact fz_mkss _ | exact Frz.fz) (by first | exact .imm _ | exact .nil _ _ _ (by decide) _ | exact fz_toks _ | exact fz_mkss _ | exact Frz.fz) (by first | exact .imm _ | exact .nil _ _ _ (by decide) _ | exact fz_toks _ | exact fz_mkss _ | exact Frz.fz) (by first | exact .imm _ | exact .nil _ _ _ (by decide) _ | exact fz_toks _ | exact fz_mkss _ | exact Frz.fz)) (.imm _)
      · have hr2 := hc2; (try simp only [decide_eq_true_eq, decide_eq_false_iff_not, Bool.and_eq_true, Bool.or_eq_true, Bool.not_eq_true', Bool.or_eq_false_iff, beq_iff_eq, bne_iff_ne, ne_eq, beq_eq_false_iff_ne, bne_eq_false_iff_eq, Bool.not_eq_true, Bool.not_eq_false, Bool.not_eq_false', Int.toNat_natCast, Int.reduceToNat] at hc2)
        exfalso; simp at hr2
    · have hr1 := hc1; (try simp only [decide_eq_true_eq, decide_eq_false_iff_not, Bool.and_eq_true, Bool.or_eq_true, Bool.not_eq_true', Bool.or_eq_false_iff, beq_iff_eq, bne_iff_ne, ne_eq, beq_eq_false_iff_ne, bne_eq_false_iff_eq, Bool.not_eq_true, Bool.not_eq_false, Bool.not_eq_false', Int.toNat_natCast, Int.reduceToNat] at hc1)
      exfalso; simp at hr1

theorem Two_1b (a b : St) (hk : a.k = 1) (hp : ¬ a.f + a.sl.length = b.f) (hq : b.t = a.f) (o : Option St) (ho : a.two b = o) (l1 : a.sl.length ≤ 20000) (l2 : b.sl.length ≤ 20000) (l3 : a.sets.length ≤ 20000) (l4 : b.sets.length ≤ 20000) : HPure Try.prog 30 [stV a, stV b] (optV o) := by
  refine hpure_of Try.func30 rfl (by kernel_rfl) _ _ _ rfl 50 rfl rfl (fun w F => ?_)
  refine hw_seq (fun Nh1 h1 => ?_)
  refine hw_region ?_
  refine hm_1 2 (hop_box (id := 2) (sz := 10) rfl rfl rfl (by first | exact Nat.le_of_ble_eq_true rfl | omega | (dsimp only; omega) | (simp <;> omega)) (by first | exact Nat.le_of_ble_eq_true rfl | omega | (dsimp only; omega) | (simp <;> omega))) rfl rfl pre0 rfl rfl (c' := 1) rfl ?_
  refine hm_1 3 (hop_box (id := 3) (sz := 10) rfl rfl rfl (by first | exact Nat.le_of_ble_eq_true rfl | omega | (dsimp only; omega) | (simp <;> omega)) (by first | exact Nat.le_of_ble_eq_true rfl | omega | (dsimp only; omega) | (simp <;> omega))) rfl rfl pre0 rfl rfl (c' := 2) rfl ?_
  refine hm_1 4 (hop_alloc (id := 4) (sz := 10) zc_77 rfl rfl (by first | exact Nat.le_of_ble_eq_true rfl | omega | (dsimp only; omega) | (simp <;> omega)) (by first | exact Nat.le_of_ble_eq_true rfl | omega | (dsimp only; omega) | (simp <;> omega))) rfl rfl pre0 rfl rfl (c' := 3) rfl ?_
  refine hq_ 5 (hop_assign rfl) rfl rfl pre0 rfl rfl ?_
  refine hseq_nil ?_
  refine h1 _ ?_
  refine hw_seq (fun Nh2 h2 => ?_)
  refine hw_seq (fun Nh3 h3 => ?_)
  refine hw_region ?_
  first
  | refine hq_ 10 (hop_fa fd_77_0 rfl) rfl rfl pre0 rfl rfl ?_
  | refine hq_ 10 (hop_fa_fp fd_77_0 rfl (by first | exact Nat.le_of_ble_eq_true rfl | omega | (dsimp only; omega) | (simp <;> omega))) rfl rfl pre0 rfl rfl ?_
  first
  | refine hq_ 11 (hol_load ty_3 rfl (by first | exact Nat.le_of_ble_eq_true rfl | omega | (dsimp only; omega) | (simp <;> omega)) (by first | exact Nat.le_of_ble_eq_true rfl | omega | (dsimp only; omega) | (simp <;> omega)) (fun h => by first | rfl | cases h)) rfl rfl (pre1 rfl) rfl rfl ?_
  | refine hq_ 11 (hop_load_fp ty_3 rfl (by first | exact Nat.le_of_ble_eq_true rfl | omega | (dsimp only; omega) | (simp <;> omega)) (fun h => by first | rfl | cases h)) rfl rfl pre0 rfl rfl ?_
  first
  | refine hq_ 12 (hop_fa fd_77_0 rfl) rfl rfl pre0 rfl rfl ?_
  | refine hq_ 12 (hop_fa_fp fd_77_0 rfl (by first | exact Nat.le_of_ble_eq_true rfl | omega | (dsimp only; omega) | (simp <;> omega))) rfl rfl pre0 rfl rfl ?_
  first
  | refine hq_ 13 (hol_load ty_3 rfl (by first | exact Nat.le_of_ble_eq_true rfl | omega | (dsimp only; omega) | (simp <;> omega)) (by first | exact Nat.le_of_ble_eq_true rfl | omega | (dsimp only; omega) | (simp <;> omega)) (fun h => by first | rfl | cases h)) rfl rfl (pre1 rfl) rfl rfl ?_
  | refine hq_ 13 (hop_load_fp ty_3 rfl (by first | exact Nat.le_of_ble_eq_true rfl | omega | (dsimp only; omega) | (simp <;> omega)) (fun h => by first | rfl | cases h)) rfl rfl pre0 rfl rfl ?_
  refine hq_ 14 (hop_neq rfl rfl) rfl rfl pre0 rfl rfl ?_
  refine hq_ 15 (hop_move rfl) rfl rfl pre0 rfl rfl ?_
  first
  | refine hq_g 16 5 15 false _ (fun hb => hol_load ty_77 rfl (by first | exact Nat.le_of_ble_eq_true rfl | (simp at hb; first | omega | (dsimp only; omega) | (simp <;> omega))) (by first | exact Nat.le_of_ble_eq_true rfl | (simp at hb; first | omega | (dsimp only; omega) | (simp <;> omega))) (fun h => by first | rfl | cases h)) rfl rfl rfl rfl (pre1 rfl) rfl rfl rfl ?_
  | refine hq_g2 16 5 15 _ _ false _ (fun hb => hol_load ty_77 rfl (by first | exact Nat.le_of_ble_eq_true rfl | (simp at hb; first | omega | (dsimp only; omega) | (simp <;> omega))) (by first | exact Nat.le_of_ble_eq_true rfl | (simp at hb; first | omega | (dsimp only; omega) | (simp <;> omega))) (fun h => by first | rfl | cases h)) rfl rfl rfl rfl (pre1 rfl) rfl rfl rfl ?_
  | refine hq_g 16 5 15 false _ (fun hb => hop_load_fp ty_77 rfl (by first | exact Nat.le_of_ble_eq_true rfl | (simp at hb; first | omega | (dsimp only; omega) | (simp <;> omega))) (fun h => by first | rfl | cases h)) rfl rfl rfl rfl pre0 rfl rfl rfl ?_
  | refine hq_g2 16 5 15 _ _ false _ (fun hb => hop_load_fp ty_77 rfl (by first | exact Nat.le_of_ble_eq_true rfl | (simp at hb; first | omega | (dsimp only; omega) | (simp <;> omega))) (fun h => by first | rfl | cases h)) rfl rfl rfl rfl pre0 rfl rfl rfl ?_
  first
  | refine hq_g 17 5 15 false _ (fun hb => hop_call0 (xs := [_]) (shape_h a (by omega) (by omega)) ⟨rfl, trivial⟩ ⟨(Fz.eq rfl), trivial⟩) rfl rfl rfl rfl pre0 rfl rfl rfl ?_
  | refine hq_g2 17 5 15 _ _ false _ (fun hb => hop_call0 (xs := [_]) (shape_h a (by omega) (by omega)) ⟨rfl, trivial⟩ ⟨(Fz.eq rfl), trivial⟩) rfl rfl rfl rfl pre0 rfl rfl rfl ?_
  first
  | refine hq_g 18 5 15 false _ (fun hb => hop_not rfl) rfl rfl rfl rfl pre0 rfl rfl rfl ?_
  | refine hq_g2 18 5 15 _ _ false _ (fun hb => hop_not rfl) rfl rfl rfl rfl pre0 rfl rfl rfl ?_
  first
  | refine hq_p 19 (hstep_and _ _ rfl rfl rfl) rfl rfl rfl ?_
  | refine hq_p 19 (hstep_or _ _ rfl rfl rfl) rfl rfl rfl ?_
  | refine hq_p 19 (hstep_ite _ _ _ rfl rfl rfl) rfl rfl rfl ?_
  | refine hq_p 19 (hstep_pick _ _ _ _ rfl rfl rfl (fun _ => .refl _) (fun _ => .refl _)) rfl rfl rfl ?_
  refine hq_ 20 (hop_move rfl) rfl rfl pre0 rfl rfl ?_
  first
  | refine hq_g 21 10 20 false _ (fun hb => hol_load ty_77 rfl (by first | exact Nat.le_of_ble_eq_true rfl | (simp at hb; first | omega | (dsimp only; omega) | (simp <;> omega))) (by first | exact Nat.le_of_ble_eq_true rfl | (simp at hb; first | omega | (dsimp only; omega) | (simp <;> omega))) (fun h => by first | rfl | cases h)) rfl rfl rfl rfl (pre1 rfl) rfl rfl rfl ?_
  | refine hq_g2 21 10 20 _ _ false _ (fun hb => hol_load ty_77 rfl (by first | exact Nat.le_of_ble_eq_true rfl | (simp at hb; first | omega | (dsimp only; omega) | (simp <;> omega))) (by first | exact Nat.le_of_ble_eq_true rfl | (simp at hb; first | omega | (dsimp only; omega) | (simp <;> omega))) (fun h => by first | rfl | cases h)) rfl rfl rfl rfl (pre1 rfl) rfl rfl rfl ?_
  | refine hq_g 21 10 20 false _ (fun hb => hop_load_fp ty_77 rfl (by first | exact Nat.le_of_ble_eq_true rfl | (simp at hb; first | omega | (dsimp only; omega) | (simp <;> omega))) (fun h => by first | rfl | cases h)) rfl rfl rfl rfl pre0 rfl rfl rfl ?_
  | refine hq_g2 21 10 20 _ _ false _ (fun hb => hop_load_fp ty_77 rfl (by first | exact Nat.le_of_ble_eq_true rfl | (simp at hb; first | omega | (dsimp only; omega) | (simp <;> omega))) (fun h => by first | rfl | cases h)) rfl rfl rfl rfl pre0 rfl rfl rfl ?_
  first
  | refine hq_g 22 10 20 false _ (fun hb => hop_call0 (xs := [_]) (shape_h b (by omega) (by omega)) ⟨rfl, trivial⟩ ⟨(Fz.eq rfl), trivial⟩) rfl rfl rfl rfl pre0 rfl rfl rfl ?_
  | refine hq_g2 22 10 20 _ _ false _ (fun hb => hop_call0 (xs := [_]) (shape_h b (by omega) (by omega)) ⟨rfl, trivial⟩ ⟨(Fz.eq rfl), trivial⟩) rfl rfl rfl rfl pre0 rfl rfl rfl ?_
  first
  | refine hq_g 23 10 20 false _ (fun hb => hop_not rfl) rfl rfl rfl rfl pre0 rfl rfl rfl ?_
  | refine hq_g2 23 10 20 _ _ false _ (fun hb => hop_not rfl) rfl rfl rfl rfl pre0 rfl rfl rfl ?_
  first
  | refine hq_p 24 (hstep_and _ _ rfl rfl rfl) rfl rfl rfl ?_
  | refine hq_p 24 (hstep_or _ _ rfl rfl rfl) rfl rfl rfl ?_
  | refine hq_p 24 (hstep_ite _ _ _ rfl rfl rfl) rfl rfl rfl ?_
  | refine hq_p 24 (hstep_pick _ _ _ _ rfl rfl rfl (fun _ => .refl _) (fun _ => .refl _)) rfl rfl rfl ?_
  refine hseq_nilU (by rfl) (by simp only [dropUn, slots]; exact rfl) ?_
  refine h3 _ ?_
  refine hw_cond _ rfl (fun hc0 => ?_) (fun hc0 => ?_)
  · have hr0 := hc0; (try simp only [decide_eq_true_eq, decide_eq_false_iff_not, Bool.and_eq_true, Bool.or_eq_true, Bool.not_eq_true', Bool.or_eq_false_iff, beq_iff_eq, bne_iff_ne, ne_eq, beq_eq_false_iff_ne, bne_eq_false_iff_eq, Bool.not_eq_true, Bool.not_eq_false, Bool.not_eq_false', Int.toNat_natCast, Int.reduceToNat] at hc0)
    refine hw_seq (fun Nh4 h4 => ?_)
    refine hw_region ?_
    refine hq_ 25 (hop_build (hs := []) st_77 rfl rfl trivial) rfl rfl pre0 rfl rfl ?_
    first
    | refine hm_s1 (hol_storeW ty_77 rfl rfl rfl rfl) rfl rfl (pre1 rfl) (c' := 4) rfl ?_
    | refine hm_s1 (hol_store ty_77 rfl rfl rfl rfl (by first | exact Nat.le_of_ble_eq_true rfl | omega | (dsimp only; omega) | (simp <;> omega)) (by first | exact Nat.le_of_ble_eq_true rfl | omega | (dsimp only; omega) | (simp <;> omega)) (by first | exact Nat.le_of_ble_eq_true rfl | omega | (dsimp only; omega) | (simp <;> omega))) rfl rfl (pre1 rfl) (c' := 4) rfl ?_
    refine hq_ 5 (hop_assign rfl) rfl rfl pre0 rfl rfl ?_
    refine hseq_nil ?_
    refine h4 _ ?_
    refine hw_ret ?_
    refine hq_then_ret ?_
    refine hq_ret2 rfl (rvl_cell rfl rfl ty_77 (fun h => by first | rfl | cases h) rfl rfl) (rval_tmp rfl) [] rfl pre0 ?_
    obtain rfl : Option.none = o := (by rw [← ho]; exact (two_no rfl rfl rfl hr0).symm); exact fz_t2 (fz_agg10 (by first | exact .imm _ | exact .nil _ _ _ (by decide) _ | exact fz_toks _ | exact fz_mkss _ | exact Frz.fz) (by first | exact .imm _ | exact .nil _ _ _ (by decide) _ | exact fz_toks _ | exact fz_mkss _ | exact Frz.fz) (by first | exact .imm _ | exact .nil _ _ _ (by decide) _ | exact fz_toks _ | exact fz_mkss _ | exact Frz.fz) (by first | exact .imm _ | exact .nil _ _ _ (by decide) _ | exact fz_toks _ | exact fz_mkss _ | exact Frz.fz) (by first | exact .imm _ | exact .nil _ _ _ (by decide) _ | exact fz_toks _ | exact fz_mkss _ | exact Frz.fz) (by first | exact .imm _ | exact .nil _ _ _ (by decide) _ | exact fz_toks _ | exact fz_mkss _ | exact Frz.fz) (by first | exact .imm _ | exact .nil _ _ _ (by decide) _ | exact fz_toks _ | exact fz_mkss _ | exact Frz.fz) (by first | exact .imm _ | exact .nil _ _ _ (by decide) _ | exact fz_toks _ | exact fz_mkss _ | exact Frz.fz) (by first | exact .imm _ | exact .nil _ _ _ (by decide) _ | exact fz_toks _ | exact fz_mkss _ | exact Frz.fz) (by first | exact .imm _ | exact .nil _ _ _ (by decide) _ | exact fz_toks _ | exact fz_mkss _ | exact Frz.fz)) (.imm _)
  · have hr0 := hc0; (try simp only [decide_eq_true_eq, decide_eq_false_iff_not, Bool.and_eq_true, Bool.or_eq_true, Bool.not_eq_true', Bool.or_eq_false_iff, beq_iff_eq, bne_iff_ne, ne_eq, beq_eq_false_iff_ne, bne_eq_false_iff_eq, Bool.not_eq_true, Bool.not_eq_false, Bool.not_eq_false', Int.toNat_natCast, Int.reduceToNat] at hc0)
    obtain ⟨s1, s2, s3⟩ := two_yes hr0; obtain ⟨q1, q2, q3, q4, q5⟩ := shape_in s2; obtain ⟨r1, r2, r3, r4, r5⟩ := shape_in s3
    refine hw_skip ?_
    refine h2 _ ?_
    refine hw_seq (fun Nh5 h5 => ?_)
    refine hw_seq (fun Nh6 h6 => ?_)
    refine hw_region ?_
    first
    | refine hq_ 26 (hop_fa fd_77_0 rfl) rfl rfl pre0 rfl rfl ?_
    | refine hq_ 26 (hop_fa_fp fd_77_0 rfl (by first | exact Nat.le_of_ble_eq_true rfl | omega | (dsimp only; omega) | (simp <;> omega))) rfl rfl pre0 rfl rfl ?_
    first
    | refine hq_ 27 (hol_load ty_3 rfl (by first | exact Nat.le_of_ble_eq_true rfl | omega | (dsimp only; omega) | (simp <;> omega)) (by first | exact Nat.le_of_ble_eq_true rfl | omega | (dsimp only; omega) | (simp <;> omega)) (fun h => by first | rfl | cases h)) rfl rfl (pre1 rfl) rfl rfl ?_
    | refine hq_ 27 (hop_load_fp ty_3 rfl (by first | exact Nat.le_of_ble_eq_true rfl | omega | (dsimp only; omega) | (simp <;> omega)) (fun h => by first | rfl | cases h)) rfl rfl pre0 rfl rfl ?_
    refine hq_ 28 (hop_call0 (xs := [_]) (ways1_h' a.k hk) ⟨rfl, trivial⟩ ⟨(Fz.eq rfl), trivial⟩) rfl rfl pre0 rfl rfl ?_
    first
    | refine hq_ 29 (hop_len_sl (T := 97) rfl (elOf_spec el_97).1 rfl) rfl rfl pre0 rfl rfl ?_
    | refine hq_ 29 (hop_len_os (T := 97) rfl (elOf_spec el_97).1 rfl) rfl rfl pre0 rfl rfl ?_
    | refine hq_ 29 (hop_len_nil (T := 97) rfl (elOf_spec el_97).1 rfl) rfl rfl pre0 rfl rfl ?_
    refine hq_ 30 (hop_move rfl) rfl rfl pre0 rfl rfl ?_
    refine hseq_nil ?_
    refine h6 _ ?_
    refine hw_block ?_
    refine hw_rounds 3 ?_
    refine hr_succ (fun NhU7 hU7 => ?_)
    refine hw_seq (fun Nh8 h8 => ?_)
    refine hw_region ?_
    refine hq_ 31 (hop_lss rfl rfl) rfl rfl pre0 rfl rfl ?_
    refine hseq_nil ?_
    refine h8 _ ?_
    refine hw_seq (fun Nh9 h9 => ?_)
    refine hw_cond _ rfl (fun hc1 => ?_) (fun hc1 => ?_)
    · have hr1 := hc1; (try simp only [decide_eq_true_eq, decide_eq_false_iff_not, Bool.and_eq_true, Bool.or_eq_true, Bool.not_eq_true', Bool.or_eq_false_iff, beq_iff_eq, bne_iff_ne, ne_eq, beq_eq_false_iff_ne, bne_eq_false_iff_eq, Bool.not_eq_true, Bool.not_eq_false, Bool.not_eq_false', Int.toNat_natCast, Int.reduceToNat] at hc1)
      refine hw_skip ?_
      refine h9 _ ?_
      refine hw_seq (fun Nh10 h10 => ?_)
      refine hw_block ?_
      refine hw_seq (fun Nh11 h11 => ?_)
      refine hw_region ?_
      first
      | refine hq_ 32 (hop_ia_sl el_97 rfl rfl (by first | exact Nat.le_of_ble_eq_true rfl | omega | (dsimp only; omega) | (simp <;> omega)) (by first | exact Nat.le_of_ble_eq_true rfl | omega | (dsimp only; omega) | (simp <;> omega)) (by first | exact Nat.le_of_ble_eq_true rfl | omega | (dsimp only; omega) | (simp <;> omega))) rfl rfl pre0 rfl rfl ?_
      | refine hq_ 32 (hol_ia_os el_97 rfl rfl (by first | exact Nat.le_of_ble_eq_true rfl | omega | (dsimp only; omega) | (simp <;> omega)) (by first | exact Nat.le_of_ble_eq_true rfl | omega | (dsimp only; omega) | (simp <;> omega))) rfl rfl (pre1 rfl) rfl rfl ?_
      first
      | refine hq_ 33 (hol_load ty_100 rfl (by first | exact Nat.le_of_ble_eq_true rfl | omega | (dsimp only; omega) | (simp <;> omega)) (by first | exact Nat.le_of_ble_eq_true rfl | omega | (dsimp only; omega) | (simp <;> omega)) (fun h => by first | rfl | cases h)) rfl rfl (pre1 rfl) rfl rfl ?_
      | refine hq_ 33 (hop_load_fp ty_100 rfl (by first | exact Nat.le_of_ble_eq_true rfl | omega | (dsimp only; omega) | (simp <;> omega)) (fun h => by first | rfl | cases h)) rfl rfl pre0 rfl rfl ?_
      refine hm_1 7 (hop_alloc (id := 7) (sz := 1) zc_100 rfl rfl (by first | exact Nat.le_of_ble_eq_true rfl | omega | (dsimp only; omega) | (simp <;> omega)) (by first | exact Nat.le_of_ble_eq_true rfl | omega | (dsimp only; omega) | (simp <;> omega))) rfl rfl pre0 rfl rfl (c' := 4) rfl ?_
      first
      | refine hm_s1 (hol_storeW ty_100 rfl rfl rfl rfl) rfl rfl (pre1 rfl) (c' := 5) rfl ?_
      | refine hm_s1 (hol_store ty_100 rfl rfl rfl rfl (by first | exact Nat.le_of_ble_eq_true rfl | omega | (dsimp only; omega) | (simp <;> omega)) (by first | exact Nat.le_of_ble_eq_true rfl | omega | (dsimp only; omega) | (simp <;> omega)) (by first | exact Nat.le_of_ble_eq_true rfl | omega | (dsimp only; omega) | (simp <;> omega))) rfl rfl (pre1 rfl) (c' := 5) rfl ?_
      refine hseq_nil ?_
      refine h11 _ ?_
      refine hw_seq (fun Nh12 h12 => ?_)
      refine hw_region ?_
      first
      | refine hq_ 35 (hop_fa fd_100_0 rfl) rfl rfl pre0 rfl rfl ?_
      | refine hq_ 35 (hop_fa_fp fd_100_0 rfl (by first | exact Nat.le_of_ble_eq_true rfl | omega | (dsimp only; omega) | (simp <;> omega))) rfl rfl pre0 rfl rfl ?_
      first
      | refine hq_ 36 (hol_load ty_79 rfl (by first | exact Nat.le_of_ble_eq_true rfl | omega | (dsimp only; omega) | (simp <;> omega)) (by first | exact Nat.le_of_ble_eq_true rfl | omega | (dsimp only; omega) | (simp <;> omega)) (fun h => by first | rfl | cases h)) rfl rfl (pre1 rfl) rfl rfl ?_
      | refine hq_ 36 (hop_load_fp ty_79 rfl (by first | exact Nat.le_of_ble_eq_true rfl | omega | (dsimp only; omega) | (simp <;> omega)) (fun h => by first | rfl | cases h)) rfl rfl pre0 rfl rfl ?_
      first
      | refine hq_ 37 (hol_load ty_77 rfl (by first | exact Nat.le_of_ble_eq_true rfl | omega | (dsimp only; omega) | (simp <;> omega)) (by first | exact Nat.le_of_ble_eq_true rfl | omega | (dsimp only; omega) | (simp <;> omega)) (fun h => by first | rfl | cases h)) rfl rfl (pre1 rfl) rfl rfl ?_
      | refine hq_ 37 (hop_load_fp ty_77 rfl (by first | exact Nat.le_of_ble_eq_true rfl | omega | (dsimp only; omega) | (simp <;> omega)) (fun h => by first | rfl | cases h)) rfl rfl pre0 rfl rfl ?_
      first
      | refine hq_ 38 (hol_load ty_77 rfl (by first | exact Nat.le_of_ble_eq_true rfl | omega | (dsimp only; omega) | (simp <;> omega)) (by first | exact Nat.le_of_ble_eq_true rfl | omega | (dsimp only; omega) | (simp <;> omega)) (fun h => by first | rfl | cases h)) rfl rfl (pre1 rfl) rfl rfl ?_
      | refine hq_ 38 (hop_load_fp ty_77 rfl (by first | exact Nat.le_of_ble_eq_true rfl | omega | (dsimp only; omega) | (simp <;> omega)) (fun h => by first | rfl | cases h)) rfl rfl pre0 rfl rfl ?_
      refine hq_ 39 (hop_callv0 (xs := [_, _]) (cs := []) (ahead_h a b Option.none (by rw [if_neg hp]) (by omega) (by omega) ⟨by omega, by omega, by omega, by omega⟩ ⟨by omega, by omega, by omega, by omega⟩) rfl rfl (fun i hi => by first | rfl | (cases i <;> first | rfl | (simp at hi))) ⟨rfl, ⟨rfl, trivial⟩⟩ ⟨(Fz.eq rfl), ⟨(Fz.eq rfl), trivial⟩⟩) rfl rfl pre0 rfl rfl ?_
      refine hq_ 34 (hop_move rfl) rfl rfl pre0 rfl rfl ?_
      refine hq_ 40 (hop_extract rfl rfl) rfl rfl pre0 rfl rfl ?_
      refine hq_ 41 (hop_extract rfl rfl) rfl rfl pre0 rfl rfl ?_
      refine hm_1 8 (hop_alloc (id := 8) (sz := 10) zc_77 rfl rfl (by first | exact Nat.le_of_ble_eq_true rfl | omega | (dsimp only; omega) | (simp <;> omega)) (by first | exact Nat.le_of_ble_eq_true rfl | omega | (dsimp only; omega) | (simp <;> omega))) rfl rfl pre0 rfl rfl (c' := 6) rfl ?_
      first
      | refine hm_s1 (hol_storeW ty_77 rfl rfl rfl rfl) rfl rfl (pre1 rfl) (c' := 7) rfl ?_
      | refine hm_s1 (hol_store ty_77 rfl rfl rfl rfl (by first | exact Nat.le_of_ble_eq_true rfl | omega | (dsimp only; omega) | (simp <;> omega)) (by first | exact Nat.le_of_ble_eq_true rfl | omega | (dsimp only; omega) | (simp <;> omega)) (by first | exact Nat.le_of_ble_eq_true rfl | omega | (dsimp only; omega) | (simp <;> omega))) rfl rfl (pre1 rfl) (c' := 7) rfl ?_
      refine hq_ 9 (hop_assign rfl) rfl rfl pre0 rfl rfl ?_
      refine hseq_nil ?_
      refine h12 _ ?_
      refine hw_seq (fun Nh13 h13 => ?_)
      refine hw_region ?_
      refine hq_ 42 (hop_move rfl) rfl rfl pre0 rfl rfl ?_
      refine hseq_nil ?_
      refine h13 _ ?_
      refine hw_cond _ rfl (fun hc2 => ?_) (fun hc2 => ?_)
      · have hr2 := hc2; (try simp only [decide_eq_true_eq, decide_eq_false_iff_not, Bool.and_eq_true, Bool.or_eq_true, Bool.not_eq_true', Bool.or_eq_false_iff, beq_iff_eq, bne_iff_ne, ne_eq, beq_eq_false_iff_ne, bne_eq_false_iff_eq, Bool.not_eq_true, Bool.not_eq_false, Bool.not_eq_false', Int.toNat_natCast, Int.reduceToNat] at hc2)
        exfalso; cases hr2
      · have hr2 := hc2; (try simp only [decide_eq_true_eq, decide_eq_false_iff_not, Bool.and_eq_true, Bool.or_eq_true, Bool.not_eq_true', Bool.or_eq_false_iff, beq_iff_eq, bne_iff_ne, ne_eq, beq_eq_false_iff_ne, bne_eq_false_iff_eq, Bool.not_eq_true, Bool.not_eq_false, Bool.not_eq_false', Int.toNat_natCast, Int.reduceToNat] at hc2)
        refine hw_skip ?_
        refine hq_block ?_
        refine h10 _ ?_
        refine hw_region ?_
        first
        | refine hq_ 48 (hop_addi rfl rfl rfl (by first | exact Nat.le_of_ble_eq_true rfl | omega | (dsimp only; omega) | (simp <;> omega)) (by first | exact Nat.le_of_ble_eq_true rfl | omega | (dsimp only; omega) | (simp <;> omega))) rfl rfl pre0 rfl rfl ?_
        | refine hq_ 48 (hop_add rfl rfl) rfl rfl pre0 rfl rfl ?_
        refine hq_ 30 (hop_move rfl) rfl rfl pre0 rfl rfl ?_
        refine hseq_nil ?_
        refine hU7 _ ?_
        refine hr_succ (fun NhU14 hU14 => ?_)
        refine hw_seq (fun Nh15 h15 => ?_)
        refine hw_region ?_
        refine hq_ 31 (hop_lss rfl rfl) rfl rfl pre0 rfl rfl ?_
        refine hseq_nil ?_
        refine h15 _ ?_
        refine hw_seq (fun Nh16 h16 => ?_)
        refine hw_cond _ rfl (fun hc1 => ?_) (fun hc1 => ?_)
        · have hr1 := hc1; (try simp only [decide_eq_true_eq, decide_eq_false_iff_not, Bool.and_eq_true, Bool.or_eq_true, Bool.not_eq_true', Bool.or_eq_false_iff, beq_iff_eq, bne_iff_ne, ne_eq, beq_eq_false_iff_ne, bne_eq_false_iff_eq, Bool.not_eq_true, Bool.not_eq_false, Bool.not_eq_false', Int.toNat_natCast, Int.reduceToNat] at hc1)
          refine hw_skip ?_
          refine h16 _ ?_
          refine hw_seq (fun Nh17 h17 => ?_)
          refine hw_block ?_
          refine hw_seq (fun Nh18 h18 => ?_)
          refine hw_region ?_
          first
          | refine hq_ 32 (hop_ia_sl el_97 rfl rfl (by first | exact Nat.le_of_ble_eq_true rfl | omega | (dsimp only; omega) | (simp <;> omega)) (by first | exact Nat.le_of_ble_eq_true rfl | omega | (dsimp only; omega) | (simp <;> omega)) (by first | exact Nat.le_of_ble_eq_true rfl | omega | (dsimp only; omega) | (simp <;> omega))) rfl rfl pre0 rfl rfl ?_
          | refine hq_ 32 (hol_ia_os el_97 rfl rfl (by first | exact Nat.le_of_ble_eq_true rfl | omega | (dsimp only; omega) | (simp <;> omega)) (by first | exact Nat.le_of_ble_eq_true rfl | omega | (dsimp only; omega) | (simp <;> omega))) rfl rfl (pre1 rfl) rfl rfl ?_
          first
          | refine hq_ 33 (hol_load ty_100 rfl (by first | exact Nat.le_of_ble_eq_true rfl | omega | (dsimp only; omega) | (simp <;> omega)) (by first | exact Nat.le_of_ble_eq_true rfl | omega | (dsimp only; omega) | (simp <;> omega)) (fun h => by first | rfl | cases h)) rfl rfl (pre1 rfl) rfl rfl ?_
          | refine hq_ 33 (hop_load_fp ty_100 rfl (by first | exact Nat.le_of_ble_eq_true rfl | omega | (dsimp only; omega) | (simp <;> omega)) (fun h => by first | rfl | cases h)) rfl rfl pre0 rfl rfl ?_
          refine hm_1 7 (hop_alloc (id := 7) (sz := 1) zc_100 rfl rfl (by first | exact Nat.le_of_ble_eq_true rfl | omega | (dsimp only; omega) | (simp <;> omega)) (by first | exact Nat.le_of_ble_eq_true rfl | omega | (dsimp only; omega) | (simp <;> omega))) rfl rfl pre0 rfl rfl (c' := 8) rfl ?_
          first
          | refine hm_s1 (hol_storeW ty_100 rfl rfl rfl rfl) rfl rfl (pre1 rfl) (c' := 9) rfl ?_
          | refine hm_s1 (hol_store ty_100 rfl rfl rfl rfl (by first | exact Nat.le_of_ble_eq_true rfl | omega | (dsimp only; omega) | (simp <;> omega)) (by first | exact Nat.le_of_ble_eq_true rfl | omega | (dsimp only; omega) | (simp <;> omega)) (by first | exact Nat.le_of_ble_eq_true rfl | omega | (dsimp only; omega) | (simp <;> omega))) rfl rfl (pre1 rfl) (c' := 9) rfl ?_
          refine hseq_nil ?_
          refine h18 _ ?_
          refine hw_seq (fun Nh19 h19 => ?_)
          refine hw_region ?_
          first
          | refine hq_ 35 (hop_fa fd_100_0 rfl) rfl rfl pre0 rfl rfl ?_
          | refine hq_ 35 (hop_fa_fp fd_100_0 rfl (by first | exact Nat.le_of_ble_eq_true rfl | omega | (dsimp only; omega) | (simp <;> omega))) rfl rfl pre0 rfl rfl ?_
          first
          | refine hq_ 36 (hol_load ty_79 rfl (by first | exact Nat.le_of_ble_eq_true rfl | omega | (dsimp only; omega) | (simp <;> omega)) (by first | exact Nat.le_of_ble_eq_true rfl | omega | (dsimp only; omega) | (simp <;> omega)) (fun h => by first | rfl | cases h)) rfl rfl (pre1 rfl) rfl rfl ?_
          | refine hq_ 36 (hop_load_fp ty_79 rfl (by first | exact Nat.le_of_ble_eq_true rfl | omega | (dsimp only; omega) | (simp <;> omega)) (fun h => by first | rfl | cases h)) rfl rfl pre0 rfl rfl ?_
          first
          | refine hq_ 37 (hol_load ty_77 rfl (by first | exact Nat.le_of_ble_eq_true rfl | omega | (dsimp only; omega) | (simp <;> omega)) (by first | exact Nat.le_of_ble_eq_true rfl | omega | (dsimp only; omega) | (simp <;> omega)) (fun h => by first | rfl | cases h)) rfl rfl (pre1 rfl) rfl rfl ?_
          | refine hq_ 37 (hop_load_fp ty_77 rfl (by first | exact Nat.le_of_ble_eq_true rfl | omega | (dsimp only; omega) | (simp <;> omega)) (fun h => by first | rfl | cases h)) rfl rfl pre0 rfl rfl ?_
          first
          | refine hq_ 38 (hol_load ty_77 rfl (by first | exact Nat.le_of_ble_eq_true rfl | omega | (dsimp only; omega) | (simp <;> omega)) (by first | exact Nat.le_of_ble_eq_true rfl | omega | (dsimp only; omega) | (simp <;> omega)) (fun h => by first | rfl | cases h)) rfl rfl (pre1 rfl) rfl rfl ?_
          | refine hq_ 38 (hop_load_fp ty_77 rfl (by first | exact Nat.le_of_ble_eq_true rfl | omega | (dsimp only; omega) | (simp <;> omega)) (fun h => by first | rfl | cases h)) rfl rfl pre0 rfl rfl ?_
          refine hq_ 39 (hop_callv0 (xs := [_, _]) (cs := []) (behind_h a b (some (a.behind b)) (by rw [if_pos hq]) (by omega) (by omega)) rfl rfl (fun i hi => by first | rfl | (cases i <;> first | rfl | (simp at hi))) ⟨rfl, ⟨rfl, trivial⟩⟩ ⟨(Fz.eq rfl), ⟨(Fz.eq rfl), trivial⟩⟩) rfl rfl pre0 rfl rfl ?_
          refine hq_ 34 (hop_move rfl) rfl rfl pre0 rfl rfl ?_
          refine hq_ 40 (hop_extract rfl rfl) rfl rfl pre0 rfl rfl ?_
          refine hq_ 41 (hop_extract rfl rfl) rfl rfl pre0 rfl rfl ?_
          refine hm_1 8 (hop_alloc (id := 8) (sz := 10) zc_77 rfl rfl (by first | exact Nat.le_of_ble_eq_true rfl | omega | (dsimp only; omega) | (simp <;> omega)) (by first | exact Nat.le_of_ble_eq_true rfl | omega | (dsimp only; omega) | (simp <;> omega))) rfl rfl pre0 rfl rfl (c' := 10) rfl ?_
          first
          | refine hm_s1 (hol_storeW ty_77 rfl rfl rfl rfl) rfl rfl (pre1 rfl) (c' := 11) rfl ?_
          | refine hm_s1 (hol_store ty_77 rfl rfl rfl rfl (by first | exact Nat.le_of_ble_eq_true rfl | omega | (dsimp only; omega) | (simp <;> omega)) (by first | exact Nat.le_of_ble_eq_true rfl | omega | (dsimp only; omega) | (simp <;> omega)) (by first | exact Nat.le_of_ble_eq_true rfl | omega | (dsimp only; omega) | (simp <;> omega))) rfl rfl (pre1 rfl) (c' := 11) rfl ?_
          refine hq_ 9 (hop_assign rfl) rfl rfl pre0 rfl rfl ?_
          refine hseq_nil ?_
          refine h19 _ ?_
          refine hw_seq (fun Nh20 h20 => ?_)
          refine hw_region ?_
          refine hq_ 42 (hop_move rfl) rfl rfl pre0 rfl rfl ?_
          refine hseq_nil ?_
          refine h20 _ ?_
          refine hw_cond _ rfl (fun hc2 => ?_) (fun hc2 => ?_)
          · have hr2 := hc2; (try simp only [decide_eq_true_eq, decide_eq_false_iff_not, Bool.and_eq_true, Bool.or_eq_true, Bool.not_eq_true', Bool.or_eq_false_iff, beq_iff_eq, bne_iff_ne, ne_eq, beq_eq_false_iff_ne, bne_eq_false_iff_eq, Bool.not_eq_true, Bool.not_eq_false, Bool.not_eq_false', Int.toNat_natCast, Int.reduceToNat] at hc2)
            refine hw_seq (fun Nh21 h21 => ?_)
            refine hw_seq (fun Nh22 h22 => ?_)
            refine hw_region ?_
            first
            | refine hq_ 43 (hol_load ty_77 rfl (by first | exact Nat.le_of_ble_eq_true rfl | omega | (dsimp only; omega) | (simp <;> omega)) (by first | exact Nat.le_of_ble_eq_true rfl | omega | (dsimp only; omega) | (simp <;> omega)) (fun h => by first | rfl | cases h)) rfl rfl (pre1 rfl) rfl rfl ?_
            | refine hq_ 43 (hop_load_fp ty_77 rfl (by first | exact Nat.le_of_ble_eq_true rfl | omega | (dsimp only; omega) | (simp <;> omega)) (fun h => by first | rfl | cases h)) rfl rfl pre0 rfl rfl ?_
            refine hq_ 44 (hop_call0 (xs := [_]) (shape_h (a.behind b) (by show (b.sl ++ a.sl).length ≤ _; rw [List.length_append]; omega) (by show ([] : List Mks).length ≤ _; simp)) ⟨rfl, trivial⟩ ⟨(Fz.eq rfl), trivial⟩) rfl rfl pre0 rfl rfl ?_
            refine hq_ 45 (hop_not rfl) rfl rfl pre0 rfl rfl ?_
            refine hseq_nil ?_
            refine h22 _ ?_
            refine hw_cond _ rfl (fun hc3 => ?_) (fun hc3 => ?_)
            · have hr3 := hc3; (try simp only [decide_eq_true_eq, decide_eq_false_iff_not, Bool.and_eq_true, Bool.or_eq_true, Bool.not_eq_true', Bool.or_eq_false_iff, beq_iff_eq, bne_iff_ne, ne_eq, beq_eq_false_iff_ne, bne_eq_false_iff_eq, Bool.not_eq_true, Bool.not_eq_false, Bool.not_eq_false', Int.toNat_natCast, Int.reduceToNat] at hc3)
              refine hw_seq (fun Nh23 h23 => ?_)
              refine hw_region ?_
              refine hq_ 46 (hop_build (hs := []) st_77 rfl rfl trivial) rfl rfl pre0 rfl rfl ?_
              first
              | refine hm_s1 (hol_storeW ty_77 rfl rfl rfl rfl) rfl rfl (pre1 rfl) (c' := 12) rfl ?_
              | refine hm_s1 (hol_store ty_77 rfl rfl rfl rfl (by first | exact Nat.le_of_ble_eq_true rfl | omega | (dsimp only; omega) | (simp <;> omega)) (by first | exact Nat.le_of_ble_eq_true rfl | omega | (dsimp only; omega) | (simp <;> omega)) (by first | exact Nat.le_of_ble_eq_true rfl | omega | (dsimp only; omega) | (simp <;> omega))) rfl rfl (pre1 rfl) (c' := 12) rfl ?_
              refine hq_ 5 (hop_assign rfl) rfl rfl pre0 rfl rfl ?_
              refine hseq_nil ?_
              refine h23 _ ?_
              refine hw_ret ?_
              refine hq_then_ret ?_
              refine hq_block_ret ?_
              refine hq_then_ret ?_
              refine hq_then_ret ?_
              refine hq_block_ret ?_
              refine hq_then_ret ?_
              refine hq_ret2 rfl (rvl_cell rfl rfl ty_77 (fun h => by first | rfl | cases h) rfl rfl) (rval_tmp rfl) [] rfl pre0 ?_
              obtain rfl : Option.none = o := (by rw [← ho, two_w s1 s2 s3]; unfold St.weld; rw [if_pos hk, if_neg hp, if_pos hq]; simp only; rw [if_neg]; simpa using hr3); exact fz_t2 (fz_agg10 (by first | exact .imm _ | exact .nil _ _ _ (by decide) _ | exact fz_toks _ | exact fz_mkss _ | exact Frz.fz) (by first | exact .imm _ | exact .nil _ _ _ (by decide) _ | exact fz_toks _ | exact fz_mkss _ | exact Frz.fz) (by first | exact .imm _ | exact .nil _ _ _ (by decide) _ | exact fz_toks _ | exact fz_mkss _ | exact Frz.fz) (by first | exact .imm _ | exact .nil _ _ _ (by decide) _ | exact fz_toks _ | exact fz_mkss _ | exact Frz.fz) (by first | exact .imm _ | exact .nil _ _ _ (by decide) _ | exact fz_toks _ | exact fz_mkss _ | exact Frz.fz) (by first | exact .imm _ | exact .nil _ _ _ (by decide) _ | exact fz_toks _ | exact fz_mkss _ | exact Frz.fz) (by first | exact .imm _ | exact .nil _ _ _ (by decide) _ | exact fz_toks _ | exact fz_mkss _ | exact Frz.fz) (by first | exact .imm _ | exact .nil _ _ _ (by decide) _ | exact fz_toks _ | exact fz_mkss _ | exact Frz.fz) (by first | exact .imm _ | exact .nil _ _ _ (by decide) _ | exact fz_toks _ | exact fz_mkss _ | exact Frz.fz) (by first | exact .imm _ | exact .nil _ _ _ (by decide) _ | exact fz_toks _ | exact fz_mkss _ | exact Frz.fz)) (.imm _)
            · have hr3 := hc3; (try simp only [decide_eq_true_eq, decide_eq_false_iff_not, Bool.and_eq_true, Bool.or_eq_true, Bool.not_eq_true', Bool.or_eq_false_iff, beq_iff_eq, bne_iff_ne, ne_eq, beq_eq_false_iff_ne, bne_eq_false_iff_eq, Bool.not_eq_true, Bool.not_eq_false, Bool.not_eq_false', Int.toNat_natCast, Int.reduceToNat] at hc3)
              refine hw_skip ?_
              refine h21 _ ?_
              refine hw_seq (fun Nh24 h24 => ?_)
              refine hw_region ?_
              first
              | refine hq_ 47 (hol_load ty_77 rfl (by first | exact Nat.le_of_ble_eq_true rfl | omega | (dsimp only; omega) | (simp <;> omega)) (by first | exact Nat.le_of_ble_eq_true rfl | omega | (dsimp only; omega) | (simp <;> omega)) (fun h => by first | rfl | cases h)) rfl rfl (pre1 rfl) rfl rfl ?_
              | refine hq_ 47 (hop_load_fp ty_77 rfl (by first | exact Nat.le_of_ble_eq_true rfl | omega | (dsimp only; omega) | (simp <;> omega)) (fun h => by first | rfl | cases h)) rfl rfl pre0 rfl rfl ?_
              first
              | refine hm_s1 (hol_storeW ty_77 rfl rfl rfl rfl) rfl rfl (pre1 rfl) (c' := 12) rfl ?_
              | refine hm_s1 (hol_store ty_77 rfl rfl rfl rfl (by first | exact Nat.le_of_ble_eq_true rfl | omega | (dsimp only; omega) | (simp <;> omega)) (by first | exact Nat.le_of_ble_eq_true rfl | omega | (dsimp only; omega) | (simp <;> omega)) (by first | exact Nat.le_of_ble_eq_true rfl | omega | (dsimp only; omega) | (simp <;> omega))) rfl rfl (pre1 rfl) (c' := 12) rfl ?_
              refine hq_ 5 (hop_assign rfl) rfl rfl pre0 rfl rfl ?_
              refine hseq_nil ?_
              refine h24 _ ?_
              refine hw_ret ?_
              refine hq_block_ret ?_
              refine hq_then_ret ?_
              refine hq_then_ret ?_
              refine hq_block_ret ?_
              refine hq_then_ret ?_
              refine hq_ret2 rfl (rvl_cell rfl rfl ty_77 (fun h => by first | rfl | cases h) rfl rfl) (rval_tmp rfl) [] rfl pre0 ?_
              obtain rfl : some (a.behind b) = o := (by rw [← ho, two_w s1 s2 s3]; unfold St.weld; rw [if_pos hk, if_neg hp, if_pos hq]; simp only; rw [if_pos]; simpa using hr3); exact fz_t2 (fz_agg10 (by first | exact .imm _ | exact .nil _ _ _ (by decide) _ | exact fz_toks _ | exact fz_mkss _ | exact Frz.fz) (by first | exact .imm _ | exact .nil _ _ _ (by decide) _ | exact fz_toks _ | exact fz_mkss _ | exact Frz.fz) (by first | exact .imm _ | exact .nil _ _ _ (by decide) _ | exact fz_toks _ | exact fz_mkss _ | exact Frz.fz) (by first | exact .imm _ | exact .nil _ _ _ (by decide) _ | exact fz_toks _ | exact fz_mkss _ | exact Frz.fz) (by first | exact .imm _ | exact .nil _ _ _ (by decide) _ | exact fz_toks _ | exact fz_mkss _ | exact Frz.fz) (by first | exact .imm _ | exact .nil _ _ _ (by decide) _ | exact fz_toks _ | exact fz_mkss _ | exact Frz.fz) (by first | exact .imm _ | exact .nil _ _ _ (by decide) _ | exact fz_toks _ | exact fz_mkss _ | exact Frz.fz) (by first | exact .imm _ | exact .nil _ _ _ (by decide) _ | exact fz_toks _ | exact fz_mkss _ | exact Frz.fz) (by first | exact .imm _ | exact .nil _ _ _ (by decide) _ | exact fz_toks _ | exact fz_mkss _ | exact Frz.fz) (by first | exact .imm _ | exact .nil _ _ _ (by decide) _ | exact fz_toks _ | exact fz_mkss _ | exact Frz.fz)) (.imm _)
          · have hr2 := hc2; (try simp only [decide_eq_true_eq, decide_eq_false_iff_not, Bool.and_eq_true, Bool.or_eq_true, Bool.not_eq_true', Bool.or_eq_false_iff, beq_iff_eq, bne_iff_ne, ne_eq, beq_eq_false_iff_ne, bne_eq_false_iff_eq, Bool.not_eq_true, Bool.not_eq_false, Bool.not_eq_false', Int.toNat_natCast, Int.reduceToNat] at hc2)
            exfalso; cases hr2
        · have hr1 := hc1; (try simp only [decide_eq_true_eq, decide_eq_false_iff_not, Bool.and_eq_true, Bool.or_eq_true, Bool.not_eq_true', Bool.or_eq_false_iff, beq_iff_eq, bne_iff_ne, ne_eq, beq_eq_false_iff_ne, bne_eq_false_iff_eq, Bool.not_eq_true, Bool.not_eq_false, Bool.not_eq_false', Int.toNat_natCast, Int.reduceToNat] at hc1)
          exfalso; simp at hr1
    · have hr1 := hc1; (try simp only [decide_eq_true_eq, decide_eq_false_iff_not, Bool.and_eq_true, Bool.or_eq_true, Bool.not_eq_true', Bool.or_eq_false_iff, beq_iff_eq, bne_iff_ne, ne_eq, beq_eq_false_iff_ne, bne_eq_false_iff_eq, Bool.not_eq_true, Bool.not_eq_false, Bool.not_eq_false', Int.toNat_natCast, Int.reduceToNat] at hc1)
      exfalso; simp at hr1
theorem Two_1c (a b : St) (hk : a.k = 1) (hp : ¬ a.f + a.sl.length = b.f) (hq : ¬ b.t = a.f) (o : Option St) (ho : a.two b = o) (l1 : a.sl.length ≤ 20000) (l2 : b.sl.length ≤ 20000) (l3 : a.sets.length ≤ 20000) (l4 : b.sets.length ≤ 20000) : HPure Try.prog 30 [stV a, stV b] (optV o) := by
  refine hpure_of Try.func30 rfl (by kernel_rfl) _ _ _ rfl 50 rfl rfl (fun w F => ?_)
  refine hw_seq (fun Nh1 h1 => ?_)
  refine hw_region ?_
  refine hm_1 2 (hop_box (id := 2) (sz := 10) rfl rfl rfl (by first | exact Nat.le_of_ble_eq_true rfl | omega | (dsimp only; omega) | (simp <;> omega)) (by first | exact Nat.le_of_ble_eq_true rfl | omega | (dsimp only; omega) | (simp <;> omega))) rfl rfl pre0 rfl rfl (c' := 1) rfl ?_
  refine hm_1 3 (hop_box (id := 3) (sz := 10) rfl rfl rfl (by first | exact Nat.le_of_ble_eq_true rfl | omega | (dsimp only; omega) | (simp <;> omega)) (by first | exact Nat.le_of_ble_eq_true rfl | omega | (dsimp only; omega) | (simp <;> omega))) rfl rfl pre0 rfl rfl (c' := 2) rfl ?_
  refine hm_1 4 (hop_alloc (id := 4) (sz := 10) zc_77 rfl rfl (by first | exact Nat.le_of_ble_eq_true rfl | omega | (dsimp only; omega) | (simp <;> omega)) (by first | exact Nat.le_of_ble_eq_true rfl | omega | (dsimp only; omega) | (simp <;> omega))) rfl rfl pre0 rfl rfl (c' := 3) rfl ?_
  refine hq_ 5 (hop_assign rfl) rfl rfl pre0 rfl rfl ?_
  refine hseq_nil ?_
  refine h1 _ ?_
  refine hw_seq (fun Nh2 h2 => ?_)
  refine hw_seq (fun Nh3 h3 => ?_)
  refine hw_region ?_
  first
  | refine hq_ 10 (hop_fa fd_77_0 rfl) rfl rfl pre0 rfl rfl ?_
  | refine hq_ 10 (hop_fa_fp fd_77_0 rfl (by first | exact Nat.le_of_ble_eq_true rfl | omega | (dsimp only; omega) | (simp <;> omega))) rfl rfl pre0 rfl rfl ?_
  first
  | refine hq_ 11 (hol_load ty_3 rfl (by first | exact Nat.le_of_ble_eq_true rfl | omega | (dsimp only; omega) | (simp <;> omega)) (by first | exact Nat.le_of_ble_eq_true rfl | omega | (dsimp only; omega) | (simp <;> omega)) (fun h => by first | rfl | cases h)) rfl rfl (pre1 rfl) rfl rfl ?_
  | refine hq_ 11 (hop_load_fp ty_3 rfl (by first | exact Nat.le_of_ble_eq_true rfl | omega | (dsimp only; omega) | (simp <;> omega)) (fun h => by first | rfl | cases h)) rfl rfl pre0 rfl rfl ?_
  first
  | refine hq_ 12 (hop_fa fd_77_0 rfl) rfl rfl pre0 rfl rfl ?_
  | refine hq_ 12 (hop_fa_fp fd_77_0 rfl (by first | exact Nat.le_of_ble_eq_true rfl | omega | (dsimp only; omega) | (simp <;> omega))) rfl rfl pre0 rfl rfl ?_
  first
  | refine hq_ 13 (hol_load ty_3 rfl (by first | exact Nat.le_of_ble_eq_true rfl | omega | (dsimp only; omega) | (simp <;> omega)) (by first | exact Nat.le_of_ble_eq_true rfl | omega | (dsimp only; omega) | (simp <;> omega)) (fun h => by first | rfl | cases h)) rfl rfl (pre1 rfl) rfl rfl ?_
  | refine hq_ 13 (hop_load_fp ty_3 rfl (by first | exact Nat.le_of_ble_eq_true rfl | omega | (dsimp only; omega) | (simp <;> omega)) (fun h => by first | rfl | cases h)) rfl rfl pre0 rfl rfl ?_
  refine hq_ 14 (hop_neq rfl rfl) rfl rfl pre0 rfl rfl ?_
  refine hq_ 15 (hop_move rfl) rfl rfl pre0 rfl rfl ?_
  first
  | refine hq_g 16 5 15 false _ (fun hb => hol_load ty_77 rfl (by first | exact Nat.le_of_ble_eq_true rfl | (simp at hb; first | omega | (dsimp only; omega) | (simp <;> omega))) (by first | exact Nat.le_of_ble_eq_true rfl | (simp at hb; first | omega | (dsimp only; omega) | (simp <;> omega))) (fun h => by first | rfl | cases h)) rfl rfl rfl rfl (pre1 rfl) rfl rfl rfl ?_
  | refine hq_g2 16 5 15 _ _ false _ (fun hb => hol_load ty_77 rfl (by first | exact Nat.le_of_ble_eq_true rfl | (simp at hb; first | omega | (dsimp only; omega) | (simp <;> omega))) (by first | exact Nat.le_of_ble_eq_true rfl | (simp at hb; first | omega | (dsimp only; omega) | (simp <;> omega))) (fun h => by first | rfl | cases h)) rfl rfl rfl rfl (pre1 rfl) rfl rfl rfl ?_
  | refine hq_g 16 5 15 false _ (fun hb => hop_load_fp ty_77 rfl (by first | exact Nat.le_of_ble_eq_true rfl | (simp at hb; first | omega | (dsimp only; omega) | (simp <;> omega))) (fun h => by first | rfl | cases h)) rfl rfl rfl rfl pre0 rfl rfl rfl ?_
  | refine hq_g2 16 5 15 _ _ false _ (fun hb => hop_load_fp ty_77 rfl (by first | exact Nat.le_of_ble_eq_true rfl | (simp at hb; first | omega | (dsimp only; omega) | (simp <;> omega))) (fun h => by first | rfl | cases h)) rfl rfl rfl rfl pre0 rfl rfl rfl ?_
  first
  | refine hq_g 17 5 15 false _ (fun hb => hop_call0 (xs := [_]) (shape_h a (by omega) (by omega)) ⟨rfl, trivial⟩ ⟨(Fz.eq rfl), trivial⟩) rfl rfl rfl rfl pre0 rfl rfl rfl ?_
  | refine hq_g2 17 5 15 _ _ false _ (fun hb => hop_call0 (xs := [_]) (shape_h a (by omega) (by omega)) ⟨rfl, trivial⟩ ⟨(Fz.eq rfl), trivial⟩) rfl rfl rfl rfl pre0 rfl rfl rfl ?_
  first
  | refine hq_g 18 5 15 false _ (fun hb => hop_not rfl) rfl rfl rfl rfl pre0 rfl rfl rfl ?_
  | refine hq_g2 18 5 15 _ _ false _ (fun hb => hop_not rfl) rfl rfl rfl rfl pre0 rfl rfl rfl ?_
  first
  | refine hq_p 19 (hstep_and _ _ rfl rfl rfl) rfl rfl rfl ?_
  | refine hq_p 19 (hstep_or _ _ rfl rfl rfl) rfl rfl rfl ?_
  | refine hq_p 19 (hstep_ite _ _ _ rfl rfl rfl) rfl rfl rfl ?_
  | refine hq_p 19 (hstep_pick _ _ _ _ rfl rfl rfl (fun _ => .refl _) (fun _ => .refl _)) rfl rfl rfl ?_
  refine hq_ 20 (hop_move rfl) rfl rfl pre0 rfl rfl ?_
  first
  | refine hq_g 21 10 20 false _ (fun hb => hol_load ty_77 rfl (by first | exact Nat.le_of_ble_eq_true rfl | (simp at hb; first | omega | (dsimp only; omega) | (simp <;> omega))) (by first | exact Nat.le_of_ble_eq_true rfl | (simp at hb; first | omega | (dsimp only; omega) | (simp <;> omega))) (fun h => by first | rfl | cases h)) rfl rfl rfl rfl (pre1 rfl) rfl rfl rfl ?_
  | refine hq_g2 21 10 20 _ _ false _ (fun hb => hol_load ty_77 rfl (by first | exact Nat.le_of_ble_eq_true rfl | (simp at hb; first | omega | (dsimp only; omega) | (simp <;> omega))) (by first | exact Nat.le_of_ble_eq_true rfl | (simp at hb; first | omega | (dsimp only; omega) | (simp <;> omega))) (fun h => by first | rfl | cases h)) rfl rfl rfl rfl (pre1 rfl) rfl rfl rfl ?_
  | refine hq_g 21 10 20 false _ (fun hb => hop_load_fp ty_77 rfl (by first | exact Nat.le_of_ble_eq_true rfl | (simp at hb; first | omega | (dsimp only; omega) | (simp <;> omega))) (fun h => by first | rfl | cases h)) rfl rfl rfl rfl pre0 rfl rfl rfl ?_
  | refine hq_g2 21 10 20 _ _ false _ (fun hb => hop_load_fp ty_77 rfl (by first | exact Nat.le_of_ble_eq_true rfl | (simp at hb; first | omega | (dsimp only; omega) | (simp <;> omega))) (fun h => by first | rfl | cases h)) rfl rfl rfl rfl pre0 rfl rfl rfl ?_
  first
  | refine hq_g 22 10 20 false _ (fun hb => hop_call0 (xs := [_]) (shape_h b (by omega) (by omega)) ⟨rfl, trivial⟩ ⟨(Fz.eq rfl), trivial⟩) rfl rfl rfl rfl pre0 rfl rfl rfl ?_
  | refine hq_g2 22 10 20 _ _ false _ (fun hb => hop_call0 (xs := [_]) (shape_h b (by omega) (by omega)) ⟨rfl, trivial⟩ ⟨(Fz.eq rfl), trivial⟩) rfl rfl rfl rfl pre0 rfl rfl rfl ?_
  first
  | refine hq_g 23 10 20 false _ (fun hb => hop_not rfl) rfl rfl rfl rfl pre0 rfl rfl rfl ?_
  | refine hq_g2 23 10 20 _ _ false _ (fun hb => hop_not rfl) rfl rfl rfl rfl pre0 rfl rfl rfl ?_
  first
  | refine hq_p 24 (hstep_and _ _ rfl rfl rfl) rfl rfl rfl ?_
  | refine hq_p 24 (hstep_or _ _ rfl rfl rfl) rfl rfl rfl ?_
  | refine hq_p 24 (hstep_ite _ _ _ rfl rfl rfl) rfl rfl rfl ?_
  | refine hq_p 24 (hstep_pick _ _ _ _ rfl rfl rfl (fun _ => .refl _) (fun _ => .refl _)) rfl rfl rfl ?_
  refine hseq_nilU (by rfl) (by simp only [dropUn, slots]; exact rfl) ?_
  refine h3 _ ?_
  refine hw_cond _ rfl (fun hc0 => ?_) (fun hc0 => ?_)
  · have hr0 := hc0; (try simp only [decide_eq_true_eq, decide_eq_false_iff_not, Bool.and_eq_true, Bool.or_eq_true, Bool.not_eq_true', Bool.or_eq_false_iff, beq_iff_eq, bne_iff_ne, ne_eq, beq_eq_false_iff_ne, bne_eq_false_iff_eq, Bool.not_eq_true, Bool.not_eq_false, Bool.not_eq_false', Int.toNat_natCast, Int.reduceToNat] at hc0)
    refine hw_seq (fun Nh4 h4 => ?_)
    refine hw_region ?_
    refine hq_ 25 (hop_build (hs := []) st_77 rfl rfl trivial) rfl rfl pre0 rfl rfl ?_
    first
    | refine hm_s1 (hol_storeW ty_77 rfl rfl rfl rfl) rfl rfl (pre1 rfl) (c' := 4) rfl ?_
    | refine hm_s1 (hol_store ty_77 rfl rfl rfl rfl (by first | exact Nat.le_of_ble_eq_true rfl | omega | (dsimp only; omega) | (simp <;> omega)) (by first | exact Nat.le_of_ble_eq_true rfl | omega | (dsimp only; omega) | (simp <;> omega)) (by first | exact Nat.le_of_ble_eq_true rfl | omega | (dsimp only; omega) | (simp <;> omega))) rfl rfl (pre1 rfl) (c' := 4) rfl ?_
    refine hq_ 5 (hop_assign rfl) rfl rfl pre0 rfl rfl ?_
    refine hseq_nil ?_
    refine h4 _ ?_
    refine hw_ret ?_
    refine hq_then_ret ?_
    refine hq_ret2 rfl (rvl_cell rfl rfl ty_77 (fun h => by first | rfl | cases h) rfl rfl) (rval_tmp rfl) [] rfl pre0 ?_
    obtain rfl : Option.none = o := (by rw [← ho]; exact (two_no rfl rfl rfl hr0).symm); exact fz_t2 (fz_agg10 (by first | exact .imm _ | exact .nil _ _ _ (by decide) _ | exact fz_toks _ | exact fz_mkss _ | exact Frz.fz) (by first | exact .imm _ | exact .nil _ _ _ (by decide) _ | exact fz_toks _ | exact fz_mkss _ | exact Frz.fz) (by first | exact .imm _ | exact .nil _ _ _ (by decide) _ | exact fz_toks _ | exact fz_mkss _ | exact Frz.fz) (by first | exact .imm _ | exact .nil _ _ _ (by decide) _ | exact fz_toks _ | exact fz_mkss _ | exact Frz.fz) (by first | exact .imm _ | exact .nil _ _ _ (by decide) _ | exact fz_toks _ | exact fz_mkss _ | exact Frz.fz) (by first | exact .imm _ | exact .nil _ _ _ (by decide) _ | exact fz_toks _ | exact fz_mkss _ | exact Frz.fz) (by first | exact .imm _ | exact .nil _ _ _ (by decide) _ | exact fz_toks _ | exact fz_mkss _ | exact Frz.fz) (by first | exact .imm _ | exact .nil _ _ _ (by decide) _ | exact fz_toks _ | exact fz_mkss _ | exact Frz.fz) (by first | exact .imm _ | exact .nil _ _ _ (by decide) _ | exact fz_toks _ | exact fz_mkss _ | exact Frz.fz) (by first | exact .imm _ | exact .nil _ _ _ (by decide) _ | exact fz_toks _ | exact fz_mkss _ | exact Frz.fz)) (.imm _)
  · have hr0 := hc0; (try simp only [decide_eq_true_eq, decide_eq_false_iff_not, Bool.and_eq_true, Bool.or_eq_true, Bool.not_eq_true', Bool.or_eq_false_iff, beq_iff_eq, bne_iff_ne, ne_eq, beq_eq_false_iff_ne, bne_eq_false_iff_eq, Bool.not_eq_true, Bool.not_eq_false, Bool.not_eq_false', Int.toNat_natCast, Int.reduceToNat] at hc0)
    obtain ⟨s1, s2, s3⟩ := two_yes hr0; obtain ⟨q1, q2, q3, q4, q5⟩ := shape_in s2; obtain ⟨r1, r2, r3, r4, r5⟩ := shape_in s3
    refine hw_skip ?_
    refine h2 _ ?_
    refine hw_seq (fun Nh5 h5 => ?_)
    refine hw_seq (fun Nh6 h6 => ?_)
    refine hw_region ?_
    first
    | refine hq_ 26 (hop_fa fd_77_0 rfl) rfl rfl pre0 rfl rfl ?_
    | refine hq_ 26 (hop_fa_fp fd_77_0 rfl (by first | exact Nat.le_of_ble_eq_true rfl | omega | (dsimp only; omega) | (simp <;> omega))) rfl rfl pre0 rfl rfl ?_
    first
    | refine hq_ 27 (hol_load ty_3 rfl (by first | exact Nat.le_of_ble_eq_true rfl | omega | (dsimp only; omega) | (simp <;> omega)) (by first | exact Nat.le_of_ble_eq_true rfl | omega | (dsimp only; omega) | (simp <;> omega)) (fun h => by first | rfl | cases h)) rfl rfl (pre1 rfl) rfl rfl ?_
    | refine hq_ 27 (hop_load_fp ty_3 rfl (by first | exact Nat.le_of_ble_eq_true rfl | omega | (dsimp only; omega) | (simp <;> omega)) (fun h => by first | rfl | cases h)) rfl rfl pre0 rfl rfl ?_
    refine hq_ 28 (hop_call0 (xs := [_]) (ways1_h' a.k hk) ⟨rfl, trivial⟩ ⟨(Fz.eq rfl), trivial⟩) rfl rfl pre0 rfl rfl ?_
    first
    | refine hq_ 29 (hop_len_sl (T := 97) rfl (elOf_spec el_97).1 rfl) rfl rfl pre0 rfl rfl ?_
    | refine hq_ 29 (hop_len_os (T := 97) rfl (elOf_spec el_97).1 rfl) rfl rfl pre0 rfl rfl ?_
    | refine hq_ 29 (hop_len_nil (T := 97) rfl (elOf_spec el_97).1 rfl) rfl rfl pre0 rfl rfl ?_
    refine hq_ 30 (hop_move rfl) rfl rfl pre0 rfl rfl ?_
    refine hseq_nil ?_
    refine h6 _ ?_
    refine hw_block ?_
    refine hw_rounds 3 ?_
    refine hr_succ (fun NhU7 hU7 => ?_)
    refine hw_seq (fun Nh8 h8 => ?_)
    refine hw_region ?_
    refine hq_ 31 (hop_lss rfl rfl) rfl rfl pre0 rfl rfl ?_
    refine hseq_nil ?_
    refine h8 _ ?_
    refine hw_seq (fun Nh9 h9 => ?_)
    refine hw_cond _ rfl (fun hc1 => ?_) (fun hc1 => ?_)
    · have hr1 := hc1; (try simp only [decide_eq_true_eq, decide_eq_false_iff_not, Bool.and_eq_true, Bool.or_eq_true, Bool.not_eq_true', Bool.or_eq_false_iff, beq_iff_eq, bne_iff_ne, ne_eq, beq_eq_false_iff_ne, bne_eq_false_iff_eq, Bool.not_eq_true, Bool.not_eq_false, Bool.not_eq_false', Int.toNat_natCast, Int.reduceToNat] at hc1)
      refine hw_skip ?_
      refine h9 _ ?_
      refine hw_seq (fun Nh10 h10 => ?_)
      refine hw_block ?_
      refine hw_seq (fun Nh11 h11 => ?_)
      refine hw_region ?_
      first
      | refine hq_ 32 (hop_ia_sl el_97 rfl rfl (by first | exact Nat.le_of_ble_eq_true rfl | omega | (dsimp only; omega) | (simp <;> omega)) (by first | exact Nat.le_of_ble_eq_true rfl | omega | (dsimp only; omega) | (simp <;> omega)) (by first | exact Nat.le_of_ble_eq_true rfl | omega | (dsimp only; omega) | (simp <;> omega))) rfl rfl pre0 rfl rfl ?_
      | refine hq_ 32 (hol_ia_os el_97 rfl rfl (by first | exact Nat.le_of_ble_eq_true rfl | omega | (dsimp only; omega) | (simp <;> omega)) (by first | exact Nat.le_of_ble_eq_true rfl | omega | (dsimp only; omega) | (simp <;> omega))) rfl rfl (pre1 rfl) rfl rfl ?_
      first
      | refine hq_ 33 (hol_load ty_100 rfl (by first | exact Nat.le_of_ble_eq_true rfl | omega | (dsimp only; omega) | (simp <;> omega)) (by first | exact Nat.le_of_ble_eq_true rfl | omega | (dsimp only; omega) | (simp <;> omega)) (fun h => by first | rfl | cases h)) rfl rfl (pre1 rfl) rfl rfl ?_
      | refine hq_ 33 (hop_load_fp ty_100 rfl (by first | exact Nat.le_of_ble_eq_true rfl | omega | (dsimp only; omega) | (simp <;> omega)) (fun h => by first | rfl | cases h)) rfl rfl pre0 rfl rfl ?_
      refine hm_1 7 (hop_alloc (id := 7) (sz := 1) zc_100 rfl rfl (by first | exact Nat.le_of_ble_eq_true rfl | omega | (dsimp only; omega) | (simp <;> omega)) (by first | exact Nat.le_of_ble_eq_true rfl | omega | (dsimp only; omega) | (simp <;> omega))) rfl rfl pre0 rfl rfl (c' := 4) rfl ?_
      first
      | refine hm_s1 (hol_storeW ty_100 rfl rfl rfl rfl) rfl rfl (pre1 rfl) (c' := 5) rfl ?_
      | refine hm_s1 (hol_store ty_100 rfl rfl rfl rfl (by first | exact Nat.le_of_ble_eq_true rfl | omega | (dsimp only; omega) | (simp <;> omega)) (by first | exact Nat.le_of_ble_eq_true rfl | omega | (dsimp only; omega) | (simp <;> omega)) (by first | exact Nat.le_of_ble_eq_true rfl | omega | (dsimp only; omega) | (simp <;> omega))) rfl rfl (pre1 rfl) (c' := 5) rfl ?_
      refine hseq_nil ?_
      refine h11 _ ?_
      refine hw_seq (fun Nh12 h12 => ?_)
      refine hw_region ?_
      first
      | refine hq_ 35 (hop_fa fd_100_0 rfl) rfl rfl pre0 rfl rfl ?_
      | refine hq_ 35 (hop_fa_fp fd_100_0 rfl (by first | exact Nat.le_of_ble_eq_true rfl | omega | (dsimp only; omega) | (simp <;> omega))) rfl rfl pre0 rfl rfl ?_
      first
      | refine hq_ 36 (hol_load ty_79 rfl (by first | exact Nat.le_of_ble_eq_true rfl | omega | (dsimp only; omega) | (simp <;> omega)) (by first | exact Nat.le_of_ble_eq_true rfl | omega | (dsimp only; omega) | (simp <;> omega)) (fun h => by first | rfl | cases h)) rfl rfl (pre1 rfl) rfl rfl ?_
      | refine hq_ 36 (hop_load_fp ty_79 rfl (by first | exact Nat.le_of_ble_eq_true rfl | omega | (dsimp only; omega) | (simp <;> omega)) (fun h => by first | rfl | cases h)) rfl rfl pre0 rfl rfl ?_
      first
      | refine hq_ 37 (hol_load ty_77 rfl (by first | exact Nat.le_of_ble_eq_true rfl | omega | (dsimp only; omega) | (simp <;> omega)) (by first | exact Nat.le_of_ble_eq_true rfl | omega | (dsimp only; omega) | (simp <;> omega)) (fun h => by first | rfl | cases h)) rfl rfl (pre1 rfl) rfl rfl ?_
      | refine hq_ 37 (hop_load_fp ty_77 rfl (by first | exact Nat.le_of_ble_eq_true rfl | omega | (dsimp only; omega) | (simp <;> omega)) (fun h => by first | rfl | cases h)) rfl rfl pre0 rfl rfl ?_
      first
      | refine hq_ 38 (hol_load ty_77 rfl (by first | exact Nat.le_of_ble_eq_true rfl | omega | (dsimp only; omega) | (simp <;> omega)) (by first | exact Nat.le_of_ble_eq_true rfl | omega | (dsimp only; omega) | (simp <;> omega)) (fun h => by first | rfl | cases h)) rfl rfl (pre1 rfl) rfl rfl ?_
      | refine hq_ 38 (hop_load_fp ty_77 rfl (by first | exact Nat.le_of_ble_eq_true rfl | omega | (dsimp only; omega) | (simp <;> omega)) (fun h => by first | rfl | cases h)) rfl rfl pre0 rfl rfl ?_
      refine hq_ 39 (hop_callv0 (xs := [_, _]) (cs := []) (ahead_h a b Option.none (by rw [if_neg hp]) (by omega) (by omega) ⟨by omega, by omega, by omega, by omega⟩ ⟨by omega, by omega, by omega, by omega⟩) rfl rfl (fun i hi => by first | rfl | (cases i <;> first | rfl | (simp at hi))) ⟨rfl, ⟨rfl, trivial⟩⟩ ⟨(Fz.eq rfl), ⟨(Fz.eq rfl), trivial⟩⟩) rfl rfl pre0 rfl rfl ?_
      refine hq_ 34 (hop_move rfl) rfl rfl pre0 rfl rfl ?_
      refine hq_ 40 (hop_extract rfl rfl) rfl rfl pre0 rfl rfl ?_
      refine hq_ 41 (hop_extract rfl rfl) rfl rfl pre0 rfl rfl ?_
      refine hm_1 8 (hop_alloc (id := 8) (sz := 10) zc_77 rfl rfl (by first | exact Nat.le_of_ble_eq_true rfl | omega | (dsimp only; omega) | (simp <;> omega)) (by first | exact Nat.le_of_ble_eq_true rfl | omega | (dsimp only; omega) | (simp <;> omega))) rfl rfl pre0 rfl rfl (c' := 6) rfl ?_
      first
      | refine hm_s1 (hol_storeW ty_77 rfl rfl rfl rfl) rfl rfl (pre1 rfl) (c' := 7) rfl ?_
      | refine hm_s1 (hol_store ty_77 rfl rfl rfl rfl (by first | exact Nat.le_of_ble_eq_true rfl | omega | (dsimp only; omega) | (simp <;> omega)) (by first | exact Nat.le_of_ble_eq_true rfl | omega | (dsimp only; omega) | (simp <;> omega)) (by first | exact Nat.le_of_ble_eq_true rfl | omega | (dsimp only; omega) | (simp <;> omega))) rfl rfl (pre1 rfl) (c' := 7) rfl ?_
      refine hq_ 9 (hop_assign rfl) rfl rfl pre0 rfl rfl ?_
      refine hseq_nil ?_
      refine h12 _ ?_
      refine hw_seq (fun Nh13 h13 => ?_)
      refine hw_region ?_
      refine hq_ 42 (hop_move rfl) rfl rfl pre0 rfl rfl ?_
      refine hseq_nil ?_
      refine h13 _ ?_
      refine hw_cond _ rfl (fun hc2 => ?_) (fun hc2 => ?_)
      · have hr2 := hc2; (try simp only [decide_eq_true_eq, decide_eq_false_iff_not, Bool.and_eq_true, Bool.or_eq_true, Bool.not_eq_true', Bool.or_eq_false_iff, beq_iff_eq, bne_iff_ne, ne_eq, beq_eq_false_iff_ne, bne_eq_false_iff_eq, Bool.not_eq_true, Bool.not_eq_false, Bool.not_eq_false', Int.toNat_natCast, Int.reduceToNat] at hc2)
        exfalso; cases hr2
      · have hr2 := hc2; (try simp only [decide_eq_true_eq, decide_eq_false_iff_not, Bool.and_eq_true, Bool.or_eq_true, Bool.not_eq_true', Bool.or_eq_false_iff, beq_iff_eq, bne_iff_ne, ne_eq, beq_eq_false_iff_ne, bne_eq_false_iff_eq, Bool.not_eq_true, Bool.not_eq_false, Bool.not_eq_false', Int.toNat_natCast, Int.reduceToNat] at hc2)
        refine hw_skip ?_
        refine hq_block ?_
        refine h10 _ ?_
        refine hw_region ?_
        first
        | refine hq_ 48 (hop_addi rfl rfl rfl (by first | exact Nat.le_of_ble_eq_true rfl | omega | (dsimp only; omega) | (simp <;> omega)) (by first | exact Nat.le_of_ble_eq_true rfl | omega | (dsimp only; omega) | (simp <;> omega))) rfl rfl pre0 rfl rfl ?_
        | refine hq_ 48 (hop_add rfl rfl) rfl rfl pre0 rfl rfl ?_
        refine hq_ 30 (hop_move rfl) rfl rfl pre0 rfl rfl ?_
        refine hseq_nil ?_
        refine hU7 _ ?_
        refine hr_succ (fun NhU14 hU14 => ?_)
        refine hw_seq (fun Nh15 h15 => ?_)
        refine hw_region ?_
        refine hq_ 31 (hop_lss rfl rfl) rfl rfl pre0 rfl rfl ?_
        refine hseq_nil ?_
        refine h15 _ ?_
        refine hw_seq (fun Nh16 h16 => ?_)
        refine hw_cond _ rfl (fun hc1 => ?_) (fun hc1 => ?_)
        · have hr1 := hc1; (try simp only [decide_eq_true_eq, decide_eq_false_iff_not, Bool.and_eq_true, Bool.or_eq_true, Bool.not_eq_true', Bool.or_eq_false_iff, beq_iff_eq, bne_iff_ne, ne_eq, beq_eq_false_iff_ne, bne_eq_false_iff_eq, Bool.not_eq_true, Bool.not_eq_false, Bool.not_eq_false', Int.toNat_natCast, Int.reduceToNat] at hc1)
          refine hw_skip ?_
          refine h16 _ ?_
          refine hw_seq (fun Nh17 h17 => ?_)
          refine hw_block ?_
          refine hw_seq (fun Nh18 h18 => ?_)
          refine hw_region ?_
          first
          | refine hq_ 32 (hop_ia_sl el_97 rfl rfl (by first | exact Nat.le_of_ble_eq_true rfl | omega | (dsimp only; omega) | (simp <;> omega)) (by first | exact Nat.le_of_ble_eq_true rfl | omega | (dsimp only; omega) | (simp <;> omega)) (by first | exact Nat.le_of_ble_eq_true rfl | omega | (dsimp only; omega) | (simp <;> omega))) rfl rfl pre0 rfl rfl ?_
          | refine hq_ 32 (hol_ia_os el_97 rfl rfl (by first | exact Nat.le_of_ble_eq_true rfl | omega | (dsimp only; omega) | (simp <;> omega)) (by first | exact Nat.le_of_ble_eq_true rfl | omega | (dsimp only; omega) | (simp <;> omega))) rfl rfl (pre1 rfl) rfl rfl ?_
          first
          | refine hq_ 33 (hol_load ty_100 rfl (by first | exact Nat.le_of_ble_eq_true rfl | omega | (dsimp only; omega) | (simp <;> omega)) (by first | exact Nat.le_of_ble_eq_true rfl | omega | (dsimp only; omega) | (simp <;> omega)) (fun h => by first | rfl | cases h)) rfl rfl (pre1 rfl) rfl rfl ?_
          | refine hq_ 33 (hop_load_fp ty_100 rfl (by first | exact Nat.le_of_ble_eq_true rfl | omega | (dsimp only; omega) | (simp <;> omega)) (fun h => by first | rfl | cases h)) rfl rfl pre0 rfl rfl ?_
          refine hm_1 7 (hop_alloc (id := 7) (sz := 1) zc_100 rfl rfl (by first | exact Nat.le_of_ble_eq_true rfl | omega | (dsimp only; omega) | (simp <;> omega)) (by first | exact Nat.le_of_ble_eq_true rfl | omega | (dsimp only; omega) | (simp <;> omega))) rfl rfl pre0 rfl rfl (c' := 8) rfl ?_
          first
          | refine hm_s1 (hol_storeW ty_100 rfl rfl rfl rfl) rfl rfl (pre1 rfl) (c' := 9) rfl ?_
          | refine hm_s1 (hol_store ty_100 rfl rfl rfl rfl (by first | exact Nat.le_of_ble_eq_true rfl | omega | (dsimp only; omega) | (simp <;> omega)) (by first | exact Nat.le_of_ble_eq_true rfl | omega | (dsimp only; omega) | (simp <;> omega)) (by first | exact Nat.le_of_ble_eq_true rfl | omega | (dsimp only; omega) | (simp <;> omega))) rfl rfl (pre1 rfl) (c' := 9) rfl ?_
          refine hseq_nil ?_
          refine h18 _ ?_
          refine hw_seq (fun Nh19 h19 => ?_)
          refine hw_region ?_
          first
          | refine hq_ 35 (hop_fa fd_100_0 rfl) rfl rfl pre0 rfl rfl ?_
          | refine hq_ 35 (hop_fa_fp fd_100_0 rfl (by first | exact Nat.le_of_ble_eq_true rfl | omega | (dsimp only; omega) | (simp <;> omega))) rfl rfl pre0 rfl rfl ?_
          first
          | refine hq_ 36 (hol_load ty_79 rfl (by first | exact Nat.le_of_ble_eq_true rfl | omega | (dsimp only; omega) | (simp <;> omega)) (by first | exact Nat.le_of_ble_eq_true rfl | omega | (dsimp only; omega) | (simp <;> omega)) (fun h => by first | rfl | cases h)) rfl rfl (pre1 rfl) rfl rfl ?_
          | refine hq_ 36 (hop_load_fp ty_79 rfl (by first | exact Nat.le_of_ble_eq_true rfl | omega | (dsimp only; omega) | (simp <;> omega)) (fun h => by first | rfl | cases h)) rfl rfl pre0 rfl rfl ?_
          first
          | refine hq_ 37 (hol_load ty_77 rfl (by first | exact Nat.le_of_ble_eq_true rfl | omega | (dsimp only; omega) | (simp <;> omega)) (by first | exact Nat.le_of_ble_eq_true rfl | omega | (dsimp only; omega) | (simp <;> omega)) (fun h => by first | rfl | cases h)) rfl rfl (pre1 rfl) rfl rfl ?_
          | refine hq_ 37 (hop_load_fp ty_77 rfl (by first | exact Nat.le_of_ble_eq_true rfl | omega | (dsimp only; omega) | (simp <;> omega)) (fun h => by first | rfl | cases h)) rfl rfl pre0 rfl rfl ?_
          first
          | refine hq_ 38 (hol_load ty_77 rfl (by first | exact Nat.le_of_ble_eq_true rfl | omega | (dsimp only; omega) | (simp <;> omega)) (by first | exact Nat.le_of_ble_eq_true rfl | omega | (dsimp only; omega) | (simp <;> omega)) (fun h => by first | rfl | cases h)) rfl rfl (pre1 rfl) rfl rfl ?_
          | refine hq_ 38 (hop_load_fp ty_77 rfl (by first | exact Nat.le_of_ble_eq_true rfl | omega | (dsimp only; omega) | (simp <;> omega)) (fun h => by first | rfl | cases h)) rfl rfl pre0 rfl rfl ?_
          refine hq_ 39 (hop_callv0 (xs := [_, _]) (cs := []) (behind_h a b Option.none (by rw [if_neg hq]) (by omega) (by omega)) rfl rfl (fun i hi => by first | rfl | (cases i <;> first | rfl | (simp at hi))) ⟨rfl, ⟨rfl, trivial⟩⟩ ⟨(Fz.eq rfl), ⟨(Fz.eq rfl), trivial⟩⟩) rfl rfl pre0 rfl rfl ?_
          refine hq_ 34 (hop_move rfl) rfl rfl pre0 rfl rfl ?_
          refine hq_ 40 (hop_extract rfl rfl) rfl rfl pre0 rfl rfl ?_
          refine hq_ 41 (hop_extract rfl rfl) rfl rfl pre0 rfl rfl ?_
          refine hm_1 8 (hop_alloc (id := 8) (sz := 10) zc_77 rfl rfl (by first | exact Nat.le_of_ble_eq_true rfl | omega | (dsimp only; omega) | (simp <;> omega)) (by first | exact Nat.le_of_ble_eq_true rfl | omega | (dsimp only; omega) | (simp <;> omega))) rfl rfl pre0 rfl rfl (c' := 10) rfl ?_
          first
          | refine hm_s1 (hol_storeW ty_77 rfl rfl rfl rfl) rfl rfl (pre1 rfl) (c' := 11) rfl ?_
          | refine hm_s1 (hol_store ty_77 rfl rfl rfl rfl (by first | exact Nat.le_of_ble_eq_true rfl | omega | (dsimp only; omega) | (simp <;> omega)) (by first | exact Nat.le_of_ble_eq_true rfl | omega | (dsimp only; omega) | (simp <;> omega)) (by first | exact Nat.le_of_ble_eq_true rfl | omega | (dsimp only; omega) | (simp <;> omega))) rfl rfl (pre1 rfl) (c' := 11) rfl ?_
          refine hq_ 9 (hop_assign rfl) rfl rfl pre0 rfl rfl ?_
          refine hseq_nil ?_
          refine h19 _ ?_
          refine hw_seq (fun Nh20 h20 => ?_)
          refine hw_region ?_
          refine hq_ 42 (hop_move rfl) rfl rfl pre0 rfl rfl ?_
          refine hseq_nil ?_
          refine h20 _ ?_
          refine hw_cond _ rfl (fun hc2 => ?_) (fun hc2 => ?_)
          · have hr2 := hc2; (try simp only [decide_eq_true_eq, decide_eq_false_iff_not, Bool.and_eq_true, Bool.or_eq_true, Bool.not_eq_true', Bool.or_eq_false_iff, beq_iff_eq, bne_iff_ne, ne_eq, beq_eq_false_iff_ne, bne_eq_false_iff_eq, Bool.not_eq_true, Bool.not_eq_false, Bool.not_eq_false', Int.toNat_natCast, Int.reduceToNat] at hc2)
            exfalso; cases hr2
          · have hr2 := hc2; (try simp only [decide_eq_true_eq, decide_eq_false_iff_not, Bool.and_eq_true, Bool.or_eq_true, Bool.not_eq_true', Bool.or_eq_false_iff, beq_iff_eq, bne_iff_ne, ne_eq, beq_eq_false_iff_ne, bne_eq_false_iff_eq, Bool.not_eq_true, Bool.not_eq_false, Bool.not_eq_false', Int.toNat_natCast, Int.reduceToNat] at hc2)
            refine hw_skip ?_
            refine hq_block ?_
            refine h17 _ ?_
            refine hw_region ?_
            first
            | refine hq_ 48 (hop_addi rfl rfl rfl (by first | exact Nat.le_of_ble_eq_true rfl | omega | (dsimp only; omega) | (simp <;> omega)) (by first | exact Nat.le_of_ble_eq_true rfl | omega | (dsimp only; omega) | (simp <;> omega))) rfl rfl pre0 rfl rfl ?_
            | refine hq_ 48 (hop_add rfl rfl) rfl rfl pre0 rfl rfl ?_
            refine hq_ 30 (hop_move rfl) rfl rfl pre0 rfl rfl ?_
            refine hseq_nil ?_
            refine hU14 _ ?_
            refine hr_succ (fun NhU21 hU21 => ?_)
            refine hw_seq (fun Nh22 h22 => ?_)
            refine hw_region ?_
            refine hq_ 31 (hop_lss rfl rfl) rfl rfl pre0 rfl rfl ?_
            refine hseq_nil ?_
            refine h22 _ ?_
            refine hw_seq (fun Nh23 h23 => ?_)
            refine hw_cond _ rfl (fun hc1 => ?_) (fun hc1 => ?_)
            · have hr1 := hc1; (try simp only [decide_eq_true_eq, decide_eq_false_iff_not, Bool.and_eq_true, Bool.or_eq_true, Bool.not_eq_true', Bool.or_eq_false_iff, beq_iff_eq, bne_iff_ne, ne_eq, beq_eq_false_iff_ne, bne_eq_false_iff_eq, Bool.not_eq_true, Bool.not_eq_false, Bool.not_eq_false', Int.toNat_natCast, Int.reduceToNat] at hc1)
              exfalso; simp at hr1
            · have hr1 := hc1; (try simp only [decide_eq_true_eq, decide_eq_false_iff_not, Bool.and_eq_true, Bool.or_eq_true, Bool.not_eq_true', Bool.or_eq_false_iff, beq_iff_eq, bne_iff_ne, ne_eq, beq_eq_false_iff_ne, bne_eq_false_iff_eq, Bool.not_eq_true, Bool.not_eq_false, Bool.not_eq_false', Int.toNat_natCast, Int.reduceToNat] at hc1)
              refine hw_exit ?_
              refine hq_then_exit ?_
              refine hq_then_exit ?_
              refine hq_block_here ?_
              refine h5 _ ?_
              refine hw_seq (fun Nh24 h24 => ?_)
              refine hw_region ?_
              refine hq_ 49 (hop_build (hs := []) st_77 rfl rfl trivial) rfl rfl pre0 rfl rfl ?_
              first
              | refine hm_s1 (hol_storeW ty_77 rfl rfl rfl rfl) rfl rfl (pre1 rfl) (c' := 12) rfl ?_
              | refine hm_s1 (hol_store ty_77 rfl rfl rfl rfl (by first | exact Nat.le_of_ble_eq_true rfl | omega | (dsimp only; omega) | (simp <;> omega)) (by first | exact Nat.le_of_ble_eq_true rfl | omega | (dsimp only; omega) | (simp <;> omega)) (by first | exact Nat.le_of_ble_eq_true rfl | omega | (dsimp only; omega) | (simp <;> omega))) rfl rfl (pre1 rfl) (c' := 12) rfl ?_
              refine hq_ 5 (hop_assign rfl) rfl rfl pre0 rfl rfl ?_
              refine hseq_nil ?_
              refine h24 _ ?_
              refine hw_ret ?_
              refine hq_ret2 rfl (rvl_cell rfl rfl ty_77 (fun h => by first | rfl | cases h) rfl rfl) (rval_tmp rfl) [] rfl pre0 ?_
              obtain rfl : Option.none = o := (by rw [← ho, two_w s1 s2 s3]; unfold St.weld; rw [if_pos hk, if_neg hp, if_neg hq]); exact fz_t2 (fz_agg10 (by first | exact .imm _ | exact .nil _ _ _ (by decide) _ | exact fz_toks _ | exact fz_mkss _ | exact Frz.fz) (by first | exact .imm _ | exact .nil _ _ _ (by decide) _ | exact fz_toks _ | exact fz_mkss _ | exact Frz.fz) (by first | exact .imm _ | exact .nil _ _ _ (by decide) _ | exact fz_toks _ | exact fz_mkss _ | exact Frz.fz) (by first | exact .imm _ | exact .nil _ _ _ (by decide) _ | exact fz_toks _ | exact fz_mkss _ | exact Frz.fz) (by first | exact .imm _ | exact .nil _ _ _ (by decide) _ | exact fz_toks _ | exact fz_mkss _ | exact Frz.fz) (by first | exact .imm _ | exact .nil _ _ _ (by decide) _ | exact fz_toks _ | exact fz_mkss _ | exact Frz.fz) (by first | exact .imm _ | exact .nil _ _ _ (by decide) _ | exact fz_toks _ | exact fz_mkss _ | exact Frz.fz) (by first | exact .imm _ | exact .nil _ _ _ (by decide) _ | exact fz_toks _ | exact fz_mkss _ | exact Frz.fz) (by first | exact .imm _ | exact .nil _ _ _ (by decide) _ | exact fz_toks _ | exact fz_mkss _ | exact Frz.fz) (by first | exact .imm _ | exact .nil _ _ _ (by decide) _ | exact fz_toks _ | exact fz_mkss _ | exact Frz.fz)) (.imm _)
        · have hr1 := hc1; (try simp only [decide_eq_true_eq, decide_eq_false_iff_not, Bool.and_eq_true, Bool.or_eq_true, Bool.not_eq_true', Bool.or_eq_false_iff, beq_iff_eq, bne_iff_ne, ne_eq, beq_eq_false_iff_ne, bne_eq_false_iff_eq, Bool.not_eq_true, Bool.not_eq_false, Bool.not_eq_false', Int.toNat_natCast, Int.reduceToNat] at hc1)
          exfalso; simp at hr1
    · have hr1 := hc1; (try simp only [decide_eq_true_eq, decide_eq_false_iff_not, Bool.and_eq_true, Bool.or_eq_true, Bool.not_eq_true', Bool.or_eq_false_iff, beq_iff_eq, bne_iff_ne, ne_eq, beq_eq_false_iff_ne, bne_eq_false_iff_eq, Bool.not_eq_true, Bool.not_eq_false, Bool.not_eq_false', Int.toNat_natCast, Int.reduceToNat] at hc1)
      exfalso; simp at hr1
theorem marked_is {a b : St} (hs : a.shape = true) (hk : a.k = 3 ∨ a.k = 4) : a.marked' b = a.marked b := by
  obtain ⟨h1, h2, h3, h4, h5⟩ := shape_mark hs hk
  unfold St.marked' St.marked
  rw [h1, h2, h3, h4, h5]
theorem Two_3a (a b : St) (hk : a.k = 3 ∨ a.k = 4) (hp : a.same b = true) (o : Option St) (ho : a.two b = o) (l1 : a.sl.length ≤ 20000) (l2 : b.sl.length ≤ 20000) (l3 : a.sets.length ≤ 20000) (l4 : b.sets.length ≤ 20000) : HPure Try.prog 30 [stV a, stV b] (optV o) := by
  have k1 : ¬ a.k = 1 := by omega
  refine hpure_of Try.func30 rfl (by kernel_rfl) _ _ _ rfl 50 rfl rfl (fun w F => ?_)
  refine hw_seq (fun Nh1 h1 => ?_)
  refine hw_region ?_
  refine hm_1 2 (hop_box (id := 2) (sz := 10) rfl rfl rfl (by first | exact Nat.le_of_ble_eq_true rfl | omega | (dsimp only; omega) | (simp <;> omega)) (by first | exact Nat.le_of_ble_eq_true rfl | omega | (dsimp only; omega) | (simp <;> omega))) rfl rfl pre0 rfl rfl (c' := 1) rfl ?_
  refine hm_1 3 (hop_box (id := 3) (sz := 10) rfl rfl rfl (by first | exact Nat.le_of_ble_eq_true rfl | omega | (dsimp only; omega) | (simp <;> omega)) (by first | exact Nat.le_of_ble_eq_true rfl | omega | (dsimp only; omega) | (simp <;> omega))) rfl rfl pre0 rfl rfl (c' := 2) rfl ?_
  refine hm_1 4 (hop_alloc (id := 4) (sz := 10) zc_77 rfl rfl (by first | exact Nat.le_of_ble_eq_true rfl | omega | (dsimp only; omega) | (simp <;> omega)) (by first | exact Nat.le_of_ble_eq_true rfl | omega | (dsimp only; omega) | (simp <;> omega))) rfl rfl pre0 rfl rfl (c' := 3) rfl ?_
  refine hq_ 5 (hop_assign rfl) rfl rfl pre0 rfl rfl ?_
  refine hseq_nil ?_
  refine h1 _ ?_
  refine hw_seq (fun Nh2 h2 => ?_)
  refine hw_seq (fun Nh3 h3 => ?_)
  refine hw_region ?_
  first
  | refine hq_ 10 (hop_fa fd_77_0 rfl) rfl rfl pre0 rfl rfl ?_
  | refine hq_ 10 (hop_fa_fp fd_77_0 rfl (by first | exact Nat.le_of_ble_eq_true rfl | omega | (dsimp only; omega) | (simp <;> omega))) rfl rfl pre0 rfl rfl ?_
  first
  | refine hq_ 11 (hol_load ty_3 rfl (by first | exact Nat.le_of_ble_eq_true rfl | omega | (dsimp only; omega) | (simp <;> omega)) (by first | exact Nat.le_of_ble_eq_true rfl | omega | (dsimp only; omega) | (simp <;> omega)) (fun h => by first | rfl | cases h)) rfl rfl (pre1 rfl) rfl rfl ?_
  | refine hq_ 11 (hop_load_fp ty_3 rfl (by first | exact Nat.le_of_ble_eq_true rfl | omega | (dsimp only; omega) | (simp <;> omega)) (fun h => by first | rfl | cases h)) rfl rfl pre0 rfl rfl ?_
  first
  | refine hq_ 12 (hop_fa fd_77_0 rfl) rfl rfl pre0 rfl rfl ?_
  | refine hq_ 12 (hop_fa_fp fd_77_0 rfl (by first | exact Nat.le_of_ble_eq_true rfl | omega | (dsimp only; omega) | (simp <;> omega))) rfl rfl pre0 rfl rfl ?_
  first
  | refine hq_ 13 (hol_load ty_3 rfl (by first | exact Nat.le_of_ble_eq_true rfl | omega | (dsimp only; omega) | (simp <;> omega)) (by first | exact Nat.le_of_ble_eq_true rfl | omega | (dsimp only; omega) | (simp <;> omega)) (fun h => by first | rfl | cases h)) rfl rfl (pre1 rfl) rfl rfl ?_
  | refine hq_ 13 (hop_load_fp ty_3 rfl (by first | exact Nat.le_of_ble_eq_true rfl | omega | (dsimp only; omega) | (simp <;> omega)) (fun h => by first | rfl | cases h)) rfl rfl pre0 rfl rfl ?_
  refine hq_ 14 (hop_neq rfl rfl) rfl rfl pre0 rfl rfl ?_
  refine hq_ 15 (hop_move rfl) rfl rfl pre0 rfl rfl ?_
  first
  | refine hq_g 16 5 15 false _ (fun hb => hol_load ty_77 rfl (by first | exact Nat.le_of_ble_eq_true rfl | (simp at hb; first | omega | (dsimp only; omega) | (simp <;> omega))) (by first | exact Nat.le_of_ble_eq_true rfl | (simp at hb; first | omega | (dsimp only; omega) | (simp <;> omega))) (fun h => by first | rfl | cases h)) rfl rfl rfl rfl (pre1 rfl) rfl rfl rfl ?_
  | refine hq_g2 16 5 15 _ _ false _ (fun hb => hol_load ty_77 rfl (by first | exact Nat.le_of_ble_eq_true rfl | (simp at hb; first | omega | (dsimp only; omega) | (simp <;> omega))) (by first | exact Nat.le_of_ble_eq_true rfl | (simp at hb; first | omega | (dsimp only; omega) | (simp <;> omega))) (fun h => by first | rfl | cases h)) rfl rfl rfl rfl (pre1 rfl) rfl rfl rfl ?_
  | refine hq_g 16 5 15 false _ (fun hb => hop_load_fp ty_77 rfl (by first | exact Nat.le_of_ble_eq_true rfl | (simp at hb; first | omega | (dsimp only; omega) | (simp <;> omega))) (fun h => by first | rfl | cases h)) rfl rfl rfl rfl pre0 rfl rfl rfl ?_
  | refine hq_g2 16 5 15 _ _ false _ (fun hb => hop_load_fp ty_77 rfl (by first | exact Nat.le_of_ble_eq_true rfl | (simp at hb; first | omega | (dsimp only; omega) | (simp <;> omega))) (fun h => by first | rfl | cases h)) rfl rfl rfl rfl pre0 rfl rfl rfl ?_
  first
  | refine hq_g 17 5 15 false _ (fun hb => hop_call0 (xs := [_]) (shape_h a (by omega) (by omega)) ⟨rfl, trivial⟩ ⟨(Fz.eq rfl), trivial⟩) rfl rfl rfl rfl pre0 rfl rfl rfl ?_
  | refine hq_g2 17 5 15 _ _ false _ (fun hb => hop_call0 (xs := [_]) (shape_h a (by omega) (by omega)) ⟨rfl, trivial⟩ ⟨(Fz.eq rfl), trivial⟩) rfl rfl rfl rfl pre0 rfl rfl rfl ?_
  first
  | refine hq_g 18 5 15 false _ (fun hb => hop_not rfl) rfl rfl rfl rfl pre0 rfl rfl rfl ?_
  | refine hq_g2 18 5 15 _ _ false _ (fun hb => hop_not rfl) rfl rfl rfl rfl pre0 rfl rfl rfl ?_
  first
  | refine hq_p 19 (hstep_and _ _ rfl rfl rfl) rfl rfl rfl ?_
  | refine hq_p 19 (hstep_or _ _ rfl rfl rfl) rfl rfl rfl ?_
  | refine hq_p 19 (hstep_ite _ _ _ rfl rfl rfl) rfl rfl rfl ?_
  | refine hq_p 19 (hstep_pick _ _ _ _ rfl rfl rfl (fun _ => .refl _) (fun _ => .refl _)) rfl rfl rfl ?_
  refine hq_ 20 (hop_move rfl) rfl rfl pre0 rfl rfl ?_
  first
  | refine hq_g 21 10 20 false _ (fun hb => hol_load ty_77 rfl (by first | exact Nat.le_of_ble_eq_true rfl | (simp at hb; first | omega | (dsimp only; omega) | (simp <;> omega))) (by first | exact Nat.le_of_ble_eq_true rfl | (simp at hb; first | omega | (dsimp only; omega) | (simp <;> omega))) (fun h => by first | rfl | cases h)) rfl rfl rfl rfl (pre1 rfl) rfl rfl rfl ?_
  | refine hq_g2 21 10 20 _ _ false _ (fun hb => hol_load ty_77 rfl (by first | exact Nat.le_of_ble_eq_true rfl | (simp at hb; first | omega | (dsimp only; omega) | (simp <;> omega))) (by first | exact Nat.le_of_ble_eq_true rfl | (simp at hb; first | omega | (dsimp only; omega) | (simp <;> omega))) (fun h => by first | rfl | cases h)) rfl rfl rfl rfl (pre1 rfl) rfl rfl rfl ?_
  | refine hq_g 21 10 20 false _ (fun hb => hop_load_fp ty_77 rfl (by first | exact Nat.le_of_ble_eq_true rfl | (simp at hb; first | omega | (dsimp only; omega) | (simp <;> omega))) (fun h => by first | rfl | cases h)) rfl rfl rfl rfl pre0 rfl rfl rfl ?_
  | refine hq_g2 21 10 20 _ _ false _ (fun hb => hop_load_fp ty_77 rfl (by first | exact Nat.le_of_ble_eq_true rfl | (simp at hb; first | omega | (dsimp only; omega) | (simp <;> omega))) (fun h => by first | rfl | cases h)) rfl rfl rfl rfl pre0 rfl rfl rfl ?_
  first
  | refine hq_g 22 10 20 false _ (fun hb => hop_call0 (xs := [_]) (shape_h b (by omega) (by omega)) ⟨rfl, trivial⟩ ⟨(Fz.eq rfl), trivial⟩) rfl rfl rfl rfl pre0 rfl rfl rfl ?_
  | refine hq_g2 22 10 20 _ _ false _ (fun hb => hop_call0 (xs := [_]) (shape_h b (by omega) (by omega)) ⟨rfl, trivial⟩ ⟨(Fz.eq rfl), trivial⟩) rfl rfl rfl rfl pre0 rfl rfl rfl ?_
  first
  | refine hq_g 23 10 20 false _ (fun hb => hop_not rfl) rfl rfl rfl rfl pre0 rfl rfl rfl ?_
  | refine hq_g2 23 10 20 _ _ false _ (fun hb => hop_not rfl) rfl rfl rfl rfl pre0 rfl rfl rfl ?_
  first
  | refine hq_p 24 (hstep_and _ _ rfl rfl rfl) rfl rfl rfl ?_
  | refine hq_p 24 (hstep_or _ _ rfl rfl rfl) rfl rfl rfl ?_
  | refine hq_p 24 (hstep_ite _ _ _ rfl rfl rfl) rfl rfl rfl ?_
  | refine hq_p 24 (hstep_pick _ _ _ _ rfl rfl rfl (fun _ => .refl _) (fun _ => .refl _)) rfl rfl rfl ?_
  refine hseq_nilU (by rfl) (by simp only [dropUn, slots]; exact rfl) ?_
  refine h3 _ ?_
  refine hw_cond _ rfl (fun hc0 => ?_) (fun hc0 => ?_)
  · have hr0 := hc0; (try simp only [decide_eq_true_eq, decide_eq_false_iff_not, Bool.and_eq_true, Bool.or_eq_true, Bool.not_eq_true', Bool.or_eq_false_iff, beq_iff_eq, bne_iff_ne, ne_eq, beq_eq_false_iff_ne, bne_eq_false_iff_eq, Bool.not_eq_true, Bool.not_eq_false, Bool.not_eq_false', Int.toNat_natCast, Int.reduceToNat] at hc0)
    refine hw_seq (fun Nh4 h4 => ?_)
    refine hw_region ?_
    refine hq_ 25 (hop_build (hs := []) st_77 rfl rfl trivial) rfl rfl pre0 rfl rfl ?_
    first
    | refine hm_s1 (hol_storeW ty_77 rfl rfl rfl rfl) rfl rfl (pre1 rfl) (c' := 4) rfl ?_
    | refine hm_s1 (hol_store ty_77 rfl rfl rfl rfl (by first | exact Nat.le_of_ble_eq_true rfl | omega | (dsimp only; omega) | (simp <;> omega)) (by first | exact Nat.le_of_ble_eq_true rfl | omega | (dsimp only; omega) | (simp <;> omega)) (by first | exact Nat.le_of_ble_eq_true rfl | omega | (dsimp only; omega) | (simp <;> omega))) rfl rfl (pre1 rfl) (c' := 4) rfl ?_
    refine hq_ 5 (hop_assign rfl) rfl rfl pre0 rfl rfl ?_
    refine hseq_nil ?_
    refine h4 _ ?_
    refine hw_ret ?_
    refine hq_then_ret ?_
    refine hq_ret2 rfl (rvl_cell rfl rfl ty_77 (fun h => by first | rfl | cases h) rfl rfl) (rval_tmp rfl) [] rfl pre0 ?_
    obtain rfl : Option.none = o := (by rw [← ho]; exact (two_no rfl rfl rfl hr0).symm); exact fz_t2 (fz_agg10 (by first | exact .imm _ | exact .nil _ _ _ (by decide) _ | exact fz_toks _ | exact fz_mkss _ | exact Frz.fz) (by first | exact .imm _ | exact .nil _ _ _ (by decide) _ | exact fz_toks _ | exact fz_mkss _ | exact Frz.fz) (by first | exact .imm _ | exact .nil _ _ _ (by decide) _ | exact fz_toks _ | exact fz_mkss _ | exact Frz.fz) (by first | exact .imm _ | exact .nil _ _ _ (by decide) _ | exact fz_toks _ | exact fz_mkss _ | exact Frz.fz) (by first | exact .imm _ | exact .nil _ _ _ (by decide) _ | exact fz_toks _ | exact fz_mkss _ | exact Frz.fz) (by first | exact .imm _ | exact .nil _ _ _ (by decide) _ | exact fz_toks _ | exact fz_mkss _ | exact Frz.fz) (by first | exact .imm _ | exact .nil _ _ _ (by decide) _ | exact fz_toks _ | exact fz_mkss _ | exact Frz.fz) (by first | exact .imm _ | exact .nil _ _ _ (by decide) _ | exact fz_toks _ | exact fz_mkss _ | exact Frz.fz) (by first | exact .imm _ | exact .nil _ _ _ (by decide) _ | exact fz_toks _ | exact fz_mkss _ | exact Frz.fz) (by first | exact .imm _ | exact .nil _ _ _ (by decide) _ | exact fz_toks _ | exact fz_mkss _ | exact Frz.fz)) (.imm _)
  · have hr0 := hc0; (try simp only [decide_eq_true_eq, decide_eq_false_iff_not, Bool.and_eq_true, Bool.or_eq_true, Bool.not_eq_true', Bool.or_eq_false_iff, beq_iff_eq, bne_iff_ne, ne_eq, beq_eq_false_iff_ne, bne_eq_false_iff_eq, Bool.not_eq_true, Bool.not_eq_false, Bool.not_eq_false', Int.toNat_natCast, Int.reduceToNat] at hc0)
    obtain ⟨s1, s2, s3⟩ := two_yes hr0; obtain ⟨q1, q2, q3, q4, q5⟩ := shape_in s2; obtain ⟨r1, r2, r3, r4, r5⟩ := shape_in s3
    refine hw_skip ?_
    refine h2 _ ?_
    refine hw_seq (fun Nh5 h5 => ?_)
    refine hw_seq (fun Nh6 h6 => ?_)
    refine hw_region ?_
    first
    | refine hq_ 26 (hop_fa fd_77_0 rfl) rfl rfl pre0 rfl rfl ?_
    | refine hq_ 26 (hop_fa_fp fd_77_0 rfl (by first | exact Nat.le_of_ble_eq_true rfl | omega | (dsimp only; omega) | (simp <;> omega))) rfl rfl pre0 rfl rfl ?_
    first
    | refine hq_ 27 (hol_load ty_3 rfl (by first | exact Nat.le_of_ble_eq_true rfl | omega | (dsimp only; omega) | (simp <;> omega)) (by first | exact Nat.le_of_ble_eq_true rfl | omega | (dsimp only; omega) | (simp <;> omega)) (fun h => by first | rfl | cases h)) rfl rfl (pre1 rfl) rfl rfl ?_
    | refine hq_ 27 (hop_load_fp ty_3 rfl (by first | exact Nat.le_of_ble_eq_true rfl | omega | (dsimp only; omega) | (simp <;> omega)) (fun h => by first | rfl | cases h)) rfl rfl pre0 rfl rfl ?_
    refine hq_ 28 (hop_call0 (xs := [_]) (ways3_h a.k hk) ⟨rfl, trivial⟩ ⟨(Fz.eq rfl), trivial⟩) rfl rfl pre0 rfl rfl ?_
    first
    | refine hq_ 29 (hop_len_sl (T := 97) rfl (elOf_spec el_97).1 rfl) rfl rfl pre0 rfl rfl ?_
    | refine hq_ 29 (hop_len_os (T := 97) rfl (elOf_spec el_97).1 rfl) rfl rfl pre0 rfl rfl ?_
    | refine hq_ 29 (hop_len_nil (T := 97) rfl (elOf_spec el_97).1 rfl) rfl rfl pre0 rfl rfl ?_
    refine hq_ 30 (hop_move rfl) rfl rfl pre0 rfl rfl ?_
    refine hseq_nil ?_
    refine h6 _ ?_
    refine hw_block ?_
    refine hw_rounds 2 ?_
    refine hr_succ (fun NhU7 hU7 => ?_)
    refine hw_seq (fun Nh8 h8 => ?_)
    refine hw_region ?_
    refine hq_ 31 (hop_lss rfl rfl) rfl rfl pre0 rfl rfl ?_
    refine hseq_nil ?_
    refine h8 _ ?_
    refine hw_seq (fun Nh9 h9 => ?_)
    refine hw_cond _ rfl (fun hc1 => ?_) (fun hc1 => ?_)
    · have hr1 := hc1; (try simp only [decide_eq_true_eq, decide_eq_false_iff_not, Bool.and_eq_true, Bool.or_eq_true, Bool.not_eq_true', Bool.or_eq_false_iff, beq_iff_eq, bne_iff_ne, ne_eq, beq_eq_false_iff_ne, bne_eq_false_iff_eq, Bool.not_eq_true, Bool.not_eq_false, Bool.not_eq_false', Int.toNat_natCast, Int.reduceToNat] at hc1)
      refine hw_skip ?_
      refine h9 _ ?_
      refine hw_seq (fun Nh10 h10 => ?_)
      refine hw_block ?_
      refine hw_seq (fun Nh11 h11 => ?_)
      refine hw_region ?_
      first
      | refine hq_ 32 (hop_ia_sl el_97 rfl rfl (by first | exact Nat.le_of_ble_eq_true rfl | omega | (dsimp only; omega) | (simp <;> omega)) (by first | exact Nat.le_of_ble_eq_true rfl | omega | (dsimp only; omega) | (simp <;> omega)) (by first | exact Nat.le_of_ble_eq_true rfl | omega | (dsimp only; omega) | (simp <;> omega))) rfl rfl pre0 rfl rfl ?_
      | refine hq_ 32 (hol_ia_os el_97 rfl rfl (by first | exact Nat.le_of_ble_eq_true rfl | omega | (dsimp only; omega) | (simp <;> omega)) (by first | exact Nat.le_of_ble_eq_true rfl | omega | (dsimp only; omega) | (simp <;> omega))) rfl rfl (pre1 rfl) rfl rfl ?_
      first
      | refine hq_ 33 (hol_load ty_100 rfl (by first | exact Nat.le_of_ble_eq_true rfl | omega | (dsimp only; omega) | (simp <;> omega)) (by first | exact Nat.le_of_ble_eq_true rfl | omega | (dsimp only; omega) | (simp <;> omega)) (fun h => by first | rfl | cases h)) rfl rfl (pre1 rfl) rfl rfl ?_
      | refine hq_ 33 (hop_load_fp ty_100 rfl (by first | exact Nat.le_of_ble_eq_true rfl | omega | (dsimp only; omega) | (simp <;> omega)) (fun h => by first | rfl | cases h)) rfl rfl pre0 rfl rfl ?_
      refine hm_1 7 (hop_alloc (id := 7) (sz := 1) zc_100 rfl rfl (by first | exact Nat.le_of_ble_eq_true rfl | omega | (dsimp only; omega) | (simp <;> omega)) (by first | exact Nat.le_of_ble_eq_true rfl | omega | (dsimp only; omega) | (simp <;> omega))) rfl rfl pre0 rfl rfl (c' := 4) rfl ?_
      first
      | refine hm_s1 (hol_storeW ty_100 rfl rfl rfl rfl) rfl rfl (pre1 rfl) (c' := 5) rfl ?_
      | refine hm_s1 (hol_store ty_100 rfl rfl rfl rfl (by first | exact Nat.le_of_ble_eq_true rfl | omega | (dsimp only; omega) | (simp <;> omega)) (by first | exact Nat.le_of_ble_eq_true rfl | omega | (dsimp only; omega) | (simp <;> omega)) (by first | exact Nat.le_of_ble_eq_true rfl | omega | (dsimp only; omega) | (simp <;> omega))) rfl rfl (pre1 rfl) (c' := 5) rfl ?_
      refine hseq_nil ?_
      refine h11 _ ?_
      refine hw_seq (fun Nh12 h12 => ?_)
      refine hw_region ?_
      first
      | refine hq_ 35 (hop_fa fd_100_0 rfl) rfl rfl pre0 rfl rfl ?_
      | refine hq_ 35 (hop_fa_fp fd_100_0 rfl (by first | exact Nat.le_of_ble_eq_true rfl | omega | (dsimp only; omega) | (simp <;> omega))) rfl rfl pre0 rfl rfl ?_
      first
      | refine hq_ 36 (hol_load ty_79 rfl (by first | exact Nat.le_of_ble_eq_true rfl | omega | (dsimp only; omega) | (simp <;> omega)) (by first | exact Nat.le_of_ble_eq_true rfl | omega | (dsimp only; omega) | (simp <;> omega)) (fun h => by first | rfl | cases h)) rfl rfl (pre1 rfl) rfl rfl ?_
      | refine hq_ 36 (hop_load_fp ty_79 rfl (by first | exact Nat.le_of_ble_eq_true rfl | omega | (dsimp only; omega) | (simp <;> omega)) (fun h => by first | rfl | cases h)) rfl rfl pre0 rfl rfl ?_
      first
      | refine hq_ 37 (hol_load ty_77 rfl (by first | exact Nat.le_of_ble_eq_true rfl | omega | (dsimp only; omega) | (simp <;> omega)) (by first | exact Nat.le_of_ble_eq_true rfl | omega | (dsimp only; omega) | (simp <;> omega)) (fun h => by first | rfl | cases h)) rfl rfl (pre1 rfl) rfl rfl ?_
      | refine hq_ 37 (hop_load_fp ty_77 rfl (by first | exact Nat.le_of_ble_eq_true rfl | omega | (dsimp only; omega) | (simp <;> omega)) (fun h => by first | rfl | cases h)) rfl rfl pre0 rfl rfl ?_
      first
      | refine hq_ 38 (hol_load ty_77 rfl (by first | exact Nat.le_of_ble_eq_true rfl | omega | (dsimp only; omega) | (simp <;> omega)) (by first | exact Nat.le_of_ble_eq_true rfl | omega | (dsimp only; omega) | (simp <;> omega)) (fun h => by first | rfl | cases h)) rfl rfl (pre1 rfl) rfl rfl ?_
      | refine hq_ 38 (hop_load_fp ty_77 rfl (by first | exact Nat.le_of_ble_eq_true rfl | omega | (dsimp only; omega) | (simp <;> omega)) (fun h => by first | rfl | cases h)) rfl rfl pre0 rfl rfl ?_
      refine hq_ 39 (hop_callv0 (xs := [_, _]) (cs := []) (marked_h a b (some (a.marked b)) (by rw [if_pos hp, marked_is s2 hk])) rfl rfl (fun i hi => by first | rfl | (cases i <;> first | rfl | (simp at hi))) ⟨rfl, ⟨rfl, trivial⟩⟩ ⟨(Fz.eq rfl), ⟨(Fz.eq rfl), trivial⟩⟩) rfl rfl pre0 rfl rfl ?_
      refine hq_ 34 (hop_move rfl) rfl rfl pre0 rfl rfl ?_
      refine hq_ 40 (hop_extract rfl rfl) rfl rfl pre0 rfl rfl ?_
      refine hq_ 41 (hop_extract rfl rfl) rfl rfl pre0 rfl rfl ?_
      refine hm_1 8 (hop_alloc (id := 8) (sz := 10) zc_77 rfl rfl (by first | exact Nat.le_of_ble_eq_true rfl | omega | (dsimp only; omega) | (simp <;> omega)) (by first | exact Nat.le_of_ble_eq_true rfl | omega | (dsimp only; omega) | (simp <;> omega))) rfl rfl pre0 rfl rfl (c' := 6) rfl ?_
      first
      | refine hm_s1 (hol_storeW ty_77 rfl rfl rfl rfl) rfl rfl (pre1 rfl) (c' := 7) rfl ?_
      | refine hm_s1 (hol_store ty_77 rfl rfl rfl rfl (by first | exact Nat.le_of_ble_eq_true rfl | omega | (dsimp only; omega) | (simp <;> omega)) (by first | exact Nat.le_of_ble_eq_true rfl | omega | (dsimp only; omega) | (simp <;> omega)) (by first | exact Nat.le_of_ble_eq_true rfl | omega | (dsimp only; omega) | (simp <;> omega))) rfl rfl (pre1 rfl) (c' := 7) rfl ?_
      refine hq_ 9 (hop_assign rfl) rfl rfl pre0 rfl rfl ?_
      refine hseq_nil ?_
      refine h12 _ ?_
      refine hw_seq (fun Nh13 h13 => ?_)
      refine hw_region ?_
      refine hq_ 42 (hop_move rfl) rfl rfl pre0 rfl rfl ?_
      refine hseq_nil ?_
      refine h13 _ ?_
      refine hw_cond _ rfl (fun hc2 => ?_) (fun hc2 => ?_)
      · have hr2 := hc2; (try simp only [decide_eq_true_eq, decide_eq_false_iff_not, Bool.and_eq_true, Bool.or_eq_true, Bool.not_eq_true', Bool.or_eq_false_iff, beq_iff_eq, bne_iff_ne, ne_eq, beq_eq_false_iff_ne, bne_eq_false_iff_eq, Bool.not_eq_true, Bool.not_eq_false, Bool.not_eq_false', Int.toNat_natCast, Int.reduceToNat] at hc2)
        refine hw_seq (fun Nh14 h14 => ?_)
        refine hw_seq (fun Nh15 h15 => ?_)
        refine hw_region ?_
        first
        | refine hq_ 43 (hol_load ty_77 rfl (by first | exact Nat.le_of_ble_eq_true rfl | omega | (dsimp only; omega) | (simp <;> omega)) (by first | exact Nat.le_of_ble_eq_true rfl | omega | (dsimp only; omega) | (simp <;> omega)) (fun h => by first | rfl | cases h)) rfl rfl (pre1 rfl) rfl rfl ?_
        | refine hq_ 43 (hop_load_fp ty_77 rfl (by first | exact Nat.le_of_ble_eq_true rfl | omega | (dsimp only; omega) | (simp <;> omega)) (fun h => by first | rfl | cases h)) rfl rfl pre0 rfl rfl ?_
        refine hq_ 44 (hop_call0 (xs := [_]) (shape_h (a.marked b) (by show ([] : List Tok).length ≤ _; simp) (by show ([] : List Mks).length ≤ _; simp)) ⟨rfl, trivial⟩ ⟨(Fz.eq rfl), trivial⟩) rfl rfl pre0 rfl rfl ?_
        refine hq_ 45 (hop_not rfl) rfl rfl pre0 rfl rfl ?_
        refine hseq_nil ?_
        refine h15 _ ?_
        refine hw_cond _ rfl (fun hc3 => ?_) (fun hc3 => ?_)
        · have hr3 := hc3; (try simp only [decide_eq_true_eq, decide_eq_false_iff_not, Bool.and_eq_true, Bool.or_eq_true, Bool.not_eq_true', Bool.or_eq_false_iff, beq_iff_eq, bne_iff_ne, ne_eq, beq_eq_false_iff_ne, bne_eq_false_iff_eq, Bool.not_eq_true, Bool.not_eq_false, Bool.not_eq_false', Int.toNat_natCast, Int.reduceToNat] at hc3)
          refine hw_seq (fun Nh16 h16 => ?_)
          refine hw_region ?_
          refine hq_ 46 (hop_build (hs := []) st_77 rfl rfl trivial) rfl rfl pre0 rfl rfl ?_
          first
          | refine hm_s1 (hol_storeW ty_77 rfl rfl rfl rfl) rfl rfl (pre1 rfl) (c' := 8) rfl ?_
          | refine hm_s1 (hol_store ty_77 rfl rfl rfl rfl (by first | exact Nat.le_of_ble_eq_true rfl | omega | (dsimp only; omega) | (simp <;> omega)) (by first | exact Nat.le_of_ble_eq_true rfl | omega | (dsimp only; omega) | (simp <;> omega)) (by first | exact Nat.le_of_ble_eq_true rfl | omega | (dsimp only; omega) | (simp <;> omega))) rfl rfl (pre1 rfl) (c' := 8) rfl ?_
          refine hq_ 5 (hop_assign rfl) rfl rfl pre0 rfl rfl ?_
          refine hseq_nil ?_
          refine h16 _ ?_
          refine hw_ret ?_
          refine hq_then_ret ?_
          refine hq_block_ret ?_
          refine hq_then_ret ?_
          refine hq_then_ret ?_
          refine hq_block_ret ?_
          refine hq_then_ret ?_
          refine hq_ret2 rfl (rvl_cell rfl rfl ty_77 (fun h => by first | rfl | cases h) rfl rfl) (rval_tmp rfl) [] rfl pre0 ?_
          obtain rfl : Option.none = o := (by rw [← ho, two_w s1 s2 s3]; unfold St.weld; rw [if_neg k1, if_pos hk, if_pos hp]; simp only; rw [if_neg]; simpa using hr3); exact fz_t2 (fz_agg10 (by first | exact .imm _ | exact .nil _ _ _ (by decide) _ | exact fz_toks _ | exact fz_mkss _ | exact Frz.fz) (by first | exact .imm _ | exact .nil _ _ _ (by decide) _ | exact fz_toks _ | exact fz_mkss _ | exact Frz.fz) (by first | exact .imm _ | exact .nil _ _ _ (by decide) _ | exact fz_toks _ | exact fz_mkss _ | exact Frz.fz) (by first | exact .imm _ | exact .nil _ _ _ (by decide) _ | exact fz_toks _ | exact fz_mkss _ | exact Frz.fz) (by first | exact .imm _ | exact .nil _ _ _ (by decide) _ | exact fz_toks _ | exact fz_mkss _ | exact Frz.fz) (by first | exact .imm _ | exact .nil _ _ _ (by decide) _ | exact fz_toks _ | exact fz_mkss _ | exact Frz.fz) (by first | exact .imm _ | exact .nil _ _ _ (by decide) _ | exact fz_toks _ | exact fz_mkss _ | exact Frz.fz) (by first | exact .imm _ | exact .nil _ _ _ (by decide) _ | exact fz_toks _ | exact fz_mkss _ | exact Frz.fz) (by first | exact .imm _ | exact .nil _ _ _ (by decide) _ | exact fz_toks _ | exact fz_mkss _ | exact Frz.fz) (by first | exact .imm _ | exact .nil _ _ _ (by decide) _ | exact fz_toks _ | exact fz_mkss _ | exact Frz.fz)) (.imm _)
        · have hr3 := hc3; (try simp only [decide_eq_true_eq, decide_eq_false_iff_not, Bool.and_eq_true, Bool.or_eq_true, Bool.not_eq_true', Bool.or_eq_false_iff, beq_iff_eq, bne_iff_ne, ne_eq, beq_eq_false_iff_ne, bne_eq_false_iff_eq, Bool.not_eq_true, Bool.not_eq_false, Bool.not_eq_false', Int.toNat_natCast, Int.reduceToNat] at hc3)
          refine hw_skip ?_
          refine h14 _ ?_
          refine hw_seq (fun Nh17 h17 => ?_)
          refine hw_region ?_
          first
          | refine hq_ 47 (hol_load ty_77 rfl (by first | exact Nat.le_of_ble_eq_true rfl | omega | (dsimp only; omega) | (simp <;> omega)) (by first | exact Nat.le_of_ble_eq_true rfl | omega | (dsimp only; omega) | (simp <;> omega)) (fun h => by first | rfl | cases h)) rfl rfl (pre1 rfl) rfl rfl ?_
          | refine hq_ 47 (hop_load_fp ty_77 rfl (by first | exact Nat.le_of_ble_eq_true rfl | omega | (dsimp only; omega) | (simp <;> omega)) (fun h => by first | rfl | cases h)) rfl rfl pre0 rfl rfl ?_
          first
          | refine hm_s1 (hol_storeW ty_77 rfl rfl rfl rfl) rfl rfl (pre1 rfl) (c' := 8) rfl ?_
          | refine hm_s1 (hol_store ty_77 rfl rfl rfl rfl (by first | exact Nat.le_of_ble_eq_true rfl | omega | (dsimp only; omega) | (simp <;> omega)) (by first | exact Nat.le_of_ble_eq_true rfl | omega | (dsimp only; omega) | (simp <;> omega)) (by first | exact Nat.le_of_ble_eq_true rfl | omega | (dsimp only; omega) | (simp <;> omega))) rfl rfl (pre1 rfl) (c' := 8) rfl ?_
          refine hq_ 5 (hop_assign rfl) rfl rfl pre0 rfl rfl ?_
          refine hseq_nil ?_
          refine h17 _ ?_
          refine hw_ret ?_
          refine hq_block_ret ?_
          refine hq_then_ret ?_
          refine hq_then_ret ?_
          refine hq_block_ret ?_
          refine hq_then_ret ?_
          refine hq_ret2 rfl (rvl_cell rfl rfl ty_77 (fun h => by first | rfl | cases h) rfl rfl) (rval_tmp rfl) [] rfl pre0 ?_
          obtain rfl : some (a.marked b) = o := (by rw [← ho, two_w s1 s2 s3]; unfold St.weld; rw [if_neg k1, if_pos hk, if_pos hp]; simp only; rw [if_pos]; simpa using hr3); exact fz_t2 (fz_agg10 (by first | exact .imm _ | exact .nil _ _ _ (by decide) _ | exact fz_toks _ | exact fz_mkss _ | exact Frz.fz) (by first | exact .imm _ | exact .nil _ _ _ (by decide) _ | exact fz_toks _ | exact fz_mkss _ | exact Frz.fz) (by first | exact .imm _ | exact .nil _ _ _ (by decide) _ | exact fz_toks _ | exact fz_mkss _ | exact Frz.fz) (by first | exact .imm _ | exact .nil _ _ _ (by decide) _ | exact fz_toks _ | exact fz_mkss _ | exact Frz.fz) (by first | exact .imm _ | exact .nil _ _ _ (by decide) _ | exact fz_toks _ | exact fz_mkss _ | exact Frz.fz) (by first | exact .imm _ | exact .nil _ _ _ (by decide) _ | exact fz_toks _ | exact fz_mkss _ | exact Frz.fz) (by first | exact .imm _ | exact .nil _ _ _ (by decide) _ | exact fz_toks _ | exact fz_mkss _ | exact Frz.fz) (by first | exact .imm _ | exact .nil _ _ _ (by decide) _ | exact fz_toks _ | exact fz_mkss _ | exact Frz.fz) (by first | exact .imm _ | exact .nil _ _ _ (by decide) _ | exact fz_toks _ | exact fz_mkss _ | exact Frz.fz) (by first | exact .imm _ | exact .nil _ _ _ (by decide) _ | exact fz_toks _ | exact fz_mkss _ | exact Frz.fz)) (.imm _)
      · have hr2 := hc2; (try simp only [decide_eq_true_eq, decide_eq_false_iff_not, Bool.and_eq_true, Bool.or_eq_true, Bool.not_eq_true', Bool.or_eq_false_iff, beq_iff_eq, bne_iff_ne, ne_eq, beq_eq_false_iff_ne, bne_eq_false_iff_eq, Bool.not_eq_true, Bool.not_eq_false, Bool.not_eq_false', Int.toNat_natCast, Int.reduceToNat] at hc2)
        exfalso; cases hr2
    · have hr1 := hc1; (try simp only [decide_eq_true_eq, decide_eq_false_iff_not, Bool.and_eq_true, Bool.or_eq_true, Bool.not_eq_true', Bool.or_eq_false_iff, beq_iff_eq, bne_iff_ne, ne_eq, beq_eq_false_iff_ne, bne_eq_false_iff_eq, Bool.not_eq_true, Bool.not_eq_false, Bool.not_eq_false', Int.toNat_natCast, Int.reduceToNat] at hc1)
      exfalso; simp at hr1
theorem Two_3b (a b : St) (hk : a.k = 3 ∨ a.k = 4) (hp : ¬ a.same b = true) (o : Option St) (ho : a.two b = o) (l1 : a.sl.length ≤ 20000) (l2 : b.sl.length ≤ 20000) (l3 : a.sets.length ≤ 20000) (l4 : b.sets.length ≤ 20000) : HPure Try.prog 30 [stV a, stV b] (optV o) := by
  have k1 : ¬ a.k = 1 := by omega
  refine hpure_of Try.func30 rfl (by kernel_rfl) _ _ _ rfl 50 rfl rfl (fun w F => ?_)
  refine hw_seq (fun Nh1 h1 => ?_)
  refine hw_region ?_
  refine hm_1 2 (hop_box (id := 2) (sz := 10) rfl rfl rfl (by first | exact Nat.le_of_ble_eq_true rfl | omega | (dsimp only; omega) | (simp <;> omega)) (by first | exact Nat.le_of_ble_eq_true rfl | omega | (dsimp only; omega) | (simp <;> omega))) rfl rfl pre0 rfl rfl (c' := 1) rfl ?_
  refine hm_1 3 (hop_box (id := 3) (sz := 10) rfl rfl rfl (by first | exact Nat.le_of_ble_eq_true rfl | omega | (dsimp only; omega) | (simp <;> omega)) (by first | exact Nat.le_of_ble_eq_true rfl | omega | (dsimp only; omega) | (simp <;> omega))) rfl rfl pre0 rfl rfl (c' := 2) rfl ?_
  refine hm_1 4 (hop_alloc (id := 4) (sz := 10) zc_77 rfl rfl (by first | exact Nat.le_of_ble_eq_true rfl | omega | (dsimp only; omega) | (simp <;> omega)) (by first | exact Nat.le_of_ble_eq_true rfl | omega | (dsimp only; omega) | (simp <;> omega))) rfl rfl pre0 rfl rfl (c' := 3) rfl ?_
  refine hq_ 5 (hop_assign rfl) rfl rfl pre0 rfl rfl ?_
  refine hseq_nil ?_
  refine h1 _ ?_
  refine hw_seq (fun Nh2 h2 => ?_)
  refine hw_seq (fun Nh3 h3 => ?_)
  refine hw_region ?_
  first
  | refine hq_ 10 (hop_fa fd_77_0 rfl) rfl rfl pre0 rfl rfl ?_
  | refine hq_ 10 (hop_fa_fp fd_77_0 rfl (by first | exact Nat.le_of_ble_eq_true rfl | omega | (dsimp only; omega) | (simp <;> omega))) rfl rfl pre0 rfl rfl ?_
  first
  | refine hq_ 11 (hol_load ty_3 rfl (by first | exact Nat.le_of_ble_eq_true rfl | omega | (dsimp only; omega) | (simp <;> omega)) (by first | exact Nat.le_of_ble_eq_true rfl | omega | (dsimp only; omega) | (simp <;> omega)) (fun h => by first | rfl | cases h)) rfl rfl (pre1 rfl) rfl rfl ?_
  | refine hq_ 11 (hop_load_fp ty_3 rfl (by first | exact Nat.le_of_ble_eq_true rfl | omega | (dsimp only; omega) | (simp <;> omega)) (fun h => by first | rfl | cases h)) rfl rfl pre0 rfl rfl ?_
  first
  | refine hq_ 12 (hop_fa fd_77_0 rfl) rfl rfl pre0 rfl rfl ?_
  | refine hq_ 12 (hop_fa_fp fd_77_0 rfl (by first | exact Nat.le_of_ble_eq_true rfl | omega | (dsimp only; omega) | (simp <;> omega))) rfl rfl pre0 rfl rfl ?_
  first
  | refine hq_ 13 (hol_load ty_3 rfl (by first | exact Nat.le_of_ble_eq_true rfl | omega | (dsimp only; omega) | (simp <;> omega)) (by first | exact Nat.le_of_ble_eq_true rfl | omega | (dsimp only; omega) | (simp <;> omega)) (fun h => by first | rfl | cases h)) rfl rfl (pre1 rfl) rfl rfl ?_
  | refine hq_ 13 (hop_load_fp ty_3 rfl (by first | exact Nat.le_of_ble_eq_true rfl | omega | (dsimp only; omega) | (simp <;> omega)) (fun h => by first | rfl | cases h)) rfl rfl pre0 rfl rfl ?_
  refine hq_ 14 (hop_neq rfl rfl) rfl rfl pre0 rfl rfl ?_
  refine hq_ 15 (hop_move rfl) rfl rfl pre0 rfl rfl ?_
  first
  | refine hq_g 16 5 15 false _ (fun hb => hol_load ty_77 rfl (by first | exact Nat.le_of_ble_eq_true rfl | (simp at hb; first | omega | (dsimp only; omega) | (simp <;> omega))) (by first | exact Nat.le_of_ble_eq_true rfl | (simp at hb; first | omega | (dsimp only; omega) | (simp <;> omega))) (fun h => by first | rfl | cases h)) rfl rfl rfl rfl (pre1 rfl) rfl rfl rfl ?_
  | refine hq_g2 16 5 15 _ _ false _ (fun hb => hol_load ty_77 rfl (by first | exact Nat.le_of_ble_eq_true rfl | (simp at hb; first | omega | (dsimp only; omega) | (simp <;> omega))) (by first | exact Nat.le_of_ble_eq_true rfl | (simp at hb; first | omega | (dsimp only; omega) | (simp <;> omega))) (fun h => by first | rfl | cases h)) rfl rfl rfl rfl (pre1 rfl) rfl rfl rfl ?_
  | refine hq_g 16 5 15 false _ (fun hb => hop_load_fp ty_77 rfl (by first | exact Nat.le_of_ble_eq_true rfl | (simp at hb; first | omega | (dsimp only; omega) | (simp <;> omega))) (fun h => by first | rfl | cases h)) rfl rfl rfl rfl pre0 rfl rfl rfl ?_
  | refine hq_g2 16 5 15 _ _ false _ (fun hb => hop_load_fp ty_77 rfl (by first | exact Nat.le_of_ble_eq_true rfl | (simp at hb; first | omega | (dsimp only; omega) | (simp <;> omega))) (fun h => by first | rfl | cases h)) rfl rfl rfl rfl pre0 rfl rfl rfl ?_
  first
  | refine hq_g 17 5 15 false _ (fun hb => hop_call0 (xs := [_]) (shape_h a (by omega) (by omega)) ⟨rfl, trivial⟩ ⟨(Fz.eq rfl), trivial⟩) rfl rfl rfl rfl pre0 rfl rfl rfl ?_
  | refine hq_g2 17 5 15 _ _ false _ (fun hb => hop_call0 (xs := [_]) (shape_h a (by omega) (by omega)) ⟨rfl, trivial⟩ ⟨(Fz.eq rfl), trivial⟩) rfl rfl rfl rfl pre0 rfl rfl rfl ?_
  first
  | refine hq_g 18 5 15 false _ (fun hb => hop_not rfl) rfl rfl rfl rfl pre0 rfl rfl rfl ?_
  | refine hq_g2 18 5 15 _ _ false _ (fun hb => hop_not rfl) rfl rfl rfl rfl pre0 rfl rfl rfl ?_
  first
  | refine hq_p 19 (hstep_and _ _ rfl rfl rfl) rfl rfl rfl ?_
  | refine hq_p 19 (hstep_or _ _ rfl rfl rfl) rfl rfl rfl ?_
  | refine hq_p 19 (hstep_ite _ _ _ rfl rfl rfl) rfl rfl rfl ?_
  | refine hq_p 19 (hstep_pick _ _ _ _ rfl rfl rfl (fun _ => .refl _) (fun _ => .refl _)) rfl rfl rfl ?_
  refine hq_ 20 (hop_move rfl) rfl rfl pre0 rfl rfl ?_
  first
  | refine hq_g 21 10 20 false _ (fun hb => hol_load ty_77 rfl (by first | exact Nat.le_of_ble_eq_true rfl | (simp at hb; first | omega | (dsimp only; omega) | (simp <;> omega))) (by first | exact Nat.le_of_ble_eq_true rfl | (simp at hb; first | omega | (dsimp only; omega) | (simp <;> omega))) (fun h => by first | rfl | cases h)) rfl rfl rfl rfl (pre1 rfl) rfl rfl rfl ?_
  | refine hq_g2 21 10 20 _ _ false _ (fun hb => hol_load ty_77 rfl (by first | exact Nat.le_of_ble_eq_true rfl | (simp at hb; first | omega | (dsimp only; omega) | (simp <;> omega))) (by first | exact Nat.le_of_ble_eq_true rfl | (simp at hb; first | omega | (dsimp only; omega) | (simp <;> omega))) (fun h => by first | rfl | cases h)) rfl rfl rfl rfl (pre1 rfl) rfl rfl rfl ?_
  | refine hq_g 21 10 20 false _ (fun hb => hop_load_fp ty_77 rfl (by first | exact Nat.le_of_ble_eq_true rfl | (simp at hb; first | omega | (dsimp only; omega) | (simp <;> omega))) (fun h => by first | rfl | cases h)) rfl rfl rfl rfl pre0 rfl rfl rfl ?_
  | refine hq_g2 21 10 20 _ _ false _ (fun hb => hop_load_fp ty_77 rfl (by first | exact Nat.le_of_ble_eq_true rfl | (simp at hb; first | omega | (dsimp only; omega) | (simp <;> omega))) (fun h => by first | rfl | cases h)) rfl rfl rfl rfl pre0 rfl rfl rfl ?_
  first
  | refine hq_g 22 10 20 false _ (fun hb => hop_call0 (xs := [_]) (shape_h b (by omega) (by omega)) ⟨rfl, trivial⟩ ⟨(Fz.eq rfl), trivial⟩) rfl rfl rfl rfl pre0 rfl rfl rfl ?_
  | refine hq_g2 22 10 20 _ _ false _ (fun hb => hop_call0 (xs := [_]) (shape_h b (by omega) (by omega)) ⟨rfl, trivial⟩ ⟨(Fz.eq rfl), trivial⟩) rfl rfl rfl rfl pre0 rfl rfl rfl ?_
  first
  | refine hq_g 23 10 20 false _ (fun hb => hop_not rfl) rfl rfl rfl rfl pre0 rfl rfl rfl ?_
  | refine hq_g2 23 10 20 _ _ false _ (fun hb => hop_not rfl) rfl rfl rfl rfl pre0 rfl rfl rfl ?_
  first
  | refine hq_p 24 (hstep_and _ _ rfl rfl rfl) rfl rfl rfl ?_
  | refine hq_p 24 (hstep_or _ _ rfl rfl rfl) rfl rfl rfl ?_
  | refine hq_p 24 (hstep_ite _ _ _ rfl rfl rfl) rfl rfl rfl ?_
  | refine hq_p 24 (hstep_pick _ _ _ _ rfl rfl rfl (fun _ => .refl _) (fun _ => .refl _)) rfl rfl rfl ?_
  refine hseq_nilU (by rfl) (by simp only [dropUn, slots]; exact rfl) ?_
  refine h3 _ ?_
  refine hw_cond _ rfl (fun hc0 => ?_) (fun hc0 => ?_)
  · have hr0 := hc0; (try simp only [decide_eq_true_eq, decide_eq_false_iff_not, Bool.and_eq_true, Bool.or_eq_true, Bool.not_eq_true', Bool.or_eq_false_iff, beq_iff_eq, bne_iff_ne, ne_eq, beq_eq_false_iff_ne, bne_eq_false_iff_eq, Bool.not_eq_true, Bool.not_eq_false, Bool.not_eq_false', Int.toNat_natCast, Int.reduceToNat] at hc0)
    refine hw_seq (fun Nh4 h4 => ?_)
    refine hw_region ?_
    refine hq_ 25 (hop_build (hs := []) st_77 rfl rfl trivial) rfl rfl pre0 rfl rfl ?_
    first
    | refine hm_s1 (hol_storeW ty_77 rfl rfl rfl rfl) rfl rfl (pre1 rfl) (c' := 4) rfl ?_
    | refine hm_s1 (hol_store ty_77 rfl rfl rfl rfl (by first | exact Nat.le_of_ble_eq_true rfl | omega | (dsimp only; omega) | (simp <;> omega)) (by first | exact Nat.le_of_ble_eq_true rfl | omega | (dsimp only; omega) | (simp <;> omega)) (by first | exact Nat.le_of_ble_eq_true rfl | omega | (dsimp only; omega) | (simp <;> omega))) rfl rfl (pre1 rfl) (c' := 4) rfl ?_
    refine hq_ 5 (hop_assign rfl) rfl rfl pre0 rfl rfl ?_
    refine hseq_nil ?_
    refine h4 _ ?_
    refine hw_ret ?_
    refine hq_then_ret ?_
    refine hq_ret2 rfl (rvl_cell rfl rfl ty_77 (fun h => by first | rfl | cases h) rfl rfl) (rval_tmp rfl) [] rfl pre0 ?_
    obtain rfl : Option.none = o := (by rw [← ho]; exact (two_no rfl rfl rfl hr0).symm); exact fz_t2 (fz_agg10 (by first | exact .imm _ | exact .nil _ _ _ (by decide) _ | exact fz_toks _ | exact fz_mkss _ | exact Frz.fz) (by first | exact .imm _ | exact .nil _ _ _ (by decide) _ | exact fz_toks _ | exact fz_mkss _ | exact Frz.fz) (by first | exact .imm _ | exact .nil _ _ _ (by decide) _ | exact fz_toks _ | exact fz_mkss _ | exact Frz.fz) (by first | exact .imm _ | exact .nil _ _ _ (by decide) _ | exact fz_toks _ | exact fz_mkss _ | exact Frz.fz) (by first | exact .imm _ | exact .nil _ _ _ (by decide) _ | exact fz_toks _ | exact fz_mkss _ | exact Frz.fz) (by first | exact .imm _ | exact .nil _ _ _ (by decide) _ | exact fz_toks _ | exact fz_mkss _ | exact Frz.fz) (by first | exact .imm _ | exact .nil _ _ _ (by decide) _ | exact fz_toks _ | exact fz_mkss _ | exact Frz.fz) (by first | exact .imm _ | exact .nil _ _ _ (by decide) _ | exact fz_toks _ | exact fz_mkss _ | exact Frz.fz) (by first | exact .imm _ | exact .nil _ _ _ (by decide) _ | exact fz_toks _ | exact fz_mkss _ | exact Frz.fz) (by first | exact .imm _ | exact .nil _ _ _ (by decide) _ | exact fz_toks _ | exact fz_mkss _ | exact Frz.fz)) (.imm _)
  · have hr0 := hc0; (try simp only [decide_eq_true_eq, decide_eq_false_iff_not, Bool.and_eq_true, Bool.or_eq_true, Bool.not_eq_true', Bool.or_eq_false_iff, beq_iff_eq, bne_iff_ne, ne_eq, beq_eq_false_iff_ne, bne_eq_false_iff_eq, Bool.not_eq_true, Bool.not_eq_false, Bool.not_eq_false', Int.toNat_natCast, Int.reduceToNat] at hc0)
    obtain ⟨s1, s2, s3⟩ := two_yes hr0
    refine hw_skip ?_
    refine h2 _ ?_
    refine hw_seq (fun Nh5 h5 => ?_)
    refine hw_seq (fun Nh6 h6 => ?_)
    refine hw_region ?_
    first
    | refine hq_ 26 (hop_fa fd_77_0 rfl) rfl rfl pre0 rfl rfl ?_
    | refine hq_ 26 (hop_fa_fp fd_77_0 rfl (by first | exact Nat.le_of_ble_eq_true rfl | omega | (dsimp only; omega) | (simp <;> omega))) rfl rfl pre0 rfl rfl ?_
    first
    | refine hq_ 27 (hol_load ty_3 rfl (by first | exact Nat.le_of_ble_eq_true rfl | omega | (dsimp only; omega) | (simp <;> omega)) (by first | exact Nat.le_of_ble_eq_true rfl | omega | (dsimp only; omega) | (simp <;> omega)) (fun h => by first | rfl | cases h)) rfl rfl (pre1 rfl) rfl rfl ?_
    | refine hq_ 27 (hop_load_fp ty_3 rfl (by first | exact Nat.le_of_ble_eq_true rfl | omega | (dsimp only; omega) | (simp <;> omega)) (fun h => by first | rfl | cases h)) rfl rfl pre0 rfl rfl ?_
    refine hq_ 28 (hop_call0 (xs := [_]) (ways3_h a.k hk) ⟨rfl, trivial⟩ ⟨(Fz.eq rfl), trivial⟩) rfl rfl pre0 rfl rfl ?_
    first
    | refine hq_ 29 (hop_len_sl (T := 97) rfl (elOf_spec el_97).1 rfl) rfl rfl pre0 rfl rfl ?_
    | refine hq_ 29 (hop_len_os (T := 97) rfl (elOf_spec el_97).1 rfl) rfl rfl pre0 rfl rfl ?_
    | refine hq_ 29 (hop_len_nil (T := 97) rfl (elOf_spec el_97).1 rfl) rfl rfl pre0 rfl rfl ?_
    refine hq_ 30 (hop_move rfl) rfl rfl pre0 rfl rfl ?_
    refine hseq_nil ?_
    refine h6 _ ?_
    refine hw_block ?_
    refine hw_rounds 2 ?_
    refine hr_succ (fun NhU7 hU7 => ?_)
    refine hw_seq (fun Nh8 h8 => ?_)
    refine hw_region ?_
    refine hq_ 31 (hop_lss rfl rfl) rfl rfl pre0 rfl rfl ?_
    refine hseq_nil ?_
    refine h8 _ ?_
    refine hw_seq (fun Nh9 h9 => ?_)
    refine hw_cond _ rfl (fun hc1 => ?_) (fun hc1 => ?_)
    · have hr1 := hc1; (try simp only [decide_eq_true_eq, decide_eq_false_iff_not, Bool.and_eq_true, Bool.or_eq_true, Bool.not_eq_true', Bool.or_eq_false_iff, beq_iff_eq, bne_iff_ne, ne_eq, beq_eq_false_iff_ne, bne_eq_false_iff_eq, Bool.not_eq_true, Bool.not_eq_false, Bool.not_eq_false', Int.toNat_natCast, Int.reduceToNat] at hc1)
      refine hw_skip ?_
      refine h9 _ ?_
      refine hw_seq (fun Nh10 h10 => ?_)
      refine hw_block ?_
      refine hw_seq (fun Nh11 h11 => ?_)
      refine hw_region ?_
      first
      | refine hq_ 32 (hop_ia_sl el_97 rfl rfl (by first | exact Nat.le_of_ble_eq_true rfl | omega | (dsimp only; omega) | (simp <;> omega)) (by first | exact Nat.le_of_ble_eq_true rfl | omega | (dsimp only; omega) | (simp <;> omega)) (by first | exact Nat.le_of_ble_eq_true rfl | omega | (dsimp only; omega) | (simp <;> omega))) rfl rfl pre0 rfl rfl ?_
      | refine hq_ 32 (hol_ia_os el_97 rfl rfl (by first | exact Nat.le_of_ble_eq_true rfl | omega | (dsimp only; omega) | (simp <;> omega)) (by first | exact Nat.le_of_ble_eq_true rfl | omega | (dsimp only; omega) | (simp <;> omega))) rfl rfl (pre1 rfl) rfl rfl ?_
      first
      | refine hq_ 33 (hol_load ty_100 rfl (by first | exact Nat.le_of_ble_eq_true rfl | omega | (dsimp only; omega) | (simp <;> omega)) (by first | exact Nat.le_of_ble_eq_true rfl | omega | (dsimp only; omega) | (simp <;> omega)) (fun h => by first | rfl | cases h)) rfl rfl (pre1 rfl) rfl rfl ?_
      | refine hq_ 33 (hop_load_fp ty_100 rfl (by first | exact Nat.le_of_ble_eq_true rfl | omega | (dsimp only; omega) | (simp <;> omega)) (fun h => by first | rfl | cases h)) rfl rfl pre0 rfl rfl ?_
      refine hm_1 7 (hop_alloc (id := 7) (sz := 1) zc_100 rfl rfl (by first | exact Nat.le_of_ble_eq_true rfl | omega | (dsimp only; omega) | (simp <;> omega)) (by first | exact Nat.le_of_ble_eq_true rfl | omega | (dsimp only; omega) | (simp <;> omega))) rfl rfl pre0 rfl rfl (c' := 4) rfl ?_
      first
      | refine hm_s1 (hol_storeW ty_100 rfl rfl rfl rfl) rfl rfl (pre1 rfl) (c' := 5) rfl ?_
      | refine hm_s1 (hol_store ty_100 rfl rfl rfl rfl (by first | exact Nat.le_of_ble_eq_true rfl | omega | (dsimp only; omega) | (simp <;> omega)) (by first | exact Nat.le_of_ble_eq_true rfl | omega | (dsimp only; omega) | (simp <;> omega)) (by first | exact Nat.le_of_ble_eq_true rfl | omega | (dsimp only; omega) | (simp <;> omega))) rfl rfl (pre1 rfl) (c' := 5) rfl ?_
      refine hseq_nil ?_
      refine h11 _ ?_
      refine hw_seq (fun Nh12 h12 => ?_)
      refine hw_region ?_
      first
      | refine hq_ 35 (hop_fa fd_100_0 rfl) rfl rfl pre0 rfl rfl ?_
      | refine hq_ 35 (hop_fa_fp fd_100_0 rfl (by first | exact Nat.le_of_ble_eq_true rfl | omega | (dsimp only; omega) | (simp <;> omega))) rfl rfl pre0 rfl rfl ?_
      first
      | refine hq_ 36 (hol_load ty_79 rfl (by first | exact Nat.le_of_ble_eq_true rfl | omega | (dsimp only; omega) | (simp <;> omega)) (by first | exact Nat.le_of_ble_eq_true rfl | omega | (dsimp only; omega) | (simp <;> omega)) (fun h => by first | rfl | cases h)) rfl rfl (pre1 rfl) rfl rfl ?_
      | refine hq_ 36 (hop_load_fp ty_79 rfl (by first | exact Nat.le_of_ble_eq_true rfl | omega | (dsimp only; omega) | (simp <;> omega)) (fun h => by first | rfl | cases h)) rfl rfl pre0 rfl rfl ?_
      first
      | refine hq_ 37 (hol_load ty_77 rfl (by first | exact Nat.le_of_ble_eq_true rfl | omega | (dsimp only; omega) | (simp <;> omega)) (by first | exact Nat.le_of_ble_eq_true rfl | omega | (dsimp only; omega) | (simp <;> omega)) (fun h => by first | rfl | cases h)) rfl rfl (pre1 rfl) rfl rfl ?_
      | refine hq_ 37 (hop_load_fp ty_77 rfl (by first | exact Nat.le_of_ble_eq_true rfl | omega | (dsimp only; omega) | (simp <;> omega)) (fun h => by first | rfl | cases h)) rfl rfl pre0 rfl rfl ?_
      first
      | refine hq_ 38 (hol_load ty_77 rfl (by first | exact Nat.le_of_ble_eq_true rfl | omega | (dsimp only; omega) | (simp <;> omega)) (by first | exact Nat.le_of_ble_eq_true rfl | omega | (dsimp only; omega) | (simp <;> omega)) (fun h => by first | rfl | cases h)) rfl rfl (pre1 rfl) rfl rfl ?_
      | refine hq_ 38 (hop_load_fp ty_77 rfl (by first | exact Nat.le_of_ble_eq_true rfl | omega | (dsimp only; omega) | (simp <;> omega)) (fun h => by first | rfl | cases h)) rfl rfl pre0 rfl rfl ?_
      refine hq_ 39 (hop_callv0 (xs := [_, _]) (cs := []) (marked_h a b Option.none (by rw [if_neg hp])) rfl rfl (fun i hi => by first | rfl | (cases i <;> first | rfl | (simp at hi))) ⟨rfl, ⟨rfl, trivial⟩⟩ ⟨(Fz.eq rfl), ⟨(Fz.eq rfl), trivial⟩⟩) rfl rfl pre0 rfl rfl ?_
      refine hq_ 34 (hop_move rfl) rfl rfl pre0 rfl rfl ?_
      refine hq_ 40 (hop_extract rfl rfl) rfl rfl pre0 rfl rfl ?_
      refine hq_ 41 (hop_extract rfl rfl) rfl rfl pre0 rfl rfl ?_
      refine hm_1 8 (hop_alloc (id := 8) (sz := 10) zc_77 rfl rfl (by first | exact Nat.le_of_ble_eq_true rfl | omega | (dsimp only; omega) | (simp <;> omega)) (by first | exact Nat.le_of_ble_eq_true rfl | omega | (dsimp only; omega) | (simp <;> omega))) rfl rfl pre0 rfl rfl (c' := 6) rfl ?_
      first
      | refine hm_s1 (hol_storeW ty_77 rfl rfl rfl rfl) rfl rfl (pre1 rfl) (c' := 7) rfl ?_
      | refine hm_s1 (hol_store ty_77 rfl rfl rfl rfl (by first | exact Nat.le_of_ble_eq_true rfl | omega | (dsimp only; omega) | (simp <;> omega)) (by first | exact Nat.le_of_ble_eq_true rfl | omega | (dsimp only; omega) | (simp <;> omega)) (by first | exact Nat.le_of_ble_eq_true rfl | omega | (dsimp only; omega) | (simp <;> omega))) rfl rfl (pre1 rfl) (c' := 7) rfl ?_
      refine hq_ 9 (hop_assign rfl) rfl rfl pre0 rfl rfl ?_
      refine hseq_nil ?_
      refine h12 _ ?_
      refine hw_seq (fun Nh13 h13 => ?_)
      refine hw_region ?_
      refine hq_ 42 (hop_move rfl) rfl rfl pre0 rfl rfl ?_
      refine hseq_nil ?_
      refine h13 _ ?_
      refine hw_cond _ rfl (fun hc2 => ?_) (fun hc2 => ?_)
      · have hr2 := hc2; (try simp only [decide_eq_true_eq, decide_eq_false_iff_not, Bool.and_eq_true, Bool.or_eq_true, Bool.not_eq_true', Bool.or_eq_false_iff, beq_iff_eq, bne_iff_ne, ne_eq, beq_eq_false_iff_ne, bne_eq_false_iff_eq, Bool.not_eq_true, Bool.not_eq_false, Bool.not_eq_false', Int.toNat_natCast, Int.reduceToNat] at hc2)
        exfalso; cases hr2
      · have hr2 := hc2; (try simp only [decide_eq_true_eq, decide_eq_false_iff_not, Bool.and_eq_true, Bool.or_eq_true, Bool.not_eq_true', Bool.or_eq_false_iff, beq_iff_eq, bne_iff_ne, ne_eq, beq_eq_false_iff_ne, bne_eq_false_iff_eq, Bool.not_eq_true, Bool.not_eq_false, Bool.not_eq_false', Int.toNat_natCast, Int.reduceToNat] at hc2)
        refine hw_skip ?_
        refine hq_block ?_
        refine h10 _ ?_
        refine hw_region ?_
        first
        | refine hq_ 48 (hop_addi rfl rfl rfl (by first | exact Nat.le_of_ble_eq_true rfl | omega | (dsimp only; omega) | (simp <;> omega)) (by first | exact Nat.le_of_ble_eq_true rfl | omega | (dsimp only; omega) | (simp <;> omega))) rfl rfl pre0 rfl rfl ?_
        | refine hq_ 48 (hop_add rfl rfl) rfl rfl pre0 rfl rfl ?_
        refine hq_ 30 (hop_move rfl) rfl rfl pre0 rfl rfl ?_
        refine hseq_nil ?_
        refine hU7 _ ?_
        refine hr_succ (fun NhU14 hU14 => ?_)
        refine hw_seq (fun Nh15 h15 => ?_)
        refine hw_region ?_
        refine hq_ 31 (hop_lss rfl rfl) rfl rfl pre0 rfl rfl ?_
        refine hseq_nil ?_
        refine h15 _ ?_
        refine hw_seq (fun Nh16 h16 => ?_)
        refine hw_cond _ rfl (fun hc1 => ?_) (fun hc1 => ?_)
        · have hr1 := hc1; (try simp only [decide_eq_true_eq, decide_eq_false_iff_not, Bool.and_eq_true, Bool.or_eq_true, Bool.not_eq_true', Bool.or_eq_false_iff, beq_iff_eq, bne_iff_ne, ne_eq, beq_eq_false_iff_ne, bne_eq_false_iff_eq, Bool.not_eq_true, Bool.not_eq_false, Bool.not_eq_false', Int.toNat_natCast, Int.reduceToNat] at hc1)
          exfalso; simp at hr1
        · have hr1 := hc1; (try simp only [decide_eq_true_eq, decide_eq_false_iff_not, Bool.and_eq_true, Bool.or_eq_true, Bool.not_eq_true', Bool.or_eq_false_iff, beq_iff_eq, bne_iff_ne, ne_eq, beq_eq_false_iff_ne, bne_eq_false_iff_eq, Bool.not_eq_true, Bool.not_eq_false, Bool.not_eq_false', Int.toNat_natCast, Int.reduceToNat] at hc1)
          refine hw_exit ?_
          refine hq_then_exit ?_
          refine hq_then_exit ?_
          refine hq_block_here ?_
          refine h5 _ ?_
          refine hw_seq (fun Nh17 h17 => ?_)
          refine hw_region ?_
          refine hq_ 49 (hop_build (hs := []) st_77 rfl rfl trivial) rfl rfl pre0 rfl rfl ?_
          first
          | refine hm_s1 (hol_storeW ty_77 rfl rfl rfl rfl) rfl rfl (pre1 rfl) (c' := 8) rfl ?_
          | refine hm_s1 (hol_store ty_77 rfl rfl rfl rfl (by first | exact Nat.le_of_ble_eq_true rfl | omega | (dsimp only; omega) | (simp <;> omega)) (by first | exact Nat.le_of_ble_eq_true rfl | omega | (dsimp only; omega) | (simp <;> omega)) (by first | exact Nat.le_of_ble_eq_true rfl | omega | (dsimp only; omega) | (simp <;> omega))) rfl rfl (pre1 rfl) (c' := 8) rfl ?_
          refine hq_ 5 (hop_assign rfl) rfl rfl pre0 rfl rfl ?_
          refine hseq_nil ?_
          refine h17 _ ?_
          refine hw_ret ?_
          refine hq_ret2 rfl (rvl_cell rfl rfl ty_77 (fun h => by first | rfl | cases h) rfl rfl) (rval_tmp rfl) [] rfl pre0 ?_
          obtain rfl : Option.none = o := (by rw [← ho, two_w s1 s2 s3]; unfold St.weld; rw [if_neg k1, if_pos hk, if_neg hp]); exact fz_t2 (fz_agg10 (by first | exact .imm _ | exact .nil _ _ _ (by decide) _ | exact fz_toks _ | exact fz_mkss _ | exact Frz.fz) (by first | exact .imm _ | exact .nil _ _ _ (by decide) _ | exact fz_toks _ | exact fz_mkss _ | exact Frz.fz) (by first | exact .imm _ | exact .nil _ _ _ (by decide) _ | exact fz_toks _ | exact fz_mkss _ | exact Frz.fz) (by first | exact .imm _ | exact .nil _ _ _ (by decide) _ | exact fz_toks _ | exact fz_mkss _ | exact Frz.fz) (by first | exact .imm _ | exact .nil _ _ _ (by decide) _ | exact fz_toks _ | exact fz_mkss _ | exact Frz.fz) (by first | exact .imm _ | exact .nil _ _ _ (by decide) _ | exact fz_toks _ | exact fz_mkss _ | exact Frz.fz) (by first | exact .imm _ | exact .nil _ _ _ (by decide) _ | exact fz_toks _ | exact fz_mkss _ | exact Frz.fz) (by first | exact .imm _ | exact .nil _ _ _ (by decide) _ | exact fz_toks _ | exact fz_mkss _ | exact Frz.fz) (by first | exact .imm _ | exact .nil _ _ _ (by decide) _ | exact fz_toks _ | exact fz_mkss _ | exact Frz.fz) (by first | exact .imm _ | exact .nil _ _ _ (by decide) _ | exact fz_toks _ | exact fz_mkss _ | exact Frz.fz)) (.imm _)
    · have hr1 := hc1; (try simp only [decide_eq_true_eq, decide_eq_false_iff_not, Bool.and_eq_true, Bool.or_eq_true, Bool.not_eq_true', Bool.or_eq_false_iff, beq_iff_eq, bne_iff_ne, ne_eq, beq_eq_false_iff_ne, bne_eq_false_iff_eq, Bool.not_eq_true, Bool.not_eq_false, Bool.not_eq_false', Int.toNat_natCast, Int.reduceToNat] at hc1)
      exfalso; simp at hr1
theorem Two_0 (a b : St) (k1 : ¬ a.k = 1) (k3 : ¬ (a.k = 3 ∨ a.k = 4)) (o : Option St) (ho : a.two b = o) (l1 : a.sl.length ≤ 20000) (l2 : b.sl.length ≤ 20000) (l3 : a.sets.length ≤ 20000) (l4 : b.sets.length ≤ 20000) : HPure Try.prog 30 [stV a, stV b] (optV o) := by
  refine hpure_of Try.func30 rfl (by kernel_rfl) _ _ _ rfl 50 rfl rfl (fun w F => ?_)
  refine hw_seq (fun Nh1 h1 => ?_)
  refine hw_region ?_
  refine hm_1 2 (hop_box (id := 2) (sz := 10) rfl rfl rfl (by first | exact Nat.le_of_ble_eq_true rfl | omega | (dsimp only; omega) | (simp <;> omega)) (by first | exact Nat.le_of_ble_eq_true rfl | omega | (dsimp only; omega) | (simp <;> omega))) rfl rfl pre0 rfl rfl (c' := 1) rfl ?_
  refine hm_1 3 (hop_box (id := 3) (sz := 10) rfl rfl rfl (by first | exact Nat.le_of_ble_eq_true rfl | omega | (dsimp only; omega) | (simp <;> omega)) (by first | exact Nat.le_of_ble_eq_true rfl | omega | (dsimp only; omega) | (simp <;> omega))) rfl rfl pre0 rfl rfl (c' := 2) rfl ?_
  refine hm_1 4 (hop_alloc (id := 4) (sz := 10) zc_77 rfl rfl (by first | exact Nat.le_of_ble_eq_true rfl | omega | (dsimp only; omega) | (simp <;> omega)) (by first | exact Nat.le_of_ble_eq_true rfl | omega | (dsimp only; omega) | (simp <;> omega))) rfl rfl pre0 rfl rfl (c' := 3) rfl ?_
  refine hq_ 5 (hop_assign rfl) rfl rfl pre0 rfl rfl ?_
  refine hseq_nil ?_
  refine h1 _ ?_
  refine hw_seq (fun Nh2 h2 => ?_)
  refine hw_seq (fun Nh3 h3 => ?_)
  refine hw_region ?_
  first
  | refine hq_ 10 (hop_fa fd_77_0 rfl) rfl rfl pre0 rfl rfl ?_
  | refine hq_ 10 (hop_fa_fp fd_77_0 rfl (by first | exact Nat.le_of_ble_eq_true rfl | omega | (dsimp only; omega) | (simp <;> omega))) rfl rfl pre0 rfl rfl ?_
  first
  | refine hq_ 11 (hol_load ty_3 rfl (by first | exact Nat.le_of_ble_eq_true rfl | omega | (dsimp only; omega) | (simp <;> omega)) (by first | exact Nat.le_of_ble_eq_true rfl | omega | (dsimp only; omega) | (simp <;> omega)) (fun h => by first | rfl | cases h)) rfl rfl (pre1 rfl) rfl rfl ?_
  | refine hq_ 11 (hop_load_fp ty_3 rfl (by first | exact Nat.le_of_ble_eq_true rfl | omega | (dsimp only; omega) | (simp <;> omega)) (fun h => by first | rfl | cases h)) rfl rfl pre0 rfl rfl ?_
  first
  | refine hq_ 12 (hop_fa fd_77_0 rfl) rfl rfl pre0 rfl rfl ?_
  | refine hq_ 12 (hop_fa_fp fd_77_0 rfl (by first | exact Nat.le_of_ble_eq_true rfl | omega | (dsimp only; omega) | (simp <;> omega))) rfl rfl pre0 rfl rfl ?_
  first
  | refine hq_ 13 (hol_load ty_3 rfl (by first | exact Nat.le_of_ble_eq_true rfl | omega | (dsimp only; omega) | (simp <;> omega)) (by first | exact Nat.le_of_ble_eq_true rfl | omega | (dsimp only; omega) | (simp <;> omega)) (fun h => by first | rfl | cases h)) rfl rfl (pre1 rfl) rfl rfl ?_
  | refine hq_ 13 (hop_load_fp ty_3 rfl (by first | exact Nat.le_of_ble_eq_true rfl | omega | (dsimp only; omega) | (simp <;> omega)) (fun h => by first | rfl | cases h)) rfl rfl pre0 rfl rfl ?_
  refine hq_ 14 (hop_neq rfl rfl) rfl rfl pre0 rfl rfl ?_
  refine hq_ 15 (hop_move rfl) rfl rfl pre0 rfl rfl ?_
  first
  | refine hq_g 16 5 15 false _ (fun hb => hol_load ty_77 rfl (by first | exact Nat.le_of_ble_eq_true rfl | (simp at hb; first | omega | (dsimp only; omega) | (simp <;> omega))) (by first | exact Nat.le_of_ble_eq_true rfl | (simp at hb; first | omega | (dsimp only; omega) | (simp <;> omega))) (fun h => by first | rfl | cases h)) rfl rfl rfl rfl (pre1 rfl) rfl rfl rfl ?_
  | refine hq_g2 16 5 15 _ _ false _ (fun hb => hol_load ty_77 rfl (by first | exact Nat.le_of_ble_eq_true rfl | (simp at hb; first | omega | (dsimp only; omega) | (simp <;> omega))) (by first | exact Nat.le_of_ble_eq_true rfl | (simp at hb; first | omega | (dsimp only; omega) | (simp <;> omega))) (fun h => by first | rfl | cases h)) rfl rfl rfl rfl (pre1 rfl) rfl rfl rfl ?_
  | refine hq_g 16 5 15 false _ (fun hb => hop_load_fp ty_77 rfl (by first | exact Nat.le_of_ble_eq_true rfl | (simp at hb; first | omega | (dsimp only; omega) | (simp <;> omega))) (fun h => by first | rfl | cases h)) rfl rfl rfl rfl pre0 rfl rfl rfl ?_
  | refine hq_g2 16 5 15 _ _ false _ (fun hb => hop_load_fp ty_77 rfl (by first | exact Nat.le_of_ble_eq_true rfl | (simp at hb; first | omega | (dsimp only; omega) | (simp <;> omega))) (fun h => by first | rfl | cases h)) rfl rfl rfl rfl pre0 rfl rfl rfl ?_
  first
  | refine hq_g 17 5 15 false _ (fun hb => hop_call0 (xs := [_]) (shape_h a (by omega) (by omega)) ⟨rfl, trivial⟩ ⟨(Fz.eq rfl), trivial⟩) rfl rfl rfl rfl pre0 rfl rfl rfl ?_
  | refine hq_g2 17 5 15 _ _ false _ (fun hb => hop_call0 (xs := [_]) (shape_h a (by omega) (by omega)) ⟨rfl, trivial⟩ ⟨(Fz.eq rfl), trivial⟩) rfl rfl rfl rfl pre0 rfl rfl rfl ?_
  first
  | refine hq_g 18 5 15 false _ (fun hb => hop_not rfl) rfl rfl rfl rfl pre0 rfl rfl rfl ?_
  | refine hq_g2 18 5 15 _ _ false _ (fun hb => hop_not rfl) rfl rfl rfl rfl pre0 rfl rfl rfl ?_
  first
  | refine hq_p 19 (hstep_and _ _ rfl rfl rfl) rfl rfl rfl ?_
  | refine hq_p 19 (hstep_or _ _ rfl rfl rfl) rfl rfl rfl ?_
  | refine hq_p 19 (hstep_ite _ _ _ rfl rfl rfl) rfl rfl rfl ?_
  | refine hq_p 19 (hstep_pick _ _ _ _ rfl rfl rfl (fun _ => .refl _) (fun _ => .refl _)) rfl rfl rfl ?_
  refine hq_ 20 (hop_move rfl) rfl rfl pre0 rfl rfl ?_
  first
  | refine hq_g 21 10 20 false _ (fun hb => hol_load ty_77 rfl (by first | exact Nat.le_of_ble_eq_true rfl | (simp at hb; first | omega | (dsimp only; omega) | (simp <;> omega))) (by first | exact Nat.le_of_ble_eq_true rfl | (simp at hb; first | omega | (dsimp only; omega) | (simp <;> omega))) (fun h => by first | rfl | cases h)) rfl rfl rfl rfl (pre1 rfl) rfl rfl rfl ?_
  | refine hq_g2 21 10 20 _ _ false _ (fun hb => hol_load ty_77 rfl (by first | exact Nat.le_of_ble_eq_true rfl | (simp at hb; first | omega | (dsimp only; omega) | (simp <;> omega))) (by first | exact Nat.le_of_ble_eq_true rfl | (simp at hb; first | omega | (dsimp only; omega) | (simp <;> omega))) (fun h => by first | rfl | cases h)) rfl rfl rfl rfl (pre1 rfl) rfl rfl rfl ?_
  | refine hq_g 21 10 20 false _ (fun hb => hop_load_fp ty_77 rfl (by first | exact Nat.le_of_ble_eq_true rfl | (simp at hb; first | omega | (dsimp only; omega) | (simp <;> omega))) (fun h => by first | rfl | cases h)) rfl rfl rfl rfl pre0 rfl rfl rfl ?_
  | refine hq_g2 21 10 20 _ _ false _ (fun hb => hop_load_fp ty_77 rfl (by first | exact Nat.le_of_ble_eq_true rfl | (simp at hb; first | omega | (dsimp only; omega) | (simp <;> omega))) (fun h => by first | rfl | cases h)) rfl rfl rfl rfl pre0 rfl rfl rfl ?_
  first
  | refine hq_g 22 10 20 false _ (fun hb => hop_call0 (xs := [_]) (shape_h b (by omega) (by omega)) ⟨rfl, trivial⟩ ⟨(Fz.eq rfl), trivial⟩) rfl rfl rfl rfl pre0 rfl rfl rfl ?_
  | refine hq_g2 22 10 20 _ _ false _ (fun hb => hop_call0 (xs := [_]) (shape_h b (by omega) (by omega)) ⟨rfl, trivial⟩ ⟨(Fz.eq rfl), trivial⟩) rfl rfl rfl rfl pre0 rfl rfl rfl ?_
  first
  | refine hq_g 23 10 20 false _ (fun hb => hop_not rfl) rfl rfl rfl rfl pre0 rfl rfl rfl ?_
  | refine hq_g2 23 10 20 _ _ false _ (fun hb => hop_not rfl) rfl rfl rfl rfl pre0 rfl rfl rfl ?_
  first
  | refine hq_p 24 (hstep_and _ _ rfl rfl rfl) rfl rfl rfl ?_
  | refine hq_p 24 (hstep_or _ _ rfl rfl rfl) rfl rfl rfl ?_
  | refine hq_p 24 (hstep_ite _ _ _ rfl rfl rfl) rfl rfl rfl ?_
  | refine hq_p 24 (hstep_pick _ _ _ _ rfl rfl rfl (fun _ => .refl _) (fun _ => .refl _)) rfl rfl rfl ?_
  refine hseq_nilU (by rfl) (by simp only [dropUn, slots]; exact rfl) ?_
  refine h3 _ ?_
  refine hw_cond _ rfl (fun hc0 => ?_) (fun hc0 => ?_)
  · have hr0 := hc0; (try simp only [decide_eq_true_eq, decide_eq_false_iff_not, Bool.and_eq_true, Bool.or_eq_true, Bool.not_eq_true', Bool.or_eq_false_iff, beq_iff_eq, bne_iff_ne, ne_eq, beq_eq_false_iff_ne, bne_eq_false_iff_eq, Bool.not_eq_true, Bool.not_eq_false, Bool.not_eq_false', Int.toNat_natCast, Int.reduceToNat] at hc0)
    refine hw_seq (fun Nh4 h4 => ?_)
    refine hw_region ?_
    refine hq_ 25 (hop_build (hs := []) st_77 rfl rfl trivial) rfl rfl pre0 rfl rfl ?_
    first
    | refine hm_s1 (hol_storeW ty_77 rfl rfl rfl rfl) rfl rfl (pre1 rfl) (c' := 4) rfl ?_
    | refine hm_s1 (hol_store ty_77 rfl rfl rfl rfl (by first | exact Nat.le_of_ble_eq_true rfl | omega | (dsimp only; omega) | (simp <;> omega)) (by first | exact Nat.le_of_ble_eq_true rfl | omega | (dsimp only; omega) | (simp <;> omega)) (by first | exact Nat.le_of_ble_eq_true rfl | omega | (dsimp only; omega) | (simp <;> omega))) rfl rfl (pre1 rfl) (c' := 4) rfl ?_
    refine hq_ 5 (hop_assign rfl) rfl rfl pre0 rfl rfl ?_
    refine hseq_nil ?_
    refine h4 _ ?_
    refine hw_ret ?_
    refine hq_then_ret ?_
    refine hq_ret2 rfl (rvl_cell rfl rfl ty_77 (fun h => by first | rfl | cases h) rfl rfl) (rval_tmp rfl) [] rfl pre0 ?_
    obtain rfl : Option.none = o := (by rw [← ho]; exact (two_no rfl rfl rfl hr0).symm); exact fz_t2 (fz_agg10 (by first | exact .imm _ | exact .nil _ _ _ (by decide) _ | exact fz_toks _ | exact fz_mkss _ | exact Frz.fz) (by first | exact .imm _ | exact .nil _ _ _ (by decide) _ | exact fz_toks _ | exact fz_mkss _ | exact Frz.fz) (by first | exact .imm _ | exact .nil _ _ _ (by decide) _ | exact fz_toks _ | exact fz_mkss _ | exact Frz.fz) (by first | exact .imm _ | exact .nil _ _ _ (by decide) _ | exact fz_toks _ | exact fz_mkss _ | exact Frz.fz) (by first | exact .imm _ | exact .nil _ _ _ (by decide) _ | exact fz_toks _ | exact fz_mkss _ | exact Frz.fz) (by first | exact .imm _ | exact .nil _ _ _ (by decide) _ | exact fz_toks _ | exact fz_mkss _ | exact Frz.fz) (by first | exact .imm _ | exact .nil _ _ _ (by decide) _ | exact fz_toks _ | exact fz_mkss _ | exact Frz.fz) (by first | exact .imm _ | exact .nil _ _ _ (by decide) _ | exact fz_toks _ | exact fz_mkss _ | exact Frz.fz) (by first | exact .imm _ | exact .nil _ _ _ (by decide) _ | exact fz_toks _ | exact fz_mkss _ | exact Frz.fz) (by first | exact .imm _ | exact .nil _ _ _ (by decide) _ | exact fz_toks _ | exact fz_mkss _ | exact Frz.fz)) (.imm _)
  · have hr0 := hc0; (try simp only [decide_eq_true_eq, decide_eq_false_iff_not, Bool.and_eq_true, Bool.or_eq_true, Bool.not_eq_true', Bool.or_eq_false_iff, beq_iff_eq, bne_iff_ne, ne_eq, beq_eq_false_iff_ne, bne_eq_false_iff_eq, Bool.not_eq_true, Bool.not_eq_false, Bool.not_eq_false', Int.toNat_natCast, Int.reduceToNat] at hc0)
    obtain ⟨s1, s2, s3⟩ := two_yes hr0
    refine hw_skip ?_
    refine h2 _ ?_
    refine hw_seq (fun Nh5 h5 => ?_)
    refine hw_seq (fun Nh6 h6 => ?_)
    refine hw_region ?_
    first
    | refine hq_ 26 (hop_fa fd_77_0 rfl) rfl rfl pre0 rfl rfl ?_
    | refine hq_ 26 (hop_fa_fp fd_77_0 rfl (by first | exact Nat.le_of_ble_eq_true rfl | omega | (dsimp only; omega) | (simp <;> omega))) rfl rfl pre0 rfl rfl ?_
    first
    | refine hq_ 27 (hol_load ty_3 rfl (by first | exact Nat.le_of_ble_eq_true rfl | omega | (dsimp only; omega) | (simp <;> omega)) (by first | exact Nat.le_of_ble_eq_true rfl | omega | (dsimp only; omega) | (simp <;> omega)) (fun h => by first | rfl | cases h)) rfl rfl (pre1 rfl) rfl rfl ?_
    | refine hq_ 27 (hop_load_fp ty_3 rfl (by first | exact Nat.le_of_ble_eq_true rfl | omega | (dsimp only; omega) | (simp <;> omega)) (fun h => by first | rfl | cases h)) rfl rfl pre0 rfl rfl ?_
    refine hq_ 28 (hop_call0 (xs := [_]) (ways0_h a.k k1 (fun h => k3 (.inl h)) (fun h => k3 (.inr h)) (fun _ _ => default)) ⟨rfl, trivial⟩ ⟨(Fz.eq rfl), trivial⟩) rfl rfl pre0 rfl rfl ?_
    first
    | refine hq_ 29 (hop_len_sl (T := 97) rfl (elOf_spec el_97).1 rfl) rfl rfl pre0 rfl rfl ?_
    | refine hq_ 29 (hop_len_os (T := 97) rfl (elOf_spec el_97).1 rfl) rfl rfl pre0 rfl rfl ?_
    | refine hq_ 29 (hop_len_nil (T := 97) rfl (elOf_spec el_97).1 rfl) rfl rfl pre0 rfl rfl ?_
    refine hq_ 30 (hop_move rfl) rfl rfl pre0 rfl rfl ?_
    refine hseq_nil ?_
    refine h6 _ ?_
    refine hw_block ?_
    refine hw_rounds 1 ?_
    refine hr_succ (fun NhU7 hU7 => ?_)
    refine hw_seq (fun Nh8 h8 => ?_)
    refine hw_region ?_
    refine hq_ 31 (hop_lss rfl rfl) rfl rfl pre0 rfl rfl ?_
    refine hseq_nil ?_
    refine h8 _ ?_
    refine hw_seq (fun Nh9 h9 => ?_)
    refine hw_cond _ rfl (fun hc1 => ?_) (fun hc1 => ?_)
    · have hr1 := hc1; (try simp only [decide_eq_true_eq, decide_eq_false_iff_not, Bool.and_eq_true, Bool.or_eq_true, Bool.not_eq_true', Bool.or_eq_false_iff, beq_iff_eq, bne_iff_ne, ne_eq, beq_eq_false_iff_ne, bne_eq_false_iff_eq, Bool.not_eq_true, Bool.not_eq_false, Bool.not_eq_false', Int.toNat_natCast, Int.reduceToNat] at hc1)
      exfalso; simp at hr1
    · have hr1 := hc1; (try simp only [decide_eq_true_eq, decide_eq_false_iff_not, Bool.and_eq_true, Bool.or_eq_true, Bool.not_eq_true', Bool.or_eq_false_iff, beq_iff_eq, bne_iff_ne, ne_eq, beq_eq_false_iff_ne, bne_eq_false_iff_eq, Bool.not_eq_true, Bool.not_eq_false, Bool.not_eq_false', Int.toNat_natCast, Int.reduceToNat] at hc1)
      refine hw_exit ?_
      refine hq_then_exit ?_
      refine hq_then_exit ?_
      refine hq_block_here ?_
      refine h5 _ ?_
      refine hw_seq (fun Nh10 h10 => ?_)
      refine hw_region ?_
      refine hq_ 49 (hop_build (hs := []) st_77 rfl rfl trivial) rfl rfl pre0 rfl rfl ?_
      first
      | refine hm_s1 (hol_storeW ty_77 rfl rfl rfl rfl) rfl rfl (pre1 rfl) (c' := 4) rfl ?_
      | refine hm_s1 (hol_store ty_77 rfl rfl rfl rfl (by first | exact Nat.le_of_ble_eq_true rfl | omega | (dsimp only; omega) | (simp <;> omega)) (by first | exact Nat.le_of_ble_eq_true rfl | omega | (dsimp only; omega) | (simp <;> omega)) (by first | exact Nat.le_of_ble_eq_true rfl | omega | (dsimp only; omega) | (simp <;> omega))) rfl rfl (pre1 rfl) (c' := 4) rfl ?_
      refine hq_ 5 (hop_assign rfl) rfl rfl pre0 rfl rfl ?_
      refine hseq_nil ?_
      refine h10 _ ?_
      refine hw_ret ?_
      refine hq_ret2 rfl (rvl_cell rfl rfl ty_77 (fun h => by first | rfl | cases h) rfl rfl) (rval_tmp rfl) [] rfl pre0 ?_
      obtain rfl : Option.none = o := (by rw [← ho, two_w s1 s2 s3]; unfold St.weld; rw [if_neg k1, if_neg k3]); exact fz_t2 (fz_agg10 (by first | exact .imm _ | exact .nil _ _ _ (by decide) _ | exact fz_toks _ | exact fz_mkss _ | exact Frz.fz) (by first | exact .imm _ | exact .nil _ _ _ (by decide) _ | exact fz_toks _ | exact fz_mkss _ | exact Frz.fz) (by first | exact .imm _ | exact .nil _ _ _ (by decide) _ | exact fz_toks _ | exact fz_mkss _ | exact Frz.fz) (by first | exact .imm _ | exact .nil _ _ _ (by decide) _ | exact fz_toks _ | exact fz_mkss _ | exact Frz.fz) (by first | exact .imm _ | exact .nil _ _ _ (by decide) _ | exact fz_toks _ | exact fz_mkss _ | exact Frz.fz) (by first | exact .imm _ | exact .nil _ _ _ (by decide) _ | exact fz_toks _ | exact fz_mkss _ | exact Frz.fz) (by first | exact .imm _ | exact .nil _ _ _ (by decide) _ | exact fz_toks _ | exact fz_mkss _ | exact Frz.fz) (by first | exact .imm _ | exact .nil _ _ _ (by decide) _ | exact fz_toks _ | exact fz_mkss _ | exact Frz.fz) (by first | exact .imm _ | exact .nil _ _ _ (by decide) _ | exact fz_toks _ | exact fz_mkss _ | exact Frz.fz) (by first | exact .imm _ | exact .nil _ _ _ (by decide) _ | exact fz_toks _ | exact fz_mkss _ | exact Frz.fz)) (.imm _)
theorem two_h (a b : St) (l1 : a.sl.length ≤ 20000) (l2 : b.sl.length ≤ 20000) (l3 : a.sets.length ≤ 20000) (l4 : b.sets.length ≤ 20000) : HPure Try.prog 30 [stV a, stV b] (optV (a.two b)) := by
  by_cases hk : a.k = 1
  · by_cases hp : a.f + a.sl.length = b.f
    · exact Two_1a a b hk hp _ rfl l1 l2 l3 l4
    · by_cases hq : b.t = a.f
      · exact Two_1b a b hk hp hq _ rfl l1 l2 l3 l4
      · exact Two_1c a b hk hp hq _ rfl l1 l2 l3 l4
  · by_cases h34 : a.k = 3 ∨ a.k = 4
    · by_cases hs : a.same b = true
      · exact Two_3a a b h34 hs _ rfl l1 l2 l3 l4
      · exact Two_3b a b h34 hs _ rfl l1 l2 l3 l4
    · exact Two_0 a b hk h34 _ rfl l1 l2 l3 l4
end Go.Proofs.Ytkeeipfglmpgjaa
