/-
  The reader of signs: numbers and counts.
-/
import Derived.Test.YtijpdbjcmnpobaaDoorLx1
namespace Go.Proofs.YtijpdbjcmnpobaaDoor
set_option linter.unusedSimpArgs false
set_option linter.unusedVariables false
set_option maxRecDepth 100000
open Go.RowKit

theorem sb_int {a b : Int} (h : a = b) : Sb (intV a) (intV b) := by subst h; exact .refl _
theorem osub2 {g ty fl : Nat} {f f' : Nat → Nat → HV} (h0 : Sb (f 0 0) (f' 0 0)) (h1 : Sb (f 0 1) (f' 0 1)) (hfn : fl ≤ 1 := by exact Nat.zero_le _) : OSub ⟨g, 1, 2, ty, fl, f⟩ ⟨g, 1, 2, ty, fl, f'⟩ := .of (hfn := hfn) fun i j hi hj => by
  obtain rfl : i = 0 := by omega
  match j, hj with | 0, _ => exact h0 | 1, _ => exact h1
theorem kz_int {kp sh : List (Nat × HObj)} {a b : Int} (h : a = b) : Kz kp sh (intV a) (intV b) := by subst h; exact .fz _ _ (.imm _)
theorem atoi_h (l : List UInt8) (v : Int) (hl : l.length ≤ 1000000) (h : Lib.atoiAll l = .ok v) : HPure Tryd.prog 42 [strV l] (t2 (intV v) (.imm .nilIface)) := by
  refine ⟨⟨_, _, Tryd.func42, rfl, by kernel_rfl⟩, fun w F vs hF hr hw => ?_⟩
  obtain ⟨u, rfl, hu⟩ := rep1 hr
  rw [hu.imm_inv]
  refine (Tryd.strconv_Atoi_ok ⟨l.toArray⟩ (by rw [ba_size]; omega) v h w).mono ?_
  rintro e w' ⟨rfl, hb⟩
  have hb := below_ok hb
  exact ⟨hb, _, F, rfl, fun _ h => h, fun _ h => .inl h, fun a ha => ⟨(hF a ha).1, by rw [World.cell?_of_block (hb.block _ (lt_of_cell (hF a ha).2))]; exact (hF a ha).2⟩,
    .tup _ 2 _ (fun i => match i with | 0 => .int .i64 v | _ => .nilIface) rfl (fun i hi => by match i, hi with | 0, _ => rfl | 1, _ => rfl) (fun i hi => by match i, hi with | 0, _ => exact .imm _ | 1, _ => exact .imm _)⟩
@[reducible] def NumP (g : Nat) (s : List UInt8) (i : Nat) (low : Int) : HEnd → List (Nat × HObj) → Nat → Prop :=
  RoP (fun (x : Int × Nat) _ => numR s i low = .ok x) (fun x => intV x.1) (fun x => [(9001, rdO g s x.2)]) (fun (y : (Int × Int) × Nat) _ => numR s i low = .error y.1) (fun y => faultV y.1) (fun y => [(9001, rdO g s y.2)])
theorem number_h (c g : Nat) (s : List UInt8) (i : Nat) (low : Int) (hs : s.length ≤ 1000000) (hi : i ≤ s.length) : HFun Tryd.prog 99 c [.pt 9001 g 0 0, intV low] [(9001, rdO g s i)] (NumP g s i low) := by
  refine hfun_of Tryd.func99 rfl (by kernel_rfl) _ _ _ _ rfl 81 rfl rfl (fun X ok hX => ?_)
  refine hw_seq (fun Nh1 h1 => ?_)
  refine hw_region ?_
  refine hq_ 4 (hop_assign rfl) rfl rfl pre0 rfl rfl ?_
  refine hseq_nil ?_
  refine h1 _ ?_
  refine hw_seq (fun Nh2 h2 => ?_)
  refine hw_region ?_
  refine hq_ 8 (hop_move rfl) rfl rfl pre0 rfl rfl ?_
  first
  | refine hq_ 9 (hop_nilcheck_pt rfl) rfl rfl pre0 rfl rfl ?_
  | refine hq_ 9 (hop_nilcheck_fp rfl) rfl rfl pre0 rfl rfl ?_
  first
  | refine hq_ 10 (hop_fa fd_89_1 rfl) rfl rfl pre0 rfl rfl ?_
  | refine hq_ 10 (hop_fa_fp fd_89_1 rfl (by first | exact Nat.le_of_ble_eq_true rfl | omega | (dsimp only; omega) | (simp <;> omega))) rfl rfl pre0 rfl rfl ?_
  first
  | refine hq_ 11 (hol_load ty_3 rfl (by first | exact Nat.le_of_ble_eq_true rfl | omega | (dsimp only; omega) | (simp <;> omega)) (by first | exact Nat.le_of_ble_eq_true rfl | omega | (dsimp only; omega) | (simp <;> omega)) (fun h => by first | rfl | cases h)) rfl rfl (pre1 rfl) rfl rfl ?_
  | refine hq_ 11 (hop_load_fp ty_3 rfl (by first | exact Nat.le_of_ble_eq_true rfl | omega | (dsimp only; omega) | (simp <;> omega)) (fun h => by first | rfl | cases h)) rfl rfl pre0 rfl rfl ?_
  refine hq_ 5 (hop_assign rfl) rfl rfl pre0 rfl rfl ?_
  refine hseq_nil ?_
  refine h2 _ ?_
  refine hw_seq (fun Nh3 h3 => ?_)
  refine hw_block ?_
  refine hw_loopc (α := Nat) (fun x c => ⟨81, [(0, .v (.pt 9001 g 0 0)), (1, .v (intV low)), (4, .v (intV 0)), (5, .v (intV i))], [(9001, rdO g s (i + x))], c⟩) (fun x => x ≤ 2 ∧ i + x ≤ s.length ∧ (0 < x → digitZ (bz s i) = true) ∧ (1 < x → digitZ (bz s (i + 1)) = true ∧ bz s i ≠ 48)) (fun x => 3 - x) (0) (by exact ⟨by omega, by omega, fun h => absurd h (by omega), fun h => absurd h (by omega)⟩) (hsub_of rfl (Nat.le_refl _) (TmSub.cons rfl (Sb.refl _) (TmSub.cons rfl (Sb.refl _) (TmSub.cons rfl (Sb.refl _) (TmSub.cons rfl (Sb.refl _) TmSub.nil)))) (HpSub.cons rfl (OSub.refl _) HpSub.nil)) (fun k c hx NhL4 hL4 => ?_)
  (try dsimp only at hx hL4 ⊢)
  obtain ⟨hk, hik, hk0, hk1⟩ := hx
  refine hw_seq (fun Nh5 h5 => ?_)
  refine hw_seq (fun Nh6 h6 => ?_)
  refine hw_region ?_
  refine hq_ 12 (hop_move rfl) rfl rfl pre0 rfl rfl ?_
  refine hq_ 13 (hop_funR (xs := [_]) (pre := [(9001, _)]) (peek_h g s (i + k) hs hik) ⟨rfl, trivial⟩) rfl rfl (preC rfl pre0) rfl rfl ?_
  refine hq_ 14 (hop_call0 (xs := [_]) (digit_h _) ⟨rfl, trivial⟩ ⟨(Fz.eq rfl), trivial⟩) rfl rfl pre0 rfl rfl ?_
  refine hseq_nil ?_
  refine h6 _ ?_
  refine hw_cond _ rfl (fun hc0 => ?_) (fun hc0 => ?_)
  · have hr0 := hc0; (try simp only [decide_eq_true_eq, decide_eq_false_iff_not, Bool.and_eq_true, Bool.or_eq_true, Bool.not_eq_true', Bool.or_eq_false_iff, beq_iff_eq, bne_iff_ne, ne_eq, beq_eq_false_iff_ne, bne_eq_false_iff_eq, Bool.not_eq_true, Bool.not_eq_false, Bool.not_eq_false', Int.toNat_natCast, Int.reduceToNat] at hc0)
    have hlt := digit_lt hc0
    refine hw_skip ?_
    refine h5 _ ?_
    refine hw_block ?_
    refine hw_seq (fun Nh7 h7 => ?_)
    refine hw_seq (fun Nh8 h8 => ?_)
    refine hw_region ?_
    refine hq_ 15 (hop_move rfl) rfl rfl pre0 rfl rfl ?_
    first
    | refine hq_ 16 (hop_nilcheck_pt rfl) rfl rfl pre0 rfl rfl ?_
    | refine hq_ 16 (hop_nilcheck_fp rfl) rfl rfl pre0 rfl rfl ?_
    first
    | refine hq_ 17 (hop_fa fd_89_1 rfl) rfl rfl pre0 rfl rfl ?_
    | refine hq_ 17 (hop_fa_fp fd_89_1 rfl (by first | exact Nat.le_of_ble_eq_true rfl | omega | (dsimp only; omega) | (simp <;> omega))) rfl rfl pre0 rfl rfl ?_
    first
    | refine hq_ 18 (hol_load ty_3 rfl (by first | exact Nat.le_of_ble_eq_true rfl | omega | (dsimp only; omega) | (simp <;> omega)) (by first | exact Nat.le_of_ble_eq_true rfl | omega | (dsimp only; omega) | (simp <;> omega)) (fun h => by first | rfl | cases h)) rfl rfl (pre1 rfl) rfl rfl ?_
    | refine hq_ 18 (hop_load_fp ty_3 rfl (by first | exact Nat.le_of_ble_eq_true rfl | omega | (dsimp only; omega) | (simp <;> omega)) (fun h => by first | rfl | cases h)) rfl rfl pre0 rfl rfl ?_
    refine hq_ 19 (hop_move rfl) rfl rfl pre0 rfl rfl ?_
    first
    | refine hq_ 20 (hop_subi rfl rfl rfl (by first | exact Nat.le_of_ble_eq_true rfl | omega | (dsimp only; omega) | (simp <;> omega)) (by first | exact Nat.le_of_ble_eq_true rfl | omega | (dsimp only; omega) | (simp <;> omega))) rfl rfl pre0 rfl rfl ?_
    | refine hq_ 20 (hop_sub rfl rfl) rfl rfl pre0 rfl rfl ?_
    refine hq_ 21 (hop_eql rfl rfl) rfl rfl pre0 rfl rfl ?_
    refine hq_ 22 (hop_move rfl) rfl rfl pre0 rfl rfl ?_
    first
    | refine hq_g 23 7 22 false _ (fun hb => hop_move rfl) rfl rfl rfl rfl pre0 rfl rfl rfl ?_
    | refine hq_g2 23 7 22 _ _ false _ (fun hb => hop_move rfl) rfl rfl rfl rfl pre0 rfl rfl rfl ?_
    first
    | refine hq_g 24 7 22 false _ (fun hb => hop_nilcheck_pt rfl) rfl rfl rfl rfl pre0 rfl rfl rfl ?_
    | refine hq_g2 24 7 22 _ _ false _ (fun hb => hop_nilcheck_pt rfl) rfl rfl rfl rfl pre0 rfl rfl rfl ?_
    | refine hq_g 24 7 22 false _ (fun hb => hop_nilcheck_fp rfl) rfl rfl rfl rfl pre0 rfl rfl rfl ?_
    | refine hq_g2 24 7 22 _ _ false _ (fun hb => hop_nilcheck_fp rfl) rfl rfl rfl rfl pre0 rfl rfl rfl ?_
    first
    | refine hq_g 25 7 22 false _ (fun hb => hop_fa fd_89_1 rfl) rfl rfl rfl rfl pre0 rfl rfl rfl ?_
    | refine hq_g2 25 7 22 _ _ false _ (fun hb => hop_fa fd_89_1 rfl) rfl rfl rfl rfl pre0 rfl rfl rfl ?_
    | refine hq_g 25 7 22 false _ (fun hb => hop_fa_fp fd_89_1 rfl (by first | exact Nat.le_of_ble_eq_true rfl | (simp at hb; first | omega | (dsimp only; omega) | (simp <;> omega)))) rfl rfl rfl rfl pre0 rfl rfl rfl ?_
    | refine hq_g2 25 7 22 _ _ false _ (fun hb => hop_fa_fp fd_89_1 rfl (by first | exact Nat.le_of_ble_eq_true rfl | (simp at hb; first | omega | (dsimp only; omega) | (simp <;> omega)))) rfl rfl rfl rfl pre0 rfl rfl rfl ?_
    first
    | refine hq_g 26 7 22 false _ (fun hb => hol_load ty_3 rfl (by first | exact Nat.le_of_ble_eq_true rfl | (simp at hb; first | omega | (dsimp only; omega) | (simp <;> omega))) (by first | exact Nat.le_of_ble_eq_true rfl | (simp at hb; first | omega | (dsimp only; omega) | (simp <;> omega))) (fun h => by first | rfl | cases h)) rfl rfl rfl rfl (pre1 rfl) rfl rfl rfl ?_
    | refine hq_g2 26 7 22 _ _ false _ (fun hb => hol_load ty_3 rfl (by first | exact Nat.le_of_ble_eq_true rfl | (simp at hb; first | omega | (dsimp only; omega) | (simp <;> omega))) (by first | exact Nat.le_of_ble_eq_true rfl | (simp at hb; first | omega | (dsimp only; omega) | (simp <;> omega))) (fun h => by first | rfl | cases h)) rfl rfl rfl rfl (pre1 rfl) rfl rfl rfl ?_
    | refine hq_g 26 7 22 false _ (fun hb => hop_load_fp ty_3 rfl (by first | exact Nat.le_of_ble_eq_true rfl | (simp at hb; first | omega | (dsimp only; omega) | (simp <;> omega))) (fun h => by first | rfl | cases h)) rfl rfl rfl rfl pre0 rfl rfl rfl ?_
    | refine hq_g2 26 7 22 _ _ false _ (fun hb => hop_load_fp ty_3 rfl (by first | exact Nat.le_of_ble_eq_true rfl | (simp at hb; first | omega | (dsimp only; omega) | (simp <;> omega))) (fun h => by first | rfl | cases h)) rfl rfl rfl rfl pre0 rfl rfl rfl ?_
    first
    | refine hq_g 27 7 22 false _ (fun hb => hop_move rfl) rfl rfl rfl rfl pre0 rfl rfl rfl ?_
    | refine hq_g2 27 7 22 _ _ false _ (fun hb => hop_move rfl) rfl rfl rfl rfl pre0 rfl rfl rfl ?_
    first
    | refine hq_g 28 7 22 false _ (fun hb => hop_gtr rfl rfl) rfl rfl rfl rfl pre0 rfl rfl rfl ?_
    | refine hq_g2 28 7 22 _ _ false _ (fun hb => hop_gtr rfl rfl) rfl rfl rfl rfl pre0 rfl rfl rfl ?_
    first
    | refine hq_g 29 7 22 false _ (fun hb => hop_move rfl) rfl rfl rfl rfl pre0 rfl rfl rfl ?_
    | refine hq_g2 29 7 22 _ _ false _ (fun hb => hop_move rfl) rfl rfl rfl rfl pre0 rfl rfl rfl ?_
    first
    | refine hq_g 30 14 29 true _ (fun hb => hop_move rfl) rfl rfl rfl rfl pre0 rfl rfl rfl ?_
    | refine hq_g3 30 14 29 22 false true _ _ (fun hb hb2 => hop_move rfl) rfl rfl rfl rfl rfl pre0 rfl rfl rfl ?_
    | refine hq_g2 30 14 29 _ _ true _ (fun hb => hop_move rfl) rfl rfl rfl rfl pre0 rfl rfl rfl ?_
    first
    | refine hq_g 31 14 29 true _ (fun hb => hop_nilcheck_pt rfl) rfl rfl rfl rfl pre0 rfl rfl rfl ?_
    | refine hq_g3 31 14 29 22 false true _ _ (fun hb hb2 => hop_nilcheck_pt rfl) rfl rfl rfl rfl rfl pre0 rfl rfl rfl ?_
    | refine hq_g2 31 14 29 _ _ true _ (fun hb => hop_nilcheck_pt rfl) rfl rfl rfl rfl pre0 rfl rfl rfl ?_
    | refine hq_g 31 14 29 true _ (fun hb => hop_nilcheck_fp rfl) rfl rfl rfl rfl pre0 rfl rfl rfl ?_
    | refine hq_g3 31 14 29 22 false true _ _ (fun hb hb2 => hop_nilcheck_fp rfl) rfl rfl rfl rfl rfl pre0 rfl rfl rfl ?_
    | refine hq_g2 31 14 29 _ _ true _ (fun hb => hop_nilcheck_fp rfl) rfl rfl rfl rfl pre0 rfl rfl rfl ?_
    first
    | refine hq_g 32 14 29 true _ (fun hb => hop_fa fd_89_0 rfl) rfl rfl rfl rfl pre0 rfl rfl rfl ?_
    | refine hq_g3 32 14 29 22 false true _ _ (fun hb hb2 => hop_fa fd_89_0 rfl) rfl rfl rfl rfl rfl pre0 rfl rfl rfl ?_
    | refine hq_g2 32 14 29 _ _ true _ (fun hb => hop_fa fd_89_0 rfl) rfl rfl rfl rfl pre0 rfl rfl rfl ?_
    | refine hq_g 32 14 29 true _ (fun hb => hop_fa_fp fd_89_0 rfl (by first | exact Nat.le_of_ble_eq_true rfl | (simp at hb; first | omega | (dsimp only; omega) | (simp <;> omega)))) rfl rfl rfl rfl pre0 rfl rfl rfl ?_
    | refine hq_g3 32 14 29 22 false true _ _ (fun hb hb2 => hop_fa_fp fd_89_0 rfl (by first | exact Nat.le_of_ble_eq_true rfl | (simp at hb; omega) | (simp at hb2; omega) | (simp at hb hb2; first | omega | (dsimp only; omega) | (simp <;> omega)))) rfl rfl rfl rfl rfl pre0 rfl rfl rfl ?_
    | refine hq_g2 32 14 29 _ _ true _ (fun hb => hop_fa_fp fd_89_0 rfl (by first | exact Nat.le_of_ble_eq_true rfl | (simp at hb; first | omega | (dsimp only; omega) | (simp <;> omega)))) rfl rfl rfl rfl pre0 rfl rfl rfl ?_
    first
    | refine hq_g 33 14 29 true _ (fun hb => hol_load ty_9 rfl (by first | exact Nat.le_of_ble_eq_true rfl | (simp at hb; first | omega | (dsimp only; omega) | (simp <;> omega))) (by first | exact Nat.le_of_ble_eq_true rfl | (simp at hb; first | omega | (dsimp only; omega) | (simp <;> omega))) (fun h => by first | rfl | cases h)) rfl rfl rfl rfl (pre1 rfl) rfl rfl rfl ?_
    | refine hq_g3 33 14 29 22 false true _ _ (fun hb hb2 => hol_load ty_9 rfl (by first | exact Nat.le_of_ble_eq_true rfl | (simp at hb; omega) | (simp at hb2; omega) | (simp at hb hb2; first | omega | (dsimp only; omega) | (simp <;> omega))) (by first | exact Nat.le_of_ble_eq_true rfl | (simp at hb; omega) | (simp at hb2; omega) | (simp at hb hb2; first | omega | (dsimp only; omega) | (simp <;> omega))) (fun h => by first | rfl | cases h)) rfl rfl rfl rfl rfl (pre1 rfl) rfl rfl rfl ?_
    | refine hq_g2 33 14 29 _ _ true _ (fun hb => hol_load ty_9 rfl (by first | exact Nat.le_of_ble_eq_true rfl | (simp at hb; first | omega | (dsimp only; omega) | (simp <;> omega))) (by first | exact Nat.le_of_ble_eq_true rfl | (simp at hb; first | omega | (dsimp only; omega) | (simp <;> omega))) (fun h => by first | rfl | cases h)) rfl rfl rfl rfl (pre1 rfl) rfl rfl rfl ?_
    | refine hq_g 33 14 29 true _ (fun hb => hop_load_fp ty_9 rfl (by first | exact Nat.le_of_ble_eq_true rfl | (simp at hb; first | omega | (dsimp only; omega) | (simp <;> omega))) (fun h => by first | rfl | cases h)) rfl rfl rfl rfl pre0 rfl rfl rfl ?_
    | refine hq_g3 33 14 29 22 false true _ _ (fun hb hb2 => hop_load_fp ty_9 rfl (by first | exact Nat.le_of_ble_eq_true rfl | (simp at hb; omega) | (simp at hb2; omega) | (simp at hb hb2; first | omega | (dsimp only; omega) | (simp <;> omega))) (fun h => by first | rfl | cases h)) rfl rfl rfl rfl rfl pre0 rfl rfl rfl ?_
    | refine hq_g2 33 14 29 _ _ true _ (fun hb => hop_load_fp ty_9 rfl (by first | exact Nat.le_of_ble_eq_true rfl | (simp at hb; first | omega | (dsimp only; omega) | (simp <;> omega))) (fun h => by first | rfl | cases h)) rfl rfl rfl rfl pre0 rfl rfl rfl ?_
    first
    | refine hq_g 34 14 29 true _ (fun hb => hop_move rfl) rfl rfl rfl rfl pre0 rfl rfl rfl ?_
    | refine hq_g3 34 14 29 22 false true _ _ (fun hb hb2 => hop_move rfl) rfl rfl rfl rfl rfl pre0 rfl rfl rfl ?_
    | refine hq_g2 34 14 29 _ _ true _ (fun hb => hop_move rfl) rfl rfl rfl rfl pre0 rfl rfl rfl ?_
    first
    | refine hq_g 35 14 29 true _ (fun hb => hop_ix_strl (by kernel_rfl) rfl rfl (by first | exact Nat.le_of_ble_eq_true rfl | (simp at hb; first | omega | (dsimp only; omega) | (simp <;> omega))) (by first | exact Nat.le_of_ble_eq_true rfl | (simp at hb; first | omega | (dsimp only; omega) | (simp <;> omega)))) rfl rfl rfl rfl pre0 rfl rfl rfl ?_
    | refine hq_g3 35 14 29 22 false true _ _ (fun hb hb2 => hop_ix_strl (by kernel_rfl) rfl rfl (by first | exact Nat.le_of_ble_eq_true rfl | (simp at hb; omega) | (simp at hb2; omega) | (simp at hb hb2; first | omega | (dsimp only; omega) | (simp <;> omega))) (by first | exact Nat.le_of_ble_eq_true rfl | (simp at hb; omega) | (simp at hb2; omega) | (simp at hb hb2; first | omega | (dsimp only; omega) | (simp <;> omega)))) rfl rfl rfl rfl rfl pre0 rfl rfl rfl ?_
    | refine hq_g2 35 14 29 _ _ true _ (fun hb => hop_ix_strl (by kernel_rfl) rfl rfl (by first | exact Nat.le_of_ble_eq_true rfl | (simp at hb; first | omega | (dsimp only; omega) | (simp <;> omega))) (by first | exact Nat.le_of_ble_eq_true rfl | (simp at hb; first | omega | (dsimp only; omega) | (simp <;> omega)))) rfl rfl rfl rfl pre0 rfl rfl rfl ?_
    first
    | refine hq_g 36 14 29 true _ (fun hb => hop_eql rfl rfl) rfl rfl rfl rfl pre0 rfl rfl rfl ?_
    | refine hq_g3 36 14 29 22 false true _ _ (fun hb hb2 => hop_eql rfl rfl) rfl rfl rfl rfl rfl pre0 rfl rfl rfl ?_
    | refine hq_g2 36 14 29 _ _ true _ (fun hb => hop_eql rfl rfl) rfl rfl rfl rfl pre0 rfl rfl rfl ?_
    first
    | refine hq_pg 37 (hstep_andg (gi := 7) (j := 22) _ _ rfl rfl rfl rfl) rfl rfl rfl rfl ?_
    | refine hq_pg 37 (hstep_org (gi := 7) (j := 22) _ _ rfl rfl rfl rfl) rfl rfl rfl rfl ?_
    | refine hq_pg 37 (hstep_pickg (gi := 7) (j := 22) _ _ _ _ rfl rfl rfl rfl (fun _ => .refl _) (fun _ => .refl _)) rfl rfl rfl rfl ?_
    first
    | refine hq_p 38 (hstep_and _ _ rfl rfl rfl) rfl rfl rfl ?_
    | refine hq_p 38 (hstep_or _ _ rfl rfl rfl) rfl rfl rfl ?_
    | refine hq_p 38 (hstep_ite _ _ _ rfl rfl rfl) rfl rfl rfl ?_
    | refine hq_p 38 (hstep_pick _ _ _ _ rfl rfl rfl (fun _ => .refl _) (fun _ => .refl _)) rfl rfl rfl ?_
    refine hseq_nilU (by rfl) (by simp only [dropUn, slots]; exact rfl) ?_
    refine h8 _ ?_
    refine hw_cond _ rfl (fun hc1 => ?_) (fun hc1 => ?_)
    · have hr1 := hc1; (try simp only [decide_eq_true_eq, decide_eq_false_iff_not, Bool.and_eq_true, Bool.or_eq_true, Bool.not_eq_true', Bool.or_eq_false_iff, beq_iff_eq, bne_iff_ne, ne_eq, beq_eq_false_iff_ne, bne_eq_false_iff_eq, Bool.not_eq_true, Bool.not_eq_false, Bool.not_eq_false', Int.toNat_natCast, Int.reduceToNat] at hc1)
      refine hw_region ?_
      refine hq_ 39 (hop_move rfl) rfl rfl pre0 rfl rfl ?_
      refine hf_callP (xs := [_]) (pre := [(9001, _)]) (odd_h _ g s (i + k) hs hik) ⟨rfl, trivial⟩ (preC rfl pre0) (fun y c1 hy => ?_)
      refine (hpan_then (hpan_block (hpan_then (hpan_block (hpan_then ?_)))))
      exact hf_panR ok hX (y, i + k) (by rw [hy]; exact numR_err (num_stop hk hk0 hk1 hc0 (by rw [bz_in (show i < s.length by omega)]; omega))) rfl (kz_fault _) ⟨⟨_, rfl, kz_rd⟩, trivial⟩
    · have hr1 := hc1; (try simp only [decide_eq_true_eq, decide_eq_false_iff_not, Bool.and_eq_true, Bool.or_eq_true, Bool.not_eq_true', Bool.or_eq_false_iff, beq_iff_eq, bne_iff_ne, ne_eq, beq_eq_false_iff_ne, bne_eq_false_iff_eq, Bool.not_eq_true, Bool.not_eq_false, Bool.not_eq_false', Int.toNat_natCast, Int.reduceToNat] at hc1)
      refine hw_skip ?_
      refine h7 _ ?_
      refine hw_region ?_
      refine hq_ 41 (hop_move rfl) rfl rfl pre0 rfl rfl ?_
      first
      | refine hq_ 42 (hop_nilcheck_pt rfl) rfl rfl pre0 rfl rfl ?_
      | refine hq_ 42 (hop_nilcheck_fp rfl) rfl rfl pre0 rfl rfl ?_
      first
      | refine hq_ 43 (hop_fa fd_89_1 rfl) rfl rfl pre0 rfl rfl ?_
      | refine hq_ 43 (hop_fa_fp fd_89_1 rfl (by first | exact Nat.le_of_ble_eq_true rfl | omega | (dsimp only; omega) | (simp <;> omega))) rfl rfl pre0 rfl rfl ?_
      first
      | refine hq_ 44 (hol_load ty_3 rfl (by first | exact Nat.le_of_ble_eq_true rfl | omega | (dsimp only; omega) | (simp <;> omega)) (by first | exact Nat.le_of_ble_eq_true rfl | omega | (dsimp only; omega) | (simp <;> omega)) (fun h => by first | rfl | cases h)) rfl rfl (pre1 rfl) rfl rfl ?_
      | refine hq_ 44 (hop_load_fp ty_3 rfl (by first | exact Nat.le_of_ble_eq_true rfl | omega | (dsimp only; omega) | (simp <;> omega)) (fun h => by first | rfl | cases h)) rfl rfl pre0 rfl rfl ?_
      first
      | refine hq_ 45 (hop_addi rfl rfl rfl (by first | exact Nat.le_of_ble_eq_true rfl | omega | (dsimp only; omega) | (simp <;> omega)) (by first | exact Nat.le_of_ble_eq_true rfl | omega | (dsimp only; omega) | (simp <;> omega))) rfl rfl pre0 rfl rfl ?_
      | refine hq_ 45 (hop_add rfl rfl) rfl rfl pre0 rfl rfl ?_
      first
      | refine hq_ 46 (hop_nilcheck_pt rfl) rfl rfl pre0 rfl rfl ?_
      | refine hq_ 46 (hop_nilcheck_fp rfl) rfl rfl pre0 rfl rfl ?_
      first
      | refine hq_ 47 (hop_fa fd_89_1 rfl) rfl rfl pre0 rfl rfl ?_
      | refine hq_ 47 (hop_fa_fp fd_89_1 rfl (by first | exact Nat.le_of_ble_eq_true rfl | omega | (dsimp only; omega) | (simp <;> omega))) rfl rfl pre0 rfl rfl ?_
      first
      | refine hm_s1 (hol_storeW ty_3 rfl rfl rfl rfl) rfl rfl (pre1 rfl) (c' := c + 1) rfl ?_
      | refine hm_s1 (hol_store ty_3 rfl rfl rfl rfl (by first | exact Nat.le_of_ble_eq_true rfl | omega | (dsimp only; omega) | (simp <;> omega)) (by first | exact Nat.le_of_ble_eq_true rfl | omega | (dsimp only; omega) | (simp <;> omega)) (by first | exact Nat.le_of_ble_eq_true rfl | omega | (dsimp only; omega) | (simp <;> omega))) rfl rfl (pre1 rfl) (c' := c + 1) rfl ?_
      refine hseq_nil ?_
      refine hq_block ?_
      exact hL4 (k + 1) _ _ (by (try dsimp only); exact num_next hk hk0 hk1 hc0 (by rw [bz_in (show i < s.length by omega)]; simp only [Bool.and_eq_false_iff, decide_eq_false_iff_not, beq_eq_false_iff_ne] at hc1; omega)) (by (try dsimp only); omega) (hsub_of rfl (Nat.le_refl _) (TmSub.cons rfl (Sb.refl _) (TmSub.cons rfl (Sb.refl _) (TmSub.cons rfl (Sb.refl _) (TmSub.cons rfl (Sb.refl _) TmSub.nil)))) (HpSub.cons rfl (osub2 (.refl _) (sb_int (by omega))) HpSub.nil))
  · have hr0 := hc0; (try simp only [decide_eq_true_eq, decide_eq_false_iff_not, Bool.and_eq_true, Bool.or_eq_true, Bool.not_eq_true', Bool.or_eq_false_iff, beq_iff_eq, bne_iff_ne, ne_eq, beq_eq_false_iff_ne, bne_eq_false_iff_eq, Bool.not_eq_true, Bool.not_eq_false, Bool.not_eq_false', Int.toNat_natCast, Int.reduceToNat] at hc0)
    refine hw_exit ?_
    refine hq_then_exit ?_
    refine hq_then_exit ?_
    refine hq_block_here ?_
    refine h3 _ ?_
    refine hw_seq (fun Nh9 h9 => ?_)
    refine hw_seq (fun Nh10 h10 => ?_)
    refine hw_region ?_
    refine hq_ 48 (hop_move rfl) rfl rfl pre0 rfl rfl ?_
    first
    | refine hq_ 49 (hop_nilcheck_pt rfl) rfl rfl pre0 rfl rfl ?_
    | refine hq_ 49 (hop_nilcheck_fp rfl) rfl rfl pre0 rfl rfl ?_
    first
    | refine hq_ 50 (hop_fa fd_89_1 rfl) rfl rfl pre0 rfl rfl ?_
    | refine hq_ 50 (hop_fa_fp fd_89_1 rfl (by first | exact Nat.le_of_ble_eq_true rfl | omega | (dsimp only; omega) | (simp <;> omega))) rfl rfl pre0 rfl rfl ?_
    first
    | refine hq_ 51 (hol_load ty_3 rfl (by first | exact Nat.le_of_ble_eq_true rfl | omega | (dsimp only; omega) | (simp <;> omega)) (by first | exact Nat.le_of_ble_eq_true rfl | omega | (dsimp only; omega) | (simp <;> omega)) (fun h => by first | rfl | cases h)) rfl rfl (pre1 rfl) rfl rfl ?_
    | refine hq_ 51 (hop_load_fp ty_3 rfl (by first | exact Nat.le_of_ble_eq_true rfl | omega | (dsimp only; omega) | (simp <;> omega)) (fun h => by first | rfl | cases h)) rfl rfl pre0 rfl rfl ?_
    refine hq_ 52 (hop_move rfl) rfl rfl pre0 rfl rfl ?_
    refine hq_ 53 (hop_eql rfl rfl) rfl rfl pre0 rfl rfl ?_
    refine hseq_nil ?_
    refine h10 _ ?_
    refine hw_cond _ rfl (fun hc2 => ?_) (fun hc2 => ?_)
    · have hr2 := hc2; (try simp only [decide_eq_true_eq, decide_eq_false_iff_not, Bool.and_eq_true, Bool.or_eq_true, Bool.not_eq_true', Bool.or_eq_false_iff, beq_iff_eq, bne_iff_ne, ne_eq, beq_eq_false_iff_ne, bne_eq_false_iff_eq, Bool.not_eq_true, Bool.not_eq_false, Bool.not_eq_false', Int.toNat_natCast, Int.reduceToNat] at hc2)
      refine hw_region ?_
      refine hq_ 54 (hop_move rfl) rfl rfl pre0 rfl rfl ?_
      refine hf_callP (xs := [_]) (pre := [(9001, _)]) (odd_h _ g s (i + k) hs hik) ⟨rfl, trivial⟩ (preC rfl pre0) (fun y c2 hy => ?_)
      refine (hpan_then ?_)
      obtain rfl : k = 0 := (by omega); exact hf_panR ok hX (y, i + 0) (by rw [hy]; exact numR_err (num_zero hc0)) rfl (kz_fault _) ⟨⟨_, rfl, kz_rd⟩, trivial⟩
    · have hr2 := hc2; (try simp only [decide_eq_true_eq, decide_eq_false_iff_not, Bool.and_eq_true, Bool.or_eq_true, Bool.not_eq_true', Bool.or_eq_false_iff, beq_iff_eq, bne_iff_ne, ne_eq, beq_eq_false_iff_ne, bne_eq_false_iff_eq, Bool.not_eq_true, Bool.not_eq_false, Bool.not_eq_false', Int.toNat_natCast, Int.reduceToNat] at hc2)
      obtain ⟨v, hv, hnum, hv0, hv1⟩ := num_val hk (by omega) hk0 hk1 hc0
      refine hw_skip ?_
      refine h9 _ ?_
      refine hw_seq (fun Nh11 h11 => ?_)
      refine hd_start ?_
      refine hd_q 57 (hop_move rfl) rfl rfl pre0 rfl rfl (k' := 1) rfl ?_
      first
      | refine hd_q 58 (hop_nilcheck_pt rfl) rfl rfl pre0 rfl rfl (k' := 2) rfl ?_
      | refine hd_q 58 (hop_nilcheck_fp rfl) rfl rfl pre0 rfl rfl (k' := 2) rfl ?_
      first
      | refine hd_q 59 (hop_fa fd_89_0 rfl) rfl rfl pre0 rfl rfl (k' := 3) rfl ?_
      | refine hd_q 59 (hop_fa_fp fd_89_0 rfl (by first | exact Nat.le_of_ble_eq_true rfl | omega | (dsimp only; omega) | (simp <;> omega))) rfl rfl pre0 rfl rfl (k' := 3) rfl ?_
      first
      | refine hd_q 60 (hol_load ty_9 rfl (by first | exact Nat.le_of_ble_eq_true rfl | omega | (dsimp only; omega) | (simp <;> omega)) (by first | exact Nat.le_of_ble_eq_true rfl | omega | (dsimp only; omega) | (simp <;> omega)) (fun h => by first | rfl | cases h)) rfl rfl (pre1 rfl) rfl rfl (k' := 4) rfl ?_
      | refine hd_q 60 (hop_load_fp ty_9 rfl (by first | exact Nat.le_of_ble_eq_true rfl | omega | (dsimp only; omega) | (simp <;> omega)) (fun h => by first | rfl | cases h)) rfl rfl pre0 rfl rfl (k' := 4) rfl ?_
      refine hd_q 61 (hop_move rfl) rfl rfl pre0 rfl rfl (k' := 5) rfl ?_
      refine hd_q 62 (hop_move rfl) rfl rfl pre0 rfl rfl (k' := 6) rfl ?_
      first
      | refine hd_q 63 (hop_nilcheck_pt rfl) rfl rfl pre0 rfl rfl (k' := 7) rfl ?_
      | refine hd_q 63 (hop_nilcheck_fp rfl) rfl rfl pre0 rfl rfl (k' := 7) rfl ?_
      first
      | refine hd_q 64 (hop_fa fd_89_1 rfl) rfl rfl pre0 rfl rfl (k' := 8) rfl ?_
      | refine hd_q 64 (hop_fa_fp fd_89_1 rfl (by first | exact Nat.le_of_ble_eq_true rfl | omega | (dsimp only; omega) | (simp <;> omega))) rfl rfl pre0 rfl rfl (k' := 8) rfl ?_
      first
      | refine hd_q 65 (hol_load ty_3 rfl (by first | exact Nat.le_of_ble_eq_true rfl | omega | (dsimp only; omega) | (simp <;> omega)) (by first | exact Nat.le_of_ble_eq_true rfl | omega | (dsimp only; omega) | (simp <;> omega)) (fun h => by first | rfl | cases h)) rfl rfl (pre1 rfl) rfl rfl (k' := 9) rfl ?_
      | refine hd_q 65 (hop_load_fp ty_3 rfl (by first | exact Nat.le_of_ble_eq_true rfl | omega | (dsimp only; omega) | (simp <;> omega)) (fun h => by first | rfl | cases h)) rfl rfl pre0 rfl rfl (k' := 9) rfl ?_
      refine hd_q 66 (hop_cut_strl (by kernel_rfl) rfl (.inr ⟨_, _, rfl, rfl⟩) (.inr ⟨_, _, rfl, rfl⟩) (by first | exact Nat.le_of_ble_eq_true rfl | omega | (dsimp only; omega) | (simp <;> omega)) (by first | exact Nat.le_of_ble_eq_true rfl | omega | (dsimp only; omega) | (simp <;> omega)) (by first | exact Nat.le_of_ble_eq_true rfl | omega | (dsimp only; omega) | (simp <;> omega))) rfl rfl pre0 rfl rfl (k' := 10) rfl ?_
      refine hd_q 67 (hop_call0 (xs := [_]) (atoi_h _ v (by simp; omega) hv) ⟨rfl, trivial⟩ ⟨(Fz.eq rfl), trivial⟩) rfl rfl pre0 rfl rfl (k' := 11) rfl ?_
      refine hd_q 56 (hop_move rfl) rfl rfl pre0 rfl rfl (k' := 12) rfl ?_
      refine hd_q 68 (hop_extract rfl rfl) rfl rfl pre0 rfl rfl (k' := 13) rfl ?_
      refine hd_q 69 (hop_extract rfl rfl) rfl rfl pre0 rfl rfl (k' := 14) rfl ?_
      refine hd_q 6 (hop_assign rfl) rfl rfl pre0 rfl rfl (k' := 15) rfl ?_
      refine hd_q 7 (hop_assign rfl) rfl rfl pre0 rfl rfl (k' := 16) rfl ?_
      refine hd_nil (by kernel_rfl) (by kernel_rfl) (c' := c + 16) rfl ?_
      refine h11 _ ?_
      refine hw_seq (fun Nh12 h12 => ?_)
      refine hw_seq (fun Nh13 h13 => ?_)
      refine hw_region ?_
      refine hq_ 70 (hop_move rfl) rfl rfl pre0 rfl rfl ?_
      refine hq_ 71 (hop_move rfl) rfl rfl pre0 rfl rfl ?_
      refine hq_ 72 (hop_lss rfl rfl) rfl rfl pre0 rfl rfl ?_
      refine hq_ 73 (hop_move rfl) rfl rfl pre0 rfl rfl ?_
      first
      | refine hq_g 74 3 73 false _ (fun hb => hop_move rfl) rfl rfl rfl rfl pre0 rfl rfl rfl ?_
      | refine hq_g2 74 3 73 _ _ false _ (fun hb => hop_move rfl) rfl rfl rfl rfl pre0 rfl rfl rfl ?_
      first
      | refine hq_g 75 3 73 false _ (fun hb => hop_gtr rfl rfl) rfl rfl rfl rfl pre0 rfl rfl rfl ?_
      | refine hq_g2 75 3 73 _ _ false _ (fun hb => hop_gtr rfl rfl) rfl rfl rfl rfl pre0 rfl rfl rfl ?_
      first
      | refine hq_p 76 (hstep_and _ _ rfl rfl rfl) rfl rfl rfl ?_
      | refine hq_p 76 (hstep_or _ _ rfl rfl rfl) rfl rfl rfl ?_
      | refine hq_p 76 (hstep_ite _ _ _ rfl rfl rfl) rfl rfl rfl ?_
      | refine hq_p 76 (hstep_pick _ _ _ _ rfl rfl rfl (fun _ => .refl _) (fun _ => .refl _)) rfl rfl rfl ?_
      refine hseq_nilU (by rfl) (by simp only [dropUn, slots]; exact rfl) ?_
      refine h13 _ ?_
      refine hw_cond _ rfl (fun hc3 => ?_) (fun hc3 => ?_)
      · have hr3 := hc3; (try simp only [decide_eq_true_eq, decide_eq_false_iff_not, Bool.and_eq_true, Bool.or_eq_true, Bool.not_eq_true', Bool.or_eq_false_iff, beq_iff_eq, bne_iff_ne, ne_eq, beq_eq_false_iff_ne, bne_eq_false_iff_eq, Bool.not_eq_true, Bool.not_eq_false, Bool.not_eq_false', Int.toNat_natCast, Int.reduceToNat] at hc3)
        refine hw_region ?_
        refine hq_ 77 (hop_move rfl) rfl rfl pre0 rfl rfl ?_
        refine hq_ 78 (hop_move rfl) rfl rfl pre0 rfl rfl ?_
        refine hf_callP (xs := [_, _, _]) (pre := [(9001, _)]) (stop_h _ _ _ _ _ _) ⟨rfl, ⟨rfl, ⟨rfl, trivial⟩⟩⟩ (preC rfl pre0) (fun y c3 hy => ?_)
        refine (hpan_then ?_)
        exact hf_panR ok hX (y, i + k) (by rw [hy]; exact numR_range hnum (by simpa using hc3)) rfl (kz_fault _) ⟨⟨_, rfl, kz_rd⟩, trivial⟩
      · have hr3 := hc3; (try simp only [decide_eq_true_eq, decide_eq_false_iff_not, Bool.and_eq_true, Bool.or_eq_true, Bool.not_eq_true', Bool.or_eq_false_iff, beq_iff_eq, bne_iff_ne, ne_eq, beq_eq_false_iff_ne, bne_eq_false_iff_eq, Bool.not_eq_true, Bool.not_eq_false, Bool.not_eq_false', Int.toNat_natCast, Int.reduceToNat] at hc3)
        refine hw_skip ?_
        refine h12 _ ?_
        refine hw_seq (fun Nh14 h14 => ?_)
        refine hw_region ?_
        refine hq_ 80 (hop_move rfl) rfl rfl pre0 rfl rfl ?_
        refine hq_ 4 (hop_assign rfl) rfl rfl pre0 rfl rfl ?_
        refine hseq_nil ?_
        refine h14 _ ?_
        refine hw_ret ?_
        refine hf_retR1 ok hX RetS.two rfl (rval_tmp rfl) [] rfl pre0 ((v, i + k)) (numR_ok hnum (by simpa using hc3)) (by rfl) (by rfl) ((by first | exact .fz _ _ (.imm _) | exact .os _ _ _ _ _ rfl rfl | exact .pt _ _ _ _ _ rfl rfl | exact .nps _ _ _ rfl rfl | (dsimp only; exact .fz _ _ Frz.fz) | exact .fz _ _ (.tup 0 _ _ (fun i hi => absurd hi (Nat.not_lt_zero _))))) ?_
        exact ⟨⟨_, rfl, kz_rd⟩, trivial⟩
@[reducible] def sgF (x : Sg) : Nat → HV := fun j => match j with | 0 => intV x.kind | 1 => intV x.at_ | 2 => intV x.low | 3 => intV x.high | _ => strV x.name
@[reducible] def sgH (x : Sg) : HV := .agg 5 (sgF x)
@[reducible] def SgP (R : Except (Int × Int) (Sg × Nat)) (g : Nat) (s : List UInt8) : HEnd → List (Nat × HObj) → Nat → Prop :=
  RoP (fun (x : Sg × Nat) _ => R = .ok x) (fun x => sgH x.1) (fun x => [(9001, rdO g s x.2)]) (fun (y : (Int × Int) × Nat) _ => R = .error y.1) (fun y => faultV y.1) (fun y => [(9001, rdO g s y.2)])
theorem kz_int5 {kp sh : List (Nat × HObj)} {f f' : Nat → HV} (h0 : Kz kp sh (f 0) (f' 0)) (h1 : Kz kp sh (f 1) (f' 1)) (h2 : Kz kp sh (f 2) (f' 2)) (h3 : Kz kp sh (f 3) (f' 3)) (h4 : Kz kp sh (f 4) (f' 4)) : Kz kp sh (.agg 5 f) (.agg 5 f') := .agg _ _ _ fun i hi => by
  match i, hi with
  | 0, _ => exact h0
  | 1, _ => exact h1
  | 2, _ => exact h2
  | 3, _ => exact h3
  | 4, _ => exact h4
theorem kz_imm {kp sh : List (Nat × HObj)} {v : Value} : Kz kp sh (.imm v) (.imm v) := .fz _ _ (.imm _)
theorem count_h (c g : Nat) (s : List UInt8) (i : Nat) (hs : s.length ≤ 1000000) (hi : i < s.length) : HFun Tryd.prog 79 c [.pt 9001 g 0 0] [(9001, rdO g s i)] (SgP (countR s i) g s) := by
  refine hfun_of Tryd.func79 rfl (by kernel_rfl) _ _ _ _ rfl 71 rfl rfl (fun X ok hX => ?_)
  refine hw_seq (fun Nh1 h1 => ?_)
  refine hw_region ?_
  refine hm_1 2 (hop_alloc (id := 2) (sz := 5) zc_41 rfl rfl (by first | exact Nat.le_of_ble_eq_true rfl | omega | (dsimp only; omega) | (simp <;> omega)) (by first | exact Nat.le_of_ble_eq_true rfl | omega | (dsimp only; omega) | (simp <;> omega))) rfl rfl pre0 rfl rfl (c' := c + 1) rfl ?_
  refine hseq_nil ?_
  refine h1 _ ?_
  refine hw_seq (fun Nh2 h2 => ?_)
  refine hw_region ?_
  refine hq_ 5 (hop_move rfl) rfl rfl pre0 rfl rfl ?_
  first
  | refine hq_ 6 (hop_nilcheck_pt rfl) rfl rfl pre0 rfl rfl ?_
  | refine hq_ 6 (hop_nilcheck_fp rfl) rfl rfl pre0 rfl rfl ?_
  first
  | refine hq_ 7 (hop_fa fd_89_1 rfl) rfl rfl pre0 rfl rfl ?_
  | refine hq_ 7 (hop_fa_fp fd_89_1 rfl (by first | exact Nat.le_of_ble_eq_true rfl | omega | (dsimp only; omega) | (simp <;> omega))) rfl rfl pre0 rfl rfl ?_
  first
  | refine hq_ 8 (hol_load ty_3 rfl (by first | exact Nat.le_of_ble_eq_true rfl | omega | (dsimp only; omega) | (simp <;> omega)) (by first | exact Nat.le_of_ble_eq_true rfl | omega | (dsimp only; omega) | (simp <;> omega)) (fun h => by first | rfl | cases h)) rfl rfl (pre1 rfl) rfl rfl ?_
  | refine hq_ 8 (hop_load_fp ty_3 rfl (by first | exact Nat.le_of_ble_eq_true rfl | omega | (dsimp only; omega) | (simp <;> omega)) (fun h => by first | rfl | cases h)) rfl rfl pre0 rfl rfl ?_
  refine hq_ 9 (hop_build (hs := [(0, 1, _), (1, 1, _)]) st_41 rfl rfl ⟨rfl, rfl, rfl, rfl, rfl, ⟨rfl, rfl, rfl, rfl, rfl, trivial⟩⟩) rfl rfl pre0 rfl rfl ?_
  refine hm_1 3 (hop_alloc (id := 3) (sz := 5) zc_41 rfl rfl (by first | exact Nat.le_of_ble_eq_true rfl | omega | (dsimp only; omega) | (simp <;> omega)) (by first | exact Nat.le_of_ble_eq_true rfl | omega | (dsimp only; omega) | (simp <;> omega))) rfl rfl pre0 rfl rfl (c' := c + 2) rfl ?_
  first
  | refine hm_s1 (hol_storeW ty_41 rfl rfl rfl rfl) rfl rfl (pre1 rfl) (c' := c + 3) rfl ?_
  | refine hm_s1 (hol_store ty_41 rfl rfl rfl rfl (by first | exact Nat.le_of_ble_eq_true rfl | omega | (dsimp only; omega) | (simp <;> omega)) (by first | exact Nat.le_of_ble_eq_true rfl | omega | (dsimp only; omega) | (simp <;> omega)) (by first | exact Nat.le_of_ble_eq_true rfl | omega | (dsimp only; omega) | (simp <;> omega))) rfl rfl (pre1 rfl) (c' := c + 3) rfl ?_
  refine hseq_nil ?_
  refine h2 _ ?_
  refine hw_seq (fun Nh3 h3 => ?_)
  refine hw_region ?_
  refine hq_ 10 (hop_move rfl) rfl rfl pre0 rfl rfl ?_
  first
  | refine hq_ 11 (hop_nilcheck_pt rfl) rfl rfl pre0 rfl rfl ?_
  | refine hq_ 11 (hop_nilcheck_fp rfl) rfl rfl pre0 rfl rfl ?_
  first
  | refine hq_ 12 (hop_fa fd_89_1 rfl) rfl rfl pre0 rfl rfl ?_
  | refine hq_ 12 (hop_fa_fp fd_89_1 rfl (by first | exact Nat.le_of_ble_eq_true rfl | omega | (dsimp only; omega) | (simp <;> omega))) rfl rfl pre0 rfl rfl ?_
  first
  | refine hq_ 13 (hol_load ty_3 rfl (by first | exact Nat.le_of_ble_eq_true rfl | omega | (dsimp only; omega) | (simp <;> omega)) (by first | exact Nat.le_of_ble_eq_true rfl | omega | (dsimp only; omega) | (simp <;> omega)) (fun h => by first | rfl | cases h)) rfl rfl (pre1 rfl) rfl rfl ?_
  | refine hq_ 13 (hop_load_fp ty_3 rfl (by first | exact Nat.le_of_ble_eq_true rfl | omega | (dsimp only; omega) | (simp <;> omega)) (fun h => by first | rfl | cases h)) rfl rfl pre0 rfl rfl ?_
  first
  | refine hq_ 14 (hop_addi rfl rfl rfl (by first | exact Nat.le_of_ble_eq_true rfl | omega | (dsimp only; omega) | (simp <;> omega)) (by first | exact Nat.le_of_ble_eq_true rfl | omega | (dsimp only; omega) | (simp <;> omega))) rfl rfl pre0 rfl rfl ?_
  | refine hq_ 14 (hop_add rfl rfl) rfl rfl pre0 rfl rfl ?_
  first
  | refine hq_ 15 (hop_nilcheck_pt rfl) rfl rfl pre0 rfl rfl ?_
  | refine hq_ 15 (hop_nilcheck_fp rfl) rfl rfl pre0 rfl rfl ?_
  first
  | refine hq_ 16 (hop_fa fd_89_1 rfl) rfl rfl pre0 rfl rfl ?_
  | refine hq_ 16 (hop_fa_fp fd_89_1 rfl (by first | exact Nat.le_of_ble_eq_true rfl | omega | (dsimp only; omega) | (simp <;> omega))) rfl rfl pre0 rfl rfl ?_
  first
  | refine hm_s1 (hol_storeW ty_3 rfl rfl rfl rfl) rfl rfl (pre1 rfl) (c' := c + 4) rfl ?_
  | refine hm_s1 (hol_store ty_3 rfl rfl rfl rfl (by first | exact Nat.le_of_ble_eq_true rfl | omega | (dsimp only; omega) | (simp <;> omega)) (by first | exact Nat.le_of_ble_eq_true rfl | omega | (dsimp only; omega) | (simp <;> omega)) (by first | exact Nat.le_of_ble_eq_true rfl | omega | (dsimp only; omega) | (simp <;> omega))) rfl rfl (pre1 rfl) (c' := c + 4) rfl ?_
  refine hseq_nil ?_
  refine h3 _ ?_
  refine hw_seq (fun Nh4 h4 => ?_)
  refine (hsub_ob 9001 (rdO g s (i + 1)) rfl (by exact osub2 (.refl _) (sb_int (by omega)))).wp ?_
  refine hw_region ?_
  refine hq_ 17 (hop_move rfl) rfl rfl pre0 rfl rfl ?_
  first
  | refine hq_ 18 (hop_nilcheck_pt rfl) rfl rfl pre0 rfl rfl ?_
  | refine hq_ 18 (hop_nilcheck_fp rfl) rfl rfl pre0 rfl rfl ?_
  first
  | refine hq_ 19 (hop_fa fd_89_1 rfl) rfl rfl pre0 rfl rfl ?_
  | refine hq_ 19 (hop_fa_fp fd_89_1 rfl (by first | exact Nat.le_of_ble_eq_true rfl | omega | (dsimp only; omega) | (simp <;> omega))) rfl rfl pre0 rfl rfl ?_
  first
  | refine hq_ 20 (hol_load ty_3 rfl (by first | exact Nat.le_of_ble_eq_true rfl | omega | (dsimp only; omega) | (simp <;> omega)) (by first | exact Nat.le_of_ble_eq_true rfl | omega | (dsimp only; omega) | (simp <;> omega)) (fun h => by first | rfl | cases h)) rfl rfl (pre1 rfl) rfl rfl ?_
  | refine hq_ 20 (hop_load_fp ty_3 rfl (by first | exact Nat.le_of_ble_eq_true rfl | omega | (dsimp only; omega) | (simp <;> omega)) (fun h => by first | rfl | cases h)) rfl rfl pre0 rfl rfl ?_
  refine hq_ 4 (hop_assign rfl) rfl rfl pre0 rfl rfl ?_
  refine hseq_nil ?_
  refine h4 _ ?_
  refine hw_seq (fun Nh5 h5 => ?_)
  refine hw_region ?_
  refine hq_ 21 (hop_move rfl) rfl rfl pre0 rfl rfl ?_
  refine hf_callRP 22 (xs := [_, _]) (pre := [(9001, _)]) (number_h _ g s (i + 1) 0 hs (by omega)) ⟨rfl, ⟨rfl, trivial⟩⟩ (preC rfl pre0) rfl rfl (fun y c1 hy => (hpan_then (hf_panR ok hX y (by unfold countR; rw [hy]) rfl (kz_fault _) ⟨⟨_, rfl, kz_rd⟩, trivial⟩))) (fun x1 c1 hn => ?_)
  obtain ⟨n, p⟩ := x1
  (try dsimp only)
  first
  | refine hq_ 23 (hop_fa fd_41_2 rfl) rfl rfl pre0 rfl rfl ?_
  | refine hq_ 23 (hop_fa_fp fd_41_2 rfl (by first | exact Nat.le_of_ble_eq_true rfl | omega | (dsimp only; omega) | (simp <;> omega))) rfl rfl pre0 rfl rfl ?_
  first
  | refine hm_s1 (hol_storeW ty_3 rfl rfl rfl rfl) rfl rfl (pre1 rfl) (c' := c1 + 1) rfl ?_
  | refine hm_s1 (hol_store ty_3 rfl rfl rfl rfl (by first | exact Nat.le_of_ble_eq_true rfl | omega | (dsimp only; omega) | (simp <;> omega)) (by first | exact Nat.le_of_ble_eq_true rfl | omega | (dsimp only; omega) | (simp <;> omega)) (by first | exact Nat.le_of_ble_eq_true rfl | omega | (dsimp only; omega) | (simp <;> omega))) rfl rfl (pre1 rfl) (c' := c1 + 1) rfl ?_
  refine hseq_nil ?_
  refine h5 _ ?_
  refine hw_seq (fun Nh6 h6 => ?_)
  have hnp := numR_le (by omega) hn
  refine hw_region ?_
  first
  | refine hq_ 24 (hop_fa fd_41_2 rfl) rfl rfl pre0 rfl rfl ?_
  | refine hq_ 24 (hop_fa_fp fd_41_2 rfl (by first | exact Nat.le_of_ble_eq_true rfl | omega | (dsimp only; omega) | (simp <;> omega))) rfl rfl pre0 rfl rfl ?_
  first
  | refine hq_ 25 (hol_load ty_3 rfl (by first | exact Nat.le_of_ble_eq_true rfl | omega | (dsimp only; omega) | (simp <;> omega)) (by first | exact Nat.le_of_ble_eq_true rfl | omega | (dsimp only; omega) | (simp <;> omega)) (fun h => by first | rfl | cases h)) rfl rfl (pre1 rfl) rfl rfl ?_
  | refine hq_ 25 (hop_load_fp ty_3 rfl (by first | exact Nat.le_of_ble_eq_true rfl | omega | (dsimp only; omega) | (simp <;> omega)) (fun h => by first | rfl | cases h)) rfl rfl pre0 rfl rfl ?_
  first
  | refine hq_ 26 (hop_fa fd_41_3 rfl) rfl rfl pre0 rfl rfl ?_
  | refine hq_ 26 (hop_fa_fp fd_41_3 rfl (by first | exact Nat.le_of_ble_eq_true rfl | omega | (dsimp only; omega) | (simp <;> omega))) rfl rfl pre0 rfl rfl ?_
  first
  | refine hm_s1 (hol_storeW ty_3 rfl rfl rfl rfl) rfl rfl (pre1 rfl) (c' := c1 + 2) rfl ?_
  | refine hm_s1 (hol_store ty_3 rfl rfl rfl rfl (by first | exact Nat.le_of_ble_eq_true rfl | omega | (dsimp only; omega) | (simp <;> omega)) (by first | exact Nat.le_of_ble_eq_true rfl | omega | (dsimp only; omega) | (simp <;> omega)) (by first | exact Nat.le_of_ble_eq_true rfl | omega | (dsimp only; omega) | (simp <;> omega))) rfl rfl (pre1 rfl) (c' := c1 + 2) rfl ?_
  refine hseq_nil ?_
  refine h6 _ ?_
  refine hw_seq (fun Nh7 h7 => ?_)
  refine hw_seq (fun Nh8 h8 => ?_)
  refine hw_region ?_
  refine hq_ 27 (hop_move rfl) rfl rfl pre0 rfl rfl ?_
  refine hq_ 28 (hop_funR (xs := [_]) (pre := [(9001, _)]) (peek_h g s p hs hnp.1) ⟨rfl, trivial⟩) rfl rfl (preC rfl pre0) rfl rfl ?_
  refine hq_ 29 (hop_eql rfl rfl) rfl rfl pre0 rfl rfl ?_
  refine hseq_nil ?_
  refine h8 _ ?_
  refine hw_cond _ rfl (fun hc0 => ?_) (fun hc0 => ?_)
  · have hr0 := hc0; (try simp only [decide_eq_true_eq, decide_eq_false_iff_not, Bool.and_eq_true, Bool.or_eq_true, Bool.not_eq_true', Bool.or_eq_false_iff, beq_iff_eq, bne_iff_ne, ne_eq, beq_eq_false_iff_ne, bne_eq_false_iff_eq, Bool.not_eq_true, Bool.not_eq_false, Bool.not_eq_false', Int.toNat_natCast, Int.reduceToNat] at hc0)
    have hlt := bz_lt (s := s) (i := p) (by omega)
    refine hw_seq (fun Nh9 h9 => ?_)
    refine hw_region ?_
    refine hq_ 30 (hop_move rfl) rfl rfl pre0 rfl rfl ?_
    first
    | refine hq_ 31 (hop_nilcheck_pt rfl) rfl rfl pre0 rfl rfl ?_
    | refine hq_ 31 (hop_nilcheck_fp rfl) rfl rfl pre0 rfl rfl ?_
    first
    | refine hq_ 32 (hop_fa fd_89_1 rfl) rfl rfl pre0 rfl rfl ?_
    | refine hq_ 32 (hop_fa_fp fd_89_1 rfl (by first | exact Nat.le_of_ble_eq_true rfl | omega | (dsimp only; omega) | (simp <;> omega))) rfl rfl pre0 rfl rfl ?_
    first
    | refine hq_ 33 (hol_load ty_3 rfl (by first | exact Nat.le_of_ble_eq_true rfl | omega | (dsimp only; omega) | (simp <;> omega)) (by first | exact Nat.le_of_ble_eq_true rfl | omega | (dsimp only; omega) | (simp <;> omega)) (fun h => by first | rfl | cases h)) rfl rfl (pre1 rfl) rfl rfl ?_
    | refine hq_ 33 (hop_load_fp ty_3 rfl (by first | exact Nat.le_of_ble_eq_true rfl | omega | (dsimp only; omega) | (simp <;> omega)) (fun h => by first | rfl | cases h)) rfl rfl pre0 rfl rfl ?_
    first
    | refine hq_ 34 (hop_addi rfl rfl rfl (by first | exact Nat.le_of_ble_eq_true rfl | omega | (dsimp only; omega) | (simp <;> omega)) (by first | exact Nat.le_of_ble_eq_true rfl | omega | (dsimp only; omega) | (simp <;> omega))) rfl rfl pre0 rfl rfl ?_
    | refine hq_ 34 (hop_add rfl rfl) rfl rfl pre0 rfl rfl ?_
    first
    | refine hq_ 35 (hop_nilcheck_pt rfl) rfl rfl pre0 rfl rfl ?_
    | refine hq_ 35 (hop_nilcheck_fp rfl) rfl rfl pre0 rfl rfl ?_
    first
    | refine hq_ 36 (hop_fa fd_89_1 rfl) rfl rfl pre0 rfl rfl ?_
    | refine hq_ 36 (hop_fa_fp fd_89_1 rfl (by first | exact Nat.le_of_ble_eq_true rfl | omega | (dsimp only; omega) | (simp <;> omega))) rfl rfl pre0 rfl rfl ?_
    first
    | refine hm_s1 (hol_storeW ty_3 rfl rfl rfl rfl) rfl rfl (pre1 rfl) (c' := c1 + 3) rfl ?_
    | refine hm_s1 (hol_store ty_3 rfl rfl rfl rfl (by first | exact Nat.le_of_ble_eq_true rfl | omega | (dsimp only; omega) | (simp <;> omega)) (by first | exact Nat.le_of_ble_eq_true rfl | omega | (dsimp only; omega) | (simp <;> omega)) (by first | exact Nat.le_of_ble_eq_true rfl | omega | (dsimp only; omega) | (simp <;> omega))) rfl rfl (pre1 rfl) (c' := c1 + 3) rfl ?_
    refine hseq_nil ?_
    refine h9 _ ?_
    refine hw_seq (fun Nh10 h10 => ?_)
    refine hw_region ?_
    first
    | refine hq_ 37 (hop_fa fd_41_3 rfl) rfl rfl pre0 rfl rfl ?_
    | refine hq_ 37 (hop_fa_fp fd_41_3 rfl (by first | exact Nat.le_of_ble_eq_true rfl | omega | (dsimp only; omega) | (simp <;> omega))) rfl rfl pre0 rfl rfl ?_
    first
    | refine hm_s1 (hol_storeW ty_3 rfl rfl rfl rfl) rfl rfl (pre1 rfl) (c' := c1 + 4) rfl ?_
    | refine hm_s1 (hol_store ty_3 rfl rfl rfl rfl (by first | exact Nat.le_of_ble_eq_true rfl | omega | (dsimp only; omega) | (simp <;> omega)) (by first | exact Nat.le_of_ble_eq_true rfl | omega | (dsimp only; omega) | (simp <;> omega)) (by first | exact Nat.le_of_ble_eq_true rfl | omega | (dsimp only; omega) | (simp <;> omega))) rfl rfl (pre1 rfl) (c' := c1 + 4) rfl ?_
    refine hseq_nil ?_
    refine h10 _ ?_
    refine hw_seq (fun Nh11 h11 => ?_)
    refine (hsub_ob 9001 (rdO g s (p + 1)) rfl (by exact osub2 (.refl _) (sb_int (by omega)))).wp ?_
    refine hw_region ?_
    refine hq_ 38 (hop_move rfl) rfl rfl pre0 rfl rfl ?_
    refine hq_ 39 (hop_funR (xs := [_]) (pre := [(9001, _)]) (peek_h g s (p + 1) hs hlt) ⟨rfl, trivial⟩) rfl rfl (preC rfl pre0) rfl rfl ?_
    refine hq_ 40 (hop_neq rfl rfl) rfl rfl pre0 rfl rfl ?_
    refine hseq_nil ?_
    refine h11 _ ?_
    refine hw_cond _ rfl (fun hc1 => ?_) (fun hc1 => ?_)
    · have hr1 := hc1; (try simp only [decide_eq_true_eq, decide_eq_false_iff_not, Bool.and_eq_true, Bool.or_eq_true, Bool.not_eq_true', Bool.or_eq_false_iff, beq_iff_eq, bne_iff_ne, ne_eq, beq_eq_false_iff_ne, bne_eq_false_iff_eq, Bool.not_eq_true, Bool.not_eq_false, Bool.not_eq_false', Int.toNat_natCast, Int.reduceToNat] at hc1)
      refine hw_region ?_
      refine hq_ 41 (hop_move rfl) rfl rfl pre0 rfl rfl ?_
      first
      | refine hq_ 42 (hop_fa fd_41_2 rfl) rfl rfl pre0 rfl rfl ?_
      | refine hq_ 42 (hop_fa_fp fd_41_2 rfl (by first | exact Nat.le_of_ble_eq_true rfl | omega | (dsimp only; omega) | (simp <;> omega))) rfl rfl pre0 rfl rfl ?_
      first
      | refine hq_ 43 (hol_load ty_3 rfl (by first | exact Nat.le_of_ble_eq_true rfl | omega | (dsimp only; omega) | (simp <;> omega)) (by first | exact Nat.le_of_ble_eq_true rfl | omega | (dsimp only; omega) | (simp <;> omega)) (fun h => by first | rfl | cases h)) rfl rfl (pre1 rfl) rfl rfl ?_
      | refine hq_ 43 (hop_load_fp ty_3 rfl (by first | exact Nat.le_of_ble_eq_true rfl | omega | (dsimp only; omega) | (simp <;> omega)) (fun h => by first | rfl | cases h)) rfl rfl pre0 rfl rfl ?_
      refine hq_ 44 (hop_max rfl rfl) rfl rfl pre0 rfl rfl ?_
      refine hf_callRP 45 (xs := [_, _]) (pre := [(9001, _)]) (number_h _ g s (p + 1) (if 1 > n then 1 else n) hs hlt) ⟨rfl, ⟨rfl, trivial⟩⟩ (preC rfl pre0) rfl rfl (fun y c2 hy => (hpan_then (hf_panR ok hX y (by unfold countR; rw [hn]; simp only; rw [if_pos hc0, if_neg hc1, hy]) rfl (kz_fault _) ⟨⟨_, rfl, kz_rd⟩, trivial⟩))) (fun x2 c2 hm => ?_)
      obtain ⟨m, q⟩ := x2
      (try dsimp only)
      first
      | refine hq_ 46 (hop_fa fd_41_3 rfl) rfl rfl pre0 rfl rfl ?_
      | refine hq_ 46 (hop_fa_fp fd_41_3 rfl (by first | exact Nat.le_of_ble_eq_true rfl | omega | (dsimp only; omega) | (simp <;> omega))) rfl rfl pre0 rfl rfl ?_
      first
      | refine hm_s1 (hol_storeW ty_3 rfl rfl rfl rfl) rfl rfl (pre1 rfl) (c' := c2 + 1) rfl ?_
      | refine hm_s1 (hol_store ty_3 rfl rfl rfl rfl (by first | exact Nat.le_of_ble_eq_true rfl | omega | (dsimp only; omega) | (simp <;> omega)) (by first | exact Nat.le_of_ble_eq_true rfl | omega | (dsimp only; omega) | (simp <;> omega)) (by first | exact Nat.le_of_ble_eq_true rfl | omega | (dsimp only; omega) | (simp <;> omega))) rfl rfl (pre1 rfl) (c' := c2 + 1) rfl ?_
      refine hseq_nil ?_
      refine h7 _ ?_
      refine hw_seq (fun Nh12 h12 => ?_)
      refine hw_seq (fun Nh13 h13 => ?_)
      have hmq := numR_le hlt hm
      refine hw_region ?_
      refine hq_ 58 (hop_move rfl) rfl rfl pre0 rfl rfl ?_
      refine hq_ 59 (hop_funR (xs := [_]) (pre := [(9001, _)]) (peek_h g s q hs hmq.1) ⟨rfl, trivial⟩) rfl rfl (preC rfl pre0) rfl rfl ?_
      refine hq_ 60 (hop_neq rfl rfl) rfl rfl pre0 rfl rfl ?_
      refine hseq_nil ?_
      refine h13 _ ?_
      refine hw_cond _ rfl (fun hc3 => ?_) (fun hc3 => ?_)
      · have hr3 := hc3; (try simp only [decide_eq_true_eq, decide_eq_false_iff_not, Bool.and_eq_true, Bool.or_eq_true, Bool.not_eq_true', Bool.or_eq_false_iff, beq_iff_eq, bne_iff_ne, ne_eq, beq_eq_false_iff_ne, bne_eq_false_iff_eq, Bool.not_eq_true, Bool.not_eq_false, Bool.not_eq_false', Int.toNat_natCast, Int.reduceToNat] at hc3)
        refine hw_region ?_
        refine hq_ 61 (hop_move rfl) rfl rfl pre0 rfl rfl ?_
        refine hf_callP (xs := [_]) (pre := [(9001, _)]) (odd_h _ g s q hs hmq.1) ⟨rfl, trivial⟩ (preC rfl pre0) (fun y c3 hy => ?_)
        refine (hpan_then ?_)
        exact hf_panR ok hX (y, q) (by rw [hy]; unfold countR; rw [hn]; simp only; rw [if_pos hc0, if_neg hc1, hm]; simp only; rw [if_neg hc3]) rfl (kz_fault _) ⟨⟨_, rfl, kz_rd⟩, trivial⟩
      · have hr3 := hc3; (try simp only [decide_eq_true_eq, decide_eq_false_iff_not, Bool.and_eq_true, Bool.or_eq_true, Bool.not_eq_true', Bool.or_eq_false_iff, beq_iff_eq, bne_iff_ne, ne_eq, beq_eq_false_iff_ne, bne_eq_false_iff_eq, Bool.not_eq_true, Bool.not_eq_false, Bool.not_eq_false', Int.toNat_natCast, Int.reduceToNat] at hc3)
        refine hw_skip ?_
        refine h12 _ ?_
        refine hw_seq (fun Nh14 h14 => ?_)
        refine hw_region ?_
        refine hq_ 63 (hop_move rfl) rfl rfl pre0 rfl rfl ?_
        first
        | refine hq_ 64 (hop_nilcheck_pt rfl) rfl rfl pre0 rfl rfl ?_
        | refine hq_ 64 (hop_nilcheck_fp rfl) rfl rfl pre0 rfl rfl ?_
        first
        | refine hq_ 65 (hop_fa fd_89_1 rfl) rfl rfl pre0 rfl rfl ?_
        | refine hq_ 65 (hop_fa_fp fd_89_1 rfl (by first | exact Nat.le_of_ble_eq_true rfl | omega | (dsimp only; omega) | (simp <;> omega))) rfl rfl pre0 rfl rfl ?_
        first
        | refine hq_ 66 (hol_load ty_3 rfl (by first | exact Nat.le_of_ble_eq_true rfl | omega | (dsimp only; omega) | (simp <;> omega)) (by first | exact Nat.le_of_ble_eq_true rfl | omega | (dsimp only; omega) | (simp <;> omega)) (fun h => by first | rfl | cases h)) rfl rfl (pre1 rfl) rfl rfl ?_
        | refine hq_ 66 (hop_load_fp ty_3 rfl (by first | exact Nat.le_of_ble_eq_true rfl | omega | (dsimp only; omega) | (simp <;> omega)) (fun h => by first | rfl | cases h)) rfl rfl pre0 rfl rfl ?_
        first
        | refine hq_ 67 (hop_addi rfl rfl rfl (by first | exact Nat.le_of_ble_eq_true rfl | omega | (dsimp only; omega) | (simp <;> omega)) (by first | exact Nat.le_of_ble_eq_true rfl | omega | (dsimp only; omega) | (simp <;> omega))) rfl rfl pre0 rfl rfl ?_
        | refine hq_ 67 (hop_add rfl rfl) rfl rfl pre0 rfl rfl ?_
        first
        | refine hq_ 68 (hop_nilcheck_pt rfl) rfl rfl pre0 rfl rfl ?_
        | refine hq_ 68 (hop_nilcheck_fp rfl) rfl rfl pre0 rfl rfl ?_
        first
        | refine hq_ 69 (hop_fa fd_89_1 rfl) rfl rfl pre0 rfl rfl ?_
        | refine hq_ 69 (hop_fa_fp fd_89_1 rfl (by first | exact Nat.le_of_ble_eq_true rfl | omega | (dsimp only; omega) | (simp <;> omega))) rfl rfl pre0 rfl rfl ?_
        first
        | refine hm_s1 (hol_storeW ty_3 rfl rfl rfl rfl) rfl rfl (pre1 rfl) (c' := c2 + 2) rfl ?_
        | refine hm_s1 (hol_store ty_3 rfl rfl rfl rfl (by first | exact Nat.le_of_ble_eq_true rfl | omega | (dsimp only; omega) | (simp <;> omega)) (by first | exact Nat.le_of_ble_eq_true rfl | omega | (dsimp only; omega) | (simp <;> omega)) (by first | exact Nat.le_of_ble_eq_true rfl | omega | (dsimp only; omega) | (simp <;> omega))) rfl rfl (pre1 rfl) (c' := c2 + 2) rfl ?_
        refine hseq_nil ?_
        refine h14 _ ?_
        refine hw_seq (fun Nh15 h15 => ?_)
        refine hw_region ?_
        first
        | refine hq_ 70 (hol_load ty_41 rfl (by first | exact Nat.le_of_ble_eq_true rfl | omega | (dsimp only; omega) | (simp <;> omega)) (by first | exact Nat.le_of_ble_eq_true rfl | omega | (dsimp only; omega) | (simp <;> omega)) (fun h => by first | rfl | cases h)) rfl rfl (pre1 rfl) rfl rfl ?_
        | refine hq_ 70 (hop_load_fp ty_41 rfl (by first | exact Nat.le_of_ble_eq_true rfl | omega | (dsimp only; omega) | (simp <;> omega)) (fun h => by first | rfl | cases h)) rfl rfl pre0 rfl rfl ?_
        first
        | refine hm_s1 (hol_storeW ty_41 rfl rfl rfl rfl) rfl rfl (pre1 rfl) (c' := c2 + 3) rfl ?_
        | refine hm_s1 (hol_store ty_41 rfl rfl rfl rfl (by first | exact Nat.le_of_ble_eq_true rfl | omega | (dsimp only; omega) | (simp <;> omega)) (by first | exact Nat.le_of_ble_eq_true rfl | omega | (dsimp only; omega) | (simp <;> omega)) (by first | exact Nat.le_of_ble_eq_true rfl | omega | (dsimp only; omega) | (simp <;> omega))) rfl rfl (pre1 rfl) (c' := c2 + 3) rfl ?_
        refine hseq_nil ?_
        refine h15 _ ?_
        refine hw_ret ?_
        refine hf_retR1 ok hX RetS.two rfl (rvl_cell rfl rfl ty_41 (fun h => by first | rfl | cases h) rfl rfl) [] rfl pre0 ((⟨5, i, n, m, []⟩, q + 1)) (by unfold countR; rw [hn]; simp only; rw [if_pos hc0, if_neg hc1, hm]; simp only; rw [if_pos hc3]) (by rfl) (by rfl) (kz_int5 kz_imm kz_imm kz_imm kz_imm kz_imm) ?_
        exact ⟨⟨_, rfl, okz2 (by first | exact .fz _ _ (.imm _) | exact .os _ _ _ _ _ rfl rfl | exact .pt _ _ _ _ _ rfl rfl | exact .nps _ _ _ rfl rfl | (dsimp only; exact .fz _ _ Frz.fz) | exact .fz _ _ (.tup 0 _ _ (fun i hi => absurd hi (Nat.not_lt_zero _)))) (kz_int (by omega))⟩, trivial⟩
    · have hr1 := hc1; (try simp only [decide_eq_true_eq, decide_eq_false_iff_not, Bool.and_eq_true, Bool.or_eq_true, Bool.not_eq_true', Bool.or_eq_false_iff, beq_iff_eq, bne_iff_ne, ne_eq, beq_eq_false_iff_ne, bne_eq_false_iff_eq, Bool.not_eq_true, Bool.not_eq_false, Bool.not_eq_false', Int.toNat_natCast, Int.reduceToNat] at hc1)
      refine hw_skip ?_
      refine h7 _ ?_
      refine hw_seq (fun Nh16 h16 => ?_)
      refine hw_seq (fun Nh17 h17 => ?_)
      refine hw_region ?_
      refine hq_ 58 (hop_move rfl) rfl rfl pre0 rfl rfl ?_
      refine hq_ 59 (hop_funR (xs := [_]) (pre := [(9001, _)]) (peek_h g s (p + 1) hs hlt) ⟨rfl, trivial⟩) rfl rfl (preC rfl pre0) rfl rfl ?_
      refine hq_ 60 (hop_neq rfl rfl) rfl rfl pre0 rfl rfl ?_
      refine hseq_nil ?_
      refine h17 _ ?_
      refine hw_cond _ rfl (fun hc3 => ?_) (fun hc3 => ?_)
      · have hr3 := hc3; (try simp only [decide_eq_true_eq, decide_eq_false_iff_not, Bool.and_eq_true, Bool.or_eq_true, Bool.not_eq_true', Bool.or_eq_false_iff, beq_iff_eq, bne_iff_ne, ne_eq, beq_eq_false_iff_ne, bne_eq_false_iff_eq, Bool.not_eq_true, Bool.not_eq_false, Bool.not_eq_false', Int.toNat_natCast, Int.reduceToNat] at hc3)
        exfalso; exact hc3 hc1
      · have hr3 := hc3; (try simp only [decide_eq_true_eq, decide_eq_false_iff_not, Bool.and_eq_true, Bool.or_eq_true, Bool.not_eq_true', Bool.or_eq_false_iff, beq_iff_eq, bne_iff_ne, ne_eq, beq_eq_false_iff_ne, bne_eq_false_iff_eq, Bool.not_eq_true, Bool.not_eq_false, Bool.not_eq_false', Int.toNat_natCast, Int.reduceToNat] at hc3)
        refine hw_skip ?_
        refine h16 _ ?_
        refine hw_seq (fun Nh18 h18 => ?_)
        refine hw_region ?_
        refine hq_ 63 (hop_move rfl) rfl rfl pre0 rfl rfl ?_
        first
        | refine hq_ 64 (hop_nilcheck_pt rfl) rfl rfl pre0 rfl rfl ?_
        | refine hq_ 64 (hop_nilcheck_fp rfl) rfl rfl pre0 rfl rfl ?_
        first
        | refine hq_ 65 (hop_fa fd_89_1 rfl) rfl rfl pre0 rfl rfl ?_
        | refine hq_ 65 (hop_fa_fp fd_89_1 rfl (by first | exact Nat.le_of_ble_eq_true rfl | omega | (dsimp only; omega) | (simp <;> omega))) rfl rfl pre0 rfl rfl ?_
        first
        | refine hq_ 66 (hol_load ty_3 rfl (by first | exact Nat.le_of_ble_eq_true rfl | omega | (dsimp only; omega) | (simp <;> omega)) (by first | exact Nat.le_of_ble_eq_true rfl | omega | (dsimp only; omega) | (simp <;> omega)) (fun h => by first | rfl | cases h)) rfl rfl (pre1 rfl) rfl rfl ?_
        | refine hq_ 66 (hop_load_fp ty_3 rfl (by first | exact Nat.le_of_ble_eq_true rfl | omega | (dsimp only; omega) | (simp <;> omega)) (fun h => by first | rfl | cases h)) rfl rfl pre0 rfl rfl ?_
        first
        | refine hq_ 67 (hop_addi rfl rfl rfl (by first | exact Nat.le_of_ble_eq_true rfl | omega | (dsimp only; omega) | (simp <;> omega)) (by first | exact Nat.le_of_ble_eq_true rfl | omega | (dsimp only; omega) | (simp <;> omega))) rfl rfl pre0 rfl rfl ?_
        | refine hq_ 67 (hop_add rfl rfl) rfl rfl pre0 rfl rfl ?_
        first
        | refine hq_ 68 (hop_nilcheck_pt rfl) rfl rfl pre0 rfl rfl ?_
        | refine hq_ 68 (hop_nilcheck_fp rfl) rfl rfl pre0 rfl rfl ?_
        first
        | refine hq_ 69 (hop_fa fd_89_1 rfl) rfl rfl pre0 rfl rfl ?_
        | refine hq_ 69 (hop_fa_fp fd_89_1 rfl (by first | exact Nat.le_of_ble_eq_true rfl | omega | (dsimp only; omega) | (simp <;> omega))) rfl rfl pre0 rfl rfl ?_
        first
        | refine hm_s1 (hol_storeW ty_3 rfl rfl rfl rfl) rfl rfl (pre1 rfl) (c' := c1 + 5) rfl ?_
        | refine hm_s1 (hol_store ty_3 rfl rfl rfl rfl (by first | exact Nat.le_of_ble_eq_true rfl | omega | (dsimp only; omega) | (simp <;> omega)) (by first | exact Nat.le_of_ble_eq_true rfl | omega | (dsimp only; omega) | (simp <;> omega)) (by first | exact Nat.le_of_ble_eq_true rfl | omega | (dsimp only; omega) | (simp <;> omega))) rfl rfl (pre1 rfl) (c' := c1 + 5) rfl ?_
        refine hseq_nil ?_
        refine h18 _ ?_
        refine hw_seq (fun Nh19 h19 => ?_)
        refine hw_region ?_
        first
        | refine hq_ 70 (hol_load ty_41 rfl (by first | exact Nat.le_of_ble_eq_true rfl | omega | (dsimp only; omega) | (simp <;> omega)) (by first | exact Nat.le_of_ble_eq_true rfl | omega | (dsimp only; omega) | (simp <;> omega)) (fun h => by first | rfl | cases h)) rfl rfl (pre1 rfl) rfl rfl ?_
        | refine hq_ 70 (hop_load_fp ty_41 rfl (by first | exact Nat.le_of_ble_eq_true rfl | omega | (dsimp only; omega) | (simp <;> omega)) (fun h => by first | rfl | cases h)) rfl rfl pre0 rfl rfl ?_
        first
        | refine hm_s1 (hol_storeW ty_41 rfl rfl rfl rfl) rfl rfl (pre1 rfl) (c' := c1 + 6) rfl ?_
        | refine hm_s1 (hol_store ty_41 rfl rfl rfl rfl (by first | exact Nat.le_of_ble_eq_true rfl | omega | (dsimp only; omega) | (simp <;> omega)) (by first | exact Nat.le_of_ble_eq_true rfl | omega | (dsimp only; omega) | (simp <;> omega)) (by first | exact Nat.le_of_ble_eq_true rfl | omega | (dsimp only; omega) | (simp <;> omega))) rfl rfl (pre1 rfl) (c' := c1 + 6) rfl ?_
        refine hseq_nil ?_
        refine h19 _ ?_
        refine hw_ret ?_
        refine hf_retR1 ok hX RetS.two rfl (rvl_cell rfl rfl ty_41 (fun h => by first | rfl | cases h) rfl rfl) [] rfl pre0 ((⟨5, i, n, -1, []⟩, p + 2)) (by unfold countR; rw [hn]; simp only; rw [if_pos hc0, if_pos hc1]) (by rfl) (by rfl) (kz_int5 kz_imm kz_imm kz_imm kz_imm kz_imm) ?_
        exact ⟨⟨_, rfl, okz2 (by first | exact .fz _ _ (.imm _) | exact .os _ _ _ _ _ rfl rfl | exact .pt _ _ _ _ _ rfl rfl | exact .nps _ _ _ rfl rfl | (dsimp only; exact .fz _ _ Frz.fz) | exact .fz _ _ (.tup 0 _ _ (fun i hi => absurd hi (Nat.not_lt_zero _)))) (kz_int (by omega))⟩, trivial⟩
  · have hr0 := hc0; (try simp only [decide_eq_true_eq, decide_eq_false_iff_not, Bool.and_eq_true, Bool.or_eq_true, Bool.not_eq_true', Bool.or_eq_false_iff, beq_iff_eq, bne_iff_ne, ne_eq, beq_eq_false_iff_ne, bne_eq_false_iff_eq, Bool.not_eq_true, Bool.not_eq_false, Bool.not_eq_false', Int.toNat_natCast, Int.reduceToNat] at hc0)
    refine hw_seq (fun Nh20 h20 => ?_)
    refine hw_region ?_
    refine hq_ 47 (hop_move rfl) rfl rfl pre0 rfl rfl ?_
    refine hq_ 48 (hop_funR (xs := [_]) (pre := [(9001, _)]) (peek_h g s p hs hnp.1) ⟨rfl, trivial⟩) rfl rfl (preC rfl pre0) rfl rfl ?_
    refine hq_ 49 (hop_eql rfl rfl) rfl rfl pre0 rfl rfl ?_
    refine hq_ 50 (hop_move rfl) rfl rfl pre0 rfl rfl ?_
    first
    | refine hq_g 51 3 50 true _ (fun hb => hop_fa fd_41_2 rfl) rfl rfl rfl rfl pre0 rfl rfl rfl ?_
    | refine hq_g2 51 3 50 _ _ true _ (fun hb => hop_fa fd_41_2 rfl) rfl rfl rfl rfl pre0 rfl rfl rfl ?_
    | refine hq_g 51 3 50 true _ (fun hb => hop_fa_fp fd_41_2 rfl (by first | exact Nat.le_of_ble_eq_true rfl | (simp at hb; first | omega | (dsimp only; omega) | (simp <;> omega)))) rfl rfl rfl rfl pre0 rfl rfl rfl ?_
    | refine hq_g2 51 3 50 _ _ true _ (fun hb => hop_fa_fp fd_41_2 rfl (by first | exact Nat.le_of_ble_eq_true rfl | (simp at hb; first | omega | (dsimp only; omega) | (simp <;> omega)))) rfl rfl rfl rfl pre0 rfl rfl rfl ?_
    first
    | refine hq_g 52 3 50 true _ (fun hb => hol_load ty_3 rfl (by first | exact Nat.le_of_ble_eq_true rfl | (simp at hb; first | omega | (dsimp only; omega) | (simp <;> omega))) (by first | exact Nat.le_of_ble_eq_true rfl | (simp at hb; first | omega | (dsimp only; omega) | (simp <;> omega))) (fun h => by first | rfl | cases h)) rfl rfl rfl rfl (pre1 rfl) rfl rfl rfl ?_
    | refine hq_g2 52 3 50 _ _ true _ (fun hb => hol_load ty_3 rfl (by first | exact Nat.le_of_ble_eq_true rfl | (simp at hb; first | omega | (dsimp only; omega) | (simp <;> omega))) (by first | exact Nat.le_of_ble_eq_true rfl | (simp at hb; first | omega | (dsimp only; omega) | (simp <;> omega))) (fun h => by first | rfl | cases h)) rfl rfl rfl rfl (pre1 rfl) rfl rfl rfl ?_
    | refine hq_g 52 3 50 true _ (fun hb => hop_load_fp ty_3 rfl (by first | exact Nat.le_of_ble_eq_true rfl | (simp at hb; first | omega | (dsimp only; omega) | (simp <;> omega))) (fun h => by first | rfl | cases h)) rfl rfl rfl rfl pre0 rfl rfl rfl ?_
    | refine hq_g2 52 3 50 _ _ true _ (fun hb => hop_load_fp ty_3 rfl (by first | exact Nat.le_of_ble_eq_true rfl | (simp at hb; first | omega | (dsimp only; omega) | (simp <;> omega))) (fun h => by first | rfl | cases h)) rfl rfl rfl rfl pre0 rfl rfl rfl ?_
    first
    | refine hq_g 53 3 50 true _ (fun hb => hop_eql rfl rfl) rfl rfl rfl rfl pre0 rfl rfl rfl ?_
    | refine hq_g2 53 3 50 _ _ true _ (fun hb => hop_eql rfl rfl) rfl rfl rfl rfl pre0 rfl rfl rfl ?_
    first
    | refine hq_p 54 (hstep_and _ _ rfl rfl rfl) rfl rfl rfl ?_
    | refine hq_p 54 (hstep_or _ _ rfl rfl rfl) rfl rfl rfl ?_
    | refine hq_p 54 (hstep_ite _ _ _ rfl rfl rfl) rfl rfl rfl ?_
    | refine hq_p 54 (hstep_pick _ _ _ _ rfl rfl rfl (fun _ => .refl _) (fun _ => .refl _)) rfl rfl rfl ?_
    refine hseq_nilU (by rfl) (by simp only [dropUn, slots]; exact rfl) ?_
    refine h20 _ ?_
    refine hw_cond _ rfl (fun hc2 => ?_) (fun hc2 => ?_)
    · have hr2 := hc2; (try simp only [decide_eq_true_eq, decide_eq_false_iff_not, Bool.and_eq_true, Bool.or_eq_true, Bool.not_eq_true', Bool.or_eq_false_iff, beq_iff_eq, bne_iff_ne, ne_eq, beq_eq_false_iff_ne, bne_eq_false_iff_eq, Bool.not_eq_true, Bool.not_eq_false, Bool.not_eq_false', Int.toNat_natCast, Int.reduceToNat] at hc2)
      refine hw_region ?_
      refine hq_ 55 (hop_move rfl) rfl rfl pre0 rfl rfl ?_
      refine hq_ 56 (hop_move rfl) rfl rfl pre0 rfl rfl ?_
      refine hf_callP (xs := [_, _, _]) (pre := [(9001, _)]) (stop_h _ _ _ _ _ _) ⟨rfl, ⟨rfl, ⟨rfl, trivial⟩⟩⟩ (preC rfl pre0) (fun y c4 hy => ?_)
      refine (hpan_then ?_)
      exact hf_panR ok hX (y, p) (by rw [hy]; unfold countR; rw [hn]; simp only; rw [if_neg hc0, if_pos hc2.1, if_pos hc2.2]) rfl (kz_fault _) ⟨⟨_, rfl, kz_rd⟩, trivial⟩
    · have hr2 := hc2; (try simp only [decide_eq_true_eq, decide_eq_false_iff_not, Bool.and_eq_true, Bool.or_eq_true, Bool.not_eq_true', Bool.or_eq_false_iff, beq_iff_eq, bne_iff_ne, ne_eq, beq_eq_false_iff_ne, bne_eq_false_iff_eq, Bool.not_eq_true, Bool.not_eq_false, Bool.not_eq_false', Int.toNat_natCast, Int.reduceToNat] at hc2)
      refine hw_skip ?_
      refine h7 _ ?_
      refine hw_seq (fun Nh21 h21 => ?_)
      refine hw_seq (fun Nh22 h22 => ?_)
      refine hw_region ?_
      refine hq_ 58 (hop_move rfl) rfl rfl pre0 rfl rfl ?_
      refine hq_ 59 (hop_funR (xs := [_]) (pre := [(9001, _)]) (peek_h g s p hs hnp.1) ⟨rfl, trivial⟩) rfl rfl (preC rfl pre0) rfl rfl ?_
      refine hq_ 60 (hop_neq rfl rfl) rfl rfl pre0 rfl rfl ?_
      refine hseq_nil ?_
      refine h22 _ ?_
      refine hw_cond _ rfl (fun hc3 => ?_) (fun hc3 => ?_)
      · have hr3 := hc3; (try simp only [decide_eq_true_eq, decide_eq_false_iff_not, Bool.and_eq_true, Bool.or_eq_true, Bool.not_eq_true', Bool.or_eq_false_iff, beq_iff_eq, bne_iff_ne, ne_eq, beq_eq_false_iff_ne, bne_eq_false_iff_eq, Bool.not_eq_true, Bool.not_eq_false, Bool.not_eq_false', Int.toNat_natCast, Int.reduceToNat] at hc3)
        refine hw_region ?_
        refine hq_ 61 (hop_move rfl) rfl rfl pre0 rfl rfl ?_
        refine hf_callP (xs := [_]) (pre := [(9001, _)]) (odd_h _ g s p hs hnp.1) ⟨rfl, trivial⟩ (preC rfl pre0) (fun y c5 hy => ?_)
        refine (hpan_then ?_)
        exact hf_panR ok hX (y, p) (by rw [hy]; unfold countR; rw [hn]; simp only; rw [if_neg hc0, if_neg hc3]) rfl (kz_fault _) ⟨⟨_, rfl, kz_rd⟩, trivial⟩
      · have hr3 := hc3; (try simp only [decide_eq_true_eq, decide_eq_false_iff_not, Bool.and_eq_true, Bool.or_eq_true, Bool.not_eq_true', Bool.or_eq_false_iff, beq_iff_eq, bne_iff_ne, ne_eq, beq_eq_false_iff_ne, bne_eq_false_iff_eq, Bool.not_eq_true, Bool.not_eq_false, Bool.not_eq_false', Int.toNat_natCast, Int.reduceToNat] at hc3)
        refine hw_skip ?_
        refine h21 _ ?_
        refine hw_seq (fun Nh23 h23 => ?_)
        refine hw_region ?_
        refine hq_ 63 (hop_move rfl) rfl rfl pre0 rfl rfl ?_
        first
        | refine hq_ 64 (hop_nilcheck_pt rfl) rfl rfl pre0 rfl rfl ?_
        | refine hq_ 64 (hop_nilcheck_fp rfl) rfl rfl pre0 rfl rfl ?_
        first
        | refine hq_ 65 (hop_fa fd_89_1 rfl) rfl rfl pre0 rfl rfl ?_
        | refine hq_ 65 (hop_fa_fp fd_89_1 rfl (by first | exact Nat.le_of_ble_eq_true rfl | omega | (dsimp only; omega) | (simp <;> omega))) rfl rfl pre0 rfl rfl ?_
        first
        | refine hq_ 66 (hol_load ty_3 rfl (by first | exact Nat.le_of_ble_eq_true rfl | omega | (dsimp only; omega) | (simp <;> omega)) (by first | exact Nat.le_of_ble_eq_true rfl | omega | (dsimp only; omega) | (simp <;> omega)) (fun h => by first | rfl | cases h)) rfl rfl (pre1 rfl) rfl rfl ?_
        | refine hq_ 66 (hop_load_fp ty_3 rfl (by first | exact Nat.le_of_ble_eq_true rfl | omega | (dsimp only; omega) | (simp <;> omega)) (fun h => by first | rfl | cases h)) rfl rfl pre0 rfl rfl ?_
        first
        | refine hq_ 67 (hop_addi rfl rfl rfl (by first | exact Nat.le_of_ble_eq_true rfl | omega | (dsimp only; omega) | (simp <;> omega)) (by first | exact Nat.le_of_ble_eq_true rfl | omega | (dsimp only; omega) | (simp <;> omega))) rfl rfl pre0 rfl rfl ?_
        | refine hq_ 67 (hop_add rfl rfl) rfl rfl pre0 rfl rfl ?_
        first
        | refine hq_ 68 (hop_nilcheck_pt rfl) rfl rfl pre0 rfl rfl ?_
        | refine hq_ 68 (hop_nilcheck_fp rfl) rfl rfl pre0 rfl rfl ?_
        first
        | refine hq_ 69 (hop_fa fd_89_1 rfl) rfl rfl pre0 rfl rfl ?_
        | refine hq_ 69 (hop_fa_fp fd_89_1 rfl (by first | exact Nat.le_of_ble_eq_true rfl | omega | (dsimp only; omega) | (simp <;> omega))) rfl rfl pre0 rfl rfl ?_
        first
        | refine hm_s1 (hol_storeW ty_3 rfl rfl rfl rfl) rfl rfl (pre1 rfl) (c' := c1 + 3) rfl ?_
        | refine hm_s1 (hol_store ty_3 rfl rfl rfl rfl (by first | exact Nat.le_of_ble_eq_true rfl | omega | (dsimp only; omega) | (simp <;> omega)) (by first | exact Nat.le_of_ble_eq_true rfl | omega | (dsimp only; omega) | (simp <;> omega)) (by first | exact Nat.le_of_ble_eq_true rfl | omega | (dsimp only; omega) | (simp <;> omega))) rfl rfl (pre1 rfl) (c' := c1 + 3) rfl ?_
        refine hseq_nil ?_
        refine h23 _ ?_
        refine hw_seq (fun Nh24 h24 => ?_)
        refine hw_region ?_
        first
        | refine hq_ 70 (hol_load ty_41 rfl (by first | exact Nat.le_of_ble_eq_true rfl | omega | (dsimp only; omega) | (simp <;> omega)) (by first | exact Nat.le_of_ble_eq_true rfl | omega | (dsimp only; omega) | (simp <;> omega)) (fun h => by first | rfl | cases h)) rfl rfl (pre1 rfl) rfl rfl ?_
        | refine hq_ 70 (hop_load_fp ty_41 rfl (by first | exact Nat.le_of_ble_eq_true rfl | omega | (dsimp only; omega) | (simp <;> omega)) (fun h => by first | rfl | cases h)) rfl rfl pre0 rfl rfl ?_
        first
        | refine hm_s1 (hol_storeW ty_41 rfl rfl rfl rfl) rfl rfl (pre1 rfl) (c' := c1 + 4) rfl ?_
        | refine hm_s1 (hol_store ty_41 rfl rfl rfl rfl (by first | exact Nat.le_of_ble_eq_true rfl | omega | (dsimp only; omega) | (simp <;> omega)) (by first | exact Nat.le_of_ble_eq_true rfl | omega | (dsimp only; omega) | (simp <;> omega)) (by first | exact Nat.le_of_ble_eq_true rfl | omega | (dsimp only; omega) | (simp <;> omega))) rfl rfl (pre1 rfl) (c' := c1 + 4) rfl ?_
        refine hseq_nil ?_
        refine h24 _ ?_
        refine hw_ret ?_
        refine hf_retR1 ok hX RetS.two rfl (rvl_cell rfl rfl ty_41 (fun h => by first | rfl | cases h) rfl rfl) [] rfl pre0 ((⟨5, i, n, n, []⟩, p + 1)) (by unfold countR; rw [hn]; simp only; rw [if_neg hc0, if_pos hc3, if_neg (fun h0 => by rw [hc3, h0] at hr2; exact absurd hr2 (by decide))]) (by rfl) (by rfl) (kz_int5 kz_imm kz_imm kz_imm kz_imm kz_imm) ?_
        exact ⟨⟨_, rfl, okz2 (by first | exact .fz _ _ (.imm _) | exact .os _ _ _ _ _ rfl rfl | exact .pt _ _ _ _ _ rfl rfl | exact .nps _ _ _ rfl rfl | (dsimp only; exact .fz _ _ Frz.fz) | exact .fz _ _ (.tup 0 _ _ (fun i hi => absurd hi (Nat.not_lt_zero _)))) (kz_int (by omega))⟩, trivial⟩
end Go.Proofs.YtijpdbjcmnpobaaDoor
