/-
  The signs of a text, by the program: the walk.
-/
import Derived.Test.YtijpdbjcmnpobaaDoorLx4
namespace Go.Proofs.YtijpdbjcmnpobaaDoor
set_option linter.unusedSimpArgs false
set_option linter.unusedVariables false
set_option maxRecDepth 100000
open Go.RowKit

theorem sg_imm (x : Sg) (j : Nat) : ∃ v, sgF x j = .imm v := by
  match j with
  | 0 => exact ⟨_, rfl⟩
  | 1 => exact ⟨_, rfl⟩
  | 2 => exact ⟨_, rfl⟩
  | 3 => exact ⟨_, rfl⟩
  | j + 4 => exact ⟨_, rfl⟩
theorem sg_fz {sh : List (Nat × HObj)} (x : Sg) (j : Nat) : Fz sh (sgF x j) (sgF x j) := by
  obtain ⟨v, hv⟩ := sg_imm x j
  rw [hv]; exact .imm _
theorem osub1 {g ty fl : Nat} {f f' : Nat → Nat → HV} (h0 : Sb (f 0 0) (f' 0 0)) (hfn : fl ≤ 1 := by exact Nat.zero_le _) : OSub ⟨g, 1, 1, ty, fl, f⟩ ⟨g, 1, 1, ty, fl, f'⟩ := .of (hfn := hfn) fun i j hi hj => by
  obtain rfl : i = 0 := by omega
  match j, hj with | 0, _ => exact h0
@[reducible] def cloV : HV := .fn (.func 51) ([.pt 2 0 0 0, .pt 3 1 0 0, .pt 4 2 0 0] : List HV).length (fun i => ([.pt 2 0 0 0, .pt 3 1 0 0, .pt 4 2 0 0] : List HV).getD i default)
theorem lex_pan {w : World} {F : Addr → Prop} {s : List UInt8} {fn : Func} {n clk : Nat} {tm : List (Nat × TV)} {hp : List (Nat × HObj)} {y : Int × Int} {x : HV} {va ve : Int} (hv : lexV s = .error y) (hfn : fn.results = #[.cell 2 33, .cell 3 3, .cell 4 29])
    (h2 : tget tm 2 = some (.v (.pt 2 0 0 0))) (h3 : tget tm 3 = some (.v (.pt 3 1 0 0))) (h4 : tget tm 4 = some (.v (.pt 4 2 0 0)))
    (o2 : hget hp 2 = some (cell1 0 33 x)) (o3 : hget hp 3 = some (cell1 1 3 (intV va))) (o4 : hget hp 4 = some (cell1 2 29 (intV ve))) :
    HPan ((Ctx.top w F).wait cloV) (bodyPostD Tryd.prog fn (PurePost w F (lexH (lexO (lexV s))))) ⟨n, tm, hp, clk⟩ (faultV y) := by
  refine hpan_wait rfl (lex1_P clk 0 1 2 x va ve y) (preC o2 (preC o3 (preC o4 pre0))) (fun x kp c' h => by obtain ⟨_, _, h, _⟩ := h; cases h) (fun r kp c' h => ?_)
  obtain ⟨_, _, hr, hk⟩ := h
  subst hk
  refine hq_ret3 hfn (rvl_cell h2 rfl ty_33 (fun h => by first | rfl | cases h) rfl rfl) (rvl_cell h3 rfl ty_3 (fun h => by first | rfl | cases h) rfl rfl) (rvl_cell h4 rfl ty_29 (fun h => by first | rfl | cases h) rfl rfl) [] rfl pre0 ?_
  rw [hv]
  exact fz_t3 (.nil 0 5 _ (by decide) none) (.imm _) (.imm _)
theorem sign_d (g : Nat) (s : List UInt8) (i : Nat) (hs : s.length ≤ 1000000) (hi : i ≤ s.length) {x : Sg} {q : Nat} (h : oneR s i = .ok (x, q)) : HFunD Tryd.prog 57 [.pt 9001 g 0 0] [(9001, rdO g s i)] (sgH x) [(9001, rdO g s q)] := fun c =>
  (sign_h c g s i hs hi).mono fun e kp c' hP => by
    rcases hP with ⟨y, hy, he, hk⟩ | ⟨y, hy, _⟩
    · rw [h] at hy; injection hy with hy; subst hy; exact ⟨(), trivial, he, hk⟩
    · rw [h] at hy; cases hy
theorem lex_h (s : List UInt8) (hs : s.length ≤ 1000000) : HPure Tryd.prog 22 [strV s] (lexH (lexO (lexV s))) := by
  have hV := lexV_at s
  refine hpure_ofD Tryd.func22 rfl (by kernel_rfl) _ _ _ rfl 55 rfl rfl (fun w F => ?_)
  refine hw_seqC (fun Nh1 h1 => ?_)
  refine hw_region ?_
  refine hm_1 2 (hop_alloc (id := 2) (sz := 1) zc_33 rfl rfl (by first | exact Nat.le_of_ble_eq_true rfl | omega | (dsimp only; omega) | (simp <;> omega)) (by first | exact Nat.le_of_ble_eq_true rfl | omega | (dsimp only; omega) | (simp <;> omega))) rfl rfl pre0 rfl rfl (c' := 1) rfl ?_
  refine hm_1 3 (hop_alloc (id := 3) (sz := 1) zc_3 rfl rfl (by first | exact Nat.le_of_ble_eq_true rfl | omega | (dsimp only; omega) | (simp <;> omega)) (by first | exact Nat.le_of_ble_eq_true rfl | omega | (dsimp only; omega) | (simp <;> omega))) rfl rfl pre0 rfl rfl (c' := 2) rfl ?_
  refine hm_1 4 (hop_alloc (id := 4) (sz := 1) zc_29 rfl rfl (by first | exact Nat.le_of_ble_eq_true rfl | omega | (dsimp only; omega) | (simp <;> omega)) (by first | exact Nat.le_of_ble_eq_true rfl | omega | (dsimp only; omega) | (simp <;> omega))) rfl rfl pre0 rfl rfl (c' := 3) rfl ?_
  refine hseq_nil ?_
  refine h1 _ _ ?_
  refine hw_seqC (fun Nh2 h2 => ?_)
  refine hw_region ?_
  refine hq_ 7 (hop_makeFunc (hs := [_, _, _]) ⟨rfl, ⟨rfl, ⟨rfl, trivial⟩⟩⟩) rfl rfl pre0 rfl rfl ?_
  refine hseq_defer rfl ?_
  refine h2 _ _ ?_
  refine hw_seqC (fun Nh3 h3 => ?_)
  refine hw_region ?_
  refine hq_ 8 (hop_move rfl) rfl rfl pre0 rfl rfl ?_
  refine hq_ 9 (hop_build (hs := [(0, 1, _)]) st_89 rfl rfl ⟨rfl, rfl, rfl, rfl, rfl, trivial⟩) rfl rfl pre0 rfl rfl ?_
  refine hm_1 10 (hop_box (id := 9001) (sz := 2) rfl rfl rfl (by decide) (by decide)) rfl rfl pre0 rfl rfl (c' := 4) rfl ?_
  refine hq_ 5 (hop_assign rfl) rfl rfl pre0 rfl rfl ?_
  refine hseq_nil ?_
  refine h3 _ _ ?_
  refine hw_block ?_
  refine (hsub_ownc 2 0 54 5 41 (sgsF []) (fun _ _ => .os 54 4 0 0) rfl rfl (fun j hj => .inl ⟨by omega, rfl⟩) (by decide) (by decide) (c' := 5) rfl).wp ?_
  refine hw_loopc (α := Nat × List Sg × Nat × Nat) (fun x c => ⟨55, [(0, .v (strV s)), (2, .v (.pt 2 0 0 0)), (3, .v (.pt 3 1 0 0)), (4, .v (.pt 4 2 0 0)), (5, .v (.pt 9001 3 0 0))], [(9001, rdO 3 s x.1), (2, cell1 0 33 (.os 54 x.2.2.1 0 x.2.2.2)), (3, cell1 1 3 (intV 0)), (4, cell1 2 29 (intV 0)), (54, ⟨x.2.2.1, x.2.2.2, 5, 41, 0, sgsF x.2.1⟩)], c⟩) (fun x => x.1 ≤ s.length ∧ x.2.1.length ≤ 200 ∧ x.2.2.2 = x.2.1.length ∧ lexAt s x.1 x.2.1 = lexV s) (fun x => s.length - x.1) ((0, [], 4, 0)) (by exact ⟨Nat.zero_le _, Nat.zero_le _, rfl, hV⟩) (hsub_of rfl (Nat.le_refl _) (TmSub.cons rfl (Sb.refl _) (TmSub.cons rfl (Sb.refl _) (TmSub.cons rfl (Sb.refl _) (TmSub.cons rfl (Sb.refl _) (TmSub.cons rfl (Sb.refl _) TmSub.nil))))) (HpSub.cons rfl (osub2 (.refl _) (.refl _)) (HpSub.cons rfl (OSub.refl _) (HpSub.cons rfl (osub1 (.refl _)) (HpSub.cons rfl (osub1 (.refl _)) (HpSub.cons rfl (OSub.refl _) HpSub.nil)))))) (fun x c hx NhL4 hL4 => ?_)
  revert hx hL4; obtain ⟨i, out, gl, n⟩ := x; intro hx hL4; dsimp only at hx hL4 ⊢
  obtain ⟨hi, hol, hn, hL⟩ := hx
  refine hw_block ?_
  refine hw_seqC (fun Nh5 h5 => ?_)
  refine hw_block ?_
  refine hw_loopc (α := Nat) (fun x c => ⟨55, [(0, .v (strV s)), (2, .v (.pt 2 0 0 0)), (3, .v (.pt 3 1 0 0)), (4, .v (.pt 4 2 0 0)), (5, .v (.pt 9001 3 0 0))], [(9001, rdO 3 s x), (2, cell1 0 33 (.os 54 gl 0 n)), (3, cell1 1 3 (intV 0)), (4, cell1 2 29 (intV 0)), (54, ⟨gl, n, 5, 41, 0, sgsF out⟩)], c⟩) (fun x => i ≤ x ∧ x ≤ s.length ∧ lexAt s x out = lexV s) (fun x => s.length - x) (i) (by exact ⟨Nat.le_refl _, hi, hL⟩) (hsub_of rfl (Nat.le_refl _) (TmSub.cons rfl (Sb.refl _) (TmSub.cons rfl (Sb.refl _) (TmSub.cons rfl (Sb.refl _) (TmSub.cons rfl (Sb.refl _) (TmSub.cons rfl (Sb.refl _) TmSub.nil))))) (HpSub.cons rfl (OSub.refl _) (HpSub.cons rfl (OSub.refl _) (HpSub.cons rfl (OSub.refl _) (HpSub.cons rfl (OSub.refl _) (HpSub.cons rfl (OSub.refl _) HpSub.nil)))))) (fun j c hx NhL6 hL6 => ?_)
  (try dsimp only at hx hL6 ⊢)
  obtain ⟨hij, hj, hLj⟩ := hx
  refine hw_seqC (fun Nh7 h7 => ?_)
  refine hw_seqC (fun Nh8 h8 => ?_)
  refine hw_region ?_
  refine hq_ 11 (hop_move rfl) rfl rfl pre0 rfl rfl ?_
  refine hq_ 12 (hop_funR (xs := [_]) (pre := [(9001, _)]) (peek_h 3 s j hs hj) ⟨rfl, trivial⟩) rfl rfl (preC rfl pre0) rfl rfl ?_
  refine hq_ 13 (hop_eql rfl rfl) rfl rfl pre0 rfl rfl ?_
  refine hseq_nil ?_
  refine h8 _ _ ?_
  refine hw_cond _ rfl (fun hc0 => ?_) (fun hc0 => ?_)
  · have hr0 := hc0; (try simp only [decide_eq_true_eq, decide_eq_false_iff_not, Bool.and_eq_true, Bool.or_eq_true, Bool.not_eq_true', Bool.or_eq_false_iff, beq_iff_eq, bne_iff_ne, ne_eq, beq_eq_false_iff_ne, bne_eq_false_iff_eq, Bool.not_eq_true, Bool.not_eq_false, Bool.not_eq_false', Int.toNat_natCast, Int.reduceToNat] at hc0)
    have hlt : j < s.length := bz_lt (by omega)
    refine hw_skip ?_
    refine h7 _ _ ?_
    refine hw_block ?_
    refine hw_region ?_
    refine hq_ 14 (hop_move rfl) rfl rfl pre0 rfl rfl ?_
    first
    | refine hq_ 15 (hop_nilcheck_pt rfl) rfl rfl pre0 rfl rfl ?_
    | refine hq_ 15 (hop_nilcheck_fp rfl) rfl rfl pre0 rfl rfl ?_
    first
    | refine hq_ 16 (hop_fa fd_89_1 rfl) rfl rfl pre0 rfl rfl ?_
    | refine hq_ 16 (hop_fa_fp fd_89_1 rfl (by first | exact Nat.le_of_ble_eq_true rfl | omega | (dsimp only; omega) | (simp <;> omega))) rfl rfl pre0 rfl rfl ?_
    first
    | refine hq_ 17 (hol_load ty_3 rfl (by first | exact Nat.le_of_ble_eq_true rfl | omega | (dsimp only; omega) | (simp <;> omega)) (by first | exact Nat.le_of_ble_eq_true rfl | omega | (dsimp only; omega) | (simp <;> omega)) (fun h => by first | rfl | cases h)) rfl rfl (pre1 rfl) rfl rfl ?_
    | refine hq_ 17 (hop_load_fp ty_3 rfl (by first | exact Nat.le_of_ble_eq_true rfl | omega | (dsimp only; omega) | (simp <;> omega)) (fun h => by first | rfl | cases h)) rfl rfl pre0 rfl rfl ?_
    first
    | refine hq_ 18 (hop_addi rfl rfl rfl (by first | exact Nat.le_of_ble_eq_true rfl | omega | (dsimp only; omega) | (simp <;> omega)) (by first | exact Nat.le_of_ble_eq_true rfl | omega | (dsimp only; omega) | (simp <;> omega))) rfl rfl pre0 rfl rfl ?_
    | refine hq_ 18 (hop_add rfl rfl) rfl rfl pre0 rfl rfl ?_
    first
    | refine hq_ 19 (hop_nilcheck_pt rfl) rfl rfl pre0 rfl rfl ?_
    | refine hq_ 19 (hop_nilcheck_fp rfl) rfl rfl pre0 rfl rfl ?_
    first
    | refine hq_ 20 (hop_fa fd_89_1 rfl) rfl rfl pre0 rfl rfl ?_
    | refine hq_ 20 (hop_fa_fp fd_89_1 rfl (by first | exact Nat.le_of_ble_eq_true rfl | omega | (dsimp only; omega) | (simp <;> omega))) rfl rfl pre0 rfl rfl ?_
    first
    | refine hm_s1 (hol_storeW ty_3 rfl rfl rfl rfl) rfl rfl (pre1 rfl) (c' := c + 1) rfl ?_
    | refine hm_s1 (hol_store ty_3 rfl rfl rfl rfl (by first | exact Nat.le_of_ble_eq_true rfl | omega | (dsimp only; omega) | (simp <;> omega)) (by first | exact Nat.le_of_ble_eq_true rfl | omega | (dsimp only; omega) | (simp <;> omega)) (by first | exact Nat.le_of_ble_eq_true rfl | omega | (dsimp only; omega) | (simp <;> omega))) rfl rfl (pre1 rfl) (c' := c + 1) rfl ?_
    refine hseq_nil ?_
    refine hq_block ?_
    exact hL6 (j + 1) _ _ (by (try dsimp only); exact ⟨by omega, hlt, by rw [← lexAt_sp hlt hc0]; exact hLj⟩) (by (try dsimp only); omega) (hsub_of rfl (Nat.le_refl _) (TmSub.cons rfl (Sb.refl _) (TmSub.cons rfl (Sb.refl _) (TmSub.cons rfl (Sb.refl _) (TmSub.cons rfl (Sb.refl _) (TmSub.cons rfl (Sb.refl _) TmSub.nil))))) (HpSub.cons rfl (osub2 (.refl _) (sb_int (by omega))) (HpSub.cons rfl (OSub.refl _) (HpSub.cons rfl (OSub.refl _) (HpSub.cons rfl (OSub.refl _) (HpSub.cons rfl (OSub.refl _) HpSub.nil))))))
  · have hr0 := hc0; (try simp only [decide_eq_true_eq, decide_eq_false_iff_not, Bool.and_eq_true, Bool.or_eq_true, Bool.not_eq_true', Bool.or_eq_false_iff, beq_iff_eq, bne_iff_ne, ne_eq, beq_eq_false_iff_ne, bne_eq_false_iff_eq, Bool.not_eq_true, Bool.not_eq_false, Bool.not_eq_false', Int.toNat_natCast, Int.reduceToNat] at hc0)
    refine hw_exit ?_
    refine hq_then_exit ?_
    refine hq_then_exit ?_
    refine hq_block_here ?_
    refine h5 _ _ ?_
    refine hw_seqC (fun Nh9 h9 => ?_)
    refine hw_seqC (fun Nh10 h10 => ?_)
    refine hw_region ?_
    refine hq_ 21 (hop_move rfl) rfl rfl pre0 rfl rfl ?_
    first
    | refine hq_ 22 (hop_nilcheck_pt rfl) rfl rfl pre0 rfl rfl ?_
    | refine hq_ 22 (hop_nilcheck_fp rfl) rfl rfl pre0 rfl rfl ?_
    first
    | refine hq_ 23 (hop_fa fd_89_1 rfl) rfl rfl pre0 rfl rfl ?_
    | refine hq_ 23 (hop_fa_fp fd_89_1 rfl (by first | exact Nat.le_of_ble_eq_true rfl | omega | (dsimp only; omega) | (simp <;> omega))) rfl rfl pre0 rfl rfl ?_
    first
    | refine hq_ 24 (hol_load ty_3 rfl (by first | exact Nat.le_of_ble_eq_true rfl | omega | (dsimp only; omega) | (simp <;> omega)) (by first | exact Nat.le_of_ble_eq_true rfl | omega | (dsimp only; omega) | (simp <;> omega)) (fun h => by first | rfl | cases h)) rfl rfl (pre1 rfl) rfl rfl ?_
    | refine hq_ 24 (hop_load_fp ty_3 rfl (by first | exact Nat.le_of_ble_eq_true rfl | omega | (dsimp only; omega) | (simp <;> omega)) (fun h => by first | rfl | cases h)) rfl rfl pre0 rfl rfl ?_
    refine hq_ 25 (hop_move rfl) rfl rfl pre0 rfl rfl ?_
    refine hq_ 26 (hop_len_strl (T := 9) rfl (by kernel_rfl) rfl) rfl rfl pre0 rfl rfl ?_
    refine hq_ 27 (hop_eql rfl rfl) rfl rfl pre0 rfl rfl ?_
    refine hseq_nil ?_
    refine h10 _ _ ?_
    refine hw_cond _ rfl (fun hc1 => ?_) (fun hc1 => ?_)
    · have hr1 := hc1; (try simp only [decide_eq_true_eq, decide_eq_false_iff_not, Bool.and_eq_true, Bool.or_eq_true, Bool.not_eq_true', Bool.or_eq_false_iff, beq_iff_eq, bne_iff_ne, ne_eq, beq_eq_false_iff_ne, bne_eq_false_iff_eq, Bool.not_eq_true, Bool.not_eq_false, Bool.not_eq_false', Int.toNat_natCast, Int.reduceToNat] at hc1)
      refine hw_seqC (fun Nh11 h11 => ?_)
      refine hw_region ?_
      first
      | refine hq_ 28 (hol_load ty_33 rfl (by first | exact Nat.le_of_ble_eq_true rfl | omega | (dsimp only; omega) | (simp <;> omega)) (by first | exact Nat.le_of_ble_eq_true rfl | omega | (dsimp only; omega) | (simp <;> omega)) (fun h => by first | rfl | cases h)) rfl rfl (pre1 rfl) rfl rfl ?_
      | refine hq_ 28 (hop_load_fp ty_33 rfl (by first | exact Nat.le_of_ble_eq_true rfl | omega | (dsimp only; omega) | (simp <;> omega)) (fun h => by first | rfl | cases h)) rfl rfl pre0 rfl rfl ?_
      first
      | refine hm_s1 (hol_storeW ty_33 rfl rfl rfl rfl) rfl rfl (pre1 rfl) (c' := c + 1) rfl ?_
      | refine hm_s1 (hol_store ty_33 rfl rfl rfl rfl (by first | exact Nat.le_of_ble_eq_true rfl | omega | (dsimp only; omega) | (simp <;> omega)) (by first | exact Nat.le_of_ble_eq_true rfl | omega | (dsimp only; omega) | (simp <;> omega)) (by first | exact Nat.le_of_ble_eq_true rfl | omega | (dsimp only; omega) | (simp <;> omega))) rfl rfl (pre1 rfl) (c' := c + 1) rfl ?_
      first
      | refine hm_s1 (hol_storeW ty_3 rfl rfl rfl rfl) rfl rfl (pre1 rfl) (c' := c + 2) rfl ?_
      | refine hm_s1 (hol_store ty_3 rfl rfl rfl rfl (by first | exact Nat.le_of_ble_eq_true rfl | omega | (dsimp only; omega) | (simp <;> omega)) (by first | exact Nat.le_of_ble_eq_true rfl | omega | (dsimp only; omega) | (simp <;> omega)) (by first | exact Nat.le_of_ble_eq_true rfl | omega | (dsimp only; omega) | (simp <;> omega))) rfl rfl (pre1 rfl) (c' := c + 2) rfl ?_
      first
      | refine hm_s1 (hol_storeW ty_29 rfl rfl rfl rfl) rfl rfl (pre1 rfl) (c' := c + 3) rfl ?_
      | refine hm_s1 (hol_store ty_29 rfl rfl rfl rfl (by first | exact Nat.le_of_ble_eq_true rfl | omega | (dsimp only; omega) | (simp <;> omega)) (by first | exact Nat.le_of_ble_eq_true rfl | omega | (dsimp only; omega) | (simp <;> omega)) (by first | exact Nat.le_of_ble_eq_true rfl | omega | (dsimp only; omega) | (simp <;> omega))) rfl rfl (pre1 rfl) (c' := c + 3) rfl ?_
      refine hseq_nil ?_
      refine h11 _ _ ?_
      refine hw_ret ?_
      refine hq_then_ret ?_
      refine hq_block_ret ?_
      refine hq_then_ret ?_
      refine hq_block_ret ?_
      refine hq_wait rfl (lex1_R _ 0 1 2 gl n (sgsF out) (fun i j => sg_imm _ j) 0 0) (preC rfl (preC rfl (preC rfl (preC rfl pre0)))) (fun x kp c' h => by obtain ⟨_, _, h, _⟩ := h; cases h) (fun r kp c' h => ?_); obtain ⟨_, _, hr, hk⟩ := h; subst hk
      refine hq_ret3 rfl (rvl_cell rfl rfl ty_33 (fun h => by first | rfl | cases h) rfl rfl) (rvl_cell rfl rfl ty_3 (fun h => by first | rfl | cases h) rfl rfl) (rvl_cell rfl rfl ty_29 (fun h => by first | rfl | cases h) rfl rfl) [(54, _)] rfl (preC rfl pre0) ?_
      have e : lexV s = .ok out := (by rw [← hLj]; exact lexAt_end (by omega)); rw [e]; exact fz_t3 (fz_row (l := out) (enc := sgF) (d := default) (List.mem_cons_self ..) rfl hn (Nat.le_refl _) (fun i j hi hj => sg_fz _ j)) (.imm _) (.imm _)
    · have hr1 := hc1; (try simp only [decide_eq_true_eq, decide_eq_false_iff_not, Bool.and_eq_true, Bool.or_eq_true, Bool.not_eq_true', Bool.or_eq_false_iff, beq_iff_eq, bne_iff_ne, ne_eq, beq_eq_false_iff_ne, bne_eq_false_iff_eq, Bool.not_eq_true, Bool.not_eq_false, Bool.not_eq_false', Int.toNat_natCast, Int.reduceToNat] at hc1)
      have hjl : j < s.length := (by omega)
      refine hw_skip ?_
      refine h9 _ _ ?_
      refine hw_seqC (fun Nh12 h12 => ?_)
      refine hw_seqC (fun Nh13 h13 => ?_)
      refine hw_region ?_
      first
      | refine hq_ 29 (hol_load ty_33 rfl (by first | exact Nat.le_of_ble_eq_true rfl | omega | (dsimp only; omega) | (simp <;> omega)) (by first | exact Nat.le_of_ble_eq_true rfl | omega | (dsimp only; omega) | (simp <;> omega)) (fun h => by first | rfl | cases h)) rfl rfl (pre1 rfl) rfl rfl ?_
      | refine hq_ 29 (hop_load_fp ty_33 rfl (by first | exact Nat.le_of_ble_eq_true rfl | omega | (dsimp only; omega) | (simp <;> omega)) (fun h => by first | rfl | cases h)) rfl rfl pre0 rfl rfl ?_
      first
      | refine hq_ 30 (hop_len_sl (T := 33) rfl (elOf_spec el_33).1 rfl) rfl rfl pre0 rfl rfl ?_
      | refine hq_ 30 (hop_len_os (T := 33) rfl (elOf_spec el_33).1 rfl) rfl rfl pre0 rfl rfl ?_
      | refine hq_ 30 (hop_len_nil (T := 33) rfl (elOf_spec el_33).1 rfl) rfl rfl pre0 rfl rfl ?_
      refine hq_ 31 (hop_eql rfl rfl) rfl rfl pre0 rfl rfl ?_
      refine hseq_nil ?_
      refine h13 _ _ ?_
      refine hw_cond _ rfl (fun hc2 => ?_) (fun hc2 => ?_)
      · have hr2 := hc2; (try simp only [decide_eq_true_eq, decide_eq_false_iff_not, Bool.and_eq_true, Bool.or_eq_true, Bool.not_eq_true', Bool.or_eq_false_iff, beq_iff_eq, bne_iff_ne, ne_eq, beq_eq_false_iff_ne, bne_eq_false_iff_eq, Bool.not_eq_true, Bool.not_eq_false, Bool.not_eq_false', Int.toNat_natCast, Int.reduceToNat] at hc2)
        refine hw_seqC (fun Nh14 h14 => ?_)
        refine hw_seqC (fun Nh15 h15 => ?_)
        refine hw_region ?_
        refine hq_ 32 (hop_move rfl) rfl rfl pre0 rfl rfl ?_
        refine hq_ 33 (hop_funR (xs := [_]) (pre := [(9001, _)]) (peek_h 3 s j hs hj) ⟨rfl, trivial⟩) rfl rfl (preC rfl pre0) rfl rfl ?_
        refine hq_ 6 (hop_assign rfl) rfl rfl pre0 rfl rfl ?_
        refine hseq_nil ?_
        refine h15 _ _ ?_
        refine hw_seqC (fun Nh16 h16 => ?_)
        refine hw_region ?_
        refine hq_ 34 (hop_move rfl) rfl rfl pre0 rfl rfl ?_
        refine hq_ 35 (hop_call0 (xs := [_]) (small_h _) ⟨rfl, trivial⟩ ⟨(Fz.eq rfl), trivial⟩) rfl rfl pre0 rfl rfl ?_
        refine hq_ 36 (hop_not rfl) rfl rfl pre0 rfl rfl ?_
        refine hq_ 37 (hop_move rfl) rfl rfl pre0 rfl rfl ?_
        first
        | refine hq_g 38 3 37 true _ (fun hb => hop_move rfl) rfl rfl rfl rfl pre0 rfl rfl rfl ?_
        | refine hq_g2 38 3 37 _ _ true _ (fun hb => hop_move rfl) rfl rfl rfl rfl pre0 rfl rfl rfl ?_
        first
        | refine hq_g 39 3 37 true _ (fun hb => hop_call0 (xs := [_, _]) (indexByte_h [40, 41, 124, 42, 43, 63, 123] (s.getD j 0)) ⟨rfl, ⟨rfl, trivial⟩⟩ ⟨(Fz.eq rfl), ⟨(Fz.eq (by rw [bz_in hjl])), trivial⟩⟩) rfl rfl rfl rfl pre0 rfl rfl rfl ?_
        | refine hq_g2 39 3 37 _ _ true _ (fun hb => hop_call0 (xs := [_, _]) (indexByte_h [40, 41, 124, 42, 43, 63, 123] (s.getD j 0)) ⟨rfl, ⟨rfl, trivial⟩⟩ ⟨(Fz.eq rfl), ⟨(Fz.eq (by rw [bz_in hjl])), trivial⟩⟩) rfl rfl rfl rfl pre0 rfl rfl rfl ?_
        first
        | refine hq_g 40 3 37 true _ (fun hb => hop_lss rfl rfl) rfl rfl rfl rfl pre0 rfl rfl rfl ?_
        | refine hq_g2 40 3 37 _ _ true _ (fun hb => hop_lss rfl rfl) rfl rfl rfl rfl pre0 rfl rfl rfl ?_
        first
        | refine hq_p 41 (hstep_and _ _ rfl rfl rfl) rfl rfl rfl ?_
        | refine hq_p 41 (hstep_or _ _ rfl rfl rfl) rfl rfl rfl ?_
        | refine hq_p 41 (hstep_ite _ _ _ rfl rfl rfl) rfl rfl rfl ?_
        | refine hq_p 41 (hstep_pick _ _ _ _ rfl rfl rfl (fun _ => .refl _) (fun _ => .refl _)) rfl rfl rfl ?_
        refine hseq_nilU (by rfl) (by simp only [dropUn, slots]; exact rfl) ?_
        refine h16 _ _ ?_
        refine hw_cond _ rfl (fun hc3 => ?_) (fun hc3 => ?_)
        · have hr3 := hc3; (try simp only [decide_eq_true_eq, decide_eq_false_iff_not, Bool.and_eq_true, Bool.or_eq_true, Bool.not_eq_true', Bool.or_eq_false_iff, beq_iff_eq, bne_iff_ne, ne_eq, beq_eq_false_iff_ne, bne_eq_false_iff_eq, Bool.not_eq_true, Bool.not_eq_false, Bool.not_eq_false', Int.toNat_natCast, Int.reduceToNat] at hc3)
          have hb : beginZ (bz s j) = false := (by have h := hr3; rw [bz_in hjl] at h; rw [begin_iff] at h; rw [bz_in hjl]; simpa using h)
          refine hw_region ?_
          refine hq_ 42 (hop_move rfl) rfl rfl pre0 rfl rfl ?_
          refine hf_callP (xs := [_]) (pre := [(9001, _)]) (odd_h _ 3 s j hs hj) ⟨rfl, trivial⟩ (preC rfl pre0) (fun y c1 hy => ?_)
          refine (hpan_then (hpan_then (hpan_block (hpan_then (hpan_block ?_)))))
          exact lex_pan (by rw [← hLj, hy]; exact lexAt_odd hjl hc0 (by omega) hb) rfl rfl rfl rfl rfl rfl rfl
        · have hr3 := hc3; (try simp only [decide_eq_true_eq, decide_eq_false_iff_not, Bool.and_eq_true, Bool.or_eq_true, Bool.not_eq_true', Bool.or_eq_false_iff, beq_iff_eq, bne_iff_ne, ne_eq, beq_eq_false_iff_ne, bne_eq_false_iff_eq, Bool.not_eq_true, Bool.not_eq_false, Bool.not_eq_false', Int.toNat_natCast, Int.reduceToNat] at hc3)
          have hb : beginZ (bz s j) = true := (by have h := hr3; rw [bz_in hjl] at h; rw [begin_iff] at h; rw [bz_in hjl]; simpa using h)
          refine hw_skip ?_
          refine h14 _ _ ?_
          refine hw_region ?_
          refine hq_ 44 (hop_move rfl) rfl rfl pre0 rfl rfl ?_
          refine hq_ 45 (hop_move rfl) rfl rfl pre0 rfl rfl ?_
          first
          | refine hq_ 46 (hop_nilcheck_pt rfl) rfl rfl pre0 rfl rfl ?_
          | refine hq_ 46 (hop_nilcheck_fp rfl) rfl rfl pre0 rfl rfl ?_
          first
          | refine hq_ 47 (hop_fa fd_89_1 rfl) rfl rfl pre0 rfl rfl ?_
          | refine hq_ 47 (hop_fa_fp fd_89_1 rfl (by first | exact Nat.le_of_ble_eq_true rfl | omega | (dsimp only; omega) | (simp <;> omega))) rfl rfl pre0 rfl rfl ?_
          first
          | refine hq_ 48 (hol_load ty_3 rfl (by first | exact Nat.le_of_ble_eq_true rfl | omega | (dsimp only; omega) | (simp <;> omega)) (by first | exact Nat.le_of_ble_eq_true rfl | omega | (dsimp only; omega) | (simp <;> omega)) (fun h => by first | rfl | cases h)) rfl rfl (pre1 rfl) rfl rfl ?_
          | refine hq_ 48 (hop_load_fp ty_3 rfl (by first | exact Nat.le_of_ble_eq_true rfl | omega | (dsimp only; omega) | (simp <;> omega)) (fun h => by first | rfl | cases h)) rfl rfl pre0 rfl rfl ?_
          refine hf_callP (xs := [_, _, _]) (pre := [(9001, _)]) (stop_h _ 3 s j _ _) ⟨rfl, ⟨rfl, ⟨rfl, trivial⟩⟩⟩ (preC rfl pre0) (fun y c2 hy => ?_)
          refine (hpan_then (hpan_block (hpan_then (hpan_block ?_))))
          exact lex_pan (by rw [← hLj, hy]; exact lexAt_long hjl hc0 (by omega) hb) rfl rfl rfl rfl rfl rfl rfl
      · have hr2 := hc2; (try simp only [decide_eq_true_eq, decide_eq_false_iff_not, Bool.and_eq_true, Bool.or_eq_true, Bool.not_eq_true', Bool.or_eq_false_iff, beq_iff_eq, bne_iff_ne, ne_eq, beq_eq_false_iff_ne, bne_eq_false_iff_eq, Bool.not_eq_true, Bool.not_eq_false, Bool.not_eq_false', Int.toNat_natCast, Int.reduceToNat] at hc2)
        refine hw_skip ?_
        refine h12 _ _ ?_
        rcases hone : oneR s j with e | ⟨x, q⟩
        · skip
          refine hd_start ?_
          first
          | refine hd_q 50 (hol_load ty_33 rfl (by first | exact Nat.le_of_ble_eq_true rfl | omega | (dsimp only; omega) | (simp <;> omega)) (by first | exact Nat.le_of_ble_eq_true rfl | omega | (dsimp only; omega) | (simp <;> omega)) (fun h => by first | rfl | cases h)) rfl rfl (pre1 rfl) rfl rfl (k' := 1) rfl ?_
          | refine hd_q 50 (hop_load_fp ty_33 rfl (by first | exact Nat.le_of_ble_eq_true rfl | omega | (dsimp only; omega) | (simp <;> omega)) (fun h => by first | rfl | cases h)) rfl rfl pre0 rfl rfl (k' := 1) rfl ?_
          refine hd_q 51 (hop_move rfl) rfl rfl pre0 rfl rfl (k' := 2) rfl ?_
          exact hd_pan (xs := [_]) (pre := [(9001, _)]) [(2, .v (.pt 2 0 0 0)), (3, .v (.pt 3 1 0 0)), (4, .v (.pt 4 2 0 0))] (by kernel_rfl) rfl (sign_h _ 3 s j hs hj) ⟨rfl, trivial⟩ (preC rfl pre0) (by kernel_rfl) (by kernel_rfl) (by kernel_rfl) (tk_cons rfl (tk_cons rfl (tk_cons rfl tk_nil))) (by kernel_rfl) (fun r kp c' h => by rcases h with ⟨x, hx, _⟩ | ⟨y, _, hy, _⟩; rw [hone] at hx; cases hx; cases hy) (fun x kp c' h => by rcases h with ⟨x, hx, he, _⟩ | ⟨y, hy, he, hk⟩; cases he; injection he with he; subst he; subst hk; rw [hone] at hy; injection hy with hy; (repeat (first | with_reducible refine hpan_then ?_ | with_reducible refine hpan_block ?_)); exact lex_pan (by rw [← hLj, ← hy]; exact lexAt_err hjl hc0 (by omega) hone) rfl rfl rfl rfl rfl rfl rfl)
        · skip
          refine hd_start ?_
          first
          | refine hd_q 50 (hol_load ty_33 rfl (by first | exact Nat.le_of_ble_eq_true rfl | omega | (dsimp only; omega) | (simp <;> omega)) (by first | exact Nat.le_of_ble_eq_true rfl | omega | (dsimp only; omega) | (simp <;> omega)) (fun h => by first | rfl | cases h)) rfl rfl (pre1 rfl) rfl rfl (k' := 1) rfl ?_
          | refine hd_q 50 (hop_load_fp ty_33 rfl (by first | exact Nat.le_of_ble_eq_true rfl | omega | (dsimp only; omega) | (simp <;> omega)) (fun h => by first | rfl | cases h)) rfl rfl pre0 rfl rfl (k' := 1) rfl ?_
          refine hd_q 51 (hop_move rfl) rfl rfl pre0 rfl rfl (k' := 2) rfl ?_
          refine hd_m 52 (hop_funD (xs := [_]) (pre := [(9001, _)]) (sign_d 3 s j hs hj hone) (clocks_cons (.head _) rfl clocks_nil) ⟨rfl, trivial⟩) rfl rfl (preC rfl pre0) rfl rfl (k' := 3) rfl ?_
          refine hd_1 53 (hop_buildSlice (id := 53) (hs := [_]) ei_33 (by first | exact Nat.le_of_ble_eq_true rfl | omega | (dsimp only; omega) | (simp <;> omega)) rfl (by first | exact Nat.le_of_ble_eq_true rfl | omega | (dsimp only; omega) | (simp <;> omega)) ⟨rfl, rfl, rfl, rfl, trivial⟩) rfl rfl pre0 rfl rfl (k' := 4) rfl ?_
          first
          | refine hd_1 54 (hol_append ei_33 (by first | exact Nat.le_of_ble_eq_true rfl | omega | (dsimp only; omega) | (simp <;> omega)) rfl (by first | exact Nat.le_of_ble_eq_true rfl | omega | (dsimp only; omega) | (simp <;> omega)) (by first | exact Nat.le_of_ble_eq_true rfl | omega | (dsimp only; omega) | (simp <;> omega)) (srl_os0 rfl (by first | exact Nat.le_of_ble_eq_true rfl | omega | (dsimp only; omega) | (simp <;> omega))) (by first | exact Nat.le_of_ble_eq_true rfl | omega | (dsimp only; omega) | (simp <;> omega)) rfl) rfl rfl (preC rfl (pre1 rfl)) rfl rfl (k' := 5) rfl ?_
          | refine hd_1 54 (hol_append ei_33 (by first | exact Nat.le_of_ble_eq_true rfl | omega | (dsimp only; omega) | (simp <;> omega)) rfl (by first | exact Nat.le_of_ble_eq_true rfl | omega | (dsimp only; omega) | (simp <;> omega)) (by first | exact Nat.le_of_ble_eq_true rfl | omega | (dsimp only; omega) | (simp <;> omega)) (srl_os rfl (by first | exact Nat.le_of_ble_eq_true rfl | omega | (dsimp only; omega) | (simp <;> omega))) (by first | exact Nat.le_of_ble_eq_true rfl | omega | (dsimp only; omega) | (simp <;> omega)) rfl) rfl rfl (preC rfl (pre1 rfl)) rfl rfl (k' := 5) rfl ?_
          | refine hd_1 54 (hol_append ei_33 (by first | exact Nat.le_of_ble_eq_true rfl | omega | (dsimp only; omega) | (simp <;> omega)) rfl (by first | exact Nat.le_of_ble_eq_true rfl | omega | (dsimp only; omega) | (simp <;> omega)) (by first | exact Nat.le_of_ble_eq_true rfl | omega | (dsimp only; omega) | (simp <;> omega)) (src_sl rfl) (by first | exact Nat.le_of_ble_eq_true rfl | omega | (dsimp only; omega) | (simp <;> omega)) rfl) rfl rfl (preC rfl pre0) rfl rfl (k' := 5) rfl ?_
          | refine hd_1 54 (hol_append ei_33 (by first | exact Nat.le_of_ble_eq_true rfl | omega | (dsimp only; omega) | (simp <;> omega)) rfl (by first | exact Nat.le_of_ble_eq_true rfl | omega | (dsimp only; omega) | (simp <;> omega)) (by first | exact Nat.le_of_ble_eq_true rfl | omega | (dsimp only; omega) | (simp <;> omega)) (src_nil 5 (fun _ _ => default) rfl) (by first | exact Nat.le_of_ble_eq_true rfl | omega | (dsimp only; omega) | (simp <;> omega)) rfl) rfl rfl (preC rfl pre0) rfl rfl (k' := 5) rfl ?_
          first
          | refine hd_s1 (hol_storeW ty_33 rfl rfl rfl rfl) rfl rfl (pre1 rfl) (k' := 6) rfl ?_
          | refine hd_s1 (hol_store ty_33 rfl rfl rfl rfl (by first | exact Nat.le_of_ble_eq_true rfl | omega | (dsimp only; omega) | (simp <;> omega)) (by first | exact Nat.le_of_ble_eq_true rfl | omega | (dsimp only; omega) | (simp <;> omega)) (by first | exact Nat.le_of_ble_eq_true rfl | omega | (dsimp only; omega) | (simp <;> omega))) rfl rfl (pre1 rfl) (k' := 6) rfl ?_
          refine hd_nil (by kernel_rfl) (by kernel_rfl) (c' := c + 6) rfl ?_
          refine hq_block ?_
          have hq := oneR_le hone
          exact hL4 ((q, out ++ [x], c + 4, n + 1)) _ _ (by (try dsimp only); exact ⟨hq.2, by rw [List.length_append]; show out.length + 1 ≤ 200; omega, by rw [List.length_append, hn]; rfl, by rw [← lexAt_go hjl hc0 (by omega) hone]; exact hLj⟩) (by (try dsimp only); omega) (hsub_of rfl (Nat.le_refl _) (TmSub.cons rfl (Sb.refl _) (TmSub.cons rfl (Sb.refl _) (TmSub.cons rfl (Sb.refl _) (TmSub.cons rfl (Sb.refl _) (TmSub.cons rfl (Sb.refl _) TmSub.nil))))) (HpSub.cons rfl (OSub.refl _) (HpSub.cons rfl (OSub.refl _) (HpSub.cons rfl (OSub.refl _) (HpSub.cons rfl (OSub.refl _) (HpSub.cons rfl (OSub.of fun i j hi hj => sb_cat (l := out) (k := [x]) (enc := sgF) (d := default) hn (fun i j _ _ => .refl _) (sb_one (x := x) (enc := sgF) (d := default) (fun j hj => by match j, hj with | 0, _ => exact .refl _ | 1, _ => exact .refl _ | 2, _ => exact .refl _ | 3, _ => exact .refl _ | 4, _ => exact .refl _)) i j (by rw [List.length_append, ← hn]; exact hi) hj) HpSub.nil))))))
end Go.Proofs.YtijpdbjcmnpobaaDoor
