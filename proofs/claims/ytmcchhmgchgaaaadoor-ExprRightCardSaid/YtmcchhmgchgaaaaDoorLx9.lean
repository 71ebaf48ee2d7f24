/-
  The signs of a text, by the program: the walk.
-/
import Derived.Test.YtmcchhmgchgaaaaDoorLx4
import Derived.Lib.AppendStr
import Derived.Lib.ItoaLen
namespace Go.Proofs.YtmcchhmgchgaaaaDoor
set_option linter.unusedSimpArgs false
set_option linter.unusedVariables false
set_option maxRecDepth 100000
open Go.RowKit

theorem sg_imm (x : Sg) (j : Nat) : ∃ v, sgF x j = .imm v := by
  match j with
  | 0 => exact ⟨_, rfl⟩
  | 1 => exact ⟨_, rfl⟩
  | 2 => exact ⟨_, rfl⟩
  | 3 => exact ⟨_, rfl⟩
  | j + 4 => exact ⟨_, rfl⟩
theorem sg_fz {sh : List (Nat × HObj)} (x : Sg) (j : Nat) : Fz sh (sgF x j) (sgF x j) := by
  obtain ⟨v, hv⟩ := sg_imm x j
  rw [hv]; exact .imm _
theorem osub1 {g ty fl : Nat} {f f' : Nat → Nat → HV} (h0 : Sb (f 0 0) (f' 0 0)) (hfn : fl ≤ 1 := by exact Nat.zero_le _) : OSub ⟨g, 1, 1, ty, fl, f⟩ ⟨g, 1, 1, ty, fl, f'⟩ := .of (hfn := hfn) fun i j hi hj => by
  obtain rfl : i = 0 := by omega
  match j, hj with | 0, _ => exact h0
@[reducible] def cloV : HV := .fn (.func 84) ([.pt 2 0 0 0, .pt 3 1 0 0, .pt 4 2 0 0] : List HV).length (fun i => ([.pt 2 0 0 0, .pt 3 1 0 0, .pt 4 2 0 0] : List HV).getD i default)
theorem lex_pan {w : World} {F : Addr → Prop} {s : List UInt8} {fn : Func} {n clk : Nat} {tm : List (Nat × TV)} {hp : List (Nat × HObj)} {y : Int × Int} {x : HV} {va ve : Int} (hv : lexV s = .error y) (hfn : fn.results = #[.cell 2 86, .cell 3 3, .cell 4 29])
    (h2 : tget tm 2 = some (.v (.pt 2 0 0 0))) (h3 : tget tm 3 = some (.v (.pt 3 1 0 0))) (h4 : tget tm 4 = some (.v (.pt 4 2 0 0)))
    (o2 : hget hp 2 = some (cell1 0 86 x)) (o3 : hget hp 3 = some (cell1 1 3 (intV va))) (o4 : hget hp 4 = some (cell1 2 29 (intV ve))) :
    HPan ((Ctx.top w F).wait cloV) (bodyPostD Tryd.prog fn (PurePost w F (lexH (lexO (lexV s))))) ⟨n, tm, hp, clk⟩ (faultV y) := by
  refine hpan_wait rfl (lex1_P clk 0 1 2 x va ve y) (preC o2 (preC o3 (preC o4 pre0))) (fun x kp c' h => by obtain ⟨_, _, h, _⟩ := h; cases h) (fun r kp c' h => ?_)
  obtain ⟨_, _, hr, hk⟩ := h
  subst hk
  refine hq_ret3 hfn (rvl_cell h2 rfl ty_86 (fun h => by first | rfl | cases h) rfl rfl) (rvl_cell h3 rfl ty_3 (fun h => by first | rfl | cases h) rfl rfl) (rvl_cell h4 rfl ty_29 (fun h => by first | rfl | cases h) rfl rfl) [] rfl pre0 ?_
  rw [hv]
  exact fz_t3 (.nil 0 5 _ (by decide) none) (.imm _) (.imm _)
theorem sign_d (g : Nat) (s : List UInt8) (i : Nat) (hs : s.length ≤ 1000000) (hi : i ≤ s.length) {x : Sg} {q : Nat} (h : oneR s i = .ok (x, q)) : HFunD Tryd.prog 89 [.pt 9001 g 0 0] [(9001, rdO g s i)] (sgH x) [(9001, rdO g s q)] := fun c =>
  (sign_h c g s i hs hi).mono fun e kp c' hP => by
    rcases hP with ⟨y, hy, he, hk⟩ | ⟨y, hy, _⟩
    · rw [h] at hy; injection hy with hy; subst hy; exact ⟨(), trivial, he, hk⟩
    · rw [h] at hy; cases hy
theorem lex_h (s : List UInt8) (hs : s.length ≤ 1000000) : HPure Tryd.prog 64 [strV s] (lexH (lexO (lexV s))) := by
  have hV := lexV_at s
  refine hpure_ofD Tryd.func64 rfl (by kernel_rfl) _ _ _ rfl 55 rfl rfl (fun w F => ?_)
  refine hw_seqC (fun Nh1 h1 => ?_)
  refine hw_region ?_
  refine hm_1 2 (hop_alloc (id := 2) (sz := 1) zc_86 rfl rfl (nb rfl) (nb rfl)) rfl rfl pre0 rfl rfl (c' := 1) rfl ?_
  refine hm_1 3 (hop_alloc (id := 3) (sz := 1) zc_3 rfl rfl (nb rfl) (nb rfl)) rfl rfl pre0 rfl rfl (c' := 2) rfl ?_
  refine hm_1 4 (hop_alloc (id := 4) (sz := 1) zc_29 rfl rfl (nb rfl) (nb rfl)) rfl rfl pre0 rfl rfl (c' := 3) rfl ?_
  refine hseq_nil ?_
  refine h1 _ _ ?_
  refine hw_seqC (fun Nh2 h2 => ?_)
  refine hw_region ?_
  refine st0 (hop_makeFunc (hs := [_, _, _]) ⟨rfl, ⟨rfl, ⟨rfl, trivial⟩⟩⟩) rfl rfl ?_
  refine hseq_defer rfl ?_
  refine h2 _ _ ?_
  refine hw_seqC (fun Nh3 h3 => ?_)
  refine hw_region ?_
  refine stm rfl rfl rfl ?_
  refine st0 (hop_build (hs := [(0, 1, _)]) st_129 rfl rfl ⟨rfl, rfl, rfl, rfl, rfl, trivial⟩) rfl rfl ?_
  refine hm_1 10 (hop_box (id := 9001) (sz := 2) rfl rfl rfl (by decide) (by decide)) rfl rfl pre0 rfl rfl (c' := 4) rfl ?_
  refine sta rfl rfl rfl ?_
  refine hseq_nil ?_
  refine h3 _ _ ?_
  refine hw_block ?_
  refine (hsub_ownc 2 0 54 5 108 (sgsF []) (fun _ _ => .os 54 4 0 0) rfl rfl (fun j hj => .inl ⟨by omega, rfl⟩) (by decide) (by decide) (c' := 5) rfl).wp ?_
  refine hw_loopc (α := Nat × List Sg × Nat × Nat) (fun x c => ⟨55, [(0, .v (strV s)), (2, .v (.pt 2 0 0 0)), (3, .v (.pt 3 1 0 0)), (4, .v (.pt 4 2 0 0)), (5, .v (.pt 9001 3 0 0))], [(9001, rdO 3 s x.1), (2, cell1 0 86 (.os 54 x.2.2.1 0 x.2.2.2)), (3, cell1 1 3 (intV 0)), (4, cell1 2 29 (intV 0)), (54, ⟨x.2.2.1, x.2.2.2, 5, 108, 0, sgsF x.2.1⟩)], c⟩) (fun x => x.1 ≤ s.length ∧ x.2.1.length ≤ 200 ∧ x.2.2.2 = x.2.1.length ∧ lexAt s x.1 x.2.1 = lexV s) (fun x => s.length - x.1) ((0, [], 4, 0)) (by exact ⟨Nat.zero_le _, Nat.zero_le _, rfl, hV⟩) (hsub_of rfl (Nat.le_refl _) (TmSub.cons rfl (Sb.refl _) (TmSub.cons rfl (Sb.refl _) (TmSub.cons rfl (Sb.refl _) (TmSub.cons rfl (Sb.refl _) (TmSub.cons rfl (Sb.refl _) TmSub.nil))))) (HpSub.cons rfl (osub2 (.refl _) (.refl _)) (HpSub.cons rfl (OSub.refl _) (HpSub.cons rfl (osub1 (.refl _)) (HpSub.cons rfl (osub1 (.refl _)) (HpSub.cons rfl (OSub.refl _) HpSub.nil)))))) (fun x c hx NhL4 hL4 => ?_)
  revert hx hL4; obtain ⟨i, out, gl, n⟩ := x; intro hx hL4; dsimp only at hx hL4 ⊢
  obtain ⟨hi, hol, hn, hL⟩ := hx
  refine hw_block ?_
  refine hw_seqC (fun Nh5 h5 => ?_)
  refine hw_block ?_
  refine hw_loopc (α := Nat) (fun x c => ⟨55, [(0, .v (strV s)), (2, .v (.pt 2 0 0 0)), (3, .v (.pt 3 1 0 0)), (4, .v (.pt 4 2 0 0)), (5, .v (.pt 9001 3 0 0))], [(9001, rdO 3 s x), (2, cell1 0 86 (.os 54 gl 0 n)), (3, cell1 1 3 (intV 0)), (4, cell1 2 29 (intV 0)), (54, ⟨gl, n, 5, 108, 0, sgsF out⟩)], c⟩) (fun x => i ≤ x ∧ x ≤ s.length ∧ lexAt s x out = lexV s) (fun x => s.length - x) (i) (by exact ⟨Nat.le_refl _, hi, hL⟩) (hsub_of rfl (Nat.le_refl _) (TmSub.cons rfl (Sb.refl _) (TmSub.cons rfl (Sb.refl _) (TmSub.cons rfl (Sb.refl _) (TmSub.cons rfl (Sb.refl _) (TmSub.cons rfl (Sb.refl _) TmSub.nil))))) (HpSub.cons rfl (OSub.refl _) (HpSub.cons rfl (OSub.refl _) (HpSub.cons rfl (OSub.refl _) (HpSub.cons rfl (OSub.refl _) (HpSub.cons rfl (OSub.refl _) HpSub.nil)))))) (fun j c hx NhL6 hL6 => ?_)
  (try dsimp only at hx hL6 ⊢)
  obtain ⟨hij, hj, hLj⟩ := hx
  refine hw_seqC (fun Nh7 h7 => ?_)
  refine hw_seqC (fun Nh8 h8 => ?_)
  refine hw_region ?_
  refine stm rfl rfl rfl ?_
  refine hq_ 12 (hop_funR (xs := [_]) (pre := [(9001, _)]) (peek_h 3 s j hs hj) ⟨rfl, trivial⟩) rfl rfl (preC rfl pre0) rfl rfl ?_
  refine st0 (hop_eql rfl rfl) rfl rfl ?_
  refine hseq_nil ?_
  refine h8 _ _ ?_
  refine hw_cond _ rfl (fun hc0 => ?_) (fun hc0 => ?_)
  · have hr0 := hc0; (try simp only [hcs, Int.reduceToNat] at hc0)
    have hlt : j < s.length := bz_lt (by omega)
    refine hw_skip ?_
    refine h7 _ _ ?_
    refine hw_block ?_
    refine hw_region ?_
    refine stm rfl rfl rfl ?_
    refine st0 (hop_nilcheck_pt rfl) rfl rfl ?_
    refine st0 (hop_fa fd_129_1 rfl) rfl rfl ?_
    refine st1 (hol_load ty_3 rfl (nb rfl) (nb rfl) (fun h => (by rfl))) rfl rfl rfl ?_
    refine st0 (hop_addi rfl rfl rfl (by omega) (by omega)) rfl rfl ?_
    refine st0 (hop_nilcheck_pt rfl) rfl rfl ?_
    refine st0 (hop_fa fd_129_1 rfl) rfl rfl ?_
    refine hm_s1 (hol_store ty_3 rfl rfl rfl rfl (nb rfl) (nb rfl) (nb rfl)) rfl rfl (pre1 rfl) (c' := c + 1) rfl ?_
    refine hseq_nil ?_
    refine hq_block ?_
    exact hL6 (j + 1) _ _ (by (try dsimp only); exact ⟨by omega, hlt, by rw [← lexAt_sp hlt hc0]; exact hLj⟩) (by (try dsimp only); omega) (hsub_of rfl (Nat.le_refl _) (TmSub.cons rfl (Sb.refl _) (TmSub.cons rfl (Sb.refl _) (TmSub.cons rfl (Sb.refl _) (TmSub.cons rfl (Sb.refl _) (TmSub.cons rfl (Sb.refl _) TmSub.nil))))) (HpSub.cons rfl (osub2 (.refl _) (sb_int (by omega))) (HpSub.cons rfl (OSub.refl _) (HpSub.cons rfl (OSub.refl _) (HpSub.cons rfl (OSub.refl _) (HpSub.cons rfl (OSub.refl _) HpSub.nil))))))
  have hr0 := hc0; (try simp only [hcs, Int.reduceToNat] at hc0)
  refine hw_exit ?_
  refine hq_then_exit ?_
  refine hq_then_exit ?_
  refine hq_block_here ?_
  refine h5 _ _ ?_
  refine hw_seqC (fun Nh9 h9 => ?_)
  refine hw_seqC (fun Nh10 h10 => ?_)
  refine hw_region ?_
  refine stm rfl rfl rfl ?_
  refine st0 (hop_nilcheck_pt rfl) rfl rfl ?_
  refine st0 (hop_fa fd_129_1 rfl) rfl rfl ?_
  refine st1 (hol_load ty_3 rfl (nb rfl) (nb rfl) (fun h => (by rfl))) rfl rfl rfl ?_
  refine stm rfl rfl rfl ?_
  refine st0 (hop_len_strl (T := 9) rfl (by kernel_rfl) rfl) rfl rfl ?_
  refine st0 (hop_eql rfl rfl) rfl rfl ?_
  refine hseq_nil ?_
  refine h10 _ _ ?_
  refine hw_cond _ rfl (fun hc1 => ?_) (fun hc1 => ?_)
  · have hr1 := hc1; (try simp only [hcs, Int.reduceToNat] at hc1)
    refine hw_seqC (fun Nh11 h11 => ?_)
    refine hw_region ?_
    refine st1 (hol_load ty_86 rfl (nb rfl) (nb rfl) (fun h => (by rfl))) rfl rfl rfl ?_
    refine hm_s1 (hol_storeW ty_86 rfl rfl rfl rfl) rfl rfl (pre1 rfl) (c' := c + 1) rfl ?_
    refine hm_s1 (hol_storeW ty_3 rfl rfl rfl rfl) rfl rfl (pre1 rfl) (c' := c + 2) rfl ?_
    refine hm_s1 (hol_storeW ty_29 rfl rfl rfl rfl) rfl rfl (pre1 rfl) (c' := c + 3) rfl ?_
    refine hseq_nil ?_
    refine h11 _ _ ?_
    refine hw_ret ?_
    refine hq_then_ret ?_
    refine hq_block_ret ?_
    refine hq_then_ret ?_
    refine hq_block_ret ?_
    refine hq_wait rfl (lex1_R _ 0 1 2 gl n (sgsF out) (fun i j => sg_imm _ j) 0 0) (preC rfl (preC rfl (preC rfl (preC rfl pre0)))) (fun x kp c' h => by obtain ⟨_, _, h, _⟩ := h; cases h) (fun r kp c' h => ?_); obtain ⟨_, _, hr, hk⟩ := h; subst hk
    refine hq_ret3 rfl (rvl_cell rfl rfl ty_86 (fun h => by first | rfl | cases h) rfl rfl) (rvl_cell rfl rfl ty_3 (fun h => by first | rfl | cases h) rfl rfl) (rvl_cell rfl rfl ty_29 (fun h => by first | rfl | cases h) rfl rfl) [(54, _)] rfl (preC rfl pre0) ?_
    have e : lexV s = .ok out := (by rw [← hLj]; exact lexAt_end (by omega)); rw [e]; exact fz_t3 (fz_row (l := out) (enc := sgF) (d := default) (List.mem_cons_self ..) rfl hn (Nat.le_refl _) (fun i j hi hj => sg_fz _ j)) (.imm _) (.imm _)
  have hr1 := hc1; (try simp only [hcs, Int.reduceToNat] at hc1)
  have hjl : j < s.length := (by omega)
  refine hw_skip ?_
  refine h9 _ _ ?_
  refine hw_seqC (fun Nh12 h12 => ?_)
  refine hw_seqC (fun Nh13 h13 => ?_)
  refine hw_region ?_
  refine st1 (hol_load ty_86 rfl (nb rfl) (nb rfl) (fun h => (by rfl))) rfl rfl rfl ?_
  refine st0 (hop_len_os (T := 86) rfl (elOf_spec el_86).1 rfl) rfl rfl ?_
  refine st0 (hop_eql rfl rfl) rfl rfl ?_
  refine hseq_nil ?_
  refine h13 _ _ ?_
  refine hw_cond _ rfl (fun hc2 => ?_) (fun hc2 => ?_)
  · have hr2 := hc2; (try simp only [hcs, Int.reduceToNat] at hc2)
    refine hw_seqC (fun Nh14 h14 => ?_)
    refine hw_seqC (fun Nh15 h15 => ?_)
    refine hw_region ?_
    refine stm rfl rfl rfl ?_
    refine hq_ 33 (hop_funR (xs := [_]) (pre := [(9001, _)]) (peek_h 3 s j hs hj) ⟨rfl, trivial⟩) rfl rfl (preC rfl pre0) rfl rfl ?_
    refine sta rfl rfl rfl ?_
    refine hseq_nil ?_
    refine h15 _ _ ?_
    refine hw_seqC (fun Nh16 h16 => ?_)
    refine hw_region ?_
    refine stm rfl rfl rfl ?_
    refine st0 (hop_call0 (xs := [_]) (small_h _) ⟨rfl, trivial⟩ ⟨(Fz.eq rfl), trivial⟩) rfl rfl ?_
    refine st0 (hop_not rfl) rfl rfl ?_
    refine stm rfl rfl rfl ?_
    refine stg 37 (fun hb => hop_move rfl) rfl rfl rfl rfl rfl ?_
    refine stg 37 (fun hb => hop_call0 (xs := [_, _]) (indexByte_h [40, 41, 124, 42, 43, 63, 123] (s.getD j 0)) ⟨rfl, ⟨rfl, trivial⟩⟩ ⟨(Fz.eq rfl), ⟨(Fz.eq (by rw [bz_in hjl])), trivial⟩⟩) rfl rfl rfl rfl rfl ?_
    refine stg 37 (fun hb => hop_lss rfl rfl) rfl rfl rfl rfl rfl ?_
    refine hq_p 41 (hstep_and _ _ rfl rfl rfl) rfl rfl rfl ?_
    refine hseq_nilU (by rfl) (by simp only [dropUn, slots]; exact rfl) ?_
    refine h16 _ _ ?_
    refine hw_cond _ rfl (fun hc3 => ?_) (fun hc3 => ?_)
    · have hr3 := hc3; (try simp only [hcs, Int.reduceToNat] at hc3)
      have hb : beginZ (bz s j) = false := (by have h := hr3; rw [bz_in hjl] at h; rw [begin_iff] at h; rw [bz_in hjl]; simpa using h)
      refine hw_region ?_
      refine stm rfl rfl rfl ?_
      refine hf_callP (xs := [_]) (pre := [(9001, _)]) (odd_h _ 3 s j hs hj) ⟨rfl, trivial⟩ (preC rfl pre0) (fun y c1 hy => ?_)
      refine (hpan_then (hpan_then (hpan_block (hpan_then (hpan_block ?_)))))
      exact lex_pan (by rw [← hLj, hy]; exact lexAt_odd hjl hc0 (by omega) hb) rfl rfl rfl rfl rfl rfl rfl
    have hr3 := hc3; (try simp only [hcs, Int.reduceToNat] at hc3)
    have hb : beginZ (bz s j) = true := (by have h := hr3; rw [bz_in hjl] at h; rw [begin_iff] at h; rw [bz_in hjl]; simpa using h)
    refine hw_skip ?_
    refine h14 _ _ ?_
    refine hw_region ?_
    refine stm rfl rfl rfl ?_
    refine stm rfl rfl rfl ?_
    refine st0 (hop_nilcheck_pt rfl) rfl rfl ?_
    refine st0 (hop_fa fd_129_1 rfl) rfl rfl ?_
    refine st1 (hol_load ty_3 rfl (nb rfl) (nb rfl) (fun h => (by rfl))) rfl rfl rfl ?_
    refine hf_callP (xs := [_, _, _]) (pre := [(9001, _)]) (stop_h _ 3 s j _ _) ⟨rfl, ⟨rfl, ⟨rfl, trivial⟩⟩⟩ (preC rfl pre0) (fun y c2 hy => ?_)
    refine (hpan_then (hpan_block (hpan_then (hpan_block ?_))))
    exact lex_pan (by rw [← hLj, hy]; exact lexAt_long hjl hc0 (by omega) hb) rfl rfl rfl rfl rfl rfl rfl
  have hr2 := hc2; (try simp only [hcs, Int.reduceToNat] at hc2)
  refine hw_skip ?_
  refine h12 _ _ ?_
  rcases hone : oneR s j with e | ⟨x, q⟩
  · skip
    refine hd_start ?_
    refine hd_q 50 (hol_load ty_86 rfl (nb rfl) (nb rfl) (fun h => (by rfl))) rfl rfl (pre1 rfl) rfl rfl (k' := 1) rfl ?_
    refine hd_q 51 (hop_move rfl) rfl rfl pre0 rfl rfl (k' := 2) rfl ?_
    exact hd_pan (xs := [_]) (pre := [(9001, _)]) [(2, .v (.pt 2 0 0 0)), (3, .v (.pt 3 1 0 0)), (4, .v (.pt 4 2 0 0))] (by kernel_rfl) rfl (sign_h _ 3 s j hs hj) ⟨rfl, trivial⟩ (preC rfl pre0) (by kernel_rfl) (by kernel_rfl) (by kernel_rfl) (tk_cons rfl (tk_cons rfl (tk_cons rfl tk_nil))) (by kernel_rfl) (fun r kp c' h => by rcases h with ⟨x, hx, _⟩ | ⟨y, _, hy, _⟩; rw [hone] at hx; cases hx; cases hy) (fun x kp c' h => by rcases h with ⟨x, hx, he, _⟩ | ⟨y, hy, he, hk⟩; cases he; injection he with he; subst he; subst hk; rw [hone] at hy; injection hy with hy; (repeat (first | with_reducible refine hpan_then ?_ | with_reducible refine hpan_block ?_)); exact lex_pan (by rw [← hLj, ← hy]; exact lexAt_err hjl hc0 (by omega) hone) rfl rfl rfl rfl rfl rfl rfl)
  · skip
    refine hd_start ?_
    refine hd_q 50 (hol_load ty_86 rfl (nb rfl) (nb rfl) (fun h => (by rfl))) rfl rfl (pre1 rfl) rfl rfl (k' := 1) rfl ?_
    refine hd_q 51 (hop_move rfl) rfl rfl pre0 rfl rfl (k' := 2) rfl ?_
    refine hd_m 52 (hop_funD (xs := [_]) (pre := [(9001, _)]) (sign_d 3 s j hs hj hone) (clocks_cons (.head _) rfl clocks_nil) ⟨rfl, trivial⟩) rfl rfl (preC rfl pre0) rfl rfl (k' := 3) rfl ?_
    refine hd_1 53 (hop_buildSlice (id := 53) (hs := [_]) ei_86 (nb rfl) rfl (nb rfl) ⟨rfl, rfl, rfl, rfl, trivial⟩) rfl rfl pre0 rfl rfl (k' := 4) rfl ?_
    refine hd_1 54 (hol_append ei_86 (nb rfl) rfl (by omega) (nb rfl) (srl_os0 rfl (nb rfl)) (by omega) rfl) rfl rfl (preC rfl (pre1 rfl)) rfl rfl (k' := 5) rfl ?_
    refine hd_s1 (hol_storeW ty_86 rfl rfl rfl rfl) rfl rfl (pre1 rfl) (k' := 6) rfl ?_
    refine hd_nil (by kernel_rfl) (by kernel_rfl) (c' := c + 6) rfl ?_
    refine hq_block ?_
    have hq := oneR_le hone
    exact hL4 ((q, out ++ [x], c + 4, n + 1)) _ _ (by (try dsimp only); exact ⟨hq.2, by rw [List.length_append]; show out.length + 1 ≤ 200; omega, by rw [List.length_append, hn]; rfl, by rw [← lexAt_go hjl hc0 (by omega) hone]; exact hLj⟩) (by (try dsimp only); omega) (hsub_of rfl (Nat.le_refl _) (TmSub.cons rfl (Sb.refl _) (TmSub.cons rfl (Sb.refl _) (TmSub.cons rfl (Sb.refl _) (TmSub.cons rfl (Sb.refl _) (TmSub.cons rfl (Sb.refl _) TmSub.nil))))) (HpSub.cons rfl (OSub.refl _) (HpSub.cons rfl (OSub.refl _) (HpSub.cons rfl (OSub.refl _) (HpSub.cons rfl (OSub.refl _) (HpSub.cons rfl (OSub.of fun i j hi hj => sb_cat (l := out) (k := [x]) (enc := sgF) (d := default) hn (fun i j _ _ => .refl _) (sb_one (x := x) (enc := sgF) (d := default) (fun j hj => by match j, hj with | 0, _ => exact .refl _ | 1, _ => exact .refl _ | 2, _ => exact .refl _ | 3, _ => exact .refl _ | 4, _ => exact .refl _)) i j (by rw [List.length_append, ← hn]; exact hi) hj) HpSub.nil))))))
end Go.Proofs.YtmcchhmgchgaaaaDoor

namespace Go.Proofs.YtmcchhmgchgaaaaDoor
set_option linter.unusedSimpArgs false
set_option linter.unusedVariables false
set_option maxRecDepth 100000
open Go.RowKit

section
variable {P : Program}
theorem run_append_objs (w : World) (t u ty e : TypeId) (i : TypeInfo) (ht : P.underlying t = some (.slice e)) (hu : P.underlying u = some .string) (hi : P.info? e = some i) (hz : i.zero = some (.int .u8 0))
    (hsize : i.size = 1) (hby : i.bytes = 1) (v : Value) (n : Nat) (xs : List Value) (hown : w.ownsRow 0 e 1 v n xs) (s : ByteArray) (h63 : n + s.size ≤ 2000000000) :
    ∃ v' w', (Builtin.append_ #[t, u] ty #[v, .string s]).run P w = .ok v' w' ∧ w'.ownsRow 0 e 1 v' (n + s.size) (xs ++ Lib.strCells s) ∧ w.grownBy w' v.ownBlock ∧
      (v'.ownBlock = v.ownBlock ∨ (v'.ownBlock = some w.heap.size ∧ w.grownBy w' none)) := by
  obtain ⟨v', w', hrun, h2, h3, h4⟩ := Lib.run_append_own_string (P := P) (w := w) 0 t u ty e i ht hu hi hz hsize hby v n xs hown s (by unfold maxLen; omega) (by omega) (Nat.zero_le _)
  refine ⟨v', w', hrun, h2, h3, ?_⟩
  have hxl : xs.length = n := by simpa using hown.1
  rcases hown.2 with ⟨rfl, rfl⟩ | ⟨g, cap, cur, rfl, hbg, hg, hnc, hcm, hcs, htake⟩
  · by_cases hm : s.size = 0
    · have := h4.2 ⟨rfl, hm⟩
      subst this
      exact .inl rfl
    · have hr := run_append_nil_string (P := P) w t u ty e i (.int .u8 0) ht hu hi hz s (by omega) (by omega) (by rw [hby]; omega)
      rw [hr] at hrun
      injection hrun with hv hw
      subst hv
      exact .inr ⟨rfl, h3⟩
  · by_cases hroom : n + s.size ≤ cap
    · have hcs' : cur.size = cap := by simpa using hcs
      have hr := Lib.run_append_room_string (P := P) (w := w) t u ty e i ht hu hi hsize g n cap cur hg s hroom (by omega)
      rw [hr] at hrun
      injection hrun with hv hw
      subst hv
      exact .inl rfl
    · have holds : ∀ j u, xs[j]? = some u → w.cell? ((⟨g, 0, none⟩ : Addr).add j) = some u := hown.cells (g := g) rfl
      have hr := Lib.run_append_grow_string (P := P) (w := w) t u ty e i (.int .u8 0) ht hu hi hz ⟨g, 0, none⟩ n cap xs (by rw [hsize]; simpa using hxl) holds s (by omega) (by omega) (by rw [hby]; exact growslice_fits (by omega) (by omega))
      rw [hr] at hrun
      injection hrun with hv hw
      subst hv; subst hw
      exact .inr ⟨rfl, rfl, rfl, rfl, by simp, fun k hk _ => heap_alloc_old w.drew _ hk⟩
end
section
variable {P : Program} {ov : Nat → Option HV} {g : Nat} {d : Option Tmp} {ty T U : TypeId} {pos : String} {af : Array Edge} {gd : Option (Nat × Bool)} {x y : Operand}
/-- append(b, s...) of a string's bytes. -/
theorem hol_append_str {id gg m n fl : Nat} {e : TypeId} {f : Nat → Nat → HV} (l : List UInt8) (hT : elInfo P T = some (e, 1, 1, true)) (hz8 : ((P.info? e).bind (·.zero)) = some (.int .u8 0)) (hU : P.underlying U = some .string) (h1 : ovl ov x = some (.os id gg 0 m)) (h2 : ovl ov y = some (strV l)) (hm : m ≤ n) (hfl : fl ≤ m)
    (hk : m + l.length ≤ 2000000000) {m' : Nat} (hm' : m + l.length = m') :
    HOp P ⟨d, .call ⟨.builtin .append, #[x, y], #[T, U]⟩, ty, pos, af, gd⟩ ov g [(id, ⟨gg, n, 1, e, fl, f⟩)] (.os id g 0 m') [(id, ⟨g, m', 1, e, fl, cat m f (fun i _ => u8V (l.getD i 0))⟩)] := by
  subst hm'
  intro K w0 F0 E hh a w Q N r ht hG hBd hpre hN
  have ho := hpre _ (List.mem_cons_self ..)
  simp only at ho
  have hX := ht x _ (by simp [Op.operands, Call.operands]) h1
  have hY := Rep.imm_inv (ht y _ (by simp [Op.operands, Call.operands]) h2)
  obtain ⟨hu, i, z, hi, hz, his, hib, hzs, _⟩ := elInfo_spec hT
  have hz' : i.zero = some (.int .u8 0) := by rw [hi] at hz8; simpa using hz8
  obtain ⟨lc, xs, hl, hown, hcap, hxs⟩ := r.owns ho m hm hfl
  obtain ⟨l', hl', at_⟩ := r.obj id _ ho
  rw [hl] at hl'; injection hl' with hl'; subst hl'
  generalize hρ : a.eval x = u at hX
  cases hX with
  | os A1 _ c1 _ _ _ hgg hc hmm hA hz0 =>
    obtain ⟨rfl, rfl⟩ := hz0 lc hl at_.g rfl
    obtain ⟨v', w', hrun, h2, h3, h4⟩ := run_append_objs (P := P) w T U ty e i hu hU hi hz' his hib _ m xs hown ⟨l.toArray⟩ (by rw [ba_size]; exact hk)
    rw [ba_size] at h2
    obtain ⟨E', e', r', hg', hrep⟩ := r.append id _ lc ho hl m l.length g hm hfl hG (fun i _ => u8V (l.getD i 0)) xs (Lib.strCells ⟨l.toArray⟩) hown hxs (by rw [Lib.strCells_length, ba_size]; simp) (fun p j hp hj => by
      obtain rfl : j = 0 := by simpa using hj
      refine ⟨.int .u8 ((l.getD p 0).toNat : Int), ?_, .imm _⟩
      simp [Lib.strCells, List.getD_eq_getElem?_getD, hp]) (Lib.strCells_oneCell _) hcap v' h2 h3 h4
    refine wp_val (v := v') (w' := w') ?_ (hN v' w' E' e' r' (fun g' h => (hg' g' h).imp (fun h => h) fun h => ⟨by simp, h⟩) hrep)
    simp only [execOp, resolve, invoke, builtin, Sem.run_bind, Sem.run_pure, Result.andThen_ok, List.map_toArray, List.map_cons, List.map_nil, hρ, hY, hrun]
end
section
variable {K : Nat → Prop} {w0 w : World} {F0 : Addr → Prop} {E : Env} {h : Nat → Option HObj}
/-- What an object holds, told anew. -/
theorem R.retell (r : R K w0 F0 E h w) (id : Nat) {g n sz : Nat} {ty : TypeId} {fl : Nat} {f f' : Nat → Nat → HV} (ho : h id = some ⟨g, n, sz, ty, fl, f⟩)
    (hc : ∀ l b cs, E.L id = some l → l.A = some b → Blk w b ty cs → ∀ i j u, i < n → j < sz → cs[i * sz + j]? = some u → Rep w E u (f i j) → Rep w E u (f' i j)) (hfn : fl ≤ n := by first | exact Nat.zero_le _ | exact Nat.le_refl _ | omega) : R K w0 F0 E (hset h id ⟨g, n, sz, ty, fl, f'⟩) w :=
  { r with
    obj := fun k o hk => by
      by_cases e : k = id
      · subst e
        rw [hset_same] at hk; injection hk with hk; subst hk
        obtain ⟨l, hl, a⟩ := r.obj k _ ho
        refine ⟨l, hl, a.g, a.G, a.sz, a.pos, ?_⟩
        rcases a.at_ with h0 | ⟨b, cs, g1, g2, g3, g4, g5, g6, ⟨vs, g8⟩, g9⟩ | ⟨_, _, _, _, h3, _⟩
        rotate_right
        · have h7 := h3.n; have h8 := h3.fl; simp only at h7 h8; omega
        · exact .inl h0
        · exact .inr (.inl ⟨b, cs, g1, g2, g3, g4, g5, g6, ⟨vs, fun i j hi hj => ⟨(g8 i j hi hj).1, (g8 i j hi hj).2.1, hc l b cs hl g1 g2 i j _ hi hj (g8 i j hi hj).1 (g8 i j hi hj).2.2⟩⟩, g9⟩)
      · rw [hset_ne _ _ e] at hk
        exact r.obj k o hk
    inj := fun k k' o o' l l' b hk hk' hl hl' hb hb' => by
      have old : ∀ k o, hset h id ⟨g, n, sz, ty, fl, f'⟩ k = some o → ∃ o, h k = some o := by
        intro k o hk
        by_cases e : k = id
        · subst e; exact ⟨_, ho⟩
        · rw [hset_ne _ _ e] at hk; exact ⟨o, hk⟩
      obtain ⟨p, hp⟩ := old k o hk
      obtain ⟨q, hq⟩ := old k' o' hk'
      exact r.inj k k' p q l l' b hp hq hl hl' hb hb' }
end
@[reducible] def bldF (g g2 n : Nat) : Nat → Nat → HV := fun _ j => match j with | 0 => .nps 8001 g | _ => .os 8002 g2 0 n
@[reducible] def bufF (l : List UInt8) : Nat → Nat → HV := fun i _ => u8V (l.getD i 0)
@[reducible] def bldO (g g2 n : Nat) : HObj := ⟨g, 1, 2, 63, 0, bldF g g2 n⟩
@[reducible] def bufO (g2 n : Nat) (l : List UInt8) : HObj := ⟨g2, n, 1, 5, 0, bufF l⟩
theorem bld_zero : zcs Tryd.prog 63 = some [.pointer none, .slice none 0 0] := by kernel_rfl
/-- A new builder. -/
theorem hm_bld {C : Ctx} {ops : Array Oper} {Q : Exit → Act → World → Prop} {n clk : Nat} {tm : List (Nat × TV)} {hp : List (Nat × HObj)} {rest : List Oper} {ty : TypeId} {pos : String} {af : Array Edge} (d : Nat) (hlt : Nat.blt d n = true) (hk : nokey tm d = true) {c' : Nat} (hc' : clk + 2 = c')
    (h : HSeq C Tryd.prog ops rest ⟨n, (d, .v (.pt 8001 clk 0 0)) :: tm, (8001, bldO clk (clk + 1) 0) :: (8002, bufO (clk + 1) 0 []) :: hp, c'⟩ Q) :
    HSeq C Tryd.prog ops (⟨some d, .alloc 63, ty, pos, af, none⟩ :: rest) ⟨n, tm, hp, clk⟩ Q := by
  subst hc'
  intro a w ⟨E, e0, r, hG, hsz, hdf, ht⟩
  have hlt : d < n := by simpa [Nat.blt_eq] using hlt
  unfold wpSeq
  rw [if_pos (by simp [Region.wanted])]
  obtain ⟨z, hz1, hz2⟩ := Option.map_eq_some_iff.1 bld_zero
  obtain ⟨i, hi, hz⟩ := Option.bind_eq_some_iff.1 hz1
  have hcs : z.cells = #[.pointer none, .slice none 0 0] := by apply Array.ext'; exact hz2
  have hG : ∀ g, E.G g → g < clk := hG
  have hG0 : ¬ E.G clk := fun hg => absurd (hG _ hg) (Nat.lt_irrefl _)
  obtain ⟨e1, r1⟩ := r.new 8001 clk 1 2 63 z.cells (fun _ j => match j with | 0 => .imm (.pointer none) | _ => .imm (.slice none 0 0)) 1 (fun _ j => match j with | 0 => .pointer none | _ => .slice none 0 0) hG0 (by omega) (by rw [hcs]; rfl) (Nat.le_refl _) (by unfold maxLen; omega) (fun i j hi hj => by
    obtain rfl : i = 0 := by omega
    rw [hcs]
    match j, hj with
    | 0, _ => exact ⟨rfl, rfl, .imm _⟩
    | 1, _ => exact ⟨rfl, rfl, .imm _⟩)
  have hG1 : ¬ (E.new 8001 clk w.heap.size 1 2).G (clk + 1) := fun hg => by
    rcases hg with hg | hg
    · exact absurd (hG _ hg) (by omega)
    · omega
  obtain ⟨e2, r2⟩ := r1.newNil 8002 (clk + 1) 1 5 (bufF []) hG1 (by omega)
  have hL : ((E.new 8001 clk w.heap.size 1 2).place 8002 ⟨clk + 1, none, 0, 1⟩).L 8001 = some ⟨clk, some w.heap.size, 1, 2⟩ := by
    rw [Env.place_Lne _ _ (by decide)]; exact Env.new_L ..
  have r3 := r2.retell 8001 (g := clk) (n := 1) (sz := 2) (ty := 63) (fl := 0) (f' := bldF clk (clk + 1) 0) (by rw [hset_ne _ _ (by decide), hset_same]) (fun l b cs hl hb hB i j u hi hj hu hr => by
    match j, hj with
    | 0, _ =>
      rw [hr.imm_inv]
      exact .npn 8001 clk (.inl (.inr rfl)) (fun l hl _ => by rw [hL] at hl; injection hl with hl; subst hl; rfl)
    | 1, _ =>
      rw [hr.imm_inv]
      refine .os none 0 0 8002 (clk + 1) 0 (.inr rfl) (Nat.le_refl _) (Nat.zero_le _) (fun h => absurd h (Nat.lt_irrefl _)) (fun l hl _ _ => ?_)
      rw [Env.place_L] at hl; injection hl with hl; subst hl
      exact ⟨rfl, rfl⟩)
  refine wp_val (v := .pointer (some ⟨w.heap.size, 0, none⟩)) (w' := w.alloc (.cells z.cells 63)) ?_ ?_
  · simp [execOp, Instr.alloc, zeroValue, typeInfo, hi, hz, newVar, newRow]
  · refine h _ _ ⟨_, e0.trans (e1.trans e2), ?_, fun g hg => ?_, by simp [Act.put, hsz], hdf.ext (e1.trans e2), fun t y hy => ?_⟩
    · refine r3.less (fun id o ho => ?_)
      simp only [hget_cons] at ho
      by_cases h1 : id = 8001
      · subst h1; rw [hset_same] at ho ⊢; exact ho
      · rw [hset_ne _ _ h1] at ho ⊢
        by_cases h2 : id = 8002
        · subst h2; rw [hset_same] at ho ⊢; exact ho
        · rw [hset_ne _ _ h2] at ho ⊢
          rw [hset_ne _ _ h1]; exact ho
    · rcases hg with (hg | hg) | hg
      · exact Nat.lt_of_lt_of_le (hG g hg) (by show clk ≤ clk + 2; omega)
      · show g < clk + 2; omega
      · have hg : g = clk + 1 := hg
        show g < clk + 2; omega
    · simp only [tget_cons] at hy
      split at hy
      · rename_i htd
        subst htd
        injection hy with hy
        subst hy
        rw [getD_put_same (by rw [hsz]; exact hlt)]
        refine .pt _ _ 8001 clk 0 0 (.inl (.inr rfl)) (fun l hl _ => ?_)
        rw [hL] at hl; injection hl with hl; subst hl
        exact ⟨rfl, by simp⟩
      · rename_i htd
        rw [getD_put_ne htd]
        have := (ht t y hy).ext (e1.trans e2)
        cases y with
        | v z => exact this
        | un j b z =>
          have hne := nokey_spec hk t j b z hy
          simp only [TVRep, getD_put_ne hne] at this ⊢; exact this
theorem tup0_rep (w : World) (E : Env) : Rep w E (.tuple #[]) (.tup 0 fun _ => default) := .tup #[] 0 (fun _ => default) (fun _ => undef) rfl (fun i hi => absurd hi (Nat.not_lt_zero _)) (fun i hi => absurd hi (Nat.not_lt_zero _))
/-- copyCheck: behind it the builder knows its own place. -/
theorem copy_h (c g g2 n : Nat) : HFun Tryd.prog 60 c [.pt 8001 g 0 0] [(8001, bldO g g2 n)]
    (RetP (fun (_ : Unit) c' => c' = c) (fun _ => .tup 0 fun _ => default) (fun _ => [(8001, bldO g g2 n)])) := by
  refine ⟨⟨_, _, Tryd.func60, rfl, by kernel_rfl⟩, fun X vs ok hX hr hG => ?_⟩
  match vs, hr with
  | [v], hr =>
  have hv := hr.1
  have ho : X.h 8001 = some (bldO g g2 n) := ok.pre 8001 _ (by rw [hX]; rfl)
  obtain ⟨l, bl, cs, hl, hlg, hlsz, hlA, hB, hcs, hnc, hm, vs, hvs⟩ := ok.r.objAt ho (by show 0 < 1; omega)
  cases hv with
  | pt b k _ _ _ _ hgg hh =>
    obtain ⟨hb, rfl⟩ := hh l hl hlg
    rw [hlA] at hb; injection hb with hb; subst hb
    rw [show 0 * l.sz + 0 = 0 from by simp]
    have c0 := hvs 0 0 (by show 0 < 1; omega) (by show 0 < 2; omega)
    have k0 : cs[0]? = some (vs 0 0) := c0.1
    have hrep : Rep X.w X.E (vs 0 0) (.nps 8001 g) := c0.2.2
    have hself : ∀ w', Rep w' X.E (.pointer (some ⟨bl, 0, none⟩)) (.pt 8001 g 0 0) := fun w' => .pt _ _ 8001 g 0 0 hgg (fun l' hl' hlg' => by
      obtain ⟨h1, h2⟩ := hh l' hl' hlg'
      exact ⟨h1, by simp⟩)
    have hcell : X.w.cell? ⟨bl, 0, none⟩ = some (vs 0 0) := by rw [hB.cell]; exact k0
    have hpost : ∀ w', Ext X.w X.E w' X.E → R X.K X.w0 X.F0 X.E (hupd X.h [(8001, bldO g g2 n)]) w' → FunPost X (RetP (fun (_ : Unit) c' => c' = c) (fun _ => .tup 0 fun _ => default) (fun _ => [(8001, bldO g g2 n)])) (.returned (.tuple #[])) w' :=
      fun w' e r => ⟨_, _, c, X.E, ⟨(), rfl, rfl, rfl⟩, e, r, hG, fun _ h => .inl h, tup0_rep _ _⟩
    generalize hq : vs 0 0 = u at hrep k0 hcell
    cases hrep with
    | npn _ _ _ hcap =>
      have h1 := hcap l hl hlg
      have hsize : cs.size = 2 := by rw [hcs, h1]; rfl
      have hsh : X.w.shape? bl = some (63, 2) := by
        unfold World.shape?
        have := hB
        unfold Blk at this
        rw [this]
        simp [hsize]
      have hfz : X.w.frozen? ⟨bl, 0, none⟩ = false := hB.frozen _
      refine (Any.Builder_copyCheck_fresh Tryd.bld240 Tryd.bldX240 bl X.w hcell hsh hfz).mono ?_
      rintro e w' ⟨rfl, rfl⟩
      obtain ⟨e', r'⟩ := ok.r.store 8001 _ l bl ho hl hlA 0 0 [.pointer (some ⟨bl, 0, none⟩)] (fun _ => .nps 8001 g) (by show 0 < 1; omega) (Nat.le_refl _) (by show 0 + 1 ≤ 2; omega) (fun j u hu => by
        match j, hu with
        | 0, hu => simp at hu; subst hu; exact ⟨rfl, .npp _ _ _ hgg hcap (hself _)⟩)
      refine hpost _ e' (r'.weak (fun id o' ho' => ?_))
      have ho' : hset X.h 8001 (bldO g g2 n) id = some o' := ho'
      by_cases hid : id = 8001
      · subst hid
        rw [hset_same] at ho'; injection ho' with ho'; subst ho'
        refine ⟨_, hset_same .., rfl, rfl, rfl, rfl, Nat.le_refl _, fun i j hi hj => ?_, fun h => absurd h (by show ¬ (1 < 0); omega)⟩
        simp only at hi hj
        obtain rfl : i = 0 := by omega
        match j, hj with
        | 0, _ => exact .refl _
        | 1, _ => exact .refl _
      · rw [hset_ne _ _ hid] at ho'
        exact ⟨o', by rw [hset_ne _ _ hid]; exact ho', .refl _⟩
    | npp _ _ _ _ _ hp =>
      cases hp with
      | pt b' k' _ _ _ _ _ hh' =>
        obtain ⟨hb', hk'⟩ := hh' l hl hlg
        rw [hlA] at hb'; injection hb' with hb'; subst hb'
        have hk0 : k' = 0 := by rw [hk']; simp
        subst hk0
        refine (Any.Builder_copyCheck_used Tryd.bld240 Tryd.bldX240 bl X.w hcell).mono ?_
        rintro e w' ⟨rfl, rfl⟩
        refine hpost _ (Ext.refl _ _) (ok.r.less (fun id o ho' => ?_))
        have ho' : hset X.h 8001 (bldO g g2 n) id = some o := ho'
        by_cases hid : id = 8001
        · subst hid; rw [hset_same] at ho'; rw [ho]; exact ho'
        · rwa [hset_ne _ _ hid] at ho'
/-- b.String(), where nothing else of the call's own is wanted behind it. -/
theorem hf_string {w0 : World} {F : Addr → Prop} {ops : Array Oper} {Q : Exit → Act → World → Prop} {n clk : Nat} {tm : List (Nat × TV)} {hp : List (Nat × HObj)} {rest : List Oper} {ty : TypeId} {pos : String} {af : Array Edge} {at_ : Array TypeId} {x : Operand} (d g g2 m : Nat) (l : List UInt8)
    (hx : ovl (pview (tget tm)) x = some (.pt 8001 g 0 0)) (h1 : hget hp 8001 = some (bldO g g2 m)) (h2 : hget hp 8002 = some (bufO g2 m l)) (hm : m = l.length) (hlt : Nat.blt d n = true)
    (h : HSeq (Ctx.top w0 F) Tryd.prog ops rest ⟨n, [(d, .v (strV l))], [], clk⟩ Q) :
    HSeq (Ctx.top w0 F) Tryd.prog ops (⟨some d, .call ⟨.value (.func 38), #[x], at_⟩, ty, pos, af, none⟩ :: rest) ⟨n, tm, hp, clk⟩ Q := by
  intro a w ⟨E, e0, r, hG, hsz, hdf, ht⟩
  have hlt : d < n := by simpa [Nat.blt_eq] using hlt
  unfold wpSeq
  rw [if_pos (by simp [Region.wanted])]
  have hv : Rep w E (a.eval x) (.pt 8001 g 0 0) := by
    cases x with
    | tmp t =>
      simp only [ovl, pview] at hx
      cases hq : tget tm t with
      | none => rw [hq] at hx; cases hx
      | some u => rw [hq] at hx; cases u with
        | v y => injection hx with hx; subst hx; exact ht t _ hq
        | un j b y => cases hx
    | const v => exact rep_cst w E _ v _ hx
    | global k => cases hx
    | func f => cases hx
  obtain ⟨lc, bl, cs, hl, hlg, hlsz, hlA, hB, hcs, hnc, hmx, vs, hvs⟩ := r.objAt h1 (by show 0 < 1; omega)
  have notK : ∀ id o l b, hget hp id = some o → E.L id = some l → l.A = some b → w0.heap.size ≤ b := by
    intro id o l b ho hl hb
    obtain ⟨l', hl', at_⟩ := r.obj id o ho
    rw [hl] at hl'; injection hl' with hl'; subst hl'
    rcases Nat.lt_or_ge b w0.heap.size with hlt | hge
    · exact absurd trivial (at_.notK hb hlt)
    · exact hge
  generalize hρ : a.eval x = u at hv
  cases hv with
  | pt b k _ _ _ _ hgg hh =>
    obtain ⟨hb, rfl⟩ := hh lc hl hlg
    rw [hlA] at hb; injection hb with hb; subst hb
    rw [show 0 * lc.sz + 0 = 0 from by simp] at hρ
    have hBl := notK 8001 _ lc bl h1 hl hlA
    have c0 := hvs 0 0 (by show 0 < 1; omega) (by show 0 < 2; omega)
    have c1 := hvs 0 1 (by show 0 < 1; omega) (by show 1 < 2; omega)
    have k0 : cs[0]? = some (vs 0 0) := c0.1
    have k1 : cs[1]? = some (vs 0 1) := c1.1
    have r0 : Rep w E (vs 0 0) (.nps 8001 g) := c0.2.2
    have r1 : Rep w E (vs 0 1) (.os 8002 g2 0 m) := c1.2.2
    obtain ⟨l2, xs, hl2, hown, hcap2, hxs⟩ := r.owns h2 m (Nat.le_refl _) (Nat.zero_le _)
    obtain ⟨l2', hl2', at2⟩ := r.obj 8002 _ h2
    rw [hl2] at hl2'; injection hl2' with hl2'; subst hl2'
    have hbuf : vs 0 1 = .slice (l2.A.map fun b => ⟨b, 0, none⟩) m l2.cap := by
      generalize vs 0 1 = u at r1
      cases r1 with
      | os A1 _ c1 _ _ _ hgg hc hmm hA hz0 =>
        obtain ⟨rfl, rfl⟩ := hz0 l2 hl2 at2.g rfl
        rfl
    have hxsl : xs = Lib.byteCells l := by
      have hxl : xs.length = m := by simpa using hown.1
      apply List.ext_getElem?
      intro p
      by_cases hp : p < m
      · obtain ⟨u, h1, _, h3⟩ := hxs p 0 hp (by show 0 < 1; omega)
        have h3 : Rep w E u (u8V (l.getD p 0)) := h3
        rw [h3.imm_inv] at h1
        have h1 : xs[p * 1 + 0]? = _ := h1
        rw [Nat.mul_one, Nat.add_zero] at h1
        rw [h1]
        simp [Lib.byteCells, List.getD_eq_getElem?_getD, show p < l.length from by omega]
      · rw [List.getElem?_eq_none (by omega), List.getElem?_eq_none (by rw [Lib.byteCells_length]; omega)]
    have hbase : w.ownsRow w0.heap.size 5 1 (.slice (l2.A.map fun b => ⟨b, 0, none⟩) m l2.cap) m (Lib.byteCells l) := by
      rw [← hxsl]
      refine ⟨hown.1, ?_⟩
      rcases hown.2 with h0 | ⟨g', cap, cur, hv, _, r⟩
      · exact .inl h0
      · refine .inr ⟨g', cap, cur, hv, ?_, r⟩
        injection hv with hv _ _
        cases hA2 : l2.A with
        | none => rw [hA2] at hv; cases hv
        | some b2 =>
          rw [hA2] at hv
          injection hv with hv
          injection hv with hv
          subst hv
          exact notK 8002 _ l2 b2 h2 hl2 hA2
    have hne : ∀ b, l2.A = some b → bl ≠ b := by
      intro b hb he
      subst he
      exact absurd (r.inj 8001 8002 _ _ lc l2 bl h1 h2 hl hl2 hlA hb) (by decide)
    have hcap1 : lc.cap = 1 ∧ (vs 0 0 = .pointer none ∨ vs 0 0 = .pointer (some ⟨bl, 0, none⟩)) := by
      generalize vs 0 0 = u at r0
      cases r0 with
      | npn _ _ _ hc => exact ⟨hc lc hl hlg, .inl rfl⟩
      | npp _ _ _ _ hc hp =>
        refine ⟨hc lc hl hlg, .inr ?_⟩
        cases hp with
        | pt b' k' _ _ _ _ _ hh' =>
          obtain ⟨hb', hk'⟩ := hh' lc hl hlg
          rw [hlA] at hb'; injection hb' with hb'; subst hb'
          have hk0 : k' = 0 := by rw [hk']; simp
          rw [hk0]
    have hcs2 : cs = #[vs 0 0, vs 0 1] := by
      apply Array.ext_getElem?
      intro i
      match i with
      | 0 => exact k0
      | 1 => exact k1
      | i + 2 => rw [Array.getElem?_eq_none (by rw [hcs, hcap1.1]; show 1 * 2 ≤ i + 2; omega), Array.getElem?_eq_none (by simp)]
    have hat : ∀ p, vs 0 0 = p → Lib.BuilderAt 63 5 w0.heap.size bl p (Lib.byteCells l) w := by
      rintro p rfl
      refine ⟨hBl, vs 0 1, ?_, ?_, ?_⟩
      · have := hB
        unfold Blk at this
        rw [this, hcs2]
      · rw [hbuf, Lib.byteCells_length, ← hm]; exact hbase
      · rw [hbuf]
        cases hA2 : l2.A with
        | none => simp [Value.ownBlock]
        | some b2 =>
          intro he
          have : bl = b2 := by simp [Value.ownBlock] at he; exact he.symm
          exact hne b2 hA2 this
    have hbuilder : Lib.IsBuilder 63 5 w0.heap.size bl (Lib.byteCells l) w := hcap1.2.imp (fun h => hat _ h) (fun h => hat _ h)
    have hfn : FnOk Tryd.prog 38 := ⟨_, _, Tryd.func38, rfl, by kernel_rfl⟩
    unfold Oper.wp execOp
    have hargs : (#[x] : Array Operand).map a.eval = #[.pointer (some ⟨bl, 0, none⟩)] := by simp [hρ]
    simp only [resolve, Act.eval, Deferred.ofValue, invoke, Sem.run_bind, Sem.run_pure, Result.andThen_ok, Array.empty_append, Array.append_empty]
    rw [run_callFunc hfn]
    simp only [Oper.upon]
    rw [show (#[x] : Array Operand).map (fun x => a.eval x) = #[.pointer (some ⟨bl, 0, none⟩)] from hargs]
    refine (Tryd.Builder_String_any w0.heap.size bl l w hbuilder r.size).mono ?_
    rintro e w' ⟨rfl, hb⟩
    have hb0 : Below w0.heap.size w0 w' := by
      refine ⟨hb.os.trans r.os, hb.tape.trans r.tape, hb.output.trans r.output, Nat.le_trans r.size hb.size, fun k hk => (hb.block k hk).trans (r.keep k hk trivial)⟩
    have hFc : ∀ p, F p → (w0.cell? p).isSome = true := fun p hp => by
      have h1 : E.F p ∧ w.cell? p = w0.cell? p := e0.F p hp
      rw [← h1.2]; exact (r.frz p h1.1).2
    have hFs : ∀ p, F p → p.spot = none ∧ p.block < w0.heap.size := fun p hp => ⟨(r.frz p (e0.F p hp).1).1, lt_of_cell (hFc p hp)⟩
    have hex : Ext w0 (Env.just F) w' (Env.just F) := ⟨hb0.size, fun p hp => ⟨hp, World.cell?_of_block (hb0.block _ (hFs p hp).2)⟩, fun _ h => h, fun _ _ h _ => h⟩
    refine h _ w' ⟨Env.just F, hex, ⟨hb0.os, hb0.tape, hb0.output, hb0.size, fun k hk _ => hb0.block k hk, fun p hp => ?_, fun p hp => .inl hp, r.klib, r.lib, (fun id o ho => by cases ho), (fun id id' o o' l l' b ho => by cases ho)⟩, fun g hg => hg.elim, by simp [Act.put, hsz], hdf, fun t y hy => ?_⟩
    · exact ⟨(hFs p hp).1, by rw [World.cell?_of_block (hb0.block _ (hFs p hp).2)]; exact (hFc p hp)⟩
    · simp only [tget_cons] at hy
      split at hy
      · rename_i htd
        subst htd
        injection hy with hy
        subst hy
        rw [getD_put_same (by rw [hsz]; exact hlt)]
        exact .imm _
      · cases hy
end Go.Proofs.YtmcchhmgchgaaaaDoor

namespace Go.Proofs.YtmcchhmgchgaaaaDoor
set_option linter.unusedSimpArgs false
set_option linter.unusedVariables false
set_option maxRecDepth 100000
open Go.RowKit

theorem writeByte_h (c g g2 n : Nat) (l : List UInt8) (b : UInt8) (x : Int) (hx : x = (b.toNat : Int)) (hn : n = l.length) (hl : n ≤ 1000000000) : HFun Tryd.prog 35 c [.pt 8001 g 0 0, .imm (.int .u8 x)] [(8001, bldO g g2 n), (8002, bufO g2 n l)]
    (RetP (fun (g3 : Nat) _ => True) (fun _ => .imm .nilIface) (fun g3 => [(8001, bldO g g3 (n + 1)), (8002, bufO g3 (n + 1) (l ++ [b]))])) := by
  subst hx
  refine hfun_of Tryd.func35 rfl (by kernel_rfl) _ _ _ _ rfl 17 rfl rfl (fun X ok hX => ?_)
  refine srg fun N h1 => ?_
  refine sta rfl rfl rfl ?_
  refine snl h1 ?_
  refine srg fun N h2 => ?_
  refine stm rfl rfl rfl ?_
  refine hf_callR 6 (xs := [_]) (pre := [(8001, _)]) (copy_h _ _ _ _) ⟨rfl, trivial⟩ (preC rfl pre0) rfl rfl (fun x1 c1 hx1 => ?_)
  obtain rfl := hx1
  (try dsimp only)
  refine snl h2 ?_
  refine srg fun N h3 => ?_
  refine stm rfl rfl rfl ?_
  refine stm rfl rfl rfl ?_
  refine st0 (hop_nilcheck_pt rfl) rfl rfl ?_
  refine st0 (hop_fa fd_63_1 rfl) rfl rfl ?_
  refine st1 (hol_load ty_27 rfl (nb rfl) (nb rfl) (fun h => (by rfl))) rfl rfl rfl ?_
  refine stm rfl rfl rfl ?_
  refine hm_1 13 (hop_buildSlice (id := 13) (hs := [_]) ei_27 (nb rfl) rfl (nb rfl) ⟨rfl, rfl, rfl, rfl, trivial⟩) rfl rfl pre0 rfl rfl (c' := c1 + 1) rfl ?_
  refine hm_1 14 (hol_append ei_27 (nb rfl) rfl (by omega) (nb rfl) (srl_os0 rfl (nb rfl)) (by omega) rfl) rfl rfl (preC rfl (pre1 rfl)) rfl rfl (c' := c1 + 2) rfl ?_
  refine st0 (hop_nilcheck_pt rfl) rfl rfl ?_
  refine st0 (hop_fa fd_63_1 rfl) rfl rfl ?_
  refine hm_s1 (hol_store ty_27 rfl rfl rfl rfl (nb rfl) (nb rfl) (nb rfl)) rfl rfl (pre1 rfl) (c' := c1 + 3) rfl ?_
  refine snl h3 ?_
  refine srg fun N h4 => ?_
  refine sta rfl rfl rfl ?_
  refine snl h4 ?_
  refine hw_ret ?_
  refine hf_retR1 ok hX RetS.one rfl (rval_tmp rfl) [] rfl pre0 (c1 + 1) (trivial) (by rfl) (by rfl) ((by first | exact .fz _ _ (.imm _) | exact .os _ _ _ _ _ rfl rfl | exact .pt _ _ _ _ _ rfl rfl | exact .nps _ _ _ rfl rfl | (dsimp only; exact .fz _ _ Frz.fz) | exact .fz _ _ (.tup 0 _ _ (fun i hi => absurd hi (Nat.not_lt_zero _))))) ?_
  exact ⟨⟨_, rfl, okz2 (by first | exact .fz _ _ (.imm _) | exact .os _ _ _ _ _ rfl rfl | exact .pt _ _ _ _ _ rfl rfl | exact .nps _ _ _ rfl rfl | (dsimp only; exact .fz _ _ Frz.fz) | exact .fz _ _ (.tup 0 _ _ (fun i hi => absurd hi (Nat.not_lt_zero _)))) (by first | exact .fz _ _ (.imm _) | exact .os _ _ _ _ _ rfl rfl | exact .pt _ _ _ _ _ rfl rfl | exact .nps _ _ _ rfl rfl | (dsimp only; exact .fz _ _ Frz.fz) | exact .fz _ _ (.tup 0 _ _ (fun i hi => absurd hi (Nat.not_lt_zero _))))⟩, ⟨⟨_, rfl, OKz.of (fun i j hi hj => .fz _ _ (fz_cat (l := l) (k := [b]) (enc := fun c _ => u8V c) (d := 0) hn (fun i j _ _ => .imm _) (fun i j hi hj => by match i, hi with | 0, _ => exact .imm _) i j (by simp; omega) hj))⟩, trivial⟩⟩
theorem writeString_h (c g g2 n : Nat) (l m : List UInt8) (hn : n = l.length) (hl : n + m.length ≤ 1000000000) : HFun Tryd.prog 37 c [.pt 8001 g 0 0, strV m] [(8001, bldO g g2 n), (8002, bufO g2 n l)]
    (RetP (fun (g3 : Nat) _ => True) (fun _ => t2 (intV m.length) (.imm .nilIface)) (fun g3 => [(8001, bldO g g3 (n + m.length)), (8002, bufO g3 (n + m.length) (l ++ m))])) := by
  refine hfun_of Tryd.func37 rfl (by kernel_rfl) _ _ _ _ rfl 19 rfl rfl (fun X ok hX => ?_)
  refine srg fun N h1 => ?_
  refine sta rfl rfl rfl ?_
  refine sta rfl rfl rfl ?_
  refine snl h1 ?_
  refine srg fun N h2 => ?_
  refine stm rfl rfl rfl ?_
  refine hf_callR 7 (xs := [_]) (pre := [(8001, _)]) (copy_h _ _ _ _) ⟨rfl, trivial⟩ (preC rfl pre0) rfl rfl (fun x1 c1 hx1 => ?_)
  obtain rfl := hx1
  (try dsimp only)
  refine snl h2 ?_
  refine srg fun N h3 => ?_
  refine stm rfl rfl rfl ?_
  refine stm rfl rfl rfl ?_
  refine st0 (hop_nilcheck_pt rfl) rfl rfl ?_
  refine st0 (hop_fa fd_63_1 rfl) rfl rfl ?_
  refine st1 (hol_load ty_27 rfl (nb rfl) (nb rfl) (fun h => (by rfl))) rfl rfl rfl ?_
  refine stm rfl rfl rfl ?_
  refine hm_1 14 (hol_append_str m ei_27 (by kernel_rfl) (by kernel_rfl) rfl rfl (by first | omega | exact Nat.le_refl _) (Nat.zero_le _) (by omega) rfl) rfl rfl (pre1 rfl) rfl rfl (c' := c1 + 1) rfl ?_
  refine st0 (hop_nilcheck_pt rfl) rfl rfl ?_
  refine st0 (hop_fa fd_63_1 rfl) rfl rfl ?_
  refine hm_s1 (hol_store ty_27 rfl rfl rfl rfl (nb rfl) (nb rfl) (nb rfl)) rfl rfl (pre1 rfl) (c' := c1 + 2) rfl ?_
  refine snl h3 ?_
  refine srg fun N h4 => ?_
  refine stm rfl rfl rfl ?_
  refine st0 (hop_len_strl (T := 9) rfl (by kernel_rfl) rfl) rfl rfl ?_
  refine sta rfl rfl rfl ?_
  refine sta rfl rfl rfl ?_
  refine snl h4 ?_
  refine hw_ret ?_
  refine hf_retR2 ok hX RetS.one rfl (rval_tmp rfl) (rval_tmp rfl) [] rfl pre0 (c1) (trivial) (by rfl) (by rfl) (kz_t2 (by first | exact .fz _ _ (.imm _) | exact .os _ _ _ _ _ rfl rfl | exact .pt _ _ _ _ _ rfl rfl | exact .nps _ _ _ rfl rfl | (dsimp only; exact .fz _ _ Frz.fz) | exact .fz _ _ (.tup 0 _ _ (fun i hi => absurd hi (Nat.not_lt_zero _)))) (by first | exact .fz _ _ (.imm _) | exact .os _ _ _ _ _ rfl rfl | exact .pt _ _ _ _ _ rfl rfl | exact .nps _ _ _ rfl rfl | (dsimp only; exact .fz _ _ Frz.fz) | exact .fz _ _ (.tup 0 _ _ (fun i hi => absurd hi (Nat.not_lt_zero _))))) ?_
  exact ⟨⟨_, rfl, okz2 (by first | exact .fz _ _ (.imm _) | exact .os _ _ _ _ _ rfl rfl | exact .pt _ _ _ _ _ rfl rfl | exact .nps _ _ _ rfl rfl | (dsimp only; exact .fz _ _ Frz.fz) | exact .fz _ _ (.tup 0 _ _ (fun i hi => absurd hi (Nat.not_lt_zero _)))) (by first | exact .fz _ _ (.imm _) | exact .os _ _ _ _ _ rfl rfl | exact .pt _ _ _ _ _ rfl rfl | exact .nps _ _ _ rfl rfl | (dsimp only; exact .fz _ _ Frz.fz) | exact .fz _ _ (.tup 0 _ _ (fun i hi => absurd hi (Nat.not_lt_zero _))))⟩, ⟨⟨_, rfl, OKz.of (fun i j hi hj => .fz _ _ (fz_cat (l := l) (k := m) (enc := fun c _ => u8V c) (d := 0) hn (fun i j _ _ => .imm _) (fun i j _ _ => .imm _) i j (by simp; omega) hj))⟩, trivial⟩⟩
end Go.Proofs.YtmcchhmgchgaaaaDoor

namespace Go.Proofs.YtmcchhmgchgaaaaDoor
set_option linter.unusedSimpArgs false
set_option linter.unusedVariables false
set_option maxRecDepth 100000
open Go.RowKit
open Go.Lib hiding intOf

def timesL (a b : Int) : List UInt8 :=
  if a = 0 ∧ b = -1 then [42]
  else if a = 1 ∧ b = -1 then [43]
  else if a = 0 ∧ b = 1 then [63]
  else if a = b then [123] ++ itoa a ++ [125]
  else if b = -1 then [123] ++ itoa a ++ [44, 125]
  else [123] ++ itoa a ++ [44] ++ itoa b ++ [125]
@[reducible] def I64 (n : Int) : Prop := -9223372036854775808 ≤ n ∧ n ≤ 9223372036854775807
theorem itoa_len (n : Int) (h : I64 n) : (itoa n).length ≤ 21 := itoa_length_le n h.1 h.2
theorem itoa_h (n : Int) (h : I64 n) : HPure Tryd.prog 33 [intV n] (strV (itoa n)) := by
  refine ⟨⟨_, _, Tryd.func33, rfl, by kernel_rfl⟩, fun w F vs hF hr hw => ?_⟩
  obtain ⟨v, rfl, hv⟩ := rep1 hr
  rw [hv.imm_inv]
  refine (itoa_w n h.1 h.2 w (libAt hw)).mono ?_
  rintro e w' ⟨rfl, hb⟩
  exact pure_imm hF hb
theorem times_h (a b : Int) (ha : I64 a) (hb : I64 b) : HPure Tryd.prog 70 [intV a, intV b] (strV (timesL a b)) := by
  have la := itoa_len a ha
  have lb := itoa_len b hb
  refine hpure_of Tryd.func70 rfl (by kernel_rfl) _ _ _ rfl 49 rfl rfl (fun w F => ?_)
  refine srg fun N h1 => ?_
  refine sta rfl rfl rfl ?_
  refine snl h1 ?_
  refine hw_seq (fun Nh2 h2 => ?_)
  refine hw_block ?_
  refine srg fun N h3 => ?_
  refine stm rfl rfl rfl ?_
  refine st0 (hop_eql rfl rfl) rfl rfl ?_
  refine stm rfl rfl rfl ?_
  refine stg 8 (fun hb => hop_move rfl) rfl rfl rfl rfl rfl ?_
  refine stg 8 (fun hb => hop_eql rfl rfl) rfl rfl rfl rfl rfl ?_
  refine hq_p 11 (hstep_and _ _ rfl rfl rfl) rfl rfl rfl ?_
  refine sta rfl rfl rfl ?_
  refine hseq_nilU (by rfl) (by simp only [dropUn, slots]; exact rfl) ?_
  refine h3 _ ?_
  refine hw_cond _ rfl (fun hc0 => ?_) (fun hc0 => ?_)
  · have hr0 := hc0; (try simp only [hcs, Int.reduceToNat] at hc0)
    refine srg fun N h4 => ?_
    refine sta rfl rfl rfl ?_
    refine snl h4 ?_
    refine hw_ret ?_
    refine hq_block_ret ?_
    refine hq_then_ret ?_
    refine hq_ret1 rfl (rval_tmp rfl) [] rfl pre0 ?_
    rw [show timesL a b = [42] from if_pos hc0]; exact .imm _
  have hr0 := hc0; (try simp only [hcs, Int.reduceToNat] at hc0)
  have n0 : ¬ (a = 0 ∧ b = -1) := (by have h := hr0; simpa using h)
  refine srg fun N h5 => ?_
  refine stm rfl rfl rfl ?_
  refine st0 (hop_eql rfl rfl) rfl rfl ?_
  refine stm rfl rfl rfl ?_
  refine stg 15 (fun hb => hop_move rfl) rfl rfl rfl rfl rfl ?_
  refine stg 15 (fun hb => hop_eql rfl rfl) rfl rfl rfl rfl rfl ?_
  refine hq_p 18 (hstep_and _ _ rfl rfl rfl) rfl rfl rfl ?_
  refine sta rfl rfl rfl ?_
  refine hseq_nilU (by rfl) (by simp only [dropUn, slots]; exact rfl) ?_
  refine h5 _ ?_
  refine hw_cond _ rfl (fun hc1 => ?_) (fun hc1 => ?_)
  · have hr1 := hc1; (try simp only [hcs, Int.reduceToNat] at hc1)
    refine srg fun N h6 => ?_
    refine sta rfl rfl rfl ?_
    refine snl h6 ?_
    refine hw_ret ?_
    refine hq_block_ret ?_
    refine hq_then_ret ?_
    refine hq_ret1 rfl (rval_tmp rfl) [] rfl pre0 ?_
    rw [show timesL a b = [43] from by unfold timesL; rw [if_neg n0, if_pos hc1]]; exact .imm _
  have hr1 := hc1; (try simp only [hcs, Int.reduceToNat] at hc1)
  have n1 : ¬ (a = 1 ∧ b = -1) := (by have h := hr1; simpa using h)
  refine srg fun N h7 => ?_
  refine stm rfl rfl rfl ?_
  refine st0 (hop_eql rfl rfl) rfl rfl ?_
  refine stm rfl rfl rfl ?_
  refine stg 22 (fun hb => hop_move rfl) rfl rfl rfl rfl rfl ?_
  refine stg 22 (fun hb => hop_eql rfl rfl) rfl rfl rfl rfl rfl ?_
  refine hq_p 25 (hstep_and _ _ rfl rfl rfl) rfl rfl rfl ?_
  refine sta rfl rfl rfl ?_
  refine hseq_nilU (by rfl) (by simp only [dropUn, slots]; exact rfl) ?_
  refine h7 _ ?_
  refine hw_cond _ rfl (fun hc2 => ?_) (fun hc2 => ?_)
  · have hr2 := hc2; (try simp only [hcs, Int.reduceToNat] at hc2)
    refine srg fun N h8 => ?_
    refine sta rfl rfl rfl ?_
    refine snl h8 ?_
    refine hw_ret ?_
    refine hq_block_ret ?_
    refine hq_then_ret ?_
    refine hq_ret1 rfl (rval_tmp rfl) [] rfl pre0 ?_
    rw [show timesL a b = [63] from by unfold timesL; rw [if_neg n0, if_neg n1, if_pos hc2]]; exact .imm _
  have hr2 := hc2; (try simp only [hcs, Int.reduceToNat] at hc2)
  have n2 : ¬ (a = 0 ∧ b = 1) := (by have h := hr2; simpa using h)
  refine srg fun N h9 => ?_
  refine stm rfl rfl rfl ?_
  refine stm rfl rfl rfl ?_
  refine st0 (hop_eql rfl rfl) rfl rfl ?_
  refine sta rfl rfl rfl ?_
  refine snl h9 ?_
  refine hw_cond _ rfl (fun hc3 => ?_) (fun hc3 => ?_)
  · have hr3 := hc3; (try simp only [hcs, Int.reduceToNat] at hc3)
    refine srg fun N h10 => ?_
    refine stm rfl rfl rfl ?_
    refine st0 (hop_call0 (xs := [_]) (itoa_h a ha) ⟨rfl, trivial⟩ ⟨(Fz.eq rfl), trivial⟩) rfl rfl ?_
    refine st0 (hop_catl rfl rfl (by simp <;> omega)) rfl rfl ?_
    refine st0 (hop_catl rfl rfl (by simp <;> omega)) rfl rfl ?_
    refine sta rfl rfl rfl ?_
    refine snl h10 ?_
    refine hw_ret ?_
    refine hq_block_ret ?_
    refine hq_then_ret ?_
    refine hq_ret1 rfl (rval_tmp rfl) [] rfl pre0 ?_
    rw [show timesL a b = [123] ++ itoa a ++ [125] from by unfold timesL; rw [if_neg n0, if_neg n1, if_neg n2, if_pos hc3]]; exact .imm _
  have hr3 := hc3; (try simp only [hcs, Int.reduceToNat] at hc3)
  refine srg fun N h11 => ?_
  refine stm rfl rfl rfl ?_
  refine st0 (hop_eql rfl rfl) rfl rfl ?_
  refine sta rfl rfl rfl ?_
  refine snl h11 ?_
  refine hw_cond _ rfl (fun hc4 => ?_) (fun hc4 => ?_)
  · have hr4 := hc4; (try simp only [hcs, Int.reduceToNat] at hc4)
    refine srg fun N h12 => ?_
    refine stm rfl rfl rfl ?_
    refine st0 (hop_call0 (xs := [_]) (itoa_h a ha) ⟨rfl, trivial⟩ ⟨(Fz.eq rfl), trivial⟩) rfl rfl ?_
    refine st0 (hop_catl rfl rfl (by simp <;> omega)) rfl rfl ?_
    refine st0 (hop_catl rfl rfl (by simp <;> omega)) rfl rfl ?_
    refine sta rfl rfl rfl ?_
    refine snl h12 ?_
    refine hw_ret ?_
    refine hq_block_ret ?_
    refine hq_then_ret ?_
    refine hq_ret1 rfl (rval_tmp rfl) [] rfl pre0 ?_
    rw [show timesL a b = [123] ++ itoa a ++ [44, 125] from by unfold timesL; rw [if_neg n0, if_neg n1, if_neg n2, if_neg hc3, if_pos hc4]]; exact .imm _
  have hr4 := hc4; (try simp only [hcs, Int.reduceToNat] at hc4)
  refine hw_skip ?_
  refine hq_block ?_
  refine h2 _ ?_
  refine srg fun N h13 => ?_
  refine stm rfl rfl rfl ?_
  refine st0 (hop_call0 (xs := [_]) (itoa_h a ha) ⟨rfl, trivial⟩ ⟨(Fz.eq rfl), trivial⟩) rfl rfl ?_
  refine st0 (hop_catl rfl rfl (by simp <;> omega)) rfl rfl ?_
  refine st0 (hop_catl rfl rfl (by simp <;> omega)) rfl rfl ?_
  refine stm rfl rfl rfl ?_
  refine st0 (hop_call0 (xs := [_]) (itoa_h b hb) ⟨rfl, trivial⟩ ⟨(Fz.eq rfl), trivial⟩) rfl rfl ?_
  refine st0 (hop_catl rfl rfl (by simp <;> omega)) rfl rfl ?_
  refine st0 (hop_catl rfl rfl (by simp <;> omega)) rfl rfl ?_
  refine sta rfl rfl rfl ?_
  refine snl h13 ?_
  refine hw_ret ?_
  refine hq_ret1 rfl (rval_tmp rfl) [] rfl pre0 ?_
  rw [show timesL a b = [123] ++ itoa a ++ [44] ++ itoa b ++ [125] from by unfold timesL; rw [if_neg n0, if_neg n1, if_neg n2, if_neg hc3, if_neg hc4]]; exact .imm _
theorem refTimes_h (a b : Int) (ha : I64 a) (hb : I64 b) : HPure Tryd.prog 68 [intV a, intV b] (strV (timesL a b)) := by
  have la := itoa_len a ha
  have lb := itoa_len b hb
  refine hpure_of Tryd.func68 rfl (by kernel_rfl) _ _ _ rfl 42 rfl rfl (fun w F => ?_)
  refine srg fun N h1 => ?_
  refine sta rfl rfl rfl ?_
  refine snl h1 ?_
  refine hw_seq (fun Nh2 h2 => ?_)
  refine srg fun N h3 => ?_
  refine stm rfl rfl rfl ?_
  refine st0 (hop_eql rfl rfl) rfl rfl ?_
  refine stm rfl rfl rfl ?_
  refine stg 8 (fun hb => hop_move rfl) rfl rfl rfl rfl rfl ?_
  refine stg 8 (fun hb => hop_eql rfl rfl) rfl rfl rfl rfl rfl ?_
  refine hq_p 11 (hstep_and _ _ rfl rfl rfl) rfl rfl rfl ?_
  refine hseq_nilU (by rfl) (by simp only [dropUn, slots]; exact rfl) ?_
  refine h3 _ ?_
  refine hw_cond _ rfl (fun hc0 => ?_) (fun hc0 => ?_)
  · have hr0 := hc0; (try simp only [hcs, Int.reduceToNat] at hc0)
    refine srg fun N h4 => ?_
    refine sta rfl rfl rfl ?_
    refine snl h4 ?_
    refine hw_ret ?_
    refine hq_then_ret ?_
    refine hq_ret1 rfl (rval_tmp rfl) [] rfl pre0 ?_
    rw [show timesL a b = [42] from if_pos hc0]; exact .imm _
  have hr0 := hc0; (try simp only [hcs, Int.reduceToNat] at hc0)
  have n0 : ¬ (a = 0 ∧ b = -1) := (by have h := hr0; simpa using h)
  refine hw_skip ?_
  refine h2 _ ?_
  refine hw_seq (fun Nh5 h5 => ?_)
  refine srg fun N h6 => ?_
  refine stm rfl rfl rfl ?_
  refine st0 (hop_eql rfl rfl) rfl rfl ?_
  refine stm rfl rfl rfl ?_
  refine stg 14 (fun hb => hop_move rfl) rfl rfl rfl rfl rfl ?_
  refine stg 14 (fun hb => hop_eql rfl rfl) rfl rfl rfl rfl rfl ?_
  refine hq_p 17 (hstep_and _ _ rfl rfl rfl) rfl rfl rfl ?_
  refine hseq_nilU (by rfl) (by simp only [dropUn, slots]; exact rfl) ?_
  refine h6 _ ?_
  refine hw_cond _ rfl (fun hc1 => ?_) (fun hc1 => ?_)
  · have hr1 := hc1; (try simp only [hcs, Int.reduceToNat] at hc1)
    refine srg fun N h7 => ?_
    refine sta rfl rfl rfl ?_
    refine snl h7 ?_
    refine hw_ret ?_
    refine hq_then_ret ?_
    refine hq_ret1 rfl (rval_tmp rfl) [] rfl pre0 ?_
    rw [show timesL a b = [43] from by unfold timesL; rw [if_neg n0, if_pos hc1]]; exact .imm _
  have hr1 := hc1; (try simp only [hcs, Int.reduceToNat] at hc1)
  have n1 : ¬ (a = 1 ∧ b = -1) := (by have h := hr1; simpa using h)
  refine hw_skip ?_
  refine h5 _ ?_
  refine hw_seq (fun Nh8 h8 => ?_)
  refine srg fun N h9 => ?_
  refine stm rfl rfl rfl ?_
  refine st0 (hop_eql rfl rfl) rfl rfl ?_
  refine stm rfl rfl rfl ?_
  refine stg 20 (fun hb => hop_move rfl) rfl rfl rfl rfl rfl ?_
  refine stg 20 (fun hb => hop_eql rfl rfl) rfl rfl rfl rfl rfl ?_
  refine hq_p 23 (hstep_and _ _ rfl rfl rfl) rfl rfl rfl ?_
  refine hseq_nilU (by rfl) (by simp only [dropUn, slots]; exact rfl) ?_
  refine h9 _ ?_
  refine hw_cond _ rfl (fun hc2 => ?_) (fun hc2 => ?_)
  · have hr2 := hc2; (try simp only [hcs, Int.reduceToNat] at hc2)
    refine srg fun N h10 => ?_
    refine sta rfl rfl rfl ?_
    refine snl h10 ?_
    refine hw_ret ?_
    refine hq_then_ret ?_
    refine hq_ret1 rfl (rval_tmp rfl) [] rfl pre0 ?_
    rw [show timesL a b = [63] from by unfold timesL; rw [if_neg n0, if_neg n1, if_pos hc2]]; exact .imm _
  have hr2 := hc2; (try simp only [hcs, Int.reduceToNat] at hc2)
  have n2 : ¬ (a = 0 ∧ b = 1) := (by have h := hr2; simpa using h)
  refine hw_skip ?_
  refine h8 _ ?_
  refine srg fun N h11 => ?_
  refine stm rfl rfl rfl ?_
  refine st0 (hop_call0 (xs := [_]) (refShow_h a ha.1 ha.2) ⟨rfl, trivial⟩ ⟨(Fz.eq rfl), trivial⟩) rfl rfl ?_
  refine st0 (hop_catl rfl rfl (by simp <;> omega)) rfl rfl ?_
  refine sta rfl rfl rfl ?_
  refine snl h11 ?_
  refine hw_seq (fun Nh12 h12 => ?_)
  refine srg fun N h13 => ?_
  refine stm rfl rfl rfl ?_
  refine stm rfl rfl rfl ?_
  refine st0 (hop_eql rfl rfl) rfl rfl ?_
  refine snl h13 ?_
  refine hw_cond _ rfl (fun hc3 => ?_) (fun hc3 => ?_)
  · have hr3 := hc3; (try simp only [hcs, Int.reduceToNat] at hc3)
    refine srg fun N h14 => ?_
    refine stm rfl rfl rfl ?_
    refine st0 (hop_catl rfl rfl (by simp <;> omega)) rfl rfl ?_
    refine sta rfl rfl rfl ?_
    refine snl h14 ?_
    refine hw_ret ?_
    refine hq_then_ret ?_
    refine hq_ret1 rfl (rval_tmp rfl) [] rfl pre0 ?_
    rw [show timesL a b = [123] ++ itoa a ++ [125] from by unfold timesL; rw [if_neg n0, if_neg n1, if_neg n2, if_pos hc3.symm]]; exact .imm _
  have hr3 := hc3; (try simp only [hcs, Int.reduceToNat] at hc3)
  refine hw_skip ?_
  refine h12 _ ?_
  refine hw_seq (fun Nh15 h15 => ?_)
  refine srg fun N h16 => ?_
  refine stm rfl rfl rfl ?_
  refine st0 (hop_eql rfl rfl) rfl rfl ?_
  refine snl h16 ?_
  refine hw_cond _ rfl (fun hc4 => ?_) (fun hc4 => ?_)
  · have hr4 := hc4; (try simp only [hcs, Int.reduceToNat] at hc4)
    refine srg fun N h17 => ?_
    refine stm rfl rfl rfl ?_
    refine st0 (hop_catl rfl rfl (by simp <;> omega)) rfl rfl ?_
    refine sta rfl rfl rfl ?_
    refine snl h17 ?_
    refine hw_ret ?_
    refine hq_then_ret ?_
    refine hq_ret1 rfl (rval_tmp rfl) [] rfl pre0 ?_
    rw [show timesL a b = [123] ++ itoa a ++ [44, 125] from by unfold timesL; rw [if_neg n0, if_neg n1, if_neg n2, if_neg (Ne.symm hc3), if_pos hc4]]; exact .imm _
  have hr4 := hc4; (try simp only [hcs, Int.reduceToNat] at hc4)
  refine hw_skip ?_
  refine h15 _ ?_
  refine srg fun N h18 => ?_
  refine stm rfl rfl rfl ?_
  refine st0 (hop_catl rfl rfl (by simp <;> omega)) rfl rfl ?_
  refine stm rfl rfl rfl ?_
  refine st0 (hop_call0 (xs := [_]) (refShow_h b hb.1 hb.2) ⟨rfl, trivial⟩ ⟨(Fz.eq rfl), trivial⟩) rfl rfl ?_
  refine st0 (hop_catl rfl rfl (by simp <;> omega)) rfl rfl ?_
  refine st0 (hop_catl rfl rfl (by simp <;> omega)) rfl rfl ?_
  refine sta rfl rfl rfl ?_
  refine snl h18 ?_
  refine hw_ret ?_
  refine hq_ret1 rfl (rval_tmp rfl) [] rfl pre0 ?_
  rw [show timesL a b = [123] ++ itoa a ++ [44] ++ itoa b ++ [125] from by unfold timesL; rw [if_neg n0, if_neg n1, if_neg n2, if_neg (Ne.symm hc3), if_neg hc4]]; exact .imm _
def pieceL (x : Sg) : List UInt8 :=
  if x.kind = 1 then x.name else if x.kind = 2 then [40] else if x.kind = 3 then [41] else if x.kind = 4 then [124] else if x.kind = 5 then timesL x.low x.high else []
def sepL (f : Bool) (x : Sg) : List UInt8 := if f = false ∧ x.kind ≠ 5 then [32] else []
def showG : Bool → List Sg → List UInt8
  | _, [] => []
  | f, x :: r => sepL f x ++ pieceL x ++ showG false r
def showL (l : List Sg) : List UInt8 := showG true l
structure SgOk (x : Sg) : Prop where
  name : x.name.length ≤ 100
  low : I64 x.low
  high : I64 x.high
theorem times_len (a b : Int) (ha : I64 a) (hb : I64 b) : (timesL a b).length ≤ 50 := by
  have la := itoa_len a ha
  have lb := itoa_len b hb
  unfold timesL
  repeat' split
  all_goals simp
  all_goals omega
theorem show_next {l : List Sg} {k : Nat} {acc S p : List UInt8} (hk : k < l.length) (hL : acc ++ showG (decide (k = 0)) (l.drop k) = showL l) (hs : sepL (decide (k = 0)) (l.getD k default) = S) (hp : pieceL (l.getD k default) = p) :
    acc ++ S ++ p ++ showG (decide (k + 1 = 0)) (l.drop (k + 1)) = showL l := by
  have e : l.drop k = l.getD k default :: l.drop (k + 1) := by
    rw [List.getD_eq_getElem?_getD, List.getElem?_eq_getElem hk, List.drop_eq_getElem_cons hk]; rfl
  rw [← hL, e]
  have h0 : decide (k + 1 = 0) = false := decide_eq_false (by omega)
  rw [h0]
  simp only [showG, hs, hp, List.append_assoc]
theorem show_end {l : List Sg} {k : Nat} {acc : List UInt8} (hk : l.length ≤ k) (hL : acc ++ showG (decide (k = 0)) (l.drop k) = showL l) : acc = showL l := by
  rw [List.drop_eq_nil_of_le hk] at hL
  simpa [showG] using hL
theorem getD_ok {l : List Sg} {k : Nat} (h : ∀ x ∈ l, SgOk x) (hk : k < l.length) : SgOk (l.getD k default) := by
  rw [List.getD_eq_getElem?_getD, List.getElem?_eq_getElem hk]; exact h _ (List.getElem_mem hk)
theorem lexShow_h (l : List Sg) (hl : l.length ≤ 1000) (hok : ∀ x ∈ l, SgOk x) : HPure Tryd.prog 51 [sgsV l] (strV (showL l)) := by
  refine hpure_of Tryd.func51 rfl (by kernel_rfl) _ _ _ rfl 47 rfl rfl (fun w F => ?_)
  refine srg fun N h1 => ?_
  refine sta rfl rfl rfl ?_
  refine snl h1 ?_
  refine srg fun N h2 => ?_
  refine hm_bld 3 rfl rfl (c' := 2) rfl ?_
  refine snl h2 ?_
  refine hw_seq (fun Nh3 h3 => ?_)
  refine srg fun N h4 => ?_
  refine stm rfl rfl rfl ?_
  refine st0 (hop_len_sl (T := 86) rfl (elOf_spec el_86).1 rfl) rfl rfl ?_
  refine stm rfl rfl rfl ?_
  refine snl h4 ?_
  refine hw_block ?_
  refine hw_loopc (α := Nat × List UInt8 × Nat × Nat) (fun x c => ⟨47, [(3, .v (.pt 8001 0 0 0)), (6, .v (sgsV l)), (7, .v (intV l.length)), (8, .v (intV x.1))], [(8001, bldO 0 x.2.2.1 x.2.2.2), (8002, bufO x.2.2.1 x.2.2.2 x.2.1)], c⟩) (fun x => x.1 ≤ l.length ∧ x.2.2.2 = x.2.1.length ∧ x.2.2.2 ≤ 200 * x.1 ∧ x.2.1 ++ showG (decide (x.1 = 0)) (l.drop x.1) = showL l) (fun x => l.length - x.1) ((0, [], 1, 0)) (by exact ⟨Nat.zero_le _, rfl, Nat.zero_le _, rfl⟩) (hsub_of rfl (Nat.le_refl _) (TmSub.cons rfl (Sb.refl _) (TmSub.cons rfl (Sb.refl _) (TmSub.cons rfl (Sb.refl _) (TmSub.cons rfl (Sb.refl _) TmSub.nil)))) (HpSub.cons rfl (OSub.refl _) (HpSub.cons rfl (OSub.refl _) HpSub.nil))) (fun x c hx NhL5 hL5 => ?_)
  revert hx hL5; obtain ⟨k, acc, g, n⟩ := x; intro hx hL5; dsimp only at hx hL5 ⊢
  obtain ⟨hk, hn, hb, hL⟩ := hx
  refine srg fun N h6 => ?_
  refine st0 (hop_lss rfl rfl) rfl rfl ?_
  refine snl h6 ?_
  refine hw_seq (fun Nh7 h7 => ?_)
  refine hw_cond _ rfl (fun hc0 => ?_) (fun hc0 => ?_)
  · have hr0 := hc0; (try simp only [hcs, Int.reduceToNat] at hc0)
    have hkl : k < l.length := (by omega); have hx := getD_ok hok hkl; have hnm := hx.name; have htl := times_len _ _ hx.low hx.high
    refine hw_skip ?_
    refine h7 _ ?_
    refine hw_seq (fun Nh8 h8 => ?_)
    refine hw_block ?_
    refine srg fun N h9 => ?_
    refine stm rfl rfl rfl ?_
    refine st0 (hop_ia_sl el_86 rfl rfl (by omega) (by omega) (nb rfl)) rfl rfl ?_
    refine st0 (hop_load_fp ty_108 rfl (nb rfl) (fun h => (by cases h))) rfl rfl ?_
    refine hm_1 5 (hop_alloc (id := 5) (sz := 5) zc_108 rfl rfl (nb rfl) (nb rfl)) rfl rfl pre0 rfl rfl (c' := c + 1) rfl ?_
    refine sta rfl rfl rfl ?_
    refine hm_s1 (hol_storeW ty_108 rfl rfl rfl rfl) rfl rfl (pre1 rfl) (c' := c + 2) rfl ?_
    refine snl h9 ?_
    refine hw_seq (fun Nh10 h10 => ?_)
    refine srg fun N h11 => ?_
    refine stm rfl rfl rfl ?_
    refine st0 (hop_gtr rfl rfl) rfl rfl ?_
    refine stm rfl rfl rfl ?_
    refine stg 15 (fun hb => hop_fa fd_108_0 rfl) rfl rfl rfl rfl rfl ?_
    refine hq_g 17 2 15 true _ (fun hb => hol_load ty_3 rfl (nb rfl) (nb rfl) (fun h => (by rfl))) rfl rfl rfl rfl (pre1 rfl) rfl rfl rfl ?_
    refine stg 15 (fun hb => hop_neq rfl rfl) rfl rfl rfl rfl rfl ?_
    refine hq_p 19 (hstep_and _ _ rfl rfl rfl) rfl rfl rfl ?_
    refine hseq_nilU (by rfl) (by simp only [dropUn, slots]; exact rfl) ?_
    refine h11 _ ?_
    refine hw_cond _ rfl (fun hc1 => ?_) (fun hc1 => ?_)
    · have hr1 := hc1; (try simp only [hcs, Int.reduceToNat] at hc1)
      have hsep : sepL (decide (k = 0)) (l.getD k default) = [32] := (by unfold sepL; rw [if_pos ⟨decide_eq_false (by omega), hc1.2⟩])
      refine hw_region ?_
      refine hf_callR 20 (xs := [_, _]) (pre := [(8001, _), (8002, _)]) (writeByte_h _ 0 g n acc 32 32 rfl hn (by omega)) ⟨rfl, ⟨rfl, trivial⟩⟩ (preC rfl (preC rfl pre0)) rfl rfl (fun g1 c1 hx1 => ?_)
      (try dsimp only)
      refine snl h10 ?_
      refine srg fun N h12 => ?_
      refine st0 (hop_fa fd_108_0 rfl) rfl rfl ?_
      refine st1 (hol_load ty_3 rfl (nb rfl) (nb rfl) (fun h => (by rfl))) rfl rfl rfl ?_
      refine snl h12 ?_
      refine hw_block ?_
      refine srg fun N h13 => ?_
      refine st0 (hop_eql rfl rfl) rfl rfl ?_
      refine sta rfl rfl rfl ?_
      refine snl h13 ?_
      refine hw_cond _ rfl (fun hc2 => ?_) (fun hc2 => ?_)
      · have hr2 := hc2; (try simp only [hcs, Int.reduceToNat] at hc2)
        refine hw_region ?_
        refine st0 (hop_fa fd_108_4 rfl) rfl rfl ?_
        refine st1 (hol_load ty_9 rfl (nb rfl) (nb rfl) (fun h => (by rfl))) rfl rfl rfl ?_
        refine hf_callR 27 (xs := [_, _]) (pre := [(8001, _), (8002, _)]) (writeString_h _ 0 g1 (n + 1) (acc ++ [32]) (l.getD k default).name (by rw [List.length_append, hn]; rfl) (by omega)) ⟨rfl, ⟨rfl, trivial⟩⟩ (preC rfl (preC rfl pre0)) rfl rfl (fun g2 c2 hx2 => ?_)
        (try dsimp only)
        refine hseq_nil ?_
        refine hq_block ?_
        refine hq_block ?_
        refine h8 _ ?_
        refine hw_region ?_
        refine st0 (hop_addi rfl rfl rfl (by omega) (by omega)) rfl rfl ?_
        refine stm rfl rfl rfl ?_
        refine hseq_nil ?_
        exact hL5 ((k + 1, (acc ++ [32]) ++ (l.getD k default).name, g2, (n + 1) + (l.getD k default).name.length)) _ _ (by (try dsimp only); exact ⟨by omega, by simp only [List.length_append, List.length_cons, List.length_nil]; omega, by (try simp only [List.length_cons, List.length_nil]); omega, by have h := show_next (p := (l.getD k default).name) hkl hL hsep (if_pos hc2); simpa only [List.append_nil, List.append_assoc] using h⟩) (by (try dsimp only); omega) (hsub_of rfl (Nat.le_refl _) (TmSub.cons rfl (Sb.refl _) (TmSub.cons rfl (Sb.refl _) (TmSub.cons rfl (Sb.refl _) (TmSub.cons rfl (Sb.refl _) TmSub.nil)))) (HpSub.cons rfl (OSub.refl _) (HpSub.cons rfl (OSub.refl _) HpSub.nil)))
      have hr2 := hc2; (try simp only [hcs, Int.reduceToNat] at hc2)
      refine srg fun N h14 => ?_
      refine st0 (hop_eql rfl rfl) rfl rfl ?_
      refine sta rfl rfl rfl ?_
      refine snl h14 ?_
      refine hw_cond _ rfl (fun hc3 => ?_) (fun hc3 => ?_)
      · have hr3 := hc3; (try simp only [hcs, Int.reduceToNat] at hc3)
        refine hw_region ?_
        refine hf_callR 30 (xs := [_, _]) (pre := [(8001, _), (8002, _)]) (writeByte_h _ 0 g1 (n + 1) (acc ++ [32]) 40 40 rfl (by rw [List.length_append, hn]; rfl) (by omega)) ⟨rfl, ⟨rfl, trivial⟩⟩ (preC rfl (preC rfl pre0)) rfl rfl (fun g2 c3 hx3 => ?_)
        (try dsimp only)
        refine hseq_nil ?_
        refine hq_block ?_
        refine hq_block ?_
        refine h8 _ ?_
        refine hw_region ?_
        refine st0 (hop_addi rfl rfl rfl (by omega) (by omega)) rfl rfl ?_
        refine stm rfl rfl rfl ?_
        refine hseq_nil ?_
        exact hL5 ((k + 1, (acc ++ [32]) ++ [40], g2, (n + 1) + 1)) _ _ (by (try dsimp only); exact ⟨by omega, by simp only [List.length_append, List.length_cons, List.length_nil]; omega, by (try simp only [List.length_cons, List.length_nil]); omega, by have h := show_next (p := [40]) hkl hL hsep (by unfold pieceL; rw [if_neg hc2, if_pos hc3]); simpa only [List.append_nil, List.append_assoc] using h⟩) (by (try dsimp only); omega) (hsub_of rfl (Nat.le_refl _) (TmSub.cons rfl (Sb.refl _) (TmSub.cons rfl (Sb.refl _) (TmSub.cons rfl (Sb.refl _) (TmSub.cons rfl (Sb.refl _) TmSub.nil)))) (HpSub.cons rfl (OSub.refl _) (HpSub.cons rfl (OSub.refl _) HpSub.nil)))
      have hr3 := hc3; (try simp only [hcs, Int.reduceToNat] at hc3)
      refine srg fun N h15 => ?_
      refine st0 (hop_eql rfl rfl) rfl rfl ?_
      refine sta rfl rfl rfl ?_
      refine snl h15 ?_
      refine hw_cond _ rfl (fun hc4 => ?_) (fun hc4 => ?_)
      · have hr4 := hc4; (try simp only [hcs, Int.reduceToNat] at hc4)
        refine hw_region ?_
        refine hf_callR 33 (xs := [_, _]) (pre := [(8001, _), (8002, _)]) (writeByte_h _ 0 g1 (n + 1) (acc ++ [32]) 41 41 rfl (by rw [List.length_append, hn]; rfl) (by omega)) ⟨rfl, ⟨rfl, trivial⟩⟩ (preC rfl (preC rfl pre0)) rfl rfl (fun g2 c4 hx4 => ?_)
        (try dsimp only)
        refine hseq_nil ?_
        refine hq_block ?_
        refine hq_block ?_
        refine h8 _ ?_
        refine hw_region ?_
        refine st0 (hop_addi rfl rfl rfl (by omega) (by omega)) rfl rfl ?_
        refine stm rfl rfl rfl ?_
        refine hseq_nil ?_
        exact hL5 ((k + 1, (acc ++ [32]) ++ [41], g2, (n + 1) + 1)) _ _ (by (try dsimp only); exact ⟨by omega, by simp only [List.length_append, List.length_cons, List.length_nil]; omega, by (try simp only [List.length_cons, List.length_nil]); omega, by have h := show_next (p := [41]) hkl hL hsep (by unfold pieceL; rw [if_neg hc2, if_neg hc3, if_pos hc4]); simpa only [List.append_nil, List.append_assoc] using h⟩) (by (try dsimp only); omega) (hsub_of rfl (Nat.le_refl _) (TmSub.cons rfl (Sb.refl _) (TmSub.cons rfl (Sb.refl _) (TmSub.cons rfl (Sb.refl _) (TmSub.cons rfl (Sb.refl _) TmSub.nil)))) (HpSub.cons rfl (OSub.refl _) (HpSub.cons rfl (OSub.refl _) HpSub.nil)))
      have hr4 := hc4; (try simp only [hcs, Int.reduceToNat] at hc4)
      refine srg fun N h16 => ?_
      refine st0 (hop_eql rfl rfl) rfl rfl ?_
      refine sta rfl rfl rfl ?_
      refine snl h16 ?_
      refine hw_cond _ rfl (fun hc5 => ?_) (fun hc5 => ?_)
      · have hr5 := hc5; (try simp only [hcs, Int.reduceToNat] at hc5)
        refine hw_region ?_
        refine hf_callR 36 (xs := [_, _]) (pre := [(8001, _), (8002, _)]) (writeByte_h _ 0 g1 (n + 1) (acc ++ [32]) 124 124 rfl (by rw [List.length_append, hn]; rfl) (by omega)) ⟨rfl, ⟨rfl, trivial⟩⟩ (preC rfl (preC rfl pre0)) rfl rfl (fun g2 c5 hx5 => ?_)
        (try dsimp only)
        refine hseq_nil ?_
        refine hq_block ?_
        refine hq_block ?_
        refine h8 _ ?_
        refine hw_region ?_
        refine st0 (hop_addi rfl rfl rfl (by omega) (by omega)) rfl rfl ?_
        refine stm rfl rfl rfl ?_
        refine hseq_nil ?_
        exact hL5 ((k + 1, (acc ++ [32]) ++ [124], g2, (n + 1) + 1)) _ _ (by (try dsimp only); exact ⟨by omega, by simp only [List.length_append, List.length_cons, List.length_nil]; omega, by (try simp only [List.length_cons, List.length_nil]); omega, by have h := show_next (p := [124]) hkl hL hsep (by unfold pieceL; rw [if_neg hc2, if_neg hc3, if_neg hc4, if_pos hc5]); simpa only [List.append_nil, List.append_assoc] using h⟩) (by (try dsimp only); omega) (hsub_of rfl (Nat.le_refl _) (TmSub.cons rfl (Sb.refl _) (TmSub.cons rfl (Sb.refl _) (TmSub.cons rfl (Sb.refl _) (TmSub.cons rfl (Sb.refl _) TmSub.nil)))) (HpSub.cons rfl (OSub.refl _) (HpSub.cons rfl (OSub.refl _) HpSub.nil)))
      have hr5 := hc5; (try simp only [hcs, Int.reduceToNat] at hc5)
      refine srg fun N h17 => ?_
      refine st0 (hop_eql rfl rfl) rfl rfl ?_
      refine sta rfl rfl rfl ?_
      refine snl h17 ?_
      refine hw_cond _ rfl (fun hc6 => ?_) (fun hc6 => ?_)
      · have hr6 := hc6; (try simp only [hcs, Int.reduceToNat] at hc6)
        refine hw_region ?_
        refine st0 (hop_fa fd_108_2 rfl) rfl rfl ?_
        refine st1 (hol_load ty_3 rfl (nb rfl) (nb rfl) (fun h => (by rfl))) rfl rfl rfl ?_
        refine st0 (hop_fa fd_108_3 rfl) rfl rfl ?_
        refine st1 (hol_load ty_3 rfl (nb rfl) (nb rfl) (fun h => (by rfl))) rfl rfl rfl ?_
        refine st0 (hop_call0 (xs := [_, _]) (times_h _ _ hx.low hx.high) ⟨rfl, ⟨rfl, trivial⟩⟩ ⟨(Fz.eq rfl), ⟨(Fz.eq rfl), trivial⟩⟩) rfl rfl ?_
        refine hf_callR 44 (xs := [_, _]) (pre := [(8001, _), (8002, _)]) (writeString_h _ 0 g1 (n + 1) (acc ++ [32]) (timesL (l.getD k default).low (l.getD k default).high) (by rw [List.length_append, hn]; rfl) (by omega)) ⟨rfl, ⟨rfl, trivial⟩⟩ (preC rfl (preC rfl pre0)) rfl rfl (fun g2 c6 hx6 => ?_)
        (try dsimp only)
        refine hseq_nil ?_
        refine hq_block ?_
        refine hq_block ?_
        refine h8 _ ?_
        refine hw_region ?_
        refine st0 (hop_addi rfl rfl rfl (by omega) (by omega)) rfl rfl ?_
        refine stm rfl rfl rfl ?_
        refine hseq_nil ?_
        exact hL5 ((k + 1, (acc ++ [32]) ++ timesL (l.getD k default).low (l.getD k default).high, g2, (n + 1) + (timesL (l.getD k default).low (l.getD k default).high).length)) _ _ (by (try dsimp only); exact ⟨by omega, by simp only [List.length_append, List.length_cons, List.length_nil]; omega, by (try simp only [List.length_cons, List.length_nil]); omega, by have h := show_next (p := timesL (l.getD k default).low (l.getD k default).high) hkl hL hsep (by unfold pieceL; rw [if_neg hc2, if_neg hc3, if_neg hc4, if_neg hc5, if_pos hc6]); simpa only [List.append_nil, List.append_assoc] using h⟩) (by (try dsimp only); omega) (hsub_of rfl (Nat.le_refl _) (TmSub.cons rfl (Sb.refl _) (TmSub.cons rfl (Sb.refl _) (TmSub.cons rfl (Sb.refl _) (TmSub.cons rfl (Sb.refl _) TmSub.nil)))) (HpSub.cons rfl (OSub.refl _) (HpSub.cons rfl (OSub.refl _) HpSub.nil)))
      have hr6 := hc6; (try simp only [hcs, Int.reduceToNat] at hc6)
      refine hw_skip ?_
      refine hq_block ?_
      refine hq_block ?_
      refine h8 _ ?_
      refine hw_region ?_
      refine st0 (hop_addi rfl rfl rfl (by omega) (by omega)) rfl rfl ?_
      refine stm rfl rfl rfl ?_
      refine hseq_nil ?_
      exact hL5 ((k + 1, acc ++ [32], g1, n + 1)) _ _ (by (try dsimp only); exact ⟨by omega, by simp only [List.length_append, List.length_cons, List.length_nil]; omega, by (try simp only [List.length_cons, List.length_nil]); omega, by have h := show_next (p := []) hkl hL hsep (by unfold pieceL; rw [if_neg hc2, if_neg hc3, if_neg hc4, if_neg hc5, if_neg hc6]); simpa only [List.append_nil, List.append_assoc] using h⟩) (by (try dsimp only); omega) (hsub_of rfl (Nat.le_refl _) (TmSub.cons rfl (Sb.refl _) (TmSub.cons rfl (Sb.refl _) (TmSub.cons rfl (Sb.refl _) (TmSub.cons rfl (Sb.refl _) TmSub.nil)))) (HpSub.cons rfl (OSub.refl _) (HpSub.cons rfl (OSub.refl _) HpSub.nil)))
    have hr1 := hc1; (try simp only [hcs, Int.reduceToNat] at hc1)
    have hsep : sepL (decide (k = 0)) (l.getD k default) = [] := (by unfold sepL; rw [if_neg (fun h => by have h1 := of_decide_eq_false h.1; have h2 := hr1; rw [show decide ((0 : Int) < (k : Int)) = true from decide_eq_true (by omega), Bool.true_and] at h2; simp only [bne_eq_false_iff_eq] at h2; exact h.2 h2)])
    refine hw_skip ?_
    refine h10 _ ?_
    refine srg fun N h18 => ?_
    refine st0 (hop_fa fd_108_0 rfl) rfl rfl ?_
    refine st1 (hol_load ty_3 rfl (nb rfl) (nb rfl) (fun h => (by rfl))) rfl rfl rfl ?_
    refine snl h18 ?_
    refine hw_block ?_
    refine srg fun N h19 => ?_
    refine st0 (hop_eql rfl rfl) rfl rfl ?_
    refine sta rfl rfl rfl ?_
    refine snl h19 ?_
    refine hw_cond _ rfl (fun hc2 => ?_) (fun hc2 => ?_)
    · have hr2 := hc2; (try simp only [hcs, Int.reduceToNat] at hc2)
      refine hw_region ?_
      refine st0 (hop_fa fd_108_4 rfl) rfl rfl ?_
      refine st1 (hol_load ty_9 rfl (nb rfl) (nb rfl) (fun h => (by rfl))) rfl rfl rfl ?_
      refine hf_callR 27 (xs := [_, _]) (pre := [(8001, _), (8002, _)]) (writeString_h _ 0 g n acc (l.getD k default).name hn (by omega)) ⟨rfl, ⟨rfl, trivial⟩⟩ (preC rfl (preC rfl pre0)) rfl rfl (fun g2 c7 hx7 => ?_)
      (try dsimp only)
      refine hseq_nil ?_
      refine hq_block ?_
      refine hq_block ?_
      refine h8 _ ?_
      refine hw_region ?_
      refine st0 (hop_addi rfl rfl rfl (by omega) (by omega)) rfl rfl ?_
      refine stm rfl rfl rfl ?_
      refine hseq_nil ?_
      exact hL5 ((k + 1, (acc) ++ (l.getD k default).name, g2, (n) + (l.getD k default).name.length)) _ _ (by (try dsimp only); exact ⟨by omega, by simp only [List.length_append, List.length_cons, List.length_nil]; omega, by (try simp only [List.length_cons, List.length_nil]); omega, by have h := show_next (p := (l.getD k default).name) hkl hL hsep (if_pos hc2); simpa only [List.append_nil, List.append_assoc] using h⟩) (by (try dsimp only); omega) (hsub_of rfl (Nat.le_refl _) (TmSub.cons rfl (Sb.refl _) (TmSub.cons rfl (Sb.refl _) (TmSub.cons rfl (Sb.refl _) (TmSub.cons rfl (Sb.refl _) TmSub.nil)))) (HpSub.cons rfl (OSub.refl _) (HpSub.cons rfl (OSub.refl _) HpSub.nil)))
    have hr2 := hc2; (try simp only [hcs, Int.reduceToNat] at hc2)
    refine srg fun N h20 => ?_
    refine st0 (hop_eql rfl rfl) rfl rfl ?_
    refine sta rfl rfl rfl ?_
    refine snl h20 ?_
    refine hw_cond _ rfl (fun hc3 => ?_) (fun hc3 => ?_)
    · have hr3 := hc3; (try simp only [hcs, Int.reduceToNat] at hc3)
      refine hw_region ?_
      refine hf_callR 30 (xs := [_, _]) (pre := [(8001, _), (8002, _)]) (writeByte_h _ 0 g n acc 40 40 rfl hn (by omega)) ⟨rfl, ⟨rfl, trivial⟩⟩ (preC rfl (preC rfl pre0)) rfl rfl (fun g2 c8 hx8 => ?_)
      (try dsimp only)
      refine hseq_nil ?_
      refine hq_block ?_
      refine hq_block ?_
      refine h8 _ ?_
      refine hw_region ?_
      refine st0 (hop_addi rfl rfl rfl (by omega) (by omega)) rfl rfl ?_
      refine stm rfl rfl rfl ?_
      refine hseq_nil ?_
      exact hL5 ((k + 1, (acc) ++ [40], g2, (n) + 1)) _ _ (by (try dsimp only); exact ⟨by omega, by simp only [List.length_append, List.length_cons, List.length_nil]; omega, by (try simp only [List.length_cons, List.length_nil]); omega, by have h := show_next (p := [40]) hkl hL hsep (by unfold pieceL; rw [if_neg hc2, if_pos hc3]); simpa only [List.append_nil, List.append_assoc] using h⟩) (by (try dsimp only); omega) (hsub_of rfl (Nat.le_refl _) (TmSub.cons rfl (Sb.refl _) (TmSub.cons rfl (Sb.refl _) (TmSub.cons rfl (Sb.refl _) (TmSub.cons rfl (Sb.refl _) TmSub.nil)))) (HpSub.cons rfl (OSub.refl _) (HpSub.cons rfl (OSub.refl _) HpSub.nil)))
    have hr3 := hc3; (try simp only [hcs, Int.reduceToNat] at hc3)
    refine srg fun N h21 => ?_
    refine st0 (hop_eql rfl rfl) rfl rfl ?_
    refine sta rfl rfl rfl ?_
    refine snl h21 ?_
    refine hw_cond _ rfl (fun hc4 => ?_) (fun hc4 => ?_)
    · have hr4 := hc4; (try simp only [hcs, Int.reduceToNat] at hc4)
      refine hw_region ?_
      refine hf_callR 33 (xs := [_, _]) (pre := [(8001, _), (8002, _)]) (writeByte_h _ 0 g n acc 41 41 rfl hn (by omega)) ⟨rfl, ⟨rfl, trivial⟩⟩ (preC rfl (preC rfl pre0)) rfl rfl (fun g2 c9 hx9 => ?_)
      (try dsimp only)
      refine hseq_nil ?_
      refine hq_block ?_
      refine hq_block ?_
      refine h8 _ ?_
      refine hw_region ?_
      refine st0 (hop_addi rfl rfl rfl (by omega) (by omega)) rfl rfl ?_
      refine stm rfl rfl rfl ?_
      refine hseq_nil ?_
      exact hL5 ((k + 1, (acc) ++ [41], g2, (n) + 1)) _ _ (by (try dsimp only); exact ⟨by omega, by simp only [List.length_append, List.length_cons, List.length_nil]; omega, by (try simp only [List.length_cons, List.length_nil]); omega, by have h := show_next (p := [41]) hkl hL hsep (by unfold pieceL; rw [if_neg hc2, if_neg hc3, if_pos hc4]); simpa only [List.append_nil, List.append_assoc] using h⟩) (by (try dsimp only); omega) (hsub_of rfl (Nat.le_refl _) (TmSub.cons rfl (Sb.refl _) (TmSub.cons rfl (Sb.refl _) (TmSub.cons rfl (Sb.refl _) (TmSub.cons rfl (Sb.refl _) TmSub.nil)))) (HpSub.cons rfl (OSub.refl _) (HpSub.cons rfl (OSub.refl _) HpSub.nil)))
    have hr4 := hc4; (try simp only [hcs, Int.reduceToNat] at hc4)
    refine srg fun N h22 => ?_
    refine st0 (hop_eql rfl rfl) rfl rfl ?_
    refine sta rfl rfl rfl ?_
    refine snl h22 ?_
    refine hw_cond _ rfl (fun hc5 => ?_) (fun hc5 => ?_)
    · have hr5 := hc5; (try simp only [hcs, Int.reduceToNat] at hc5)
      refine hw_region ?_
      refine hf_callR 36 (xs := [_, _]) (pre := [(8001, _), (8002, _)]) (writeByte_h _ 0 g n acc 124 124 rfl hn (by omega)) ⟨rfl, ⟨rfl, trivial⟩⟩ (preC rfl (preC rfl pre0)) rfl rfl (fun g2 c10 hx10 => ?_)
      (try dsimp only)
      refine hseq_nil ?_
      refine hq_block ?_
      refine hq_block ?_
      refine h8 _ ?_
      refine hw_region ?_
      refine st0 (hop_addi rfl rfl rfl (by omega) (by omega)) rfl rfl ?_
      refine stm rfl rfl rfl ?_
      refine hseq_nil ?_
      exact hL5 ((k + 1, (acc) ++ [124], g2, (n) + 1)) _ _ (by (try dsimp only); exact ⟨by omega, by simp only [List.length_append, List.length_cons, List.length_nil]; omega, by (try simp only [List.length_cons, List.length_nil]); omega, by have h := show_next (p := [124]) hkl hL hsep (by unfold pieceL; rw [if_neg hc2, if_neg hc3, if_neg hc4, if_pos hc5]); simpa only [List.append_nil, List.append_assoc] using h⟩) (by (try dsimp only); omega) (hsub_of rfl (Nat.le_refl _) (TmSub.cons rfl (Sb.refl _) (TmSub.cons rfl (Sb.refl _) (TmSub.cons rfl (Sb.refl _) (TmSub.cons rfl (Sb.refl _) TmSub.nil)))) (HpSub.cons rfl (OSub.refl _) (HpSub.cons rfl (OSub.refl _) HpSub.nil)))
    have hr5 := hc5; (try simp only [hcs, Int.reduceToNat] at hc5)
    refine srg fun N h23 => ?_
    refine st0 (hop_eql rfl rfl) rfl rfl ?_
    refine sta rfl rfl rfl ?_
    refine snl h23 ?_
    refine hw_cond _ rfl (fun hc6 => ?_) (fun hc6 => ?_)
    · have hr6 := hc6; (try simp only [hcs, Int.reduceToNat] at hc6)
      refine hw_region ?_
      refine st0 (hop_fa fd_108_2 rfl) rfl rfl ?_
      refine st1 (hol_load ty_3 rfl (nb rfl) (nb rfl) (fun h => (by rfl))) rfl rfl rfl ?_
      refine st0 (hop_fa fd_108_3 rfl) rfl rfl ?_
      refine st1 (hol_load ty_3 rfl (nb rfl) (nb rfl) (fun h => (by rfl))) rfl rfl rfl ?_
      refine st0 (hop_call0 (xs := [_, _]) (times_h _ _ hx.low hx.high) ⟨rfl, ⟨rfl, trivial⟩⟩ ⟨(Fz.eq rfl), ⟨(Fz.eq rfl), trivial⟩⟩) rfl rfl ?_
      refine hf_callR 44 (xs := [_, _]) (pre := [(8001, _), (8002, _)]) (writeString_h _ 0 g n acc (timesL (l.getD k default).low (l.getD k default).high) hn (by omega)) ⟨rfl, ⟨rfl, trivial⟩⟩ (preC rfl (preC rfl pre0)) rfl rfl (fun g2 c11 hx11 => ?_)
      (try dsimp only)
      refine hseq_nil ?_
      refine hq_block ?_
      refine hq_block ?_
      refine h8 _ ?_
      refine hw_region ?_
      refine st0 (hop_addi rfl rfl rfl (by omega) (by omega)) rfl rfl ?_
      refine stm rfl rfl rfl ?_
      refine hseq_nil ?_
      exact hL5 ((k + 1, (acc) ++ timesL (l.getD k default).low (l.getD k default).high, g2, (n) + (timesL (l.getD k default).low (l.getD k default).high).length)) _ _ (by (try dsimp only); exact ⟨by omega, by simp only [List.length_append, List.length_cons, List.length_nil]; omega, by (try simp only [List.length_cons, List.length_nil]); omega, by have h := show_next (p := timesL (l.getD k default).low (l.getD k default).high) hkl hL hsep (by unfold pieceL; rw [if_neg hc2, if_neg hc3, if_neg hc4, if_neg hc5, if_pos hc6]); simpa only [List.append_nil, List.append_assoc] using h⟩) (by (try dsimp only); omega) (hsub_of rfl (Nat.le_refl _) (TmSub.cons rfl (Sb.refl _) (TmSub.cons rfl (Sb.refl _) (TmSub.cons rfl (Sb.refl _) (TmSub.cons rfl (Sb.refl _) TmSub.nil)))) (HpSub.cons rfl (OSub.refl _) (HpSub.cons rfl (OSub.refl _) HpSub.nil)))
    have hr6 := hc6; (try simp only [hcs, Int.reduceToNat] at hc6)
    refine hw_skip ?_
    refine hq_block ?_
    refine hq_block ?_
    refine h8 _ ?_
    refine hw_region ?_
    refine st0 (hop_addi rfl rfl rfl (by omega) (by omega)) rfl rfl ?_
    refine stm rfl rfl rfl ?_
    refine hseq_nil ?_
    exact hL5 ((k + 1, acc, g, n)) _ _ (by (try dsimp only); exact ⟨by omega, by exact hn, by (try simp only [List.length_cons, List.length_nil]); omega, by have h := show_next (p := []) hkl hL hsep (by unfold pieceL; rw [if_neg hc2, if_neg hc3, if_neg hc4, if_neg hc5, if_neg hc6]); simpa only [List.append_nil, List.append_assoc] using h⟩) (by (try dsimp only); omega) (hsub_of rfl (Nat.le_refl _) (TmSub.cons rfl (Sb.refl _) (TmSub.cons rfl (Sb.refl _) (TmSub.cons rfl (Sb.refl _) (TmSub.cons rfl (Sb.refl _) TmSub.nil)))) (HpSub.cons rfl (OSub.refl _) (HpSub.cons rfl (OSub.refl _) HpSub.nil)))
  have hr0 := hc0; (try simp only [hcs, Int.reduceToNat] at hc0)
  refine hw_exit ?_
  refine hq_then_exit ?_
  refine hq_then_exit ?_
  refine hq_block_here ?_
  refine h3 _ ?_
  refine srg fun N h24 => ?_
  refine hf_string 46 0 g n acc rfl rfl rfl hn rfl ?_
  refine sta rfl rfl rfl ?_
  refine snl h24 ?_
  refine hw_ret ?_
  refine hq_ret1 rfl (rval_tmp rfl) [] rfl pre0 ?_
  have e := show_end (by omega) hL; rw [e]; exact .imm _
end Go.Proofs.YtmcchhmgchgaaaaDoor

namespace Go.Proofs.YtmcchhmgchgaaaaDoor
set_option linter.unusedSimpArgs false
set_option linter.unusedVariables false
set_option maxRecDepth 100000
open Go.Lib hiding intOf

theorem numR_okD {s : List UInt8} {i q : Nat} {low v : Int} (h : numR s i low = .ok (v, q)) : numL s i = (some v, q) ∧ ¬ (v < low ∨ 20 < v) := by
  unfold numR at h
  split at h
  · cases h
  · rename_i n q' hn
    split at h
    · cases h
    · rename_i hv
      injection h with h; injection h with h1 h2; subst h1; subst h2
      exact ⟨hn, hv⟩
/-- What a count reads. -/
inductive CountIs (s : List UInt8) (i : Nat) (n m : Int) (q : Nat) : Prop
  | from_ (p : Nat) : numR s (i + 1) 0 = .ok (n, p) → bz s p = 44 → bz s (p + 1) = 125 → m = -1 → q = p + 2 → CountIs s i n m q
  | both (p r : Nat) : numR s (i + 1) 0 = .ok (n, p) → bz s p = 44 → ¬ bz s (p + 1) = 125 → numR s (p + 1) (if 1 > n then 1 else n) = .ok (m, r) → bz s r = 125 → q = r + 1 → CountIs s i n m q
  | one (p : Nat) : numR s (i + 1) 0 = .ok (n, p) → bz s p = 125 → n ≠ 0 → m = n → q = p + 1 → CountIs s i n m q
theorem countIs_of {s : List UInt8} {i q : Nat} {x : Sg} (h : countR s i = .ok (x, q)) : x = ⟨5, i, x.low, x.high, []⟩ ∧ CountIs s i x.low x.high q := by
  unfold countR at h
  split at h
  · cases h
  · rename_i n p hn
    split at h
    · rename_i h44
      split at h
      · rename_i h125
        injection h with h; injection h with h1 h2; subst h1; subst h2
        exact ⟨rfl, .from_ p hn h44 h125 rfl rfl⟩
      · rename_i h125
        split at h
        · cases h
        · rename_i m q' hm
          split at h
          · rename_i h6
            injection h with h; injection h with h1 h2; subst h1; subst h2
            exact ⟨rfl, .both p q' hn h44 h125 hm h6 rfl⟩
          · cases h
    · split at h
      · rename_i h125
        split at h
        · cases h
        · rename_i h0
          injection h with h; injection h with h1 h2; subst h1; subst h2
          exact ⟨rfl, .one p hn h125 h0 rfl rfl⟩
      · cases h
theorem numR_lt {s : List UInt8} {i q : Nat} {low n : Int} (h : numR s i low = .ok (n, q)) : i < q ∧ q ≤ s.length ∧ 0 ≤ n := by
  have a := numR_okD h
  by_cases hi : i ≤ s.length
  · have b := numL_le hi a.1
    have c := b.2.2 _ rfl
    omega
  · have : numL s i = (none, i) := num_zero (by rw [bz_out (by omega)]; decide)
    rw [this] at a; cases a.1
/-- A count that may be. -/
@[reducible] def TimesOk (a b : Int) : Prop := (0 ≤ a ∧ a ≤ 20) ∧ (b = -1 ∨ (1 ≤ b ∧ a ≤ b ∧ b ≤ 20))
/-- A sign that has been read. -/
inductive SgW : Sg → Prop
  | name {p : Int} {n : List UInt8} : n.length ≤ 12 → smallZ (bz n 0) = true → (∀ j, j < n.length → alnumZ (bz n j) = true) → SgW ⟨1, p, 0, 0, n⟩
  | open_ {p : Int} : SgW ⟨2, p, 0, 0, []⟩
  | shut {p : Int} : SgW ⟨3, p, 0, 0, []⟩
  | or_ {p : Int} : SgW ⟨4, p, 0, 0, []⟩
  | times {p a b : Int} : TimesOk a b → SgW ⟨5, p, a, b, []⟩
theorem run_all {s : List UInt8} : ∀ {f i j : Nat}, j < runL s i f → alnumZ (bz s (i + j)) = true
  | 0, i, j, h => by simp [runL] at h
  | f + 1, i, j, h => by
    unfold runL at h
    split at h
    · rename_i ha
      cases j with
      | zero => exact ha
      | succ j => rw [show i + (j + 1) = i + 1 + j by omega]; exact run_all (f := f) (by omega)
    · omega
theorem run_le {s : List UInt8} : ∀ {f i : Nat}, runL s i f ≤ f
  | 0, i => by simp [runL]
  | f + 1, i => by
    unfold runL
    split
    · have := run_le (s := s) (f := f) (i := i + 1); omega
    · omega
theorem bz_cut {s : List UInt8} {i k j : Nat} (h : j < k) (hk : i + k ≤ s.length) : bz ((s.drop i).take k) j = bz s (i + j) := by
  unfold bz
  rw [if_pos (by rw [List.length_take, List.length_drop]; omega), if_pos (by omega)]
  congr 2
  rw [List.getD_eq_getElem?_getD, List.getD_eq_getElem?_getD, List.getElem?_take, if_pos h, List.getElem?_drop]
theorem sgW_of {s : List UInt8} {i q : Nat} {x : Sg} (h : oneR s i = .ok (x, q)) : SgW x := by
  unfold oneR at h
  split at h
  · rename_i hs
    have hlt := small_lt hs
    unfold nameR at h
    split at h
    · cases h
    · rename_i h13
      injection h with h; injection h with h _; subst h
      have h1 := run_le (s := s) (f := 13) (i := i)
      have h2 := name_le (s := s) (f := 13) (i := i) (by omega)
      have h0 : 0 < runL s i 13 := by
        have : alnumZ (bz s i) = true := by unfold alnumZ; rw [hs]; rfl
        unfold runL; rw [if_pos this]; omega
      refine .name (by rw [List.length_take]; omega) ?_ (fun j hj => ?_)
      · rw [bz_cut h0 h2]; exact hs
      · have : j < runL s i 13 := by rw [List.length_take] at hj; omega
        rw [bz_cut this h2]; exact run_all this
  split at h
  · have hc := countIs_of h
    rw [hc.1]
    refine .times ?_
    cases hc.2 with
    | from_ p h1 _ _ hm _ =>
      have a := numR_okD h1
      have b := numR_lt h1
      exact ⟨⟨b.2.2, by omega⟩, .inl hm⟩
    | both p r h1 _ _ h2 _ _ =>
      have a := numR_okD h1
      have b := numR_lt h1
      have c := (numR_okD h2).2
      refine ⟨⟨b.2.2, by omega⟩, .inr ?_⟩
      split at c <;> omega
    | one p h1 _ h3 hm _ =>
      have a := numR_okD h1
      have b := numR_lt h1
      exact ⟨⟨b.2.2, by omega⟩, .inr ⟨by omega, by omega, by omega⟩⟩
  split at h
  · injection h with h; injection h with h _; subst h; exact .open_
  split at h
  · injection h with h; injection h with h _; subst h; exact .shut
  split at h
  · injection h with h; injection h with h _; subst h; exact .or_
  split at h
  · injection h with h; injection h with h _; subst h; exact .times (by decide)
  split at h
  · injection h with h; injection h with h _; subst h; exact .times (by decide)
  split at h
  · injection h with h; injection h with h _; subst h; exact .times (by decide)
  cases h
theorem lexR_W {s : List UInt8} : ∀ {f i : Nat} {out l : List Sg}, (∀ x ∈ out, SgW x) → lexR s f i out = .ok l → ∀ x ∈ l, SgW x
  | 0, i, out, l, h, e => by injection e with e; subst e; exact h
  | f + 1, i, out, l, h, e => by
    simp only [lexR] at e
    split at e
    · injection e with e; subst e; exact h
    split at e
    · exact lexR_W h e
    split at e
    · split at e <;> cases e
    · split at e
      · cases e
      · rename_i x q hx
        refine lexR_W ?_ e
        intro y hy
        rcases List.mem_append.1 hy with hy | hy
        · exact h y hy
        · rw [List.mem_singleton] at hy; subst hy; exact sgW_of hx
theorem lexV_W {s : List UInt8} {l : List Sg} (h : lexV s = .ok l) : ∀ x ∈ l, SgW x := lexR_W (fun x h => by cases h) h
theorem i64_0 : I64 0 := by constructor <;> decide
theorem i64_of {n : Int} (h : -1 ≤ n) (h2 : n ≤ 20) : I64 n := by constructor <;> omega
theorem SgW.ok {x : Sg} (h : SgW x) : SgOk x := by
  cases h with
  | name h1 _ _ => exact ⟨Nat.le_trans h1 (by decide), i64_0, i64_0⟩
  | open_ => exact ⟨Nat.zero_le _, i64_0, i64_0⟩
  | shut => exact ⟨Nat.zero_le _, i64_0, i64_0⟩
  | or_ => exact ⟨Nat.zero_le _, i64_0, i64_0⟩
  | @times p a b h => exact ⟨Nat.zero_le _, i64_of (n := a) (by omega) (by omega), i64_of (n := b) (by omega) (by omega)⟩
end Go.Proofs.YtmcchhmgchgaaaaDoor

namespace Go.Proofs.YtmcchhmgchgaaaaDoor
set_option linter.unusedSimpArgs false
set_option linter.unusedVariables false

structure Pt where
  kind : Int
  low : Int
  high : Int
  name : List UInt8
  kids : List Int
  deriving DecidableEq
instance : Inhabited Pt := ⟨⟨0, 0, 0, [], []⟩⟩
/-- An expression. -/
inductive T where
  | name (s : List UInt8)
  | times (lo hi : Int) (t : T)
  | many (k : Int) (ts : List T)
instance : Inhabited T := ⟨.name []⟩
mutual
/-- How many parts. -/
def T.size : T → Nat
  | .name _ => 1
  | .times _ _ t => T.size t + 1
  | .many _ ts => T.sizeL ts + 1
def T.sizeL : List T → Nat
  | [] => 0
  | t :: ts => T.size t + T.sizeL ts
end
def rootsL (b : Nat) : List T → List Int
  | [] => []
  | t :: ts => (((b + t.size : Nat) : Int) - 1) :: rootsL (b + t.size) ts
mutual
/-- The parts, behind b others. -/
def T.flat (b : Nat) : T → List Pt
  | .name s => [⟨1, 0, 0, s, []⟩]
  | .times lo hi t => T.flat b t ++ [⟨4, lo, hi, [], [((b + t.size : Nat) : Int) - 1]⟩]
  | .many k ts => T.flatL b ts ++ [⟨k, 0, 0, [], rootsL b ts⟩]
def T.flatL (b : Nat) : List T → List Pt
  | [] => []
  | t :: ts => T.flat b t ++ T.flatL (b + t.size) ts
end
def T.root (b : Nat) (t : T) : Int := ((b + t.size : Nat) : Int) - 1
theorem T.size_pos (t : T) : 0 < t.size := by cases t <;> simp [T.size]
mutual
theorem T.flat_len (b : Nat) : ∀ t : T, (T.flat b t).length = t.size
  | .name s => by simp [T.flat, T.size]
  | .times lo hi t => by simp [T.flat, T.size, T.flat_len b t]
  | .many k ts => by simp [T.flat, T.size, T.flatL_len b ts]
theorem T.flatL_len (b : Nat) : ∀ ts : List T, (T.flatL b ts).length = T.sizeL ts
  | [] => by simp [T.flatL, T.sizeL]
  | t :: ts => by simp [T.flatL, T.sizeL, T.flat_len b t, T.flatL_len (b + t.size) ts]
end
theorem T.sizeL_snoc : ∀ (ts : List T) (t : T), T.sizeL (ts ++ [t]) = T.sizeL ts + t.size
  | [], t => by simp [T.sizeL]
  | x :: ts, t => by simp [T.sizeL, T.sizeL_snoc ts t, Nat.add_assoc]
theorem T.flatL_snoc : ∀ (ts : List T) (b : Nat) (t : T), T.flatL b (ts ++ [t]) = T.flatL b ts ++ T.flat (b + T.sizeL ts) t
  | [], b, t => by simp [T.flatL, T.sizeL]
  | x :: ts, b, t => by simp [T.flatL, T.sizeL, T.flatL_snoc ts, Nat.add_assoc]
theorem rootsL_snoc : ∀ (ts : List T) (b : Nat) (t : T), rootsL b (ts ++ [t]) = rootsL b ts ++ [T.root (b + T.sizeL ts) t]
  | [], b, t => by simp [rootsL, T.sizeL, T.root]
  | x :: ts, b, t => by simp [rootsL, T.sizeL, rootsL_snoc ts, Nat.add_assoc]
theorem rootsL_len : ∀ (ts : List T) (b : Nat), (rootsL b ts).length = ts.length
  | [], b => rfl
  | x :: ts, b => by simp [rootsL, rootsL_len ts]

/-- A sign's kind; 0: there is none. -/
def kd (l : List Sg) (i : Nat) : Int := if i < l.length then (l.getD i default).kind else 0
theorem kd_in {l : List Sg} {i : Nat} (h : i < l.length) : kd l i = (l.getD i default).kind := by unfold kd; rw [if_pos h]
theorem kd_out {l : List Sg} {i : Nat} (h : l.length ≤ i) : kd l i = 0 := by unfold kd; rw [if_neg (by omega)]
theorem kd_lt {l : List Sg} {i : Nat} (h : kd l i ≠ 0) : i < l.length := by
  rcases Nat.lt_or_ge i l.length with h1 | h1
  · exact h1
  · exact absurd (kd_out h1) h
/-- Which stretches are an atom (0), an item (1), a row (2), a choice (3). -/
inductive Seg (l : List Sg) : Nat → Nat → Nat → T → Prop
  | name (p : Nat) : kd l p = 1 → Seg l 0 p (p + 1) (.name (l.getD p default).name)
  | group (p q : Nat) (t : T) : kd l p = 2 → Seg l 3 (p + 1) q t → kd l q = 3 → Seg l 0 p (q + 1) t
  | item (p q : Nat) (t : T) : Seg l 0 p q t → kd l q ≠ 5 → Seg l 1 p q t
  | times (p q : Nat) (t : T) : Seg l 0 p q t → kd l q = 5 → Seg l 1 p (q + 1) (.times (l.getD q default).low (l.getD q default).high t)
  | row1 (p q : Nat) (t : T) : Seg l 1 p q t → Seg l 2 p q t
  | row (p q : Nat) (ts : List T) (c : Nat → Nat) : 2 ≤ ts.length → c 0 = p → c ts.length = q → (∀ i, i < ts.length → Seg l 1 (c i) (c (i + 1)) (ts.getD i default)) → Seg l 2 p q (.many 2 ts)
  | choice1 (p q : Nat) (t : T) : Seg l 2 p q t → Seg l 3 p q t
  | choice (p q : Nat) (ts : List T) (c e : Nat → Nat) : 2 ≤ ts.length → c 0 = p → e (ts.length - 1) = q → (∀ i, i < ts.length → Seg l 2 (c i) (e i) (ts.getD i default)) → (∀ i, i + 1 < ts.length → kd l (e i) = 4 ∧ c (i + 1) = e i + 1) → Seg l 3 p q (.many 3 ts)

/-- The document's check, from a sign on. -/
def chkN (l : List Sg) : Nat → Nat → Nat → Bool → Bool → Int × Bool
  | 0, _, d, it, _ => (-1, decide (0 < l.length) && (it || decide (0 < d)))
  | f + 1, i, d, it, ct =>
    if (it = true ∧ kd l i ≠ 1 ∧ kd l i ≠ 2) ∨ (kd l i = 3 ∧ d = 0) ∨ (kd l i = 5 ∧ ct = true) then ((i : Int), false)
    else chkN l f (i + 1) (if kd l i = 2 then d + 1 else if kd l i = 3 then d - 1 else d) (decide (kd l i = 2) || decide (kd l i = 4)) (!decide (kd l i = 1) && !decide (kd l i = 3))
def chk (l : List Sg) (i d : Nat) (it ct : Bool) : Int × Bool := chkN l (l.length - i) i d it ct
theorem chk_end {l : List Sg} {i d : Nat} {it ct : Bool} (h : l.length ≤ i) : chk l i d it ct = (-1, decide (0 < l.length) && (it || decide (0 < d))) := by
  unfold chk; rw [show l.length - i = 0 by omega]; rfl
theorem chk_step {l : List Sg} {i d : Nat} {it ct : Bool} (h : i < l.length) : chk l i d it ct =
    if (it = true ∧ kd l i ≠ 1 ∧ kd l i ≠ 2) ∨ (kd l i = 3 ∧ d = 0) ∨ (kd l i = 5 ∧ ct = true) then ((i : Int), false)
    else chk l (i + 1) (if kd l i = 2 then d + 1 else if kd l i = 3 then d - 1 else d) (decide (kd l i = 2) || decide (kd l i = 4)) (!decide (kd l i = 1) && !decide (kd l i = 3)) := by
  unfold chk
  rw [show l.length - i = (l.length - (i + 1)) + 1 by omega]
  rfl
theorem chk_bad {l : List Sg} {i d : Nat} {it ct : Bool} (h : i < l.length) (hb : (it = true ∧ kd l i ≠ 1 ∧ kd l i ≠ 2) ∨ (kd l i = 3 ∧ d = 0) ∨ (kd l i = 5 ∧ ct = true)) : chk l i d it ct = ((i : Int), false) := by
  rw [chk_step h, if_pos hb]
theorem chk_1 {l : List Sg} {i d : Nat} {it ct : Bool} (h : kd l i = 1) : chk l i d it ct = chk l (i + 1) d false false := by
  rw [chk_step (kd_lt (by rw [h]; decide)), if_neg (by rw [h]; simp), h]; rfl
theorem chk_2 {l : List Sg} {i d : Nat} {it ct : Bool} (h : kd l i = 2) : chk l i d it ct = chk l (i + 1) (d + 1) true true := by
  rw [chk_step (kd_lt (by rw [h]; decide)), if_neg (by rw [h]; simp), h]; rfl
theorem chk_3 {l : List Sg} {i d : Nat} {ct : Bool} (h : kd l i = 3) : chk l i (d + 1) false ct = chk l (i + 1) d false false := by
  rw [chk_step (kd_lt (by rw [h]; decide)), if_neg (by rw [h]; simp), h]; rfl
theorem chk_4 {l : List Sg} {i d : Nat} {ct : Bool} (h : kd l i = 4) : chk l i d false ct = chk l (i + 1) d true true := by
  rw [chk_step (kd_lt (by rw [h]; decide)), if_neg (by rw [h]; simp), h]; rfl
theorem chk_5 {l : List Sg} {i d : Nat} (h : kd l i = 5) : chk l i d false false = chk l (i + 1) d false true := by
  rw [chk_step (kd_lt (by rw [h]; decide)), if_neg (by rw [h]; simp), h]; rfl
theorem chk_it {l : List Sg} {i d : Nat} {it ct it' ct' : Bool} (h : kd l i = 1 ∨ kd l i = 2) : chk l i d it ct = chk l i d it' ct' := by
  rcases h with h | h
  · rw [chk_1 h, chk_1 h]
  · rw [chk_2 h, chk_2 h]
theorem seg_first {l : List Sg} {v p q : Nat} {t : T} (h : Seg l v p q t) : kd l p = 1 ∨ kd l p = 2 := by
  induction h with
  | name p h => exact .inl h
  | group p q t h _ _ _ => exact .inr h
  | item p q t _ _ ih => exact ih
  | times p q t _ _ ih => exact ih
  | row1 p q t _ ih => exact ih
  | row p q ts c h2 h0 _ _ ih => rw [← h0]; exact ih 0 (by omega)
  | choice1 p q t _ ih => exact ih
  | choice p q ts c e h2 h0 _ _ _ ih => rw [← h0]; exact ih 0 (by omega)
theorem seg_lt {l : List Sg} {v p q : Nat} {t : T} (h : Seg l v p q t) : p < q ∧ q ≤ l.length := by
  induction h with
  | name p h => have := kd_lt (l := l) (i := p) (by rw [h]; decide); omega
  | group p q t h _ h3 ih => have := kd_lt (l := l) (i := q) (by rw [h3]; decide); omega
  | item p q t _ _ ih => exact ih
  | times p q t _ h5 ih => have := kd_lt (l := l) (i := q) (by rw [h5]; decide); omega
  | row1 p q t _ ih => exact ih
  | row p q ts c h2 h0 he _ ih =>
    have mono : ∀ i, i < ts.length → c 0 < c (i + 1) ∧ c (i + 1) ≤ l.length := by
      intro i
      induction i with
      | zero => intro hi; exact ih 0 hi
      | succ i ihi => intro hi; have a := ihi (by omega); have b := ih (i + 1) hi; omega
    have := mono (ts.length - 1) (by omega)
    rw [show ts.length - 1 + 1 = ts.length by omega, h0, he] at this
    exact this
  | choice1 p q t _ ih => exact ih
  | choice p q ts c e h2 h0 he _ hs ih =>
    have mono : ∀ i, i < ts.length → c 0 < e i ∧ e i ≤ l.length := by
      intro i
      induction i with
      | zero => intro hi; exact ih 0 hi
      | succ i ihi => intro hi; have a := ihi (by omega); have b := ih (i + 1) hi; have c := hs i hi; omega
    have := mono (ts.length - 1) (by omega)
    rw [h0, he] at this
    exact this
theorem sizeL_take : ∀ (ts : List T) (i : Nat), i < ts.length → T.sizeL (ts.take (i + 1)) = T.sizeL (ts.take i) + (ts.getD i default).size
  | t :: ts, 0, _ => by simp [T.sizeL]
  | t :: ts, i + 1, h => by
    have := sizeL_take ts i (by simpa using h)
    simp only [List.take_succ_cons, T.sizeL, this, List.getD_cons_succ, Nat.add_assoc]
theorem sizeL_0 (ts : List T) : T.sizeL (ts.take 0) = 0 := by rw [List.take_zero]; rfl
theorem seg_size {l : List Sg} {v p q : Nat} {t : T} (h : Seg l v p q t) : t.size + 1 + 2 * p ≤ 2 * q := by
  induction h with
  | name p h => simp only [T.size]; omega
  | group p q t h _ h3 ih => omega
  | item p q t _ _ ih => exact ih
  | times p q t _ h5 ih => simp only [T.size]; omega
  | row1 p q t _ ih => exact ih
  | row p q ts c h2 h0 he _ ih =>
    have key : ∀ i, i ≤ ts.length → T.sizeL (ts.take i) + i + 2 * c 0 ≤ 2 * c i := by
      intro i
      induction i with
      | zero => intro _; simp [T.sizeL]
      | succ i ihi => intro hi; have a := ihi (by omega); have b := ih i hi; rw [sizeL_take ts i hi]; omega
    have := key ts.length (Nat.le_refl _)
    rw [List.take_length, h0, he] at this
    simp only [T.size]; omega
  | choice1 p q t _ ih => exact ih
  | choice p q ts c e h2 h0 he _ hs ih =>
    have key : ∀ i, i < ts.length → T.sizeL (ts.take (i + 1)) + 1 + 2 * i + 2 * c 0 ≤ 2 * e i := by
      intro i
      induction i with
      | zero => intro hi; have b := ih 0 hi; rw [sizeL_take ts 0 hi, sizeL_0]; omega
      | succ i ihi => intro hi; have a := ihi (by omega); have b := ih (i + 1) hi; have c := hs i hi; rw [sizeL_take ts (i + 1) hi]; omega
    have := key (ts.length - 1) (by omega)
    rw [show ts.length - 1 + 1 = ts.length by omega, List.take_length, h0, he] at this
    simp only [T.size]; omega
/-- What the document's check makes of a stretch. -/
theorem seg_chk {l : List Sg} {v p q : Nat} {t : T} (h : Seg l v p q t) : ∀ d ct, ∃ ct', chk l p d true ct = chk l q d false ct' ∧ (v = 0 → ct' = false) ∧ (v ≠ 0 → kd l q = 5 → ct' = true) := by
  induction h with
  | name p h => intro d ct; exact ⟨false, chk_1 h, fun _ => rfl, fun h => absurd rfl h⟩
  | group p q t h hs h3 ih =>
    intro d ct
    obtain ⟨ct', e, _, _⟩ := ih (d + 1) true
    exact ⟨false, by rw [chk_2 h, e, chk_3 h3], fun _ => rfl, fun h => absurd rfl h⟩
  | item p q t _ h5 ih =>
    intro d ct
    obtain ⟨ct', e, _, _⟩ := ih d ct
    exact ⟨ct', e, fun h => (by omega), fun _ h => absurd h h5⟩
  | times p q t _ h5 ih =>
    intro d ct
    obtain ⟨ct', e, h0, _⟩ := ih d ct
    exact ⟨true, by rw [e, h0 rfl, chk_5 h5], fun h => (by omega), fun _ _ => rfl⟩
  | row1 p q t _ ih =>
    intro d ct
    obtain ⟨ct', e, _, h1⟩ := ih d ct
    exact ⟨ct', e, fun h => (by omega), fun _ => h1 (by decide)⟩
  | row p q ts c h2 h0 he hs ih =>
    intro d ct
    have key : ∀ i, i < ts.length → ∃ ct', chk l (c 0) d true ct = chk l (c (i + 1)) d false ct' ∧ (kd l (c (i + 1)) = 5 → ct' = true) := by
      intro i
      induction i with
      | zero => intro hi; obtain ⟨ct', e, _, h1⟩ := ih 0 hi d ct; exact ⟨ct', e, h1 (by decide)⟩
      | succ i ihi =>
        intro hi
        obtain ⟨c1, e1, _⟩ := ihi (by omega)
        obtain ⟨c2, e2, _, h1⟩ := ih (i + 1) hi d true
        exact ⟨c2, by rw [e1, ← e2]; exact chk_it (seg_first (hs (i + 1) hi)), h1 (by decide)⟩
    obtain ⟨ct', e, h1⟩ := key (ts.length - 1) (by omega)
    rw [show ts.length - 1 + 1 = ts.length by omega, h0, he] at e
    rw [show ts.length - 1 + 1 = ts.length by omega, he] at h1
    exact ⟨ct', e, fun h => (by omega), fun _ => h1⟩
  | choice1 p q t _ ih =>
    intro d ct
    obtain ⟨ct', e, _, h1⟩ := ih d ct
    exact ⟨ct', e, fun h => (by omega), fun _ => h1 (by decide)⟩
  | choice p q ts c e h2 h0 he _ hs ih =>
    intro d ct
    have key : ∀ i, i < ts.length → ∃ ct', chk l (c 0) d true ct = chk l (e i) d false ct' ∧ (kd l (e i) = 5 → ct' = true) := by
      intro i
      induction i with
      | zero => intro hi; obtain ⟨ct', e, _, h1⟩ := ih 0 hi d ct; exact ⟨ct', e, h1 (by decide)⟩
      | succ i ihi =>
        intro hi
        obtain ⟨c1, e1, _⟩ := ihi (by omega)
        obtain ⟨c2, e2, _, h1⟩ := ih (i + 1) hi d true
        have hh := hs i hi
        exact ⟨c2, by rw [e1, ← e2, chk_4 hh.1, hh.2], h1 (by decide)⟩
    obtain ⟨ct', e', h1⟩ := key (ts.length - 1) (by omega)
    rw [h0, he] at e'
    rw [he] at h1
    exact ⟨ct', e', fun h => (by omega), fun _ => h1⟩

/-- Where something is wrong: at a sign, or at the end. -/
def badAt (l : List Sg) (q : Nat) : Int × Bool := if q < l.length then ((q : Int), false) else (-1, true)
structure BadS (l : List Sg) (p q : Nat) : Prop where
  le : p ≤ q
  len : q ≤ l.length
  bad : ∀ d ct, chk l p d true ct = badAt l q
/-- The kinds that there are. -/
def KdOk (l : List Sg) : Prop := ∀ x ∈ l, 1 ≤ x.kind ∧ x.kind ≤ 5
theorem kd_ok {l : List Sg} (h : KdOk l) (i : Nat) : (i < l.length ∧ 1 ≤ kd l i ∧ kd l i ≤ 5) ∨ (l.length ≤ i ∧ kd l i = 0) := by
  rcases Nat.lt_or_ge i l.length with h1 | h1
  · left
    rw [kd_in h1, List.getD_eq_getElem?_getD, List.getElem?_eq_getElem h1]
    exact ⟨h1, h _ (List.getElem_mem h1)⟩
  · exact .inr ⟨h1, kd_out h1⟩
theorem badAt_lt {l : List Sg} {q : Nat} (h : q < l.length) : badAt l q = ((q : Int), false) := if_pos h
theorem badAt_end {l : List Sg} {q : Nat} (h : l.length ≤ q) : badAt l q = (-1, true) := if_neg (by omega)
theorem bad_first {l : List Sg} {p : Nat} (hl : l ≠ []) (hp : p ≤ l.length) (h1 : kd l p ≠ 1) (h2 : kd l p ≠ 2) : BadS l p p :=
  ⟨Nat.le_refl _, hp, fun d ct => by
    rcases Nat.lt_or_ge p l.length with h | h
    · rw [badAt_lt h]; exact chk_bad h (.inl ⟨rfl, h1, h2⟩)
    · rw [badAt_end h, chk_end h, decide_eq_true (List.length_pos_iff.2 hl)]; rfl⟩
theorem bad_group {l : List Sg} {p q : Nat} (h : kd l p = 2) (hb : BadS l (p + 1) q) : BadS l p q :=
  ⟨by have := hb.le; omega, hb.len, fun d ct => by rw [chk_2 h]; exact hb.bad _ _⟩
theorem bad_shut {l : List Sg} {p q : Nat} {t : T} (hk : KdOk l) (h : kd l p = 2) (hs : Seg l 3 (p + 1) q t) (h1 : kd l q ≠ 1) (h2 : kd l q ≠ 2) (h3 : kd l q ≠ 3) (h4 : kd l q ≠ 4) : BadS l p q := by
  have hlt := seg_lt hs
  refine ⟨by omega, hlt.2, fun d ct => ?_⟩
  obtain ⟨ct', e, _, h5⟩ := seg_chk hs (d + 1) true
  rw [chk_2 h, e]
  rcases kd_ok hk q with ⟨hq, ha, hb⟩ | ⟨hq, _⟩
  · rw [badAt_lt hq]
    have k5 : kd l q = 5 := by omega
    exact chk_bad hq (.inr (.inr ⟨k5, h5 (by decide) k5⟩))
  · rw [badAt_end hq, chk_end hq, decide_eq_true (by omega), decide_eq_true (by omega)]; rfl
/-- Items one behind the other. -/
def Items (l : List Sg) (p q : Nat) (ts : List T) : Prop := 1 ≤ ts.length ∧ ∃ c : Nat → Nat, c 0 = p ∧ c ts.length = q ∧ ∀ i, i < ts.length → Seg l 1 (c i) (c (i + 1)) (ts.getD i default)
theorem items_one {l : List Sg} {p q : Nat} {t : T} (h : Seg l 1 p q t) : Items l p q [t] :=
  ⟨Nat.le_refl _, fun i => if i = 0 then p else q, rfl, rfl, fun i hi => by
    have : i = 0 := by simpa using hi
    subst this; exact h⟩
theorem getD_snoc {α : Type} (l : List α) (x d : α) : (l ++ [x]).getD l.length d = x := by
  rw [List.getD_eq_getElem?_getD, List.getElem?_append_right (Nat.le_refl _)]; simp
theorem getD_app {α : Type} {l k : List α} {i : Nat} {d : α} (h : i < l.length) : (l ++ k).getD i d = l.getD i d := by
  rw [List.getD_eq_getElem?_getD, List.getElem?_append_left h, ← List.getD_eq_getElem?_getD]
theorem items_snoc {l : List Sg} {p q r : Nat} {ts : List T} {t : T} (h : Items l p q ts) (h2 : Seg l 1 q r t) : Items l p r (ts ++ [t]) := by
  obtain ⟨h1, c, h0, he, hs⟩ := h
  refine ⟨by simp, fun i => if i ≤ ts.length then c i else r, by simp [h0], by simp only [List.length_append, List.length_singleton]; rw [if_neg (by omega)], fun i hi => ?_⟩
  rw [List.length_append, List.length_singleton] at hi
  by_cases e : i = ts.length
  · subst e
    rw [getD_snoc]
    simp only [Nat.le_refl, if_true, if_neg (show ¬ ts.length + 1 ≤ ts.length by omega), he]
    exact h2
  · have hi' : i < ts.length := by omega
    rw [getD_app hi']
    simp only [if_pos (show i ≤ ts.length by omega), if_pos (show i + 1 ≤ ts.length by omega)]
    exact hs i hi'
theorem items_row {l : List Sg} {p q : Nat} {ts : List T} (h : Items l p q ts) (h2 : 2 ≤ ts.length) : Seg l 2 p q (.many 2 ts) := by
  obtain ⟨h1, c, h0, he, hs⟩ := h
  exact .row p q ts c h2 h0 he hs
theorem items_row1 {l : List Sg} {p q : Nat} {t : T} (h : Items l p q [t]) : Seg l 2 p q t := by
  obtain ⟨h1, c, h0, he, hs⟩ := h
  have := hs 0 (by simp)
  rw [h0, show 0 + 1 = [t].length from rfl, he] at this
  exact .row1 p q t this
theorem items_lt {l : List Sg} {p q : Nat} {ts : List T} (h : Items l p q ts) : p < q ∧ q ≤ l.length ∧ T.sizeL ts + ts.length + 2 * p ≤ 2 * q := by
  obtain ⟨h1, c, h0, he, hs⟩ := h
  have key : ∀ i, i < ts.length → c 0 < c (i + 1) ∧ c (i + 1) ≤ l.length ∧ T.sizeL (ts.take (i + 1)) + (i + 1) + 2 * c 0 ≤ 2 * c (i + 1) := by
    intro i
    induction i with
    | zero =>
      intro hi
      have a := seg_lt (hs 0 hi); have b := seg_size (hs 0 hi)
      rw [sizeL_take ts 0 hi, sizeL_0]; omega
    | succ i ih =>
      intro hi
      have a := seg_lt (hs (i + 1) hi); have b := seg_size (hs (i + 1) hi); have c := ih (by omega)
      rw [sizeL_take ts (i + 1) hi]; omega
  have := key (ts.length - 1) (by omega)
  rw [show ts.length - 1 + 1 = ts.length by omega, List.take_length, h0, he] at this
  exact this
theorem items_chk {l : List Sg} {p q : Nat} {ts : List T} (h : Items l p q ts) (d : Nat) (ct : Bool) : ∃ ct', chk l p d true ct = chk l q d false ct' := by
  by_cases h2 : 2 ≤ ts.length
  · obtain ⟨ct', e, _⟩ := seg_chk (items_row h h2) d ct; exact ⟨ct', e⟩
  · match ts, h, h2 with
    | [t], h, _ => obtain ⟨ct', e, _⟩ := seg_chk (items_row1 h) d ct; exact ⟨ct', e⟩
    | [], h, _ => exact absurd h.1 (by simp)
    | _ :: _ :: _, _, h2 => exact absurd (by simp) h2
theorem bad_items {l : List Sg} {p q r : Nat} {ts : List T} (h : Items l p q ts) (hk : kd l q = 1 ∨ kd l q = 2) (hb : BadS l q r) : BadS l p r := by
  have := items_lt h
  refine ⟨by have := hb.le; omega, hb.len, fun d ct => ?_⟩
  obtain ⟨ct', e⟩ := items_chk h d ct
  rw [e, chk_it hk]; exact hb.bad d ct
/-- Rows with | between. -/
def RowsS (l : List Sg) (p q : Nat) (ts : List T) : Prop := 1 ≤ ts.length ∧ ∃ c e : Nat → Nat, c 0 = p ∧ e (ts.length - 1) = q ∧ (∀ i, i < ts.length → Seg l 2 (c i) (e i) (ts.getD i default)) ∧ ∀ i, i + 1 < ts.length → kd l (e i) = 4 ∧ c (i + 1) = e i + 1
theorem rows_one {l : List Sg} {p q : Nat} {t : T} (h : Seg l 2 p q t) : RowsS l p q [t] :=
  ⟨Nat.le_refl _, fun _ => p, fun _ => q, rfl, rfl, fun i hi => by
    have : i = 0 := by simpa using hi
    subst this; exact h, fun i hi => by simp at hi⟩
theorem rows_snoc {l : List Sg} {p q r : Nat} {ts : List T} {t : T} (h : RowsS l p q ts) (h4 : kd l q = 4) (h2 : Seg l 2 (q + 1) r t) : RowsS l p r (ts ++ [t]) := by
  obtain ⟨h1, c, e, h0, he, hs, hg⟩ := h
  refine ⟨by simp, fun i => if i < ts.length then c i else q + 1, fun i => if i < ts.length then e i else r, by simp only; rw [if_pos (by omega)]; exact h0, by simp, fun i hi => ?_, fun i hi => ?_⟩
  · rw [List.length_append, List.length_singleton] at hi
    by_cases e' : i = ts.length
    · subst e'
      rw [getD_snoc]
      simp only [Nat.lt_irrefl, if_false]
      exact h2
    · have hi' : i < ts.length := by omega
      rw [getD_app hi']
      simp only [if_pos hi']
      exact hs i hi'
  · rw [List.length_append, List.length_singleton] at hi
    simp only
    rw [if_pos (show i < ts.length by omega)]
    by_cases e' : i + 1 = ts.length
    · rw [if_neg (by omega), show i = ts.length - 1 by omega, he]; exact ⟨h4, rfl⟩
    · rw [if_pos (by omega)]; exact hg i (by omega)
theorem rows_choice {l : List Sg} {p q : Nat} {ts : List T} (h : RowsS l p q ts) (h2 : 2 ≤ ts.length) : Seg l 3 p q (.many 3 ts) := by
  obtain ⟨h1, c, e, h0, he, hs, hg⟩ := h
  exact .choice p q ts c e h2 h0 he hs hg
theorem rows_choice1 {l : List Sg} {p q : Nat} {t : T} (h : RowsS l p q [t]) : Seg l 3 p q t := by
  obtain ⟨h1, c, e, h0, he, hs, hg⟩ := h
  have := hs 0 (by simp)
  rw [h0, show 0 = [t].length - 1 from rfl, he] at this
  exact .choice1 p q t this
theorem rows_lt {l : List Sg} {p q : Nat} {ts : List T} (h : RowsS l p q ts) : p < q ∧ q ≤ l.length ∧ T.sizeL ts + ts.length + 2 * p ≤ 2 * q := by
  obtain ⟨h1, c, e, h0, he, hs, hg⟩ := h
  have key : ∀ i, i < ts.length → c 0 < e i ∧ e i ≤ l.length ∧ T.sizeL (ts.take (i + 1)) + (i + 1) + 2 * c 0 ≤ 2 * e i := by
    intro i
    induction i with
    | zero =>
      intro hi
      have a := seg_lt (hs 0 hi); have b := seg_size (hs 0 hi)
      rw [sizeL_take ts 0 hi, sizeL_0]; omega
    | succ i ih =>
      intro hi
      have a := seg_lt (hs (i + 1) hi); have b := seg_size (hs (i + 1) hi); have c := ih (by omega); have d := hg i hi
      rw [sizeL_take ts (i + 1) hi]; omega
  have := key (ts.length - 1) (by omega)
  rw [show ts.length - 1 + 1 = ts.length by omega, List.take_length, h0, he] at this
  exact this
theorem rows_chk {l : List Sg} {p q : Nat} {ts : List T} (h : RowsS l p q ts) (d : Nat) (ct : Bool) : ∃ ct', chk l p d true ct = chk l q d false ct' := by
  by_cases h2 : 2 ≤ ts.length
  · obtain ⟨ct', e, _⟩ := seg_chk (rows_choice h h2) d ct; exact ⟨ct', e⟩
  · match ts, h, h2 with
    | [t], h, _ => obtain ⟨ct', e, _⟩ := seg_chk (rows_choice1 h) d ct; exact ⟨ct', e⟩
    | [], h, _ => exact absurd h.1 (by simp)
    | _ :: _ :: _, _, h2 => exact absurd (by simp) h2
theorem bad_rows {l : List Sg} {p q r : Nat} {ts : List T} (h : RowsS l p q ts) (h4 : kd l q = 4) (hb : BadS l (q + 1) r) : BadS l p r := by
  have := rows_lt h
  refine ⟨by have := hb.le; omega, hb.len, fun d ct => ?_⟩
  obtain ⟨ct', e⟩ := rows_chk h d ct
  rw [e, chk_4 h4]; exact hb.bad d true
/-- What is left of a text behind its expression. -/
theorem rest_bad {l : List Sg} {q : Nat} {t : T} (hk : KdOk l) (hs : Seg l 3 0 q t) (hq : q < l.length) (h1 : kd l q ≠ 1) (h2 : kd l q ≠ 2) (h4 : kd l q ≠ 4) : chk l 0 0 true true = ((q : Int), false) := by
  obtain ⟨ct', e, _, h5⟩ := seg_chk hs 0 true
  rw [e]
  have := kd_ok hk q
  rcases Int.lt_or_le (kd l q) 4 with h | h
  · exact chk_bad hq (.inr (.inl ⟨by omega, rfl⟩))
  · have k5 : kd l q = 5 := by omega
    exact chk_bad hq (.inr (.inr ⟨k5, h5 (by decide) k5⟩))
theorem all_good {l : List Sg} {t : T} (hs : Seg l 3 0 l.length t) : chk l 0 0 true true = (-1, false) := by
  obtain ⟨ct', e, _, h5⟩ := seg_chk hs 0 true
  rw [e, chk_end (Nat.le_refl _)]
  simp
end Go.Proofs.YtmcchhmgchgaaaaDoor

namespace Go.Proofs.YtmcchhmgchgaaaaDoor
set_option linter.unusedSimpArgs false
set_option linter.unusedVariables false
open Go.RowKit

def chkAll (l : List Oper) (k : Nat) : Bool := (List.range k).all fun j => ((mkBef l []).getD k []).any (Nat.beq j)
def chkChain (l : List Oper) (k : Nat) : Bool := (List.range l.length).all fun i => Nat.ble i k || ((mkBef l []).getD i []).any (Nat.beq (i - 1))
theorem wpAny_of_seq {P : Program} {Q : Exit → Act → World → Prop} {l : List Oper} {ss : List HSpec} {bef : List (List Nat)} (hc : Chk l ss bef) {kb : Nat} (hch : ∀ i, i < l.length → kb < i → i - 1 ∈ bef.getD i []) :
    ∀ (fuel m : Nat) (listed : Array Bool) (a : Act) (w : World), kb ≤ m → m ≤ l.length → listed.size = l.length → (∀ i, i < l.length → listed.getD i false = decide (i < m)) → l.length - m ≤ fuel → wpSeq P l.toArray Q (l.drop m) a w → wpAny P .any l.toArray Q fuel listed a w := by
  have fin : ∀ (m : Nat) (listed : Array Bool), m = l.length → listed.size = l.length → (∀ i, i < l.length → listed.getD i false = decide (i < m)) → Region.ready .any l.toArray listed = [] := by
    intro m listed hm hsz hl
    rw [List.eq_nil_iff_forall_not_mem]
    intro i hr
    obtain ⟨_, o, ho, _⟩ := mem_ready.1 hr
    have ho : l[i]? = some o := by rw [← ho]; simp
    obtain ⟨h1, h2, _⟩ := edg_ready hr ho hsz
    rw [hl i h2, decide_eq_true (by omega)] at h1
    cases h1
  intro fuel
  induction fuel with
  | zero =>
    intro m listed a w hkm hml hsz hl hf h
    have hm : m = l.length := by omega
    subst hm
    rw [List.drop_length] at h
    exact ⟨fin _ listed rfl hsz hl, h⟩
  | succ fuel ih =>
    intro m listed a w hkm hml hsz hl hf h
    by_cases hm : m = l.length
    · subst hm
      rw [List.drop_length] at h
      have := fin _ listed rfl hsz hl
      exact ⟨fun _ => h, fun i hi => by rw [this] at hi; cases hi⟩
    · have hlt : m < l.length := by omega
      refine ⟨fun hr => ?_, fun i hr => ?_⟩
      · exfalso
        have : m ∈ Region.ready .any l.toArray listed := by
          refine mem_ready.2 ⟨?_, l[m], by simp, fun e he hb => ?_⟩
          · have := hl m hlt
            rw [decide_eq_false (by omega)] at this
            have hkl : m < listed.size := by omega
            simpa [hkl] using this
          · have hee : e.on ∈ edg l[m] := List.mem_map.2 ⟨e, List.mem_filter.2 ⟨by simpa using he, hb⟩, rfl⟩
            have := hc.edge m _ (List.getElem?_eq_getElem hlt) _ hee
            rw [hl e.on (by omega), decide_eq_true (by omega)]
        rw [hr] at this; cases this
      · obtain ⟨_, o, ho, _⟩ := mem_ready.1 hr
        have ho : l[i]? = some o := by rw [← ho]; simp
        obtain ⟨h1, h2, hedg⟩ := edg_ready hr ho hsz
        have him : i = m := by
          rw [hl i h2] at h1
          have h3 := of_decide_eq_false h1
          rcases Nat.lt_or_ge m i with h4 | h4
          · have h5 := bef_closed hc (S := fun k => listed.getD k false) (fun j oj hoj hj e he => by
              have hjl : j < l.length := by
                rcases Nat.lt_or_ge j l.length with h | h
                · exact h
                · rw [List.getElem?_eq_none h] at hoj; cases hoj
              have := hc.edge j _ hoj _ he
              rw [hl j hjl] at hj
              have := of_decide_eq_true hj
              show listed.getD e false = true
              rw [hl e (by omega), decide_eq_true (by omega)]) i o ho hedg (i - 1) (hch i h2 (by omega))
            rw [hl (i - 1) (by omega), decide_eq_false (by omega)] at h5
            cases h5
          · omega
        subst him
        rw [List.drop_eq_getElem_cons hlt] at h
        have hlo : l[i] = o := by rw [List.getElem?_eq_getElem hlt] at ho; injection ho
        rw [hlo] at h
        unfold wpSeq at h
        unfold wpOp
        have hoa : l.toArray[i]? = some o := by rw [← ho]; simp
        simp only [hoa]
        have nxt : ∀ a w, wpSeq P l.toArray Q (l.drop (i + 1)) a w → wpAny P .any l.toArray Q fuel (listed.setIfInBounds i true) a w := fun a w hs =>
          ih (i + 1) _ a w (by omega) hlt (by simp [hsz]) (fun j hj => by
            rw [getD_set _ _ _ (by omega)]
            split
            · rename_i e; subst e; exact (decide_eq_true (by omega)).symm
            · rw [hl j hj]; exact decide_eq_decide.2 (by omega)) (by omega) hs
        split at h
        · rename_i hw; rw [if_pos hw]; exact .inl (Oper.wp_mono nxt h)
        · rename_i hw; rw [if_neg hw]; exact nxt _ _ h
section
variable {C : Ctx} {P : Program} {Q : Exit → Act → World → Prop} {n clk : Nat} {tm0 : List (Nat × TV)} {hp0 : List (Nat × HObj)} {l : List Oper} {ss : List HSpec}
theorem Inv.anyC {bef : List (List Nat)} (hc : Chk l ss bef) (hV : allV tm0 = true) (kb : Nat) (hkb : kb < l.length) (hg : ∀ i, i < kb → ∀ o, l[i]? = some o → Good P l.toArray n clk tm0 hp0 l ss i o) (hdep : ∀ i, i < l.length → kb < i → i - 1 ∈ bef.getD i []) (hall : ∀ j, j < kb → j ∈ bef.getD kb [])
    (hend : ∀ listed a w, Inv C n clk tm0 hp0 l ss listed a w → (∀ i, i < l.length → listed.getD i false = decide (i < kb)) → wpSeq P l.toArray Q (l.drop kb) a w) :
    ∀ (fuel : Nat) (listed : Array Bool) (a : Act) (w : World), listed.toList.count false ≤ fuel → l.length - kb ≤ listed.toList.count false → Inv C n clk tm0 hp0 l ss listed a w → (∀ i, kb ≤ i → listed.getD i false = false) → wpAny P .any l.toArray Q fuel listed a w := by
  intro fuel
  induction fuel with
  | zero =>
    intro listed a w hcnt hcn hI hfree
    omega
  | succ fuel ih =>
    intro listed a w hcnt hcn hI hfree
    by_cases hal : ∀ i, i < kb → listed.getD i false = true
    · have hl : ∀ i, i < l.length → listed.getD i false = decide (i < kb) := fun i hi => by
        rcases Nat.lt_or_ge i kb with h | h
        · rw [hal i h, decide_eq_true h]
        · rw [hfree i h, decide_eq_false (by omega)]
      exact wpAny_of_seq hc (kb := kb) hdep (fuel + 1) kb listed a w (Nat.le_refl _) (by omega) hI.sz hl (by omega) (hend listed a w hI hl)
    · have hbef : ∀ i o, l[i]? = some o → (∀ e ∈ edg o, listed.getD e false = true) → ∀ j ∈ bef.getD i [], listed.getD j false = true := fun i o ho he => bef_closed hc (S := fun k => listed.getD k false) hI.closed i o ho he
      refine ⟨fun hr => ?_, fun i hr => ?_⟩
      · exfalso
        apply hal
        intro k
        induction k using Nat.strongRecOn with
        | _ k ihk =>
          intro hk
          have hkl0 : k < l.length := by omega
          have hko : l[k]? = some l[k] := List.getElem?_eq_getElem hkl0
          rw [← Bool.not_eq_false]
          intro hkf
          have : k ∈ Region.ready .any l.toArray listed := by
            refine mem_ready.2 ⟨?_, l[k], by simp, fun e he hb => ?_⟩
            · have hkl : k < listed.size := by rw [hI.sz]; exact hkl0
              simpa [hkl] using hkf
            · have hee : e.on ∈ edg l[k] := List.mem_map.2 ⟨e, List.mem_filter.2 ⟨by simpa using he, hb⟩, rfl⟩
              have := hc.edge k _ hko _ hee
              exact ihk e.on this (by omega)
          rw [hr] at this; cases this
      · have hr' := hr
        obtain ⟨_, o, ho, _⟩ := mem_ready.1 hr
        have ho : l[i]? = some o := by rw [← ho]; simp
        obtain ⟨h1, h2, hedg⟩ := edg_ready hr ho hI.sz
        rcases Nat.lt_or_ge i kb with hik | hik
        · have hil : i < listed.toList.length := by rw [Array.length_toList, hI.sz]; exact h2
          have hli : listed.toList[i] = false := by
            have hkl : i < listed.size := by rw [hI.sz]; exact h2
            simpa [hkl] using h1
          have hpos : 0 < listed.toList.count false := List.count_pos_iff.2 (by rw [← hli]; exact List.getElem_mem hil)
          have hcount : (listed.setIfInBounds i true).toList.count false = listed.toList.count false - 1 := by
            rw [Array.toList_setIfInBounds, List.count_set hil, hli]
            have e1 : (false == false) = true := rfl
            have e2 : (true == false) = false := rfl
            rw [e1, e2]
            simp
          have hlow : l.length - kb < listed.toList.count false := by
            have hs : listed.toList.count false = (listed.toList.take kb).count false + (listed.toList.drop kb).count false := by
              rw [← List.count_append, List.take_append_drop]
            have h3 : (listed.toList.drop kb).count false = l.length - kb := by
              rw [List.count_eq_length.2 (fun b hb => ?_), List.length_drop, Array.length_toList, hI.sz]
              obtain ⟨j, hj, rfl⟩ := List.mem_iff_getElem.1 hb
              rw [List.getElem_drop]
              have := hfree (kb + j) (by omega)
              rw [List.length_drop, Array.length_toList] at hj
              have hkl : kb + j < listed.size := by omega
              have h5 : listed[kb + j] = false := by simpa [hkl] using this
              rw [Array.getElem_toList, h5]
            have h4 : 0 < (listed.toList.take kb).count false := by
              refine List.count_pos_iff.2 ?_
              rw [← hli]
              exact List.mem_take_iff_getElem.2 ⟨i, by omega, rfl⟩
            omega
          refine hI.step hc hV (hg i hik) hr (fun a' w' hI' => ih _ a' w' (by omega) (by omega) hI' (fun j hj => ?_))
          rw [getD_set _ _ _ (by rw [hI.sz]; exact h2), if_neg (by omega)]
          exact hfree j hj
        · exfalso
          have hkbl : listed.getD i false = true ∨ ∀ j, j < kb → listed.getD j false = true := by
            induction i using Nat.strongRecOn with
            | _ i ihi =>
              right
              have hb := hbef i o ho hedg
              rcases Nat.lt_or_ge kb i with h | h
              · have := hb (i - 1) (hdep i h2 h)
                rw [hfree (i - 1) (by omega)] at this; cases this
              · obtain rfl : i = kb := by omega
                exact fun j hj => hb j (hall j hj)
          rcases hkbl with h | h
          · rw [hfree i hik] at h; cases h
          · exact hal h
theorem hd_cut {id : Nat} {dn rest : List Oper} {k : Nat} {tm : List (Nat × TV)} {hp : List (Nat × HObj)} {L : List Oper} (hm : P.follows .mixedOrders = true) (hck : chkR L ss tm0 = true) (hall : chkAll L k = true) (hch : chkChain L k = true) {c' : Nat} (hc' : clk + k = c') (h : HSeq C P L.toArray rest ⟨n, tm, hp, c'⟩ Q) (hrest : rest ≠ []) :
    HDr P n clk tm0 hp0 L dn ss rest k tm hp (HWp C P (.region id L.toArray true) ⟨n, tm0, hp0, clk⟩ Q) := by
  subst hc'
  intro hL hk hv a w hs
  subst hk
  obtain ⟨hV, hchk⟩ := chk_of hck
  obtain ⟨g1, g2, g3, g4⟩ := hv.good
  have hlen : dn.length < L.length := by
    rw [← hL, List.length_append]
    have := List.length_pos_iff.2 hrest; omega
  have hdst : ∀ i, i < dn.length → dstAt dn i = dstAt L i := fun i hi => by unfold dstAt; rw [← hL, List.getElem?_append_left hi]
  have hdrop : L.drop dn.length = rest := by rw [← hL]; simp
  obtain ⟨E, e0, r, hG, hsz, hdf, ht⟩ := hs
  have hf : ∀ k, (Array.replicate L.length false).getD k false = false := by
    intro k; by_cases hk : k < L.length <;> simp [hk]
  have start : Inv C n clk tm0 hp0 L ss (Array.replicate L.length false) a w.drew := by
    have hfun : (fun k => (Array.replicate L.length false).getD k false) = fun _ => false := funext hf
    have hz : ∀ m, hrun ss (hget hp0) (fun _ => false) m = hget hp0 := by
      intro m
      induction m with
      | zero => rfl
      | succ m ih => simp only [hrun, Bool.false_eq_true, if_false]; exact ih
    have hzt : ∀ m t, trun L ss (tget tm0) (fun _ => false) m t = tget tm0 t := by
      intro m t
      induction m with
      | zero => rfl
      | succ m ih => simp only [trun, Bool.false_eq_true, false_and, if_false]; exact ih
    refine ⟨by simp, (fun i o _ h => by rw [hf] at h; cases h), E, e0.trans (r.extBelow (Below.refl _ _).drew), (by rw [hfun, hz]; exact r.drew), fun g hg => .inl (hG g hg), hsz, hdf.ext (r.extBelow (Below.refl _ _).drew), fun t x hx => ?_⟩
    rw [hfun] at hx
    rw [hzt] at hx
    exact (ht t x hx).ext (r.extBelow (Below.refl _ _).drew)
  refine wp_region_any hm ?_
  have := Inv.anyC (C := C) (P := P) (Q := Q) hchk hV dn.length hlen (fun i hi o ho => by
      have ho' : dn[i]? = some o := by rw [← hL, List.getElem?_append_left hi] at ho; exact ho
      exact (g4 i o ho').wide (fun k hk => hdst k (by omega)) (fun k hk => rfl)) (fun i hi hki => by
      have h1 := List.all_eq_true.1 hch i (List.mem_range.2 hi)
      rw [Bool.or_eq_true, any_beq, Nat.ble_eq] at h1
      exact h1.resolve_left (by omega)) (fun j hj => by
      have h1 := List.all_eq_true.1 hall j (List.mem_range.2 hj)
      rwa [any_beq] at h1) (fun listed a' w' hI hl => ?_) L.toArray.size (Array.replicate L.length false) a w.drew (by simp) (by simp) start (fun i _ => hf i)
  · simpa using this
  · rw [hdrop]
    obtain ⟨E', e', r', hG', hsz', hdf', ht'⟩ := hI.st
    have e1 : hrun ss (hget hp0) (fun k => listed.getD k false) L.length = hget hp := by
      rw [g3]; funext id
      rw [hrun_congr (ss' := ss) (S' := fun k => decide (k < dn.length)) L.length (fun _ _ => rfl) (fun k hk _ => hl k hk), hrun_cut L.length (by omega)]
    have e2 : ∀ t, trun L ss (tget tm0) (fun k => listed.getD k false) L.length t = tget tm t := by
      intro t; rw [g2]
      rw [trun_congr (l' := L) (ss' := ss) (S' := fun k => decide (k < dn.length)) L.length (fun _ _ => rfl) (fun k hk _ => ⟨hl k hk, rfl⟩), trun_cut L.length (by omega)]
      exact (trun_congr _ (fun k hk => hdst k hk) (fun k hk _ => ⟨rfl, rfl⟩)).symm
    rw [e1] at r'
    refine h a' w' ⟨E', e', r', fun g hg => ?_, hsz', hdf', fun t x hx => ht' t x (by rw [e2]; exact hx)⟩
    rcases hG' g hg with h | ⟨k, h1, h2, h3⟩
    · show g < clk + dn.length; omega
    · rw [hl k h1] at h2
      have := of_decide_eq_true h2
      show g < clk + dn.length; omega
end
end Go.Proofs.YtmcchhmgchgaaaaDoor

namespace Go.Proofs.YtmcchhmgchgaaaaDoor
set_option linter.unusedSimpArgs false
set_option linter.unusedVariables false
set_option maxRecDepth 100000
open Go.RowKit

@[reducible] def kidsF (l : List Int) : Nat → Nat → HV := fun i _ => intV (l.getD i 0)
@[reducible] def kidsV (l : List Int) : HV := .sl 1 l.length (kidsF l)
@[reducible] def ptF (x : Pt) : Nat → HV := fun j => match j with | 0 => intV x.kind | 1 => intV x.low | 2 => intV x.high | 3 => strV x.name | _ => kidsV x.kids
@[reducible] def ptH (x : Pt) : HV := .agg 5 (ptF x)
@[reducible] def ptsF (l : List Pt) : Nat → Nat → HV := fun i => ptF (l.getD i default)
@[reducible] def ptsV (l : List Pt) : HV := .sl 5 l.length (ptsF l)
@[reducible] def ptsO (g : Nat) (l : List Pt) : HObj := ⟨g, l.length, 5, 75, 0, ptsF l⟩
@[reducible] def erF (l : List Sg) (p g2 n : Nat) (b : Bool) : Nat → Nat → HV := fun _ j => match j with | 0 => sgsV l | 1 => intV p | 2 => .os 9002 g2 0 n | _ => boolV b
@[reducible] def erO (g : Nat) (l : List Sg) (p g2 n : Nat) (b : Bool) : HObj := ⟨g, 1, 4, 106, 0, erF l p g2 n b⟩
theorem pt_fz {sh : List (Nat × HObj)} (x : Pt) (j : Nat) : Fz sh (ptF x j) (ptF x j) := by
  match j with
  | 0 => exact .imm _
  | 1 => exact .imm _
  | 2 => exact .imm _
  | 3 => exact .imm _
  | j + 4 => exact .sl _ _ _ _ fun i j _ _ => .imm _
instance frz_sgsV (l : List Sg) : Frz (sgsV l) := ⟨.sl _ _ _ _ fun i j _ _ => sg_fz _ j⟩
instance frz_kidsV (l : List Int) : Frz (kidsV l) := ⟨.sl _ _ _ _ fun i j _ _ => .imm _⟩
instance frz_ptsV (l : List Pt) : Frz (ptsV l) := ⟨.sl _ _ _ _ fun i j _ _ => pt_fz _ j⟩
theorem okz_pts {kp sh : List (Nat × HObj)} {g : Nat} {l : List Pt} : OKz kp sh (ptsO g l) (ptsO g l) := .of fun i j _ _ => .fz _ _ (pt_fz _ j)
theorem sb_pt {x : Pt} {f : Nat → HV} (h0 : Sb (f 0) (ptF x 0)) (h1 : Sb (f 1) (ptF x 1)) (h2 : Sb (f 2) (ptF x 2)) (h3 : Sb (f 3) (ptF x 3)) (h4 : Sb (f 4) (ptF x 4)) : ∀ j, j < 5 → Sb (f j) (ptF x j) := fun j hj => by
  match j, hj with
  | 0, _ => exact h0
  | 1, _ => exact h1
  | 2, _ => exact h2
  | 3, _ => exact h3
  | 4, _ => exact h4
theorem okz_er {kp sh : List (Nat × HObj)} {g p g2 n : Nat} {l : List Sg} {b : Bool} {o : HObj} (h : hget kp 9002 = some o) (hg : o.g = g2) : OKz kp sh (erO g l p g2 n b) (erO g l p g2 n b) := okz4 (.fz _ _ (show Fz sh (sgsV l) (sgsV l) from Frz.fz)) (.fz _ _ (.imm _)) (.os _ _ _ _ _ h hg) (.fz _ _ (.imm _))
theorem osub4 {g ty fl : Nat} {f f' : Nat → Nat → HV} (h0 : Sb (f 0 0) (f' 0 0)) (h1 : Sb (f 0 1) (f' 0 1)) (h2 : Sb (f 0 2) (f' 0 2)) (h3 : Sb (f 0 3) (f' 0 3)) (hfn : fl ≤ 1 := by exact Nat.zero_le _) : OSub ⟨g, 1, 4, ty, fl, f⟩ ⟨g, 1, 4, ty, fl, f'⟩ := .of (hfn := hfn) fun i j hi hj => by
  obtain rfl : i = 0 := by omega
  match j, hj with | 0, _ => exact h0 | 1, _ => exact h1 | 2, _ => exact h2 | 3, _ => exact h3
/-- An own row with one more. -/
theorem osub_snoc {α : Type} {enc : α → Nat → HV} {d x : α} {out : List α} {g n sz ty : Nat} {f F : Nat → Nat → HV} (hn : n = out.length) (hF : ∀ i j, i < out.length → j < sz → Sb (F i j) (enc (out.getD i d) j)) (h : ∀ j, j < sz → Sb (f 0 j) (enc x j)) :
    OSub ⟨g, n + 1, sz, ty, 0, cat n F f⟩ ⟨g, (out ++ [x]).length, sz, ty, 0, fun i => enc ((out ++ [x]).getD i d)⟩ := by
  subst hn
  refine ⟨rfl, by simp, rfl, rfl, Nat.le_refl _, fun i j hi hj => ?_, fun h => absurd h (Nat.not_lt_zero _)⟩
  exact sb_cat (l := out) (k := [x]) (enc := enc) (d := d) rfl hF (sb_one (x := x) (enc := enc) (d := d) h) i j (by rw [List.length_append]; exact hi) hj
theorem sb_os {id g lo n n' : Nat} (h : n = n') : Sb (.os id g lo n) (.os id g lo n') := by subst h; exact .refl _
theorem kind_h (g : Nat) (l : List Sg) (p g2 : Nat) (out : List Pt) (b : Bool) (hl : l.length ≤ 1000) (hp : p ≤ l.length) : HFunD Tryd.prog 91 [.pt 9001 g 0 0] [(9001, erO g l p g2 out.length b), (9002, ptsO g2 out)] (intV (kd l p)) [(9001, erO g l p g2 out.length b), (9002, ptsO g2 out)] := by
  intro c
  refine hfun_of Tryd.func91 rfl (by kernel_rfl) _ _ _ _ rfl 24 rfl rfl (fun X ok hX => ?_)
  refine srg fun N h1 => ?_
  refine sta rfl rfl rfl ?_
  refine snl h1 ?_
  refine hw_seq (fun Nh2 h2 => ?_)
  refine hw_seq (fun Nh3 h3 => ?_)
  refine hd_start ?_
  refine hd_q 3 (hop_move rfl) rfl rfl pre0 rfl rfl (k' := 1) rfl ?_
  refine hd_q 4 (hop_nilcheck_pt rfl) rfl rfl pre0 rfl rfl (k' := 2) rfl ?_
  refine hd_q 5 (hop_fa fd_104_1 rfl) rfl rfl pre0 rfl rfl (k' := 3) rfl ?_
  refine hd_q 6 (hol_load ty_3 rfl (nb rfl) (nb rfl) (fun h => (by rfl))) rfl rfl (pre1 rfl) rfl rfl (k' := 4) rfl ?_
  refine hd_q 7 (hop_move rfl) rfl rfl pre0 rfl rfl (k' := 5) rfl ?_
  refine hd_q 8 (hop_nilcheck_pt rfl) rfl rfl pre0 rfl rfl (k' := 6) rfl ?_
  refine hd_q 9 (hop_fa fd_104_0 rfl) rfl rfl pre0 rfl rfl (k' := 7) rfl ?_
  refine hd_q 10 (hol_load ty_86 rfl (nb rfl) (nb rfl) (fun h => (by rfl))) rfl rfl (pre1 rfl) rfl rfl (k' := 8) rfl ?_
  refine hd_q 11 (hop_len_sl (T := 86) rfl (elOf_spec el_86).1 rfl) rfl rfl pre0 rfl rfl (k' := 9) rfl ?_
  refine hd_q 12 (hop_lss rfl rfl) rfl rfl pre0 rfl rfl (k' := 10) rfl ?_
  refine hd_nil (by kernel_rfl) (by kernel_rfl) (c' := c + 10) rfl ?_
  refine h3 _ ?_
  refine hw_cond _ rfl (fun hc0 => ?_) (fun hc0 => ?_)
  · have hr0 := hc0; (try simp only [hcs, Int.reduceToNat] at hc0)
    refine hw_seq (fun Nh4 h4 => ?_)
    refine hd_start ?_
    refine hd_q 13 (hop_move rfl) rfl rfl pre0 rfl rfl (k' := 1) rfl ?_
    refine hd_q 14 (hop_nilcheck_pt rfl) rfl rfl pre0 rfl rfl (k' := 2) rfl ?_
    refine hd_q 15 (hop_fa fd_104_0 rfl) rfl rfl pre0 rfl rfl (k' := 3) rfl ?_
    refine hd_q 16 (hol_load ty_86 rfl (nb rfl) (nb rfl) (fun h => (by rfl))) rfl rfl (pre1 rfl) rfl rfl (k' := 4) rfl ?_
    refine hd_q 17 (hop_move rfl) rfl rfl pre0 rfl rfl (k' := 5) rfl ?_
    refine hd_q 18 (hop_nilcheck_pt rfl) rfl rfl pre0 rfl rfl (k' := 6) rfl ?_
    refine hd_q 19 (hop_fa fd_104_1 rfl) rfl rfl pre0 rfl rfl (k' := 7) rfl ?_
    refine hd_q 20 (hol_load ty_3 rfl (nb rfl) (nb rfl) (fun h => (by rfl))) rfl rfl (pre1 rfl) rfl rfl (k' := 8) rfl ?_
    refine hd_q 21 (hop_ia_sl el_86 rfl rfl (by omega) (by omega) (nb rfl)) rfl rfl pre0 rfl rfl (k' := 9) rfl ?_
    refine hd_q 22 (hop_fa_fp fd_108_0 rfl (nb rfl)) rfl rfl pre0 rfl rfl (k' := 10) rfl ?_
    refine hd_q 23 (hop_load_fp ty_3 rfl (nb rfl) (fun h => (by rfl))) rfl rfl pre0 rfl rfl (k' := 11) rfl ?_
    refine hd_q 2 (hop_assign rfl) rfl rfl pre0 rfl rfl (k' := 12) rfl ?_
    refine hd_nil (by kernel_rfl) (by kernel_rfl) (c' := c + 22) rfl ?_
    refine h4 _ ?_
    refine hw_ret ?_
    refine hq_then_ret ?_
    refine hf_retR1 ok hX RetS.one rfl (rval_tmp rfl) [] rfl pre0 (()) (trivial) (by rfl) (by rfl) (by rw [kd_in (by simpa using hc0)]; exact (by first | exact .fz _ _ (.imm _) | exact .os _ _ _ _ _ rfl rfl | exact .pt _ _ _ _ _ rfl rfl | exact .nps _ _ _ rfl rfl | (dsimp only; exact .fz _ _ Frz.fz) | exact .fz _ _ (.tup 0 _ _ (fun i hi => absurd hi (Nat.not_lt_zero _))))) ?_
    exact ⟨⟨_, rfl, okz_er rfl rfl⟩, ⟨⟨_, rfl, okz_pts⟩, trivial⟩⟩
  have hr0 := hc0; (try simp only [hcs, Int.reduceToNat] at hc0)
  refine hw_skip ?_
  refine h2 _ ?_
  refine srg fun N h5 => ?_
  refine sta rfl rfl rfl ?_
  refine snl h5 ?_
  refine hw_ret ?_
  refine hf_retR1 ok hX RetS.one rfl (rval_tmp rfl) [] rfl pre0 (()) (trivial) (by rfl) (by rfl) (by rw [kd_out (by simpa using hc0)]; exact (by first | exact .fz _ _ (.imm _) | exact .os _ _ _ _ _ rfl rfl | exact .pt _ _ _ _ _ rfl rfl | exact .nps _ _ _ rfl rfl | (dsimp only; exact .fz _ _ Frz.fz) | exact .fz _ _ (.tup 0 _ _ (fun i hi => absurd hi (Nat.not_lt_zero _))))) ?_
  exact ⟨⟨_, rfl, okz_er rfl rfl⟩, ⟨⟨_, rfl, okz_pts⟩, trivial⟩⟩
theorem lay_h (c g : Nat) (l : List Sg) (p g2 n : Nat) (b : Bool) (out : List Pt) (x : Pt) (hn : n = out.length) (ho : out.length ≤ 100000) : HFun Tryd.prog 113 c [.pt 9001 g 0 0, ptH x] [(9001, erO g l p g2 n b), (9002, ptsO g2 out)]
    (RetP (fun (g' : Nat) _ => True) (fun _ => intV out.length) (fun g' => [(9001, erO g l p g' (out ++ [x]).length b), (9002, ptsO g' (out ++ [x]))])) := by
  subst hn
  refine hfun_of Tryd.func113 rfl (by kernel_rfl) _ _ _ _ rfl 21 rfl rfl (fun X ok hX => ?_)
  refine srg fun N h1 => ?_
  refine hm_1 3 (hop_box (id := 3) (sz := 5) rfl rfl rfl (nb rfl) (nb rfl)) rfl rfl pre0 rfl rfl (c' := c + 1) rfl ?_
  refine sta rfl rfl rfl ?_
  refine snl h1 ?_
  refine hw_seq (fun Nh2 h2 => ?_)
  refine hd_start ?_
  refine hd_q 5 (hop_move rfl) rfl rfl pre0 rfl rfl (k' := 1) rfl ?_
  refine hd_q 6 (hop_move rfl) rfl rfl pre0 rfl rfl (k' := 2) rfl ?_
  refine hd_q 7 (hop_nilcheck_pt rfl) rfl rfl pre0 rfl rfl (k' := 3) rfl ?_
  refine hd_q 8 (hop_fa fd_106_1 rfl) rfl rfl pre0 rfl rfl (k' := 4) rfl ?_
  refine hd_q 9 (hol_load ty_49 rfl (nb rfl) (nb rfl) (fun h => (by rfl))) rfl rfl (pre1 rfl) rfl rfl (k' := 5) rfl ?_
  refine hd_q 10 (hol_load ty_75 rfl (nb rfl) (nb rfl) (fun h => (by cases h))) rfl rfl (pre1 rfl) rfl rfl (k' := 6) rfl ?_
  refine hd_1 11 (hop_buildSlice (id := 11) (hs := [_]) ei_49 (nb rfl) rfl (nb rfl) ⟨rfl, rfl, rfl, rfl, trivial⟩) rfl rfl pre0 rfl rfl (k' := 7) rfl ?_
  refine hd_1 12 (hol_append ei_49 (nb rfl) rfl (by omega) (nb rfl) (srl_os0 rfl (nb rfl)) (by omega) rfl) rfl rfl (preC rfl (pre1 rfl)) rfl rfl (k' := 8) rfl ?_
  refine hd_q 13 (hop_nilcheck_pt rfl) rfl rfl pre0 rfl rfl (k' := 9) rfl ?_
  refine hd_q 14 (hop_fa fd_106_1 rfl) rfl rfl pre0 rfl rfl (k' := 10) rfl ?_
  refine hd_s1 (hol_store ty_49 rfl rfl rfl rfl (nb rfl) (nb rfl) (nb rfl)) rfl rfl (pre1 rfl) (k' := 11) rfl ?_
  refine hd_nil (by kernel_rfl) (by kernel_rfl) (c' := c + 12) rfl ?_
  refine h2 _ ?_
  refine hw_seq (fun Nh3 h3 => ?_)
  refine (hsub_ob 9001 (erO g l p (c + 1 + 7) (out ++ [x]).length b) rfl (by exact osub4 (.refl _) (.refl _) (sb_os (by simp)) (.refl _))).wp ?_; refine (hsub_ob 9002 (ptsO (c + 1 + 7) (out ++ [x])) rfl (by exact osub_snoc (enc := ptF) (d := default) rfl (fun i j _ _ => .refl _) (sb_pt (.refl _) (.refl _) (.refl _) (.refl _) (.refl _)))).wp ?_
  refine hw_region ?_
  refine stm rfl rfl rfl ?_
  refine st0 (hop_nilcheck_pt rfl) rfl rfl ?_
  refine st0 (hop_fa fd_106_1 rfl) rfl rfl ?_
  refine st1 (hol_load ty_49 rfl (nb rfl) (nb rfl) (fun h => (by rfl))) rfl rfl rfl ?_
  refine st0 (hop_len_os (T := 49) rfl (elOf_spec el_49).1 rfl) rfl rfl ?_
  refine st0 (hop_subi rfl rfl rfl (by omega) (by simp <;> omega)) rfl rfl ?_
  refine sta rfl rfl rfl ?_
  refine snl h3 ?_
  refine hw_ret ?_
  refine hf_retR1 ok hX RetS.one rfl (rval_tmp rfl) [] rfl pre0 ((c + 1 + 7)) (trivial) (by rfl) (by rfl) (kz_int (by simp)) ?_
  exact ⟨⟨_, rfl, okz_er rfl rfl⟩, ⟨⟨_, rfl, okz_pts⟩, trivial⟩⟩
theorem many_h (c g : Nat) (l : List Sg) (p g2 n : Nat) (b : Bool) (out : List Pt) (k : Int) (ks : List Int) (hn : n = out.length) (ho : out.length ≤ 100000) : HFun Tryd.prog 92 c [.pt 9001 g 0 0, intV k, kidsV ks] [(9001, erO g l p g2 n b), (9002, ptsO g2 out)]
    (RetP (fun (y : Nat × List Pt × Int) _ => if ks.length = 1 then y.2 = (out, ks.getD 0 0) else y.2 = (out ++ [⟨k, 0, 0, [], ks⟩], (out.length : Int))) (fun y => intV y.2.2) (fun y => [(9001, erO g l p y.1 y.2.1.length b), (9002, ptsO y.1 y.2.1)])) := by
  subst hn
  refine hfun_of Tryd.func92 rfl (by kernel_rfl) _ _ _ _ rfl 18 rfl rfl (fun X ok hX => ?_)
  refine srg fun N h1 => ?_
  refine sta rfl rfl rfl ?_
  refine snl h1 ?_
  refine hw_seq (fun Nh2 h2 => ?_)
  refine srg fun N h3 => ?_
  refine stm rfl rfl rfl ?_
  refine st0 (hop_len_sl (T := 44) rfl (elOf_spec el_44).1 rfl) rfl rfl ?_
  refine st0 (hop_eql rfl rfl) rfl rfl ?_
  refine snl h3 ?_
  refine hw_cond _ rfl (fun hc0 => ?_) (fun hc0 => ?_)
  · have hr0 := hc0; (try simp only [hcs, Int.reduceToNat] at hc0)
    refine srg fun N h4 => ?_
    refine stm rfl rfl rfl ?_
    refine st0 (hop_ia_sl el_44 rfl rfl (by omega) (by omega) (nb rfl)) rfl rfl ?_
    refine st0 (hop_load_fp ty_3 rfl (nb rfl) (fun h => (by rfl))) rfl rfl ?_
    refine sta rfl rfl rfl ?_
    refine snl h4 ?_
    refine hw_ret ?_
    refine hq_then_ret ?_
    refine hf_retR1 ok hX RetS.one rfl (rval_tmp rfl) [] rfl pre0 ((g2, out, ks.getD 0 0)) ((by rw [if_pos (by omega)])) (by rfl) (by rfl) ((by first | exact .fz _ _ (.imm _) | exact .os _ _ _ _ _ rfl rfl | exact .pt _ _ _ _ _ rfl rfl | exact .nps _ _ _ rfl rfl | (dsimp only; exact .fz _ _ Frz.fz) | exact .fz _ _ (.tup 0 _ _ (fun i hi => absurd hi (Nat.not_lt_zero _))))) ?_
    exact ⟨⟨_, rfl, okz_er rfl rfl⟩, ⟨⟨_, rfl, okz_pts⟩, trivial⟩⟩
  have hr0 := hc0; (try simp only [hcs, Int.reduceToNat] at hc0)
  refine hw_skip ?_
  refine h2 _ ?_
  refine srg fun N h5 => ?_
  refine stm rfl rfl rfl ?_
  refine stm rfl rfl rfl ?_
  refine stm rfl rfl rfl ?_
  refine st0 (hop_build (hs := [(0, 1, _), (4, 1, _)]) st_75 rfl rfl ⟨rfl, rfl, rfl, rfl, rfl, ⟨rfl, rfl, rfl, rfl, rfl, trivial⟩⟩) rfl rfl ?_
  refine (hsub_shr 16 [] rfl pre0 rfl ((show Fz [] (.agg 5 _) (ptH ⟨k, 0, 0, [], ks⟩) from fz_agg5 (.imm _) (.imm _) (.imm _) (.imm _) (show Fz [] (kidsV ks) (kidsV ks) from Frz.fz)))).seq ?_
  refine hf_callR 17 (xs := [_, _]) (pre := [(9001, _), (9002, _)]) (lay_h _ g l p g2 _ b out ⟨k, 0, 0, [], ks⟩ rfl ho) ⟨rfl, ⟨rfl, trivial⟩⟩ (preC rfl (preC rfl pre0)) rfl rfl (fun g3 c1 hx1 => ?_)
  (try dsimp only)
  refine sta rfl rfl rfl ?_
  refine snl h5 ?_
  refine hw_ret ?_
  refine hf_retR1 ok hX RetS.one rfl (rval_tmp rfl) [] rfl pre0 ((g3, out ++ [⟨k, 0, 0, [], ks⟩], (out.length : Int))) ((by rw [if_neg (by omega)])) (by rfl) (by rfl) ((by first | exact .fz _ _ (.imm _) | exact .os _ _ _ _ _ rfl rfl | exact .pt _ _ _ _ _ rfl rfl | exact .nps _ _ _ rfl rfl | (dsimp only; exact .fz _ _ Frz.fz) | exact .fz _ _ (.tup 0 _ _ (fun i hi => absurd hi (Nat.not_lt_zero _))))) ?_
  exact ⟨⟨_, rfl, okz_er rfl rfl⟩, ⟨⟨_, rfl, okz_pts⟩, trivial⟩⟩
end Go.Proofs.YtmcchhmgchgaaaaDoor

namespace Go.Proofs.YtmcchhmgchgaaaaDoor
set_option linter.unusedSimpArgs false
set_option linter.unusedVariables false
set_option maxRecDepth 100000
open Go.RowKit

/-- What has been read: the tree (none: something is wrong), where the reader stands, the parts, the answer. -/
structure Rs where
  t : Option T
  q : Nat
  g : Nat
  out : List Pt
  ret : Int
def RsOk (l : List Sg) (v p : Nat) (out : List Pt) (x : Rs) : Prop := match x.t with
  | some t => Seg l v p x.q t ∧ x.out = out ++ T.flat out.length t ∧ x.ret = T.root out.length t ∧ (2 ≤ v → kd l x.q ≠ 1 ∧ kd l x.q ≠ 2) ∧ (3 ≤ v → kd l x.q ≠ 4)
  | none => BadS l p x.q ∧ x.out.length ≤ out.length + 2 * (x.q - p)
@[reducible] def RsP (l : List Sg) (v p : Nat) (out : List Pt) (g : Nat) : HEnd → List (Nat × HObj) → Nat → Prop :=
  RetP (fun (x : Rs) _ => RsOk l v p out x) (fun x => intV x.ret) (fun x => [(9001, erO g l x.q x.g x.out.length x.t.isNone), (9002, ptsO x.g x.out)])
@[reducible] def RsC (f : FuncId) (l : List Sg) (v g p : Nat) : Prop := ∀ c g2 (out : List Pt), out.length ≤ 2 * p → HFun Tryd.prog f c [.pt 9001 g 0 0] [(9001, erO g l p g2 out.length false), (9002, ptsO g2 out)] (RsP l v p out g)
theorem rs_le {l : List Sg} {v p : Nat} {out : List Pt} {x : Rs} (h : RsOk l v p out x) : p ≤ x.q ∧ x.q ≤ l.length ∧ x.out.length ≤ out.length + 2 * (x.q - p) := by
  obtain ⟨t, q, g, o, r⟩ := x
  cases t with
  | none => exact ⟨h.1.le, h.1.len, h.2⟩
  | some t =>
    obtain ⟨h1, h2, _⟩ := h
    have a := seg_lt h1; have b := seg_size h1
    simp only at h2 a b ⊢
    subst h2
    rw [List.length_append, T.flat_len]
    omega
theorem ok_name {l : List Sg} {p g : Nat} {out : List Pt} (h : kd l p = 1) (h5 : kd l (p + 1) ≠ 5) : RsOk l 1 p out ⟨some (.name (l.getD p default).name), p + 1, g, out ++ [⟨1, 0, 0, (l.getD p default).name, []⟩], out.length⟩ :=
  ⟨.item _ _ _ (.name p h) h5, by simp [T.flat], by simp [T.root, T.size], fun h => absurd h (by decide), fun h => absurd h (by decide)⟩
theorem ok_name5 {l : List Sg} {p g : Nat} {out : List Pt} (h : kd l p = 1) (h5 : kd l (p + 1) = 5) : RsOk l 1 p out ⟨some (.times (l.getD (p + 1) default).low (l.getD (p + 1) default).high (.name (l.getD p default).name)), p + 2, g, out ++ [⟨1, 0, 0, (l.getD p default).name, []⟩] ++ [⟨4, (l.getD (p + 1) default).low, (l.getD (p + 1) default).high, [], [(out.length : Int)]⟩], (out ++ [(⟨1, 0, 0, (l.getD p default).name, []⟩ : Pt)]).length⟩ :=
  ⟨.times _ _ _ (.name p h) h5, by simp [T.flat, T.size], by simp [T.root, T.size]; omega, fun h => absurd h (by decide), fun h => absurd h (by decide)⟩
theorem ok_group {l : List Sg} {p q g : Nat} {out o : List Pt} {r : Int} {t : T} (hx : RsOk l 3 (p + 1) out ⟨some t, q, g, o, r⟩) (h : kd l p = 2) (h3 : kd l q = 3) (h5 : kd l (q + 1) ≠ 5) : RsOk l 1 p out ⟨some t, q + 1, g, o, r⟩ :=
  ⟨.item _ _ _ (.group p q t h hx.1 h3) h5, hx.2.1, hx.2.2.1, fun h => absurd h (by decide), fun h => absurd h (by decide)⟩
theorem ok_group5 {l : List Sg} {p q g g' : Nat} {out o : List Pt} {r : Int} {t : T} (hx : RsOk l 3 (p + 1) out ⟨some t, q, g, o, r⟩) (h : kd l p = 2) (h3 : kd l q = 3) (h5 : kd l (q + 1) = 5) : RsOk l 1 p out ⟨some (.times (l.getD (q + 1) default).low (l.getD (q + 1) default).high t), q + 2, g', o ++ [⟨4, (l.getD (q + 1) default).low, (l.getD (q + 1) default).high, [], [r]⟩], o.length⟩ := by
  obtain ⟨h1, h2, h4, _⟩ := hx
  simp only at h2 h4
  refine ⟨.times _ _ _ (.group p q t h h1 h3) h5, ?_, ?_, fun h => absurd h (by decide), fun h => absurd h (by decide)⟩
  · simp only [T.flat, h2, h4, T.root, List.append_assoc]
  · simp only [T.root, T.size, h2, List.length_append, T.flat_len]; omega
theorem ok_bad {l : List Sg} {p q g : Nat} {out o : List Pt} {r : Int} {t : Option T} (hk : KdOk l) (hx : RsOk l 3 (p + 1) out ⟨t, q, g, o, r⟩) (h : kd l p = 2) (hb : t.isNone = true ∨ kd l q ≠ 3) : RsOk l 1 p out ⟨none, q, g, o, r⟩ := by
  have hle := rs_le hx
  simp only at hle
  refine ⟨?_, by show o.length ≤ out.length + 2 * (q - p); omega⟩
  cases t with
  | none => exact bad_group h hx.1
  | some t =>
    obtain ⟨h1, _, _, h2, h4⟩ := hx
    have a := h2 (by decide); have b := h4 (by decide)
    exact bad_shut hk h h1 a.1 a.2 (hb.resolve_left (by simp)) b
theorem fz_one {sh : List (Nat × HObj)} {id g ty fl : Nat} {r : Int} : Fz ((id, ⟨g, 1, 1, ty, fl, bsf [intV r]⟩) :: sh) (.os id g 0 1) (kidsV [r]) :=
  fz_row (l := [r]) (enc := fun x _ => intV x) (d := 0) (List.mem_cons_self ..) rfl rfl (Nat.le_refl _) (fun i j hi hj => by
    obtain rfl : i = 0 := by simpa using hi
    exact .imm _)
theorem item_h (l : List Sg) (g p : Nat) (hk : KdOk l) (hne : l ≠ []) (hl : l.length ≤ 1000) (hp : p ≤ l.length) (hrec : ∀ p', p < p' → p' ≤ l.length → RsC 65 l 3 g p') : RsC 112 l 1 g p := by
  intro c g2 out ho
  refine hfun_of Tryd.func112 rfl (by kernel_rfl) _ _ _ _ rfl 113 rfl rfl (fun X ok hX => ?_)
  refine srg fun N h1 => ?_
  refine sta rfl rfl rfl ?_
  refine snl h1 ?_
  refine srg fun N h2 => ?_
  refine sta rfl rfl rfl ?_
  refine snl h2 ?_
  refine hw_seq (fun Nh3 h3 => ?_)
  refine srg fun N h4 => ?_
  refine stm rfl rfl rfl ?_
  refine st0 (hop_nilcheck_pt rfl) rfl rfl ?_
  refine st0 (hop_fa fd_106_0 rfl) rfl rfl ?_
  refine hq_ 8 (hop_funR (xs := [_]) (pre := [(9001, _), (9002, _)]) (kind_h g l p g2 out false hl hp) ⟨rfl, trivial⟩) rfl rfl (preC rfl (preC rfl pre0)) rfl rfl ?_
  refine snl h4 ?_
  refine hw_block ?_
  refine srg fun N h5 => ?_
  refine st0 (hop_eql rfl rfl) rfl rfl ?_
  refine sta rfl rfl rfl ?_
  refine snl h5 ?_
  refine hw_cond _ rfl (fun hc0 => ?_) (fun hc0 => ?_)
  · have hr0 := hc0; (try simp only [hcs, Int.reduceToNat] at hc0)
    have hlt := kd_lt (l := l) (i := p) (by rw [hc0]; decide)
    refine hw_seq (fun Nh6 h6 => ?_)
    refine hd_start ?_
    refine hd_q 15 (hop_move rfl) rfl rfl pre0 rfl rfl (k' := 1) rfl ?_
    refine hd_q 16 (hop_move rfl) rfl rfl pre0 rfl rfl (k' := 2) rfl ?_
    refine hd_q 17 (hop_nilcheck_pt rfl) rfl rfl pre0 rfl rfl (k' := 3) rfl ?_
    refine hd_q 18 (hop_fa fd_106_0 rfl) rfl rfl pre0 rfl rfl (k' := 4) rfl ?_
    refine hd_q 19 (hop_fa fd_104_0 rfl) rfl rfl pre0 rfl rfl (k' := 5) rfl ?_
    refine hd_q 20 (hol_load ty_86 rfl (nb rfl) (nb rfl) (fun h => (by rfl))) rfl rfl (pre1 rfl) rfl rfl (k' := 6) rfl ?_
    refine hd_q 21 (hop_move rfl) rfl rfl pre0 rfl rfl (k' := 7) rfl ?_
    refine hd_q 22 (hop_nilcheck_pt rfl) rfl rfl pre0 rfl rfl (k' := 8) rfl ?_
    refine hd_q 23 (hop_fa fd_106_0 rfl) rfl rfl pre0 rfl rfl (k' := 9) rfl ?_
    refine hd_q 24 (hop_fa fd_104_1 rfl) rfl rfl pre0 rfl rfl (k' := 10) rfl ?_
    refine hd_q 25 (hol_load ty_3 rfl (nb rfl) (nb rfl) (fun h => (by rfl))) rfl rfl (pre1 rfl) rfl rfl (k' := 11) rfl ?_
    refine hd_q 26 (hop_ia_sl el_86 rfl rfl (by omega) (by omega) (nb rfl)) rfl rfl pre0 rfl rfl (k' := 12) rfl ?_
    refine hd_q 27 (hop_fa_fp fd_108_4 rfl (nb rfl)) rfl rfl pre0 rfl rfl (k' := 13) rfl ?_
    refine hd_q 28 (hop_load_fp ty_9 rfl (nb rfl) (fun h => (by rfl))) rfl rfl pre0 rfl rfl (k' := 14) rfl ?_
    refine hd_q 29 (hop_build (hs := [(0, 1, _), (3, 1, _)]) st_75 rfl rfl ⟨rfl, rfl, rfl, rfl, rfl, ⟨rfl, rfl, rfl, rfl, rfl, trivial⟩⟩) rfl rfl pre0 rfl rfl (k' := 15) rfl ?_
    refine hd_cut (by kernel_rfl) (by kernel_rfl) (by kernel_rfl) (by kernel_rfl) (c' := c + 15) rfl ?_ (by simp)
    refine (hsub_shr 29 [] rfl pre0 rfl ((show Fz [] (.agg 5 _) (ptH ⟨1, 0, 0, (l.getD p default).name, []⟩) from fz_agg5 (.imm _) (.imm _) (.imm _) (.imm _) (.nil 0 1 _ (by decide) none)))).seq ?_
    refine hf_callR 30 (xs := [_, _]) (pre := [(9001, _), (9002, _)]) (lay_h _ g l p g2 _ false out ⟨1, 0, 0, (l.getD p default).name, []⟩ rfl (by omega)) ⟨rfl, ⟨rfl, trivial⟩⟩ (preC rfl (preC rfl pre0)) rfl rfl (fun g3 c1 hx1 => ?_)
    (try dsimp only)
    refine sta rfl rfl rfl ?_
    refine snl h6 ?_
    refine hw_region ?_
    refine stm rfl rfl rfl ?_
    refine st0 (hop_nilcheck_pt rfl) rfl rfl ?_
    refine st0 (hop_fa fd_106_0 rfl) rfl rfl ?_
    refine st0 (hop_fa fd_104_1 rfl) rfl rfl ?_
    refine st1 (hol_load ty_3 rfl (nb rfl) (nb rfl) (fun h => (by rfl))) rfl rfl rfl ?_
    refine st0 (hop_addi rfl rfl rfl (by omega) (by omega)) rfl rfl ?_
    refine st0 (hop_nilcheck_pt rfl) rfl rfl ?_
    refine st0 (hop_fa fd_106_0 rfl) rfl rfl ?_
    refine st0 (hop_fa fd_104_1 rfl) rfl rfl ?_
    refine hm_s1 (hol_store ty_3 rfl rfl rfl rfl (nb rfl) (nb rfl) (nb rfl)) rfl rfl (pre1 rfl) (c' := c1 + 1) rfl ?_
    refine hseq_nil ?_
    refine hq_block ?_
    refine h3 _ ?_
    refine hw_seq (fun Nh7 h7 => ?_)
    refine hw_seq (fun Nh8 h8 => ?_)
    refine (hsub_ob 9001 (erO g l (p + 1) g3 (out ++ [(⟨1, 0, 0, (l.getD p default).name, []⟩ : Pt)]).length false) rfl (by exact osub4 (.refl _) (sb_int (by omega)) (.refl _) (.refl _))).wp ?_
    refine hw_region ?_
    refine stm rfl rfl rfl ?_
    refine st0 (hop_nilcheck_pt rfl) rfl rfl ?_
    refine st0 (hop_fa fd_106_0 rfl) rfl rfl ?_
    refine hq_ 80 (hop_funR (xs := [_]) (pre := [(9001, _), (9002, _)]) (kind_h g l (p + 1) g3 (out ++ [(⟨1, 0, 0, (l.getD p default).name, []⟩ : Pt)]) false hl (by omega)) ⟨rfl, trivial⟩) rfl rfl (preC rfl (preC rfl pre0)) rfl rfl ?_
    refine st0 (hop_eql rfl rfl) rfl rfl ?_
    refine snl h8 ?_
    refine hw_cond _ rfl (fun hc3 => ?_) (fun hc3 => ?_)
    · have hr3 := hc3; (try simp only [hcs, Int.reduceToNat] at hc3)
      have hlt5 := kd_lt (l := l) (i := p + 1) (by rw [hc3]; decide)
      refine hw_seq (fun Nh9 h9 => ?_)
      refine hd_start ?_
      refine hd_q 82 (hop_move rfl) rfl rfl pre0 rfl rfl (k' := 1) rfl ?_
      refine hd_q 83 (hop_nilcheck_pt rfl) rfl rfl pre0 rfl rfl (k' := 2) rfl ?_
      refine hd_q 84 (hop_fa fd_106_0 rfl) rfl rfl pre0 rfl rfl (k' := 3) rfl ?_
      refine hd_q 85 (hop_fa fd_104_0 rfl) rfl rfl pre0 rfl rfl (k' := 4) rfl ?_
      refine hd_q 86 (hol_load ty_86 rfl (nb rfl) (nb rfl) (fun h => (by rfl))) rfl rfl (pre1 rfl) rfl rfl (k' := 5) rfl ?_
      refine hd_q 87 (hop_move rfl) rfl rfl pre0 rfl rfl (k' := 6) rfl ?_
      refine hd_q 88 (hop_nilcheck_pt rfl) rfl rfl pre0 rfl rfl (k' := 7) rfl ?_
      refine hd_q 89 (hop_fa fd_106_0 rfl) rfl rfl pre0 rfl rfl (k' := 8) rfl ?_
      refine hd_q 90 (hop_fa fd_104_1 rfl) rfl rfl pre0 rfl rfl (k' := 9) rfl ?_
      refine hd_q 91 (hol_load ty_3 rfl (nb rfl) (nb rfl) (fun h => (by rfl))) rfl rfl (pre1 rfl) rfl rfl (k' := 10) rfl ?_
      refine hd_q 92 (hop_ia_sl el_86 rfl rfl (by omega) (by omega) (nb rfl)) rfl rfl pre0 rfl rfl (k' := 11) rfl ?_
      refine hd_q 93 (hop_load_fp ty_108 rfl (nb rfl) (fun h => (by cases h))) rfl rfl pre0 rfl rfl (k' := 12) rfl ?_
      refine hd_1 4 (hop_alloc (id := 4) (sz := 5) zc_108 rfl rfl (nb rfl) (nb rfl)) rfl rfl pre0 rfl rfl (k' := 13) rfl ?_
      refine hd_s1 (hol_storeW ty_108 rfl rfl rfl rfl) rfl rfl (pre1 rfl) (k' := 14) rfl ?_
      refine hd_nil (by kernel_rfl) (by kernel_rfl) (c' := c1 + 15) rfl ?_
      refine h9 _ ?_
      refine srg fun N h10 => ?_
      refine stm rfl rfl rfl ?_
      refine st0 (hop_nilcheck_pt rfl) rfl rfl ?_
      refine st0 (hop_fa fd_106_0 rfl) rfl rfl ?_
      refine st0 (hop_fa fd_104_1 rfl) rfl rfl ?_
      refine st1 (hol_load ty_3 rfl (nb rfl) (nb rfl) (fun h => (by rfl))) rfl rfl rfl ?_
      refine st0 (hop_addi rfl rfl rfl (by omega) (by omega)) rfl rfl ?_
      refine st0 (hop_nilcheck_pt rfl) rfl rfl ?_
      refine st0 (hop_fa fd_106_0 rfl) rfl rfl ?_
      refine st0 (hop_fa fd_104_1 rfl) rfl rfl ?_
      refine hm_s1 (hol_store ty_3 rfl rfl rfl rfl (nb rfl) (nb rfl) (nb rfl)) rfl rfl (pre1 rfl) (c' := c1 + 16) rfl ?_
      refine snl h10 ?_
      refine (hsub_ob 9001 (erO g l (p + 2) g3 (out ++ [(⟨1, 0, 0, (l.getD p default).name, []⟩ : Pt)]).length false) rfl (by exact osub4 (.refl _) (sb_int (by omega)) (.refl _) (.refl _))).wp ?_
      refine hw_region ?_
      refine stm rfl rfl rfl ?_
      refine st0 (hop_fa fd_108_2 rfl) rfl rfl ?_
      refine st1 (hol_load ty_3 rfl (nb rfl) (nb rfl) (fun h => (by rfl))) rfl rfl rfl ?_
      refine st0 (hop_fa fd_108_3 rfl) rfl rfl ?_
      refine st1 (hol_load ty_3 rfl (nb rfl) (nb rfl) (fun h => (by rfl))) rfl rfl rfl ?_
      refine stm rfl rfl rfl ?_
      refine hm_1 109 (hop_buildSlice (id := 109) (hs := [_]) ei_44 (nb rfl) rfl (nb rfl) ⟨rfl, rfl, rfl, rfl, trivial⟩) rfl rfl pre0 rfl rfl (c' := c1 + 17) rfl ?_
      refine st0 (hop_build (hs := [(0, 1, _), (1, 1, _), (2, 1, _), (4, 1, _)]) st_75 rfl rfl ⟨rfl, rfl, rfl, rfl, rfl, ⟨rfl, rfl, rfl, rfl, rfl, ⟨rfl, rfl, rfl, rfl, rfl, ⟨rfl, rfl, rfl, rfl, rfl, trivial⟩⟩⟩⟩) rfl rfl ?_
      refine (hsub_shr 110 [(109, _)] rfl (preC rfl pre0) rfl ((show Fz _ (.agg 5 _) (ptH ⟨4, (l.getD (p + 1) default).low, (l.getD (p + 1) default).high, [], [(out.length : Int)]⟩) from fz_agg5 (.imm _) (.imm _) (.imm _) (.imm _) fz_one))).seq ?_
      refine hf_callR 111 (xs := [_, _]) (pre := [(9001, _), (9002, _)]) (lay_h _ g l (p + 2) g3 _ false (out ++ [(⟨1, 0, 0, (l.getD p default).name, []⟩ : Pt)]) ⟨4, (l.getD (p + 1) default).low, (l.getD (p + 1) default).high, [], [(out.length : Int)]⟩ rfl (by rw [List.length_append]; show out.length + 1 ≤ _; omega)) ⟨rfl, ⟨rfl, trivial⟩⟩ (preC rfl (preC rfl pre0)) rfl rfl (fun g4 c2 hx2 => ?_)
      (try dsimp only)
      refine sta rfl rfl rfl ?_
      refine snl h7 ?_
      refine srg fun N h11 => ?_
      refine stm rfl rfl rfl ?_
      refine sta rfl rfl rfl ?_
      refine snl h11 ?_
      refine hw_ret ?_
      refine hf_retR1 ok hX RetS.one rfl (rval_tmp rfl) [] rfl pre0 (⟨some _, _, g4, _, _⟩) (ok_name5 hc0 hc3) (by rfl) (by rfl) ((by first | exact .fz _ _ (.imm _) | exact .os _ _ _ _ _ rfl rfl | exact .pt _ _ _ _ _ rfl rfl | exact .nps _ _ _ rfl rfl | (dsimp only; exact .fz _ _ Frz.fz) | exact .fz _ _ (.tup 0 _ _ (fun i hi => absurd hi (Nat.not_lt_zero _))))) ?_
      exact ⟨⟨_, rfl, okz_er rfl rfl⟩, ⟨⟨_, rfl, okz_pts⟩, trivial⟩⟩
    have hr3 := hc3; (try simp only [hcs, Int.reduceToNat] at hc3)
    refine hw_skip ?_
    refine h7 _ ?_
    refine srg fun N h12 => ?_
    refine stm rfl rfl rfl ?_
    refine sta rfl rfl rfl ?_
    refine snl h12 ?_
    refine hw_ret ?_
    refine hf_retR1 ok hX RetS.one rfl (rval_tmp rfl) [] rfl pre0 (⟨some _, _, g3, _, _⟩) (ok_name hc0 hc3) (by rfl) (by rfl) ((by first | exact .fz _ _ (.imm _) | exact .os _ _ _ _ _ rfl rfl | exact .pt _ _ _ _ _ rfl rfl | exact .nps _ _ _ rfl rfl | (dsimp only; exact .fz _ _ Frz.fz) | exact .fz _ _ (.tup 0 _ _ (fun i hi => absurd hi (Nat.not_lt_zero _))))) ?_
    exact ⟨⟨_, rfl, okz_er rfl rfl⟩, ⟨⟨_, rfl, okz_pts⟩, trivial⟩⟩
  have hr0 := hc0; (try simp only [hcs, Int.reduceToNat] at hc0)
  refine srg fun N h13 => ?_
  refine st0 (hop_eql rfl rfl) rfl rfl ?_
  refine sta rfl rfl rfl ?_
  refine snl h13 ?_
  refine hw_cond _ rfl (fun hc1 => ?_) (fun hc1 => ?_)
  · have hr1 := hc1; (try simp only [hcs, Int.reduceToNat] at hc1)
    have hlt := kd_lt (l := l) (i := p) (by rw [hc1]; decide)
    refine srg fun N h14 => ?_
    refine stm rfl rfl rfl ?_
    refine st0 (hop_nilcheck_pt rfl) rfl rfl ?_
    refine st0 (hop_fa fd_106_0 rfl) rfl rfl ?_
    refine st0 (hop_fa fd_104_1 rfl) rfl rfl ?_
    refine st1 (hol_load ty_3 rfl (nb rfl) (nb rfl) (fun h => (by rfl))) rfl rfl rfl ?_
    refine st0 (hop_addi rfl rfl rfl (by omega) (by omega)) rfl rfl ?_
    refine st0 (hop_nilcheck_pt rfl) rfl rfl ?_
    refine st0 (hop_fa fd_106_0 rfl) rfl rfl ?_
    refine st0 (hop_fa fd_104_1 rfl) rfl rfl ?_
    refine hm_s1 (hol_store ty_3 rfl rfl rfl rfl (nb rfl) (nb rfl) (nb rfl)) rfl rfl (pre1 rfl) (c' := c + 1) rfl ?_
    refine snl h14 ?_
    refine hw_seq (fun Nh15 h15 => ?_)
    refine (hsub_ob 9001 (erO g l (p + 1) g2 out.length false) rfl (by exact osub4 (.refl _) (sb_int (by omega)) (.refl _) (.refl _))).wp ?_
    refine hw_region ?_
    refine stm rfl rfl rfl ?_
    refine hf_callR 52 (xs := [_]) (pre := [(9001, _), (9002, _)]) (hrec (p + 1) (by omega) (by omega) _ g2 out (by omega)) ⟨rfl, trivial⟩ (preC rfl (preC rfl pre0)) rfl rfl (fun x3 c3 hx => ?_)
    obtain ⟨t, q, g3, o3, r⟩ := x3
    (try dsimp only)
    refine sta rfl rfl rfl ?_
    refine snl h15 ?_
    refine hw_seq (fun Nh16 h16 => ?_)
    refine hw_seq (fun Nh17 h17 => ?_)
    have hle := rs_le hx; simp only at hle
    refine hw_region ?_
    refine stm rfl rfl rfl ?_
    refine st0 (hop_nilcheck_pt rfl) rfl rfl ?_
    refine st0 (hop_fa fd_106_2 rfl) rfl rfl ?_
    refine st1 (hol_load ty_4 rfl (nb rfl) (nb rfl) (fun h => (by rfl))) rfl rfl rfl ?_
    refine stm rfl rfl rfl ?_
    refine stg 57 (fun hb => hop_move rfl) rfl rfl rfl rfl rfl ?_
    refine stg 57 (fun hb => hop_nilcheck_pt rfl) rfl rfl rfl rfl rfl ?_
    refine stg 57 (fun hb => hop_fa fd_106_0 rfl) rfl rfl rfl rfl rfl ?_
    refine hq_g 61 4 57 false _ (fun hb => hop_funR (xs := [_]) (pre := [(9001, _), (9002, _)]) (kind_h g l q g3 o3 t.isNone hl hle.2.1) ⟨rfl, trivial⟩) rfl rfl rfl rfl (preC rfl (preC rfl pre0)) rfl rfl rfl ?_
    refine stg 57 (fun hb => hop_neq rfl rfl) rfl rfl rfl rfl rfl ?_
    refine hq_p 63 (hstep_or _ _ rfl rfl rfl) rfl rfl rfl ?_
    refine hseq_nilU (by rfl) (by simp only [dropUn, slots]; exact rfl) ?_
    refine h17 _ ?_
    refine hw_cond _ rfl (fun hc2 => ?_) (fun hc2 => ?_)
    · have hr2 := hc2; (try simp only [hcs, Int.reduceToNat] at hc2)
      refine srg fun N h18 => ?_
      refine stm rfl rfl rfl ?_
      refine st0 (hop_nilcheck_pt rfl) rfl rfl ?_
      refine st0 (hop_fa fd_106_2 rfl) rfl rfl ?_
      refine hm_s1 (hol_store ty_4 rfl rfl rfl rfl (nb rfl) (nb rfl) (nb rfl)) rfl rfl (pre1 rfl) (c' := c3 + 1) rfl ?_
      refine snl h18 ?_
      refine srg fun N h19 => ?_
      refine stm rfl rfl rfl ?_
      refine sta rfl rfl rfl ?_
      refine snl h19 ?_
      refine hw_ret ?_
      refine hq_then_ret ?_
      refine hq_block_ret ?_
      refine hq_then_ret ?_
      refine hf_retR1 ok hX RetS.one rfl (rval_tmp rfl) [] rfl pre0 (⟨none, q, g3, o3, r⟩) (ok_bad hk hx hc1 hc2) (by rfl) (by rfl) ((by first | exact .fz _ _ (.imm _) | exact .os _ _ _ _ _ rfl rfl | exact .pt _ _ _ _ _ rfl rfl | exact .nps _ _ _ rfl rfl | (dsimp only; exact .fz _ _ Frz.fz) | exact .fz _ _ (.tup 0 _ _ (fun i hi => absurd hi (Nat.not_lt_zero _))))) ?_
      exact ⟨⟨_, rfl, okz4 (.fz _ _ (show Fz [] (sgsV l) (sgsV l) from Frz.fz)) (by first | exact .fz _ _ (.imm _) | exact .os _ _ _ _ _ rfl rfl | exact .pt _ _ _ _ _ rfl rfl | exact .nps _ _ _ rfl rfl | (dsimp only; exact .fz _ _ Frz.fz) | exact .fz _ _ (.tup 0 _ _ (fun i hi => absurd hi (Nat.not_lt_zero _)))) (by first | exact .fz _ _ (.imm _) | exact .os _ _ _ _ _ rfl rfl | exact .pt _ _ _ _ _ rfl rfl | exact .nps _ _ _ rfl rfl | (dsimp only; exact .fz _ _ Frz.fz) | exact .fz _ _ (.tup 0 _ _ (fun i hi => absurd hi (Nat.not_lt_zero _)))) (by first | exact .fz _ _ (.imm _) | exact .os _ _ _ _ _ rfl rfl | exact .pt _ _ _ _ _ rfl rfl | exact .nps _ _ _ rfl rfl | (dsimp only; exact .fz _ _ Frz.fz) | exact .fz _ _ (.tup 0 _ _ (fun i hi => absurd hi (Nat.not_lt_zero _))))⟩, ⟨⟨_, rfl, okz_pts⟩, trivial⟩⟩
    have hr2 := hc2; (try simp only [hcs, Int.reduceToNat] at hc2)
    obtain ⟨tr, rfl⟩ : ∃ tr, t = some tr := (by cases t with | none => exact absurd hc2.1 (by simp) | some tr => exact ⟨tr, rfl⟩); have hk3 := hc2.2; have hlt3 := kd_lt (l := l) (i := q) (by rw [hk3]; decide)
    refine hw_skip ?_
    refine h16 _ ?_
    refine hw_region ?_
    refine stm rfl rfl rfl ?_
    refine st0 (hop_nilcheck_pt rfl) rfl rfl ?_
    refine st0 (hop_fa fd_106_0 rfl) rfl rfl ?_
    refine st0 (hop_fa fd_104_1 rfl) rfl rfl ?_
    refine st1 (hol_load ty_3 rfl (nb rfl) (nb rfl) (fun h => (by rfl))) rfl rfl rfl ?_
    refine st0 (hop_addi rfl rfl rfl (by omega) (by omega)) rfl rfl ?_
    refine st0 (hop_nilcheck_pt rfl) rfl rfl ?_
    refine st0 (hop_fa fd_106_0 rfl) rfl rfl ?_
    refine st0 (hop_fa fd_104_1 rfl) rfl rfl ?_
    refine hm_s1 (hol_store ty_3 rfl rfl rfl rfl (nb rfl) (nb rfl) (nb rfl)) rfl rfl (pre1 rfl) (c' := c3 + 1) rfl ?_
    refine hseq_nil ?_
    refine hq_block ?_
    refine h3 _ ?_
    refine hw_seq (fun Nh20 h20 => ?_)
    refine hw_seq (fun Nh21 h21 => ?_)
    refine (hsub_ob 9001 (erO g l (q + 1) g3 o3.length false) rfl (by exact osub4 (.refl _) (sb_int (by omega)) (.refl _) (.refl _))).wp ?_
    refine hw_region ?_
    refine stm rfl rfl rfl ?_
    refine st0 (hop_nilcheck_pt rfl) rfl rfl ?_
    refine st0 (hop_fa fd_106_0 rfl) rfl rfl ?_
    refine hq_ 80 (hop_funR (xs := [_]) (pre := [(9001, _), (9002, _)]) (kind_h g l (q + 1) g3 o3 false hl (by omega)) ⟨rfl, trivial⟩) rfl rfl (preC rfl (preC rfl pre0)) rfl rfl ?_
    refine st0 (hop_eql rfl rfl) rfl rfl ?_
    refine snl h21 ?_
    refine hw_cond _ rfl (fun hc3 => ?_) (fun hc3 => ?_)
    · have hr3 := hc3; (try simp only [hcs, Int.reduceToNat] at hc3)
      have hlt5 := kd_lt (l := l) (i := q + 1) (by rw [hc3]; decide)
      refine hw_seq (fun Nh22 h22 => ?_)
      refine hd_start ?_
      refine hd_q 82 (hop_move rfl) rfl rfl pre0 rfl rfl (k' := 1) rfl ?_
      refine hd_q 83 (hop_nilcheck_pt rfl) rfl rfl pre0 rfl rfl (k' := 2) rfl ?_
      refine hd_q 84 (hop_fa fd_106_0 rfl) rfl rfl pre0 rfl rfl (k' := 3) rfl ?_
      refine hd_q 85 (hop_fa fd_104_0 rfl) rfl rfl pre0 rfl rfl (k' := 4) rfl ?_
      refine hd_q 86 (hol_load ty_86 rfl (nb rfl) (nb rfl) (fun h => (by rfl))) rfl rfl (pre1 rfl) rfl rfl (k' := 5) rfl ?_
      refine hd_q 87 (hop_move rfl) rfl rfl pre0 rfl rfl (k' := 6) rfl ?_
      refine hd_q 88 (hop_nilcheck_pt rfl) rfl rfl pre0 rfl rfl (k' := 7) rfl ?_
      refine hd_q 89 (hop_fa fd_106_0 rfl) rfl rfl pre0 rfl rfl (k' := 8) rfl ?_
      refine hd_q 90 (hop_fa fd_104_1 rfl) rfl rfl pre0 rfl rfl (k' := 9) rfl ?_
      refine hd_q 91 (hol_load ty_3 rfl (nb rfl) (nb rfl) (fun h => (by rfl))) rfl rfl (pre1 rfl) rfl rfl (k' := 10) rfl ?_
      refine hd_q 92 (hop_ia_sl el_86 rfl rfl (by omega) (by omega) (nb rfl)) rfl rfl pre0 rfl rfl (k' := 11) rfl ?_
      refine hd_q 93 (hop_load_fp ty_108 rfl (nb rfl) (fun h => (by cases h))) rfl rfl pre0 rfl rfl (k' := 12) rfl ?_
      refine hd_1 4 (hop_alloc (id := 4) (sz := 5) zc_108 rfl rfl (nb rfl) (nb rfl)) rfl rfl pre0 rfl rfl (k' := 13) rfl ?_
      refine hd_s1 (hol_storeW ty_108 rfl rfl rfl rfl) rfl rfl (pre1 rfl) (k' := 14) rfl ?_
      refine hd_nil (by kernel_rfl) (by kernel_rfl) (c' := c3 + 15) rfl ?_
      refine h22 _ ?_
      refine srg fun N h23 => ?_
      refine stm rfl rfl rfl ?_
      refine st0 (hop_nilcheck_pt rfl) rfl rfl ?_
      refine st0 (hop_fa fd_106_0 rfl) rfl rfl ?_
      refine st0 (hop_fa fd_104_1 rfl) rfl rfl ?_
      refine st1 (hol_load ty_3 rfl (nb rfl) (nb rfl) (fun h => (by rfl))) rfl rfl rfl ?_
      refine st0 (hop_addi rfl rfl rfl (by omega) (by omega)) rfl rfl ?_
      refine st0 (hop_nilcheck_pt rfl) rfl rfl ?_
      refine st0 (hop_fa fd_106_0 rfl) rfl rfl ?_
      refine st0 (hop_fa fd_104_1 rfl) rfl rfl ?_
      refine hm_s1 (hol_store ty_3 rfl rfl rfl rfl (nb rfl) (nb rfl) (nb rfl)) rfl rfl (pre1 rfl) (c' := c3 + 16) rfl ?_
      refine snl h23 ?_
      refine (hsub_ob 9001 (erO g l (q + 2) g3 o3.length false) rfl (by exact osub4 (.refl _) (sb_int (by omega)) (.refl _) (.refl _))).wp ?_
      refine hw_region ?_
      refine stm rfl rfl rfl ?_
      refine st0 (hop_fa fd_108_2 rfl) rfl rfl ?_
      refine st1 (hol_load ty_3 rfl (nb rfl) (nb rfl) (fun h => (by rfl))) rfl rfl rfl ?_
      refine st0 (hop_fa fd_108_3 rfl) rfl rfl ?_
      refine st1 (hol_load ty_3 rfl (nb rfl) (nb rfl) (fun h => (by rfl))) rfl rfl rfl ?_
      refine stm rfl rfl rfl ?_
      refine hm_1 109 (hop_buildSlice (id := 109) (hs := [_]) ei_44 (nb rfl) rfl (nb rfl) ⟨rfl, rfl, rfl, rfl, trivial⟩) rfl rfl pre0 rfl rfl (c' := c3 + 17) rfl ?_
      refine st0 (hop_build (hs := [(0, 1, _), (1, 1, _), (2, 1, _), (4, 1, _)]) st_75 rfl rfl ⟨rfl, rfl, rfl, rfl, rfl, ⟨rfl, rfl, rfl, rfl, rfl, ⟨rfl, rfl, rfl, rfl, rfl, ⟨rfl, rfl, rfl, rfl, rfl, trivial⟩⟩⟩⟩) rfl rfl ?_
      refine (hsub_shr 110 [(109, _)] rfl (preC rfl pre0) rfl ((show Fz _ (.agg 5 _) (ptH ⟨4, (l.getD (q + 1) default).low, (l.getD (q + 1) default).high, [], [r]⟩) from fz_agg5 (.imm _) (.imm _) (.imm _) (.imm _) fz_one))).seq ?_
      refine hf_callR 111 (xs := [_, _]) (pre := [(9001, _), (9002, _)]) (lay_h _ g l (q + 2) g3 _ false o3 ⟨4, (l.getD (q + 1) default).low, (l.getD (q + 1) default).high, [], [r]⟩ rfl (by omega)) ⟨rfl, ⟨rfl, trivial⟩⟩ (preC rfl (preC rfl pre0)) rfl rfl (fun g4 c4 hx4 => ?_)
      (try dsimp only)
      refine sta rfl rfl rfl ?_
      refine snl h20 ?_
      refine srg fun N h24 => ?_
      refine stm rfl rfl rfl ?_
      refine sta rfl rfl rfl ?_
      refine snl h24 ?_
      refine hw_ret ?_
      refine hf_retR1 ok hX RetS.one rfl (rval_tmp rfl) [] rfl pre0 (⟨some _, _, g4, _, _⟩) (ok_group5 hx hc1 hk3 hc3) (by rfl) (by rfl) ((by first | exact .fz _ _ (.imm _) | exact .os _ _ _ _ _ rfl rfl | exact .pt _ _ _ _ _ rfl rfl | exact .nps _ _ _ rfl rfl | (dsimp only; exact .fz _ _ Frz.fz) | exact .fz _ _ (.tup 0 _ _ (fun i hi => absurd hi (Nat.not_lt_zero _))))) ?_
      exact ⟨⟨_, rfl, okz_er rfl rfl⟩, ⟨⟨_, rfl, okz_pts⟩, trivial⟩⟩
    have hr3 := hc3; (try simp only [hcs, Int.reduceToNat] at hc3)
    refine hw_skip ?_
    refine h20 _ ?_
    refine srg fun N h25 => ?_
    refine stm rfl rfl rfl ?_
    refine sta rfl rfl rfl ?_
    refine snl h25 ?_
    refine hw_ret ?_
    refine hf_retR1 ok hX RetS.one rfl (rval_tmp rfl) [] rfl pre0 (⟨some _, _, g3, _, _⟩) (ok_group hx hc1 hk3 hc3) (by rfl) (by rfl) ((by first | exact .fz _ _ (.imm _) | exact .os _ _ _ _ _ rfl rfl | exact .pt _ _ _ _ _ rfl rfl | exact .nps _ _ _ rfl rfl | (dsimp only; exact .fz _ _ Frz.fz) | exact .fz _ _ (.tup 0 _ _ (fun i hi => absurd hi (Nat.not_lt_zero _))))) ?_
    exact ⟨⟨_, rfl, okz_er rfl rfl⟩, ⟨⟨_, rfl, okz_pts⟩, trivial⟩⟩
  have hr1 := hc1; (try simp only [hcs, Int.reduceToNat] at hc1)
  refine srg fun N h26 => ?_
  refine stm rfl rfl rfl ?_
  refine st0 (hop_nilcheck_pt rfl) rfl rfl ?_
  refine st0 (hop_fa fd_106_2 rfl) rfl rfl ?_
  refine hm_s1 (hol_store ty_4 rfl rfl rfl rfl (nb rfl) (nb rfl) (nb rfl)) rfl rfl (pre1 rfl) (c' := c + 1) rfl ?_
  refine snl h26 ?_
  refine srg fun N h27 => ?_
  refine stm rfl rfl rfl ?_
  refine sta rfl rfl rfl ?_
  refine snl h27 ?_
  refine hw_ret ?_
  refine hq_block_ret ?_
  refine hq_then_ret ?_
  refine hf_retR1 ok hX RetS.one rfl (rval_tmp rfl) [] rfl pre0 (⟨none, p, g2, out, -1⟩) (⟨bad_first hne hp hc0 hc1, by simp⟩) (by rfl) (by rfl) ((by first | exact .fz _ _ (.imm _) | exact .os _ _ _ _ _ rfl rfl | exact .pt _ _ _ _ _ rfl rfl | exact .nps _ _ _ rfl rfl | (dsimp only; exact .fz _ _ Frz.fz) | exact .fz _ _ (.tup 0 _ _ (fun i hi => absurd hi (Nat.not_lt_zero _))))) ?_
  exact ⟨⟨_, rfl, okz4 (.fz _ _ (show Fz [] (sgsV l) (sgsV l) from Frz.fz)) (by first | exact .fz _ _ (.imm _) | exact .os _ _ _ _ _ rfl rfl | exact .pt _ _ _ _ _ rfl rfl | exact .nps _ _ _ rfl rfl | (dsimp only; exact .fz _ _ Frz.fz) | exact .fz _ _ (.tup 0 _ _ (fun i hi => absurd hi (Nat.not_lt_zero _)))) (by first | exact .fz _ _ (.imm _) | exact .os _ _ _ _ _ rfl rfl | exact .pt _ _ _ _ _ rfl rfl | exact .nps _ _ _ rfl rfl | (dsimp only; exact .fz _ _ Frz.fz) | exact .fz _ _ (.tup 0 _ _ (fun i hi => absurd hi (Nat.not_lt_zero _)))) (by first | exact .fz _ _ (.imm _) | exact .os _ _ _ _ _ rfl rfl | exact .pt _ _ _ _ _ rfl rfl | exact .nps _ _ _ rfl rfl | (dsimp only; exact .fz _ _ Frz.fz) | exact .fz _ _ (.tup 0 _ _ (fun i hi => absurd hi (Nat.not_lt_zero _))))⟩, ⟨⟨_, rfl, okz_pts⟩, trivial⟩⟩
/-- Where a row's loop stands. -/
def RowI (l : List Sg) (p : Nat) (out : List Pt) (bad : Bool) (q : Nat) (o : List Pt) (ks : List Int) : Prop :=
  (1 ≤ ks.length ∧ ks.length ≤ 2 * (q - p) + 1) ∧ p ≤ q ∧ q ≤ l.length ∧ match bad with
  | true => BadS l p q ∧ o.length + (if ks.length = 1 then 0 else 1) ≤ out.length + 2 * (q - p)
  | false => ∃ ts, Items l p q ts ∧ o = out ++ T.flatL out.length ts ∧ ks = rootsL out.length ts
theorem row_start {l : List Sg} {p q g : Nat} {out o : List Pt} {t : Option T} {r : Int} (h : RsOk l 1 p out ⟨t, q, g, o, r⟩) : RowI l p out t.isNone q o [r] := by
  have hle := rs_le h
  refine ⟨⟨Nat.le_refl _, by show 1 ≤ _; omega⟩, hle.1, hle.2.1, ?_⟩
  cases t with
  | none => exact ⟨h.1, h.2⟩
  | some t => exact ⟨[t], items_one h.1, by rw [show o = _ from h.2.1]; simp [T.flatL], by rw [show r = _ from h.2.2.1]; rfl⟩
theorem row_next {l : List Sg} {p q q' g : Nat} {out o o' : List Pt} {ks : List Int} {t : Option T} {r : Int} (h : RowI l p out false q o ks) (hk : kd l q = 1 ∨ kd l q = 2) (h2 : RsOk l 1 q o ⟨t, q', g, o', r⟩) : RowI l p out t.isNone q' o' (ks ++ [r]) := by
  have hle : q ≤ q' ∧ q' ≤ l.length ∧ o'.length ≤ o.length + 2 * (q' - q) := rs_le h2
  obtain ⟨h1, hpq, hql, ts, hi, ho, hks⟩ := h
  have hlt := items_lt hi
  have hol : o.length = out.length + T.sizeL ts := by rw [ho, List.length_append, T.flatL_len]
  have hkl : ks.length = ts.length := by rw [hks, rootsL_len]
  refine ⟨by rw [List.length_append]; show 1 ≤ ks.length + 1 ∧ ks.length + 1 ≤ _; omega, by omega, hle.2.1, ?_⟩
  cases t with
  | none =>
    refine ⟨bad_items hi hk h2.1, ?_⟩
    rw [if_neg (by rw [List.length_append]; show ¬ ks.length + 1 = 1; omega)]
    have := hi.1
    omega
  | some t =>
    refine ⟨ts ++ [t], items_snoc hi h2.1, ?_, ?_⟩
    · rw [show o' = _ from h2.2.1, ho, T.flatL_snoc, List.append_assoc, List.length_append, T.flatL_len]
    · rw [show r = _ from h2.2.2.1, hks, rootsL_snoc, hol]
theorem row_le {l : List Sg} {p q : Nat} {out o : List Pt} {ks : List Int} {bad : Bool} (h : RowI l p out bad q o ks) : o.length ≤ out.length + 2 * (q - p) := by
  obtain ⟨h1, hpq, hql, h⟩ := h
  cases bad with
  | true => have := h.2; omega
  | false =>
    obtain ⟨ts, hi, ho, hks⟩ := h
    have := items_lt hi
    rw [ho, List.length_append, T.flatL_len]; omega
theorem rs_meas {l : List Sg} {v q q' g : Nat} {o o' : List Pt} {t : Option T} {r : Int} (h : RsOk l v q o ⟨t, q', g, o', r⟩) : 2 * (l.length - q') + (if t.isNone then 0 else 1) < 2 * (l.length - q) + (if false then 0 else 1) := by
  have hle : q ≤ q' ∧ q' ≤ l.length ∧ o'.length ≤ o.length + 2 * (q' - q) := rs_le h
  cases t with
  | none => show _ + 0 < _ + 1; omega
  | some t => have := seg_lt h.1; show _ + 1 < _ + 1; simp only at this; omega
@[reducible] def manyP (k : Int) (out : List Pt) (ks : List Int) (y : Nat × List Pt × Int) : Prop := if ks.length = 1 then y.2 = (out, ks.getD 0 0) else y.2 = (out ++ [⟨k, 0, 0, [], ks⟩], (out.length : Int))
theorem many_le {l : List Sg} {p q : Nat} {out o : List Pt} {ks : List Int} {k : Int} {y : Nat × List Pt × Int} (hb : o.length + (if ks.length = 1 then 0 else 1) ≤ out.length + 2 * (q - p)) (hy : manyP k o ks y) : y.2.1.length ≤ out.length + 2 * (q - p) := by
  unfold manyP at hy
  split at hy
  · rename_i h1; rw [if_pos h1] at hb; rw [hy]; exact hb
  · rename_i h1; rw [if_neg h1] at hb; rw [hy]; simpa using hb
theorem row_done {l : List Sg} {p q : Nat} {out o : List Pt} {ks : List Int} {bad : Bool} (h : RowI l p out bad q o ks) (hk : bad = true ∨ (kd l q ≠ 1 ∧ kd l q ≠ 2)) : ∃ tt : Option T, tt.isNone = bad ∧ ∀ y, manyP 2 o ks y → RsOk l 2 p out ⟨tt, q, y.1, y.2.1, y.2.2⟩ := by
  obtain ⟨h1, hpq, hql, h⟩ := h
  cases bad with
  | true => exact ⟨none, rfl, fun y hy => ⟨h.1, many_le (l := l) h.2 hy⟩⟩
  | false =>
    obtain ⟨ts, hi, ho, hks⟩ := h
    have hk := hk.resolve_left (by simp)
    have hkl : ks.length = ts.length := by rw [hks, rootsL_len]
    by_cases h2 : ts.length = 1
    · match ts, h2 with
      | [t], _ =>
        refine ⟨some t, rfl, fun y hy => ?_⟩
        have hy : y.2 = (o, ks.getD 0 0) := by unfold manyP at hy; rwa [if_pos (by simpa using hkl)] at hy
        refine ⟨items_row1 hi, ?_, ?_, fun _ => hk, fun h => absurd h (by decide)⟩
        · show y.2.1 = _; rw [hy, ho]; simp [T.flatL]
        · show y.2.2 = _; rw [hy, hks]; rfl
    · refine ⟨some (.many 2 ts), rfl, fun y hy => ?_⟩
      have hy : y.2 = (o ++ [⟨2, 0, 0, [], ks⟩], (o.length : Int)) := by unfold manyP at hy; rwa [if_neg (by omega)] at hy
      refine ⟨items_row hi (by have := hi.1; omega), ?_, ?_, fun _ => hk, fun h => absurd h (by decide)⟩
      · show y.2.1 = _; rw [hy, ho, hks]; simp [T.flat]
      · show y.2.2 = _; rw [hy, ho]; simp [T.root, T.size, T.flatL_len]; omega
theorem row_h (l : List Sg) (g p : Nat) (hk : KdOk l) (hne : l ≠ []) (hl : l.length ≤ 1000) (hp : p ≤ l.length) (hitem : ∀ p', p ≤ p' → p' ≤ l.length → RsC 112 l 1 g p') : RsC 90 l 2 g p := by
  intro c g2 out ho
  refine hfun_of Tryd.func90 rfl (by kernel_rfl) _ _ _ _ rfl 34 rfl rfl (fun X ok hX => ?_)
  refine srg fun N h1 => ?_
  refine sta rfl rfl rfl ?_
  refine snl h1 ?_
  refine srg fun N h2 => ?_
  refine stm rfl rfl rfl ?_
  refine hf_callR 5 (xs := [_]) (pre := [(9001, _), (9002, _)]) (hitem p (Nat.le_refl _) hp _ g2 out ho) ⟨rfl, trivial⟩ (preC rfl (preC rfl pre0)) rfl rfl (fun x1 c1 hx => ?_)
  obtain ⟨t1, q1, g3, o3, r⟩ := x1
  (try dsimp only)
  refine hm_1 6 (hop_buildSlice (id := 6) (hs := [_]) ei_44 (nb rfl) rfl (nb rfl) ⟨rfl, rfl, rfl, rfl, trivial⟩) rfl rfl pre0 rfl rfl (c' := c1 + 1) rfl ?_
  refine sta rfl rfl rfl ?_
  refine snl h2 ?_
  refine hw_seq (fun Nh3 h3 => ?_)
  refine hw_block ?_
  refine hw_loopc (α := Bool × Nat × List Pt × List Int × Nat × Nat) (fun x c => ⟨34, [(0, .v (.pt 9001 g 0 0)), (3, .v (.os 6 x.2.2.2.2.2 0 x.2.2.2.1.length))], [(9001, erO g l x.2.1 x.2.2.2.2.1 x.2.2.1.length x.1), (9002, ptsO x.2.2.2.2.1 x.2.2.1), (6, ⟨x.2.2.2.2.2, x.2.2.2.1.length, 1, 3, 0, kidsF x.2.2.2.1⟩)], c⟩) (fun x => RowI l p out x.1 x.2.1 x.2.2.1 x.2.2.2.1) (fun x => 2 * (l.length - x.2.1) + (if x.1 then 0 else 1)) ((t1.isNone, q1, o3, [r], g3, c1)) (by exact row_start hx) (hsub_of rfl (Nat.le_refl _) (TmSub.cons rfl (Sb.refl _) (TmSub.cons rfl (Sb.refl _) TmSub.nil)) (HpSub.cons rfl (OSub.refl _) (HpSub.cons rfl (OSub.refl _) (HpSub.cons rfl (OSub.of fun i j hi hj => by obtain rfl : i = 0 := (by omega); exact .refl _) HpSub.nil)))) (fun x c hx NhL4 hL4 => ?_)
  revert hx hL4; obtain ⟨bad, q, o, ks, gg, gk⟩ := x; intro hx hL4; dsimp only at hx hL4 ⊢
  obtain ⟨hq1, hq2, hq3, hR⟩ := hx
  have hI : RowI l p out bad q o ks := ⟨hq1, hq2, hq3, hR⟩; have hol := row_le hI
  refine hw_seq (fun Nh5 h5 => ?_)
  refine srg fun N h6 => ?_
  refine stm rfl rfl rfl ?_
  refine st0 (hop_nilcheck_pt rfl) rfl rfl ?_
  refine st0 (hop_fa fd_106_2 rfl) rfl rfl ?_
  refine st1 (hol_load ty_4 rfl (nb rfl) (nb rfl) (fun h => (by rfl))) rfl rfl rfl ?_
  refine st0 (hop_not rfl) rfl rfl ?_
  refine stm rfl rfl rfl ?_
  refine stg 12 (fun hb => hop_move rfl) rfl rfl rfl rfl rfl ?_
  refine stg 12 (fun hb => hop_nilcheck_pt rfl) rfl rfl rfl rfl rfl ?_
  refine stg 12 (fun hb => hop_fa fd_106_0 rfl) rfl rfl rfl rfl rfl ?_
  refine hq_g 16 5 12 true _ (fun hb => hop_funR (xs := [_]) (pre := [(9001, _), (9002, _)]) (kind_h g l q gg o bad hl hI.2.2.1) ⟨rfl, trivial⟩) rfl rfl rfl rfl (preC rfl (preC rfl pre0)) rfl rfl rfl ?_
  refine stg 12 (fun hb => hop_eql rfl rfl) rfl rfl rfl rfl rfl ?_
  refine stg 12 (fun hb => hop_move rfl) rfl rfl rfl rfl rfl ?_
  refine hq_g3 19 11 18 12 true false _ _ (fun hb hb2 => hop_move rfl) rfl rfl rfl rfl rfl pre0 rfl rfl rfl ?_
  refine hq_g3 20 11 18 12 true false _ _ (fun hb hb2 => hop_nilcheck_pt rfl) rfl rfl rfl rfl rfl pre0 rfl rfl rfl ?_
  refine hq_g3 21 11 18 12 true false _ _ (fun hb hb2 => hop_fa fd_106_0 rfl) rfl rfl rfl rfl rfl pre0 rfl rfl rfl ?_
  refine hq_g3 22 11 18 12 true false _ _ (fun hb hb2 => hop_funR (xs := [_]) (pre := [(9001, _), (9002, _)]) (kind_h g l q gg o bad hl hI.2.2.1) ⟨rfl, trivial⟩) rfl rfl rfl rfl rfl (preC rfl (preC rfl pre0)) rfl rfl rfl ?_
  refine hq_g3 23 11 18 12 true false _ _ (fun hb hb2 => hop_eql rfl rfl) rfl rfl rfl rfl rfl pre0 rfl rfl rfl ?_
  refine hq_pg 24 (hstep_org (gi := 5) (j := 12) _ _ rfl rfl rfl rfl) rfl rfl rfl rfl ?_
  refine hq_p 25 (hstep_and _ _ rfl rfl rfl) rfl rfl rfl ?_
  refine hseq_nilU (by rfl) (by simp only [dropUn, slots]; exact rfl) ?_
  refine h6 _ ?_
  refine hw_cond _ rfl (fun hc0 => ?_) (fun hc0 => ?_)
  · have hr0 := hc0; (try simp only [hcs, Int.reduceToNat] at hc0)
    obtain ⟨rfl, hkq⟩ : bad = false ∧ (kd l q = 1 ∨ kd l q = 2) := (by cases bad with | true => exact absurd hr0 (by simp) | false => exact ⟨rfl, by simpa using hr0⟩)
    refine hw_skip ?_
    refine h5 _ ?_
    refine hw_block ?_
    refine hw_region ?_
    refine stm rfl rfl rfl ?_
    refine stm rfl rfl rfl ?_
    refine hf_callR 28 (xs := [_]) (pre := [(9001, _), (9002, _)]) (hitem q hI.2.1 hI.2.2.1 _ gg o (by omega)) ⟨rfl, trivial⟩ (preC rfl (preC rfl pre0)) rfl rfl (fun x2 c2 hx2 => ?_)
    obtain ⟨t, q', g4, o4, r'⟩ := x2
    (try dsimp only)
    refine hm_1 29 (hop_buildSlice (id := 29) (hs := [_]) ei_44 (nb rfl) rfl (nb rfl) ⟨rfl, rfl, rfl, rfl, trivial⟩) rfl rfl pre0 rfl rfl (c' := c2 + 1) rfl ?_
    refine hm_1 30 (hol_append ei_44 (nb rfl) rfl (by omega) (nb rfl) (srl_os0 rfl (nb rfl)) (by omega) rfl) rfl rfl (preC rfl (pre1 rfl)) rfl rfl (c' := c2 + 2) rfl ?_
    refine sta rfl rfl rfl ?_
    refine hseq_nil ?_
    refine hq_block ?_
    exact hL4 ((t.isNone, q', o4, ks ++ [r'], g4, c2 + 1)) _ _ (by (try dsimp only); exact row_next hI hkq hx2) (by (try dsimp only); exact rs_meas hx2) (hsub_of rfl (Nat.le_refl _) (TmSub.cons rfl (Sb.refl _) (TmSub.cons rfl (sb_os (by simp)) TmSub.nil)) (HpSub.cons rfl (OSub.refl _) (HpSub.cons rfl (OSub.refl _) (HpSub.cons rfl (osub_snoc (enc := fun x _ => intV x) (d := 0) rfl (fun i j _ _ => .refl _) (fun j hj => .refl _)) HpSub.nil))))
  have hr0 := hc0; (try simp only [hcs, Int.reduceToNat] at hc0)
  obtain ⟨tt, rfl, hdone⟩ := row_done hI (by cases bad with | true => exact .inl rfl | false => right; simpa using hr0)
  refine hw_exit ?_
  refine hq_then_exit ?_
  refine hq_then_exit ?_
  refine hq_block_here ?_
  refine h3 _ ?_
  refine srg fun N h7 => ?_
  refine stm rfl rfl rfl ?_
  refine stm rfl rfl rfl ?_
  refine (hsub_shr 32 [(6, _)] rfl (preC rfl pre0) rfl ((show Fz _ _ (kidsV ks) from fz_row (l := ks) (enc := fun x _ => intV x) (d := 0) (List.mem_cons_self ..) rfl rfl (Nat.le_refl _) (fun i j hi hj => .imm _)))).seq ?_
  refine hf_callR 33 (xs := [_, _, _]) (pre := [(9001, _), (9002, _)]) (many_h _ g l q gg _ tt.isNone o 2 ks rfl (by omega)) ⟨rfl, ⟨rfl, ⟨rfl, trivial⟩⟩⟩ (preC rfl (preC rfl pre0)) rfl rfl (fun x3 c3 hy => ?_)
  obtain ⟨g5, o5, r5⟩ := x3
  (try dsimp only)
  refine sta rfl rfl rfl ?_
  refine snl h7 ?_
  refine hw_ret ?_
  refine hf_retR1 ok hX RetS.one rfl (rval_tmp rfl) [] rfl pre0 (⟨tt, q, g5, o5, r5⟩) (hdone _ hy) (by rfl) (by rfl) ((by first | exact .fz _ _ (.imm _) | exact .os _ _ _ _ _ rfl rfl | exact .pt _ _ _ _ _ rfl rfl | exact .nps _ _ _ rfl rfl | (dsimp only; exact .fz _ _ Frz.fz) | exact .fz _ _ (.tup 0 _ _ (fun i hi => absurd hi (Nat.not_lt_zero _))))) ?_
  exact ⟨⟨_, rfl, okz_er rfl rfl⟩, ⟨⟨_, rfl, okz_pts⟩, trivial⟩⟩
end Go.Proofs.YtmcchhmgchgaaaaDoor

namespace Go.Proofs.YtmcchhmgchgaaaaDoor
set_option linter.unusedSimpArgs false
set_option linter.unusedVariables false
set_option maxRecDepth 100000
open Go.RowKit

theorem fz_int {sh : List (Nat × HObj)} {a b : Int} (h : a = b) : Fz sh (intV a) (intV b) := by subst h; exact .imm _
theorem refSmall_h (x : Int) : HPure Tryd.prog 93 [.imm (.int .u8 x)] (boolV (smallZ x)) := by
  refine hpure_of Tryd.func93 rfl (by kernel_rfl) _ _ _ rfl 9 rfl rfl (fun w F => ?_)
  refine srg fun N h1 => ?_
  refine sta rfl rfl rfl ?_
  refine snl h1 ?_
  refine srg fun N h2 => ?_
  refine stm rfl rfl rfl ?_
  refine st0 (hop_geq rfl rfl) rfl rfl ?_
  refine stm rfl rfl rfl ?_
  refine stg 5 (fun hb => hop_move rfl) rfl rfl rfl rfl rfl ?_
  refine stg 5 (fun hb => hop_leq rfl rfl) rfl rfl rfl rfl rfl ?_
  refine hq_p 8 (hstep_and _ _ rfl rfl rfl) rfl rfl rfl ?_
  refine sta rfl rfl rfl ?_
  refine hseq_nilU (by rfl) (by simp only [dropUn, slots]; exact rfl) ?_
  refine h2 _ ?_
  refine hw_ret ?_
  refine hq_ret1 rfl (rval_tmp rfl) [] rfl pre0 ?_
  exact Frz.fz
theorem refDigit_h (x : Int) : HPure Tryd.prog 94 [.imm (.int .u8 x)] (boolV (digitZ x)) := by
  refine hpure_of Tryd.func94 rfl (by kernel_rfl) _ _ _ rfl 9 rfl rfl (fun w F => ?_)
  refine srg fun N h1 => ?_
  refine sta rfl rfl rfl ?_
  refine snl h1 ?_
  refine srg fun N h2 => ?_
  refine stm rfl rfl rfl ?_
  refine st0 (hop_geq rfl rfl) rfl rfl ?_
  refine stm rfl rfl rfl ?_
  refine stg 5 (fun hb => hop_move rfl) rfl rfl rfl rfl rfl ?_
  refine stg 5 (fun hb => hop_leq rfl rfl) rfl rfl rfl rfl rfl ?_
  refine hq_p 8 (hstep_and _ _ rfl rfl rfl) rfl rfl rfl ?_
  refine sta rfl rfl rfl ?_
  refine hseq_nilU (by rfl) (by simp only [dropUn, slots]; exact rfl) ?_
  refine h2 _ ?_
  refine hw_ret ?_
  refine hq_ret1 rfl (rval_tmp rfl) [] rfl pre0 ?_
  exact Frz.fz
theorem refWrong_h (s : List UInt8) (p : Nat) : HPure Tryd.prog 115 [strV s, intV p] (t2 (intV (wrongV s p).1) (intV (wrongV s p).2)) := by
  refine hpure_of Tryd.func115 rfl (by kernel_rfl) _ _ _ rfl 13 rfl rfl (fun w F => ?_)
  refine srg fun N h1 => ?_
  refine sta rfl rfl rfl ?_
  refine sta rfl rfl rfl ?_
  refine snl h1 ?_
  refine hw_seq (fun Nh2 h2 => ?_)
  refine srg fun N h3 => ?_
  refine stm rfl rfl rfl ?_
  refine stm rfl rfl rfl ?_
  refine st0 (hop_len_strl (T := 9) rfl (by kernel_rfl) rfl) rfl rfl ?_
  refine st0 (hop_geq rfl rfl) rfl rfl ?_
  refine snl h3 ?_
  refine hw_cond _ rfl (fun hc0 => ?_) (fun hc0 => ?_)
  · have hr0 := hc0; (try simp only [hcs, Int.reduceToNat] at hc0)
    refine srg fun N h4 => ?_
    refine stm rfl rfl rfl ?_
    refine st0 (hop_len_strl (T := 9) rfl (by kernel_rfl) rfl) rfl rfl ?_
    refine sta rfl rfl rfl ?_
    refine sta rfl rfl rfl ?_
    refine snl h4 ?_
    refine hw_ret ?_
    refine hq_then_ret ?_
    refine hq_ret2 rfl (rval_tmp rfl) (rval_tmp rfl) [] rfl pre0 ?_
    have e : wrongV s p = ((s.length : Int), 5) := if_pos (by omega); rw [e]; exact fz_t2 (.imm _) (.imm _)
  have hr0 := hc0; (try simp only [hcs, Int.reduceToNat] at hc0)
  refine hw_skip ?_
  refine h2 _ ?_
  refine srg fun N h5 => ?_
  refine stm rfl rfl rfl ?_
  refine sta rfl rfl rfl ?_
  refine sta rfl rfl rfl ?_
  refine snl h5 ?_
  refine hw_ret ?_
  refine hq_ret2 rfl (rval_tmp rfl) (rval_tmp rfl) [] rfl pre0 ?_
  have e : wrongV s p = ((p : Int), 2) := if_neg (by omega); rw [e]; exact fz_t2 (.imm _) (.imm _)
@[reducible] def numLH (x : Option Int × Nat) : HV := t2 (intV (x.1.getD (-1))) (intV x.2)
theorem refNumber_h (s : List UInt8) (i : Nat) (hs : s.length ≤ 1000000) (hi : i ≤ s.length) : HPure Tryd.prog 114 [strV s, intV i] (numLH (numL s i)) := by
  refine hpure_of Tryd.func114 rfl (by kernel_rfl) _ _ _ rfl 62 rfl rfl (fun w F => ?_)
  refine srg fun N h1 => ?_
  refine sta rfl rfl rfl ?_
  refine sta rfl rfl rfl ?_
  refine snl h1 ?_
  refine hw_seq (fun Nh2 h2 => ?_)
  refine srg fun N h3 => ?_
  refine stm rfl rfl rfl ?_
  refine stm rfl rfl rfl ?_
  refine st0 (hop_len_strl (T := 9) rfl (by kernel_rfl) rfl) rfl rfl ?_
  refine st0 (hop_geq rfl rfl) rfl rfl ?_
  refine stm rfl rfl rfl ?_
  refine stg 11 (fun hb => hop_move rfl) rfl rfl rfl rfl rfl ?_
  refine stg 11 (fun hb => hop_move rfl) rfl rfl rfl rfl rfl ?_
  refine stg 11 (fun hb => hop_ix_strl (by kernel_rfl) rfl rfl (by (simp at hb; first | omega | (dsimp only; omega) | (simp <;> omega))) (by (simp at hb; first | omega | (dsimp only; omega) | (simp <;> omega)))) rfl rfl rfl rfl rfl ?_
  refine stg 11 (fun hb => hop_call0 (xs := [_]) (refDigit_h _) ⟨rfl, trivial⟩ ⟨(Fz.eq rfl), trivial⟩) rfl rfl rfl rfl rfl ?_
  refine stg 11 (fun hb => hop_not rfl) rfl rfl rfl rfl rfl ?_
  refine hq_p 17 (hstep_or _ _ rfl rfl rfl) rfl rfl rfl ?_
  refine hseq_nilU (by rfl) (by simp only [dropUn, slots]; exact rfl) ?_
  refine h3 _ ?_
  refine hw_cond _ rfl (fun hc0 => ?_) (fun hc0 => ?_)
  · have hr0 := hc0; (try simp only [hcs, Int.reduceToNat] at hc0)
    have d0 : digitZ (bz s i) = false := (by have h := hr0; rw [Int.toNat_natCast, bz_ndig] at h; simpa using h)
    refine srg fun N h4 => ?_
    refine stm rfl rfl rfl ?_
    refine sta rfl rfl rfl ?_
    refine sta rfl rfl rfl ?_
    refine snl h4 ?_
    refine hw_ret ?_
    refine hq_then_ret ?_
    refine hq_ret2 rfl (rval_tmp rfl) (rval_tmp rfl) [] rfl pre0 ?_
    rw [num_zero d0]; exact fz_t2 (.imm _) (.imm _)
  have hr0 := hc0; (try simp only [hcs, Int.reduceToNat] at hc0)
  have d0 : digitZ (bz s i) = true := (by have h := hr0; rw [Int.toNat_natCast, bz_ndig] at h; simpa using h); have hil := digit_lt d0; have dz := digit_iff.1 d0
  refine hw_skip ?_
  refine h2 _ ?_
  refine srg fun N h5 => ?_
  refine stm rfl rfl rfl ?_
  refine stm rfl rfl rfl ?_
  refine st0 (HOp.val (v' := .imm (.int .u8 (bz s i))) (hop_ix_strl (by kernel_rfl) rfl rfl (by omega) (by omega)) (by rw [bz_in hil, Int.toNat_natCast])) rfl rfl ?_
  refine st0 (hop_subk wok_u8 rfl rfl rfl (by omega) (by omega)) rfl rfl ?_
  refine st0 (hop_convk wok_i64 (by kernel_rfl) (by kernel_rfl) rfl (by omega) (by omega)) rfl rfl ?_
  refine sta rfl rfl rfl ?_
  refine snl h5 ?_
  refine srg fun N h6 => ?_
  refine stm rfl rfl rfl ?_
  refine st0 (HOp.val (v' := intV ((i + 1 : Nat) : Int)) (hop_addi rfl rfl rfl (by omega) (by omega)) (rfl)) rfl rfl ?_
  refine sta rfl rfl rfl ?_
  refine snl h6 ?_
  refine hw_seq (fun Nh7 h7 => ?_)
  refine srg fun N h8 => ?_
  refine stm rfl rfl rfl ?_
  refine stm rfl rfl rfl ?_
  refine st0 (hop_len_strl (T := 9) rfl (by kernel_rfl) rfl) rfl rfl ?_
  refine st0 (hop_lss rfl rfl) rfl rfl ?_
  refine stm rfl rfl rfl ?_
  refine stg 30 (fun hb => hop_move rfl) rfl rfl rfl rfl rfl ?_
  refine stg 30 (fun hb => hop_move rfl) rfl rfl rfl rfl rfl ?_
  refine stg 30 (fun hb => hop_ix_strl (by kernel_rfl) rfl rfl (by (simp at hb; first | omega | (dsimp only; omega) | (simp <;> omega))) (by (simp at hb; first | omega | (dsimp only; omega) | (simp <;> omega)))) rfl rfl rfl rfl rfl ?_
  refine stg 30 (fun hb => hop_call0 (xs := [_]) (refDigit_h _) ⟨rfl, trivial⟩ ⟨(Fz.eq rfl), trivial⟩) rfl rfl rfl rfl rfl ?_
  refine hq_p 35 (hstep_and _ _ rfl rfl rfl) rfl rfl rfl ?_
  refine hseq_nilU (by rfl) (by simp only [dropUn, slots]; exact rfl) ?_
  refine h8 _ ?_
  refine hw_cond _ rfl (fun hc1 => ?_) (fun hc1 => ?_)
  · have hr1 := hc1; (try simp only [hcs, Int.reduceToNat] at hc1)
    have d1 : digitZ (bz s (i + 1)) = true := (by have h := hr1; rw [Int.toNat_natCast, ← bz_dig] at h; exact h); have hil2 := digit_lt d1; have dz1 := digit_iff.1 d1
    refine hw_seq (fun Nh9 h9 => ?_)
    refine srg fun N h10 => ?_
    refine stm rfl rfl rfl ?_
    refine st0 (hop_eql rfl rfl) rfl rfl ?_
    refine snl h10 ?_
    refine hw_cond _ rfl (fun hc2 => ?_) (fun hc2 => ?_)
    · have hr2 := hc2; (try simp only [hcs, Int.reduceToNat] at hc2)
      refine srg fun N h11 => ?_
      refine stm rfl rfl rfl ?_
      refine sta rfl rfl rfl ?_
      refine sta rfl rfl rfl ?_
      refine snl h11 ?_
      refine hw_ret ?_
      refine hq_then_ret ?_
      refine hq_then_ret ?_
      refine hq_ret2 rfl (rval_tmp rfl) (rval_tmp rfl) [] rfl pre0 ?_
      have e : numL s i = (none, i + 1) := (by unfold numL; rw [if_pos d0, if_pos d1, if_pos (by omega)]); rw [e]; exact fz_t2 (.imm _) (.imm _)
    have hr2 := hc2; (try simp only [hcs, Int.reduceToNat] at hc2)
    refine hw_skip ?_
    refine h9 _ ?_
    refine srg fun N h12 => ?_
    refine stm rfl rfl rfl ?_
    refine st0 (hop_muli rfl rfl rfl (by omega) (by omega)) rfl rfl ?_
    refine stm rfl rfl rfl ?_
    refine stm rfl rfl rfl ?_
    refine st0 (HOp.val (v' := .imm (.int .u8 (bz s (i + 1)))) (hop_ix_strl (by kernel_rfl) rfl rfl (by omega) (by omega)) (by rw [bz_in hil2, Int.toNat_natCast])) rfl rfl ?_
    refine st0 (hop_subk wok_u8 rfl rfl rfl (by omega) (by omega)) rfl rfl ?_
    refine st0 (hop_convk wok_i64 (by kernel_rfl) (by kernel_rfl) rfl (by omega) (by omega)) rfl rfl ?_
    refine st0 (hop_addi rfl rfl rfl (by omega) (by omega)) rfl rfl ?_
    refine sta rfl rfl rfl ?_
    refine snl h12 ?_
    refine srg fun N h13 => ?_
    refine stm rfl rfl rfl ?_
    refine st0 (HOp.val (v' := intV ((i + 2 : Nat) : Int)) (hop_addi rfl rfl rfl (by omega) (by omega)) (rfl)) rfl rfl ?_
    refine sta rfl rfl rfl ?_
    refine snl h13 ?_
    refine srg fun N h14 => ?_
    refine stm rfl rfl rfl ?_
    refine stm rfl rfl rfl ?_
    refine st0 (hop_len_strl (T := 9) rfl (by kernel_rfl) rfl) rfl rfl ?_
    refine st0 (hop_lss rfl rfl) rfl rfl ?_
    refine stm rfl rfl rfl ?_
    refine stg 53 (fun hb => hop_move rfl) rfl rfl rfl rfl rfl ?_
    refine stg 53 (fun hb => hop_move rfl) rfl rfl rfl rfl rfl ?_
    refine stg 53 (fun hb => hop_ix_strl (by kernel_rfl) rfl rfl (by (simp at hb; first | omega | (dsimp only; omega) | (simp <;> omega))) (by (simp at hb; first | omega | (dsimp only; omega) | (simp <;> omega)))) rfl rfl rfl rfl rfl ?_
    refine stg 53 (fun hb => hop_call0 (xs := [_]) (refDigit_h _) ⟨rfl, trivial⟩ ⟨(Fz.eq rfl), trivial⟩) rfl rfl rfl rfl rfl ?_
    refine hq_p 58 (hstep_and _ _ rfl rfl rfl) rfl rfl rfl ?_
    refine hseq_nilU (by rfl) (by simp only [dropUn, slots]; exact rfl) ?_
    refine h14 _ ?_
    refine hw_cond _ rfl (fun hc3 => ?_) (fun hc3 => ?_)
    · have hr3 := hc3; (try simp only [hcs, Int.reduceToNat] at hc3)
      have d2 : digitZ (bz s (i + 2)) = true := (by have h := hr3; rw [Int.toNat_natCast, ← bz_dig] at h; exact h)
      refine srg fun N h15 => ?_
      refine stm rfl rfl rfl ?_
      refine sta rfl rfl rfl ?_
      refine sta rfl rfl rfl ?_
      refine snl h15 ?_
      refine hw_ret ?_
      refine hq_then_ret ?_
      refine hq_ret2 rfl (rval_tmp rfl) (rval_tmp rfl) [] rfl pre0 ?_
      have e : numL s i = (none, i + 2) := (by unfold numL; rw [if_pos d0, if_pos d1, if_neg (by omega), if_pos d2]); rw [e]; exact fz_t2 (.imm _) (.imm _)
    have hr3 := hc3; (try simp only [hcs, Int.reduceToNat] at hc3)
    have d2 : digitZ (bz s (i + 2)) = false := (by have h := hr3; rw [Int.toNat_natCast, ← bz_dig] at h; exact h)
    refine hw_skip ?_
    refine h7 _ ?_
    refine srg fun N h16 => ?_
    refine stm rfl rfl rfl ?_
    refine stm rfl rfl rfl ?_
    refine sta rfl rfl rfl ?_
    refine sta rfl rfl rfl ?_
    refine snl h16 ?_
    refine hw_ret ?_
    refine hq_ret2 rfl (rval_tmp rfl) (rval_tmp rfl) [] rfl pre0 ?_
    have e : numL s i = (some (10 * (bz s i - 48) + (bz s (i + 1) - 48)), i + 2) := (by unfold numL; rw [if_pos d0, if_pos d1, if_neg (by omega), if_neg (by rw [d2]; decide)]); rw [e]; exact fz_t2 (.imm _) (.imm _)
  have hr1 := hc1; (try simp only [hcs, Int.reduceToNat] at hc1)
  have d1 : digitZ (bz s (i + 1)) = false := (by have h := hr1; rw [Int.toNat_natCast, ← bz_dig] at h; exact h)
  refine hw_skip ?_
  refine h7 _ ?_
  refine srg fun N h17 => ?_
  refine stm rfl rfl rfl ?_
  refine stm rfl rfl rfl ?_
  refine sta rfl rfl rfl ?_
  refine sta rfl rfl rfl ?_
  refine snl h17 ?_
  refine hw_ret ?_
  refine hq_ret2 rfl (rval_tmp rfl) (rval_tmp rfl) [] rfl pre0 ?_
  have e : numL s i = (some (bz s i - 48), i + 1) := (by unfold numL; rw [if_pos d0, if_neg (by rw [d1]; decide)]); rw [e]; exact fz_t2 (.imm _) (.imm _)
theorem refNum {s : List UInt8} {i : Nat} {x : Option Int × Nat} (hs : s.length ≤ 1000000) (hi : i ≤ s.length) (h : numL s i = x) : HPure Tryd.prog 114 [strV s, intV i] (numLH x) := h ▸ refNumber_h s i hs hi
@[reducible] def oneH (x : Sg × Int × Int) : HV := t3 (sgH x.1) (intV x.2.1) (intV x.2.2)
theorem refCount_h (s : List UInt8) (i : Nat) (hs : s.length ≤ 1000000) (hi : i < s.length) : HPure Tryd.prog 95 [strV s, intV i] (oneH (countF s i)) := by
  refine hpure_of Tryd.func95 rfl (by kernel_rfl) _ _ _ rfl 143 rfl rfl (fun w F => ?_)
  refine srg fun N h1 => ?_
  refine hm_1 4 (hop_alloc (id := 4) (sz := 5) zc_80 rfl rfl (nb rfl) (nb rfl)) rfl rfl pre0 rfl rfl (c' := 1) rfl ?_
  refine sta rfl rfl rfl ?_
  refine sta rfl rfl rfl ?_
  refine snl h1 ?_
  refine srg fun N h2 => ?_
  refine stm rfl rfl rfl ?_
  refine st0 (hop_build (hs := [(0, 1, _), (1, 1, _)]) st_80 rfl rfl ⟨rfl, rfl, rfl, rfl, rfl, ⟨rfl, rfl, rfl, rfl, rfl, trivial⟩⟩) rfl rfl ?_
  refine hm_1 7 (hop_alloc (id := 7) (sz := 5) zc_80 rfl rfl (nb rfl) (nb rfl)) rfl rfl pre0 rfl rfl (c' := 2) rfl ?_
  refine hm_s1 (hol_storeW ty_80 rfl rfl rfl rfl) rfl rfl (pre1 rfl) (c' := 3) rfl ?_
  refine snl h2 ?_
  refine hw_seq (fun Nh3 h3 => ?_)
  rcases hn : numL s (i + 1) with ⟨_ | n, p⟩
  · skip
    refine hw_region ?_
    refine stm rfl rfl rfl ?_
    refine stm rfl rfl rfl ?_
    refine st0 (HOp.val (v' := intV ((i + 1 : Nat) : Int)) (hop_addi rfl rfl rfl (by omega) (by omega)) (rfl)) rfl rfl ?_
    refine st0 (hop_call0 (xs := [_, _]) (refNum hs hi hn) ⟨rfl, ⟨rfl, trivial⟩⟩ ⟨(Fz.eq rfl), ⟨(Fz.eq rfl), trivial⟩⟩) rfl rfl ?_
    refine stm rfl rfl rfl ?_
    refine st0 (HOp.val (v' := intV (-1)) (hop_extract rfl rfl) (rfl)) rfl rfl ?_
    refine st0 (HOp.val (v' := intV p) (hop_extract rfl rfl) (rfl)) rfl rfl ?_
    refine sta rfl rfl rfl ?_
    refine sta rfl rfl rfl ?_
    refine snl h3 ?_
    refine hw_seq (fun Nh4 h4 => ?_)
    refine hw_seq (fun Nh5 h5 => ?_)
    have hnp := numL_le (by omega) hn
    refine hw_region ?_
    refine stm rfl rfl rfl ?_
    refine st0 (hop_lss rfl rfl) rfl rfl ?_
    refine snl h5 ?_
    refine hw_cond _ rfl (fun hc0 => ?_) (fun hc0 => ?_)
    · have hr0 := hc0; (try simp only [hcs, Int.reduceToNat] at hc0)
      refine srg fun N h6 => ?_
      refine stm rfl rfl rfl ?_
      refine stm rfl rfl rfl ?_
      refine st0 (hop_call0 (xs := [_, _]) (refWrong_h s p) ⟨rfl, ⟨rfl, trivial⟩⟩ ⟨(Fz.eq rfl), ⟨(Fz.eq rfl), trivial⟩⟩) rfl rfl ?_
      refine stm rfl rfl rfl ?_
      refine st0 (hop_extract rfl rfl) rfl rfl ?_
      refine st0 (hop_extract rfl rfl) rfl rfl ?_
      refine sta rfl rfl rfl ?_
      refine sta rfl rfl rfl ?_
      refine snl h6 ?_
      refine srg fun N h7 => ?_
      refine st1 (hol_load ty_80 rfl (nb rfl) (nb rfl) (fun h => (by cases h))) rfl rfl rfl ?_
      refine stm rfl rfl rfl ?_
      refine stm rfl rfl rfl ?_
      refine hm_s1 (hol_storeW ty_80 rfl rfl rfl rfl) rfl rfl (pre1 rfl) (c' := 4) rfl ?_
      refine sta rfl rfl rfl ?_
      refine sta rfl rfl rfl ?_
      refine snl h7 ?_
      refine hw_ret ?_
      refine hq_then_ret ?_
      refine hq_ret3 rfl (rvl_cell rfl rfl ty_80 (fun h => by first | rfl | cases h) rfl rfl) (rval_tmp rfl) (rval_tmp rfl) [] rfl pre0 ?_
      have e : countF s i = (⟨5, i, 0, 0, []⟩, wrongV s p) := (by unfold countF; rw [hn]); rw [e]; exact fz_t3 (fz_agg5 (by first | exact .imm _ | exact .nil _ _ _ (by decide) _ | exact fz_toks _ | exact fz_mkss _ | exact Frz.fz) (by first | exact .imm _ | exact .nil _ _ _ (by decide) _ | exact fz_toks _ | exact fz_mkss _ | exact Frz.fz) (by first | exact .imm _ | exact .nil _ _ _ (by decide) _ | exact fz_toks _ | exact fz_mkss _ | exact Frz.fz) (by first | exact .imm _ | exact .nil _ _ _ (by decide) _ | exact fz_toks _ | exact fz_mkss _ | exact Frz.fz) (by first | exact .imm _ | exact .nil _ _ _ (by decide) _ | exact fz_toks _ | exact fz_mkss _ | exact Frz.fz)) (.imm _) (.imm _)
    have hr0 := hc0; (try simp only [hcs, Int.reduceToNat] at hc0)
    exfalso; exact absurd hr0 (by simp)
  · skip
    refine hw_region ?_
    refine stm rfl rfl rfl ?_
    refine stm rfl rfl rfl ?_
    refine st0 (HOp.val (v' := intV ((i + 1 : Nat) : Int)) (hop_addi rfl rfl rfl (by omega) (by omega)) (rfl)) rfl rfl ?_
    refine st0 (hop_call0 (xs := [_, _]) (refNum hs hi hn) ⟨rfl, ⟨rfl, trivial⟩⟩ ⟨(Fz.eq rfl), ⟨(Fz.eq rfl), trivial⟩⟩) rfl rfl ?_
    refine stm rfl rfl rfl ?_
    refine st0 (HOp.val (v' := intV n) (hop_extract rfl rfl) (rfl)) rfl rfl ?_
    refine st0 (HOp.val (v' := intV p) (hop_extract rfl rfl) (rfl)) rfl rfl ?_
    refine sta rfl rfl rfl ?_
    refine sta rfl rfl rfl ?_
    refine snl h3 ?_
    refine hw_seq (fun Nh8 h8 => ?_)
    refine hw_seq (fun Nh9 h9 => ?_)
    have hnp := numL_le (by omega) hn
    refine hw_region ?_
    refine stm rfl rfl rfl ?_
    refine st0 (hop_lss rfl rfl) rfl rfl ?_
    refine snl h9 ?_
    refine hw_cond _ rfl (fun hc0 => ?_) (fun hc0 => ?_)
    · have hr0 := hc0; (try simp only [hcs, Int.reduceToNat] at hc0)
      exfalso; have := hnp.2.2 n rfl; omega
    have hr0 := hc0; (try simp only [hcs, Int.reduceToNat] at hc0)
    refine hw_skip ?_
    refine h8 _ ?_
    refine hw_seq (fun Nh10 h10 => ?_)
    refine srg fun N h11 => ?_
    refine stm rfl rfl rfl ?_
    refine st0 (hop_gtr rfl rfl) rfl rfl ?_
    refine stm rfl rfl rfl ?_
    refine stg 41 (fun hb => hop_move rfl) rfl rfl rfl rfl rfl ?_
    refine stg 41 (fun hb => hop_eql rfl rfl) rfl rfl rfl rfl rfl ?_
    refine stg 41 (fun hb => hop_move rfl) rfl rfl rfl rfl rfl ?_
    refine hq_g3 45 5 44 41 false true _ _ (fun hb hb2 => hop_move rfl) rfl rfl rfl rfl rfl pre0 rfl rfl rfl ?_
    refine hq_g3 46 5 44 41 false true _ _ (fun hb hb2 => hop_move rfl) rfl rfl rfl rfl rfl pre0 rfl rfl rfl ?_
    refine hq_g3 47 5 44 41 false true _ _ (fun hb hb2 => hop_len_strl (T := 9) rfl (by kernel_rfl) rfl) rfl rfl rfl rfl rfl pre0 rfl rfl rfl ?_
    refine hq_g3 48 5 44 41 false true _ _ (fun hb hb2 => hop_lss rfl rfl) rfl rfl rfl rfl rfl pre0 rfl rfl rfl ?_
    refine hq_pg 49 (hstep_andg (gi := 2) (j := 41) _ _ rfl rfl rfl rfl) rfl rfl rfl rfl ?_
    refine stg 41 (fun hb => hop_move rfl) rfl rfl rfl rfl rfl ?_
    refine hq_g3 51 11 50 41 false true _ _ (fun hb hb2 => hop_move rfl) rfl rfl rfl rfl rfl pre0 rfl rfl rfl ?_
    refine hq_g3 52 11 50 41 false true _ _ (fun hb hb2 => hop_move rfl) rfl rfl rfl rfl rfl pre0 rfl rfl rfl ?_
    refine hq_g3 53 11 50 41 false true _ _ (fun hb hb2 => hop_ix_strl (by kernel_rfl) rfl rfl (by simp at hb; omega) (by simp at hb; omega)) rfl rfl rfl rfl rfl pre0 rfl rfl rfl ?_
    refine hq_g3 54 11 50 41 false true _ _ (fun hb hb2 => hop_eql rfl rfl) rfl rfl rfl rfl rfl pre0 rfl rfl rfl ?_
    refine hq_pg 55 (hstep_andg (gi := 2) (j := 41) _ _ rfl rfl rfl rfl) rfl rfl rfl rfl ?_
    refine hq_p 56 (hstep_or _ _ rfl rfl rfl) rfl rfl rfl ?_
    refine hseq_nilU (by rfl) (by simp only [dropUn, slots]; exact rfl) ?_
    refine h11 _ ?_
    refine hw_cond _ rfl (fun hc1 => ?_) (fun hc1 => ?_)
    · have hr1 := hc1; (try simp only [hcs, Int.reduceToNat] at hc1)
      have h1 : 20 < n ∨ (n = 0 ∧ bz s p = 125) := (by have h := hr1; rw [Int.toNat_natCast, cnt_bad] at h; exact of_decide_eq_true h)
      refine srg fun N h12 => ?_
      refine st1 (hol_load ty_80 rfl (nb rfl) (nb rfl) (fun h => (by cases h))) rfl rfl rfl ?_
      refine stm rfl rfl rfl ?_
      refine st0 (hop_addi rfl rfl rfl (by omega) (by omega)) rfl rfl ?_
      refine hm_s1 (hol_storeW ty_80 rfl rfl rfl rfl) rfl rfl (pre1 rfl) (c' := 4) rfl ?_
      refine sta rfl rfl rfl ?_
      refine sta rfl rfl rfl ?_
      refine snl h12 ?_
      refine hw_ret ?_
      refine hq_then_ret ?_
      refine hq_ret3 rfl (rvl_cell rfl rfl ty_80 (fun h => by first | rfl | cases h) rfl rfl) (rval_tmp rfl) (rval_tmp rfl) [] rfl pre0 ?_
      have e : countF s i = (⟨5, i, 0, 0, []⟩, ((i + 1 : Nat) : Int), 3) := (by unfold countF; rw [hn]; simp only; rw [if_pos h1]); rw [e]; exact fz_t3 (fz_agg5 (by first | exact .imm _ | exact .nil _ _ _ (by decide) _ | exact fz_toks _ | exact fz_mkss _ | exact Frz.fz) (by first | exact .imm _ | exact .nil _ _ _ (by decide) _ | exact fz_toks _ | exact fz_mkss _ | exact Frz.fz) (by first | exact .imm _ | exact .nil _ _ _ (by decide) _ | exact fz_toks _ | exact fz_mkss _ | exact Frz.fz) (by first | exact .imm _ | exact .nil _ _ _ (by decide) _ | exact fz_toks _ | exact fz_mkss _ | exact Frz.fz) (by first | exact .imm _ | exact .nil _ _ _ (by decide) _ | exact fz_toks _ | exact fz_mkss _ | exact Frz.fz)) (.imm _) (.imm _)
    have hr1 := hc1; (try simp only [hcs, Int.reduceToNat] at hc1)
    have h1 : ¬ (20 < n ∨ (n = 0 ∧ bz s p = 125)) := (by have h := hr1; rw [Int.toNat_natCast, cnt_bad] at h; exact of_decide_eq_false h)
    refine hw_skip ?_
    refine h10 _ ?_
    refine srg fun N h13 => ?_
    refine stm rfl rfl rfl ?_
    refine st0 (hop_fa fd_80_2 rfl) rfl rfl ?_
    refine hm_s1 (hol_store ty_3 rfl rfl rfl rfl (nb rfl) (nb rfl) (nb rfl)) rfl rfl (pre1 rfl) (c' := 4) rfl ?_
    refine snl h13 ?_
    refine srg fun N h14 => ?_
    refine stm rfl rfl rfl ?_
    refine st0 (hop_fa fd_80_3 rfl) rfl rfl ?_
    refine hm_s1 (hol_store ty_3 rfl rfl rfl rfl (nb rfl) (nb rfl) (nb rfl)) rfl rfl (pre1 rfl) (c' := 5) rfl ?_
    refine snl h14 ?_
    refine hw_seq (fun Nh15 h15 => ?_)
    refine srg fun N h16 => ?_
    refine stm rfl rfl rfl ?_
    refine stm rfl rfl rfl ?_
    refine st0 (hop_len_strl (T := 9) rfl (by kernel_rfl) rfl) rfl rfl ?_
    refine st0 (hop_lss rfl rfl) rfl rfl ?_
    refine stm rfl rfl rfl ?_
    refine stg 68 (fun hb => hop_move rfl) rfl rfl rfl rfl rfl ?_
    refine stg 68 (fun hb => hop_move rfl) rfl rfl rfl rfl rfl ?_
    refine stg 68 (fun hb => hop_ix_strl (by kernel_rfl) rfl rfl (by (simp at hb; first | omega | (dsimp only; omega) | (simp <;> omega))) (by (simp at hb; first | omega | (dsimp only; omega) | (simp <;> omega)))) rfl rfl rfl rfl rfl ?_
    refine stg 68 (fun hb => hop_eql rfl rfl) rfl rfl rfl rfl rfl ?_
    refine hq_p 73 (hstep_and _ _ rfl rfl rfl) rfl rfl rfl ?_
    refine hseq_nilU (by rfl) (by simp only [dropUn, slots]; exact rfl) ?_
    refine h16 _ ?_
    refine hw_cond _ rfl (fun hc2 => ?_) (fun hc2 => ?_)
    · have hr2 := hc2; (try simp only [hcs, Int.reduceToNat] at hc2)
      have h2 : bz s p = 44 := (by have h := hr2; rw [Int.toNat_natCast, bz_eqb s p (by decide)] at h; exact of_decide_eq_true h); have hlt := bz_lt (s := s) (i := p) (by omega)
      refine srg fun N h17 => ?_
      refine stm rfl rfl rfl ?_
      refine st0 (HOp.val (v' := intV ((p + 1 : Nat) : Int)) (hop_addi rfl rfl rfl (by omega) (by omega)) (rfl)) rfl rfl ?_
      refine sta rfl rfl rfl ?_
      refine snl h17 ?_
      refine srg fun N h18 => ?_
      refine st0 (hop_fa fd_80_3 rfl) rfl rfl ?_
      refine hm_s1 (hol_store ty_3 rfl rfl rfl rfl (nb rfl) (nb rfl) (nb rfl)) rfl rfl (pre1 rfl) (c' := 6) rfl ?_
      refine snl h18 ?_
      refine srg fun N h19 => ?_
      refine stm rfl rfl rfl ?_
      refine sta rfl rfl rfl ?_
      refine snl h19 ?_
      refine srg fun N h20 => ?_
      refine stm rfl rfl rfl ?_
      refine stm rfl rfl rfl ?_
      refine st0 (hop_len_strl (T := 9) rfl (by kernel_rfl) rfl) rfl rfl ?_
      refine st0 (hop_geq rfl rfl) rfl rfl ?_
      refine stm rfl rfl rfl ?_
      refine stg 82 (fun hb => hop_move rfl) rfl rfl rfl rfl rfl ?_
      refine stg 82 (fun hb => hop_move rfl) rfl rfl rfl rfl rfl ?_
      refine stg 82 (fun hb => hop_ix_strl (by kernel_rfl) rfl rfl (by (simp at hb; first | omega | (dsimp only; omega) | (simp <;> omega))) (by (simp at hb; first | omega | (dsimp only; omega) | (simp <;> omega)))) rfl rfl rfl rfl rfl ?_
      refine stg 82 (fun hb => hop_neq rfl rfl) rfl rfl rfl rfl rfl ?_
      refine hq_p 87 (hstep_or _ _ rfl rfl rfl) rfl rfl rfl ?_
      refine hseq_nilU (by rfl) (by simp only [dropUn, slots]; exact rfl) ?_
      refine h20 _ ?_
      refine hw_cond _ rfl (fun hc3 => ?_) (fun hc3 => ?_)
      · have hr3 := hc3; (try simp only [hcs, Int.reduceToNat] at hc3)
        have h3 : ¬ bz s (p + 1) = 125 := (by have h := hr3; rw [Int.toNat_natCast, bz_neb s (p + 1) (by decide)] at h; simpa using h)
        refine hw_seq (fun Nh21 h21 => ?_)
        rcases hm : numL s (p + 1) with ⟨_ | m, q⟩
        · skip
          refine hw_region ?_
          refine stm rfl rfl rfl ?_
          refine stm rfl rfl rfl ?_
          refine st0 (hop_call0 (xs := [_, _]) (refNum hs hlt hm) ⟨rfl, ⟨rfl, trivial⟩⟩ ⟨(Fz.eq rfl), ⟨(Fz.eq rfl), trivial⟩⟩) rfl rfl ?_
          refine stm rfl rfl rfl ?_
          refine st0 (HOp.val (v' := intV (-1)) (hop_extract rfl rfl) (rfl)) rfl rfl ?_
          refine st0 (HOp.val (v' := intV q) (hop_extract rfl rfl) (rfl)) rfl rfl ?_
          refine sta rfl rfl rfl ?_
          refine sta rfl rfl rfl ?_
          refine snl h21 ?_
          refine hw_seq (fun Nh22 h22 => ?_)
          refine hw_seq (fun Nh23 h23 => ?_)
          have hmq := numL_le (by omega) hm
          refine hw_region ?_
          refine stm rfl rfl rfl ?_
          refine st0 (hop_lss rfl rfl) rfl rfl ?_
          refine snl h23 ?_
          refine hw_cond _ rfl (fun hc4 => ?_) (fun hc4 => ?_)
          · have hr4 := hc4; (try simp only [hcs, Int.reduceToNat] at hc4)
            refine srg fun N h24 => ?_
            refine stm rfl rfl rfl ?_
            refine stm rfl rfl rfl ?_
            refine st0 (hop_call0 (xs := [_, _]) (refWrong_h s q) ⟨rfl, ⟨rfl, trivial⟩⟩ ⟨(Fz.eq rfl), ⟨(Fz.eq rfl), trivial⟩⟩) rfl rfl ?_
            refine stm rfl rfl rfl ?_
            refine st0 (hop_extract rfl rfl) rfl rfl ?_
            refine st0 (hop_extract rfl rfl) rfl rfl ?_
            refine sta rfl rfl rfl ?_
            refine sta rfl rfl rfl ?_
            refine snl h24 ?_
            refine srg fun N h25 => ?_
            refine st1 (hol_load ty_80 rfl (nb rfl) (nb rfl) (fun h => (by cases h))) rfl rfl rfl ?_
            refine stm rfl rfl rfl ?_
            refine stm rfl rfl rfl ?_
            refine hm_s1 (hol_storeW ty_80 rfl rfl rfl rfl) rfl rfl (pre1 rfl) (c' := 7) rfl ?_
            refine sta rfl rfl rfl ?_
            refine sta rfl rfl rfl ?_
            refine snl h25 ?_
            refine hw_ret ?_
            refine hq_then_ret ?_
            refine hq_then_ret ?_
            refine hq_ret3 rfl (rvl_cell rfl rfl ty_80 (fun h => by first | rfl | cases h) rfl rfl) (rval_tmp rfl) (rval_tmp rfl) [] rfl pre0 ?_
            have e : countF s i = (⟨5, i, n, -1, []⟩, wrongV s q) := (by unfold countF; rw [hn]; simp only; rw [if_neg h1, if_pos h2, if_neg h3, hm]); rw [e]; exact fz_t3 (fz_agg5 (by first | exact .imm _ | exact .nil _ _ _ (by decide) _ | exact fz_toks _ | exact fz_mkss _ | exact Frz.fz) (by first | exact .imm _ | exact .nil _ _ _ (by decide) _ | exact fz_toks _ | exact fz_mkss _ | exact Frz.fz) (by first | exact .imm _ | exact .nil _ _ _ (by decide) _ | exact fz_toks _ | exact fz_mkss _ | exact Frz.fz) (by first | exact .imm _ | exact .nil _ _ _ (by decide) _ | exact fz_toks _ | exact fz_mkss _ | exact Frz.fz) (by first | exact .imm _ | exact .nil _ _ _ (by decide) _ | exact fz_toks _ | exact fz_mkss _ | exact Frz.fz)) (.imm _) (.imm _)
          have hr4 := hc4; (try simp only [hcs, Int.reduceToNat] at hc4)
          exfalso; exact absurd hr4 (by simp)
        · skip
          refine hw_region ?_
          refine stm rfl rfl rfl ?_
          refine stm rfl rfl rfl ?_
          refine st0 (hop_call0 (xs := [_, _]) (refNum hs hlt hm) ⟨rfl, ⟨rfl, trivial⟩⟩ ⟨(Fz.eq rfl), ⟨(Fz.eq rfl), trivial⟩⟩) rfl rfl ?_
          refine stm rfl rfl rfl ?_
          refine st0 (HOp.val (v' := intV m) (hop_extract rfl rfl) (rfl)) rfl rfl ?_
          refine st0 (HOp.val (v' := intV q) (hop_extract rfl rfl) (rfl)) rfl rfl ?_
          refine sta rfl rfl rfl ?_
          refine sta rfl rfl rfl ?_
          refine snl h21 ?_
          refine hw_seq (fun Nh26 h26 => ?_)
          refine hw_seq (fun Nh27 h27 => ?_)
          have hmq := numL_le (by omega) hm
          refine hw_region ?_
          refine stm rfl rfl rfl ?_
          refine st0 (hop_lss rfl rfl) rfl rfl ?_
          refine snl h27 ?_
          refine hw_cond _ rfl (fun hc4 => ?_) (fun hc4 => ?_)
          · have hr4 := hc4; (try simp only [hcs, Int.reduceToNat] at hc4)
            exfalso; have := hmq.2.2 m rfl; omega
          have hr4 := hc4; (try simp only [hcs, Int.reduceToNat] at hc4)
          refine hw_skip ?_
          refine h26 _ ?_
          refine hw_seq (fun Nh28 h28 => ?_)
          refine srg fun N h29 => ?_
          refine stm rfl rfl rfl ?_
          refine st0 (hop_lss rfl rfl) rfl rfl ?_
          refine stm rfl rfl rfl ?_
          refine stg 107 (fun hb => hop_move rfl) rfl rfl rfl rfl rfl ?_
          refine stg 107 (fun hb => hop_gtr rfl rfl) rfl rfl rfl rfl rfl ?_
          refine hq_p 110 (hstep_or _ _ rfl rfl rfl) rfl rfl rfl ?_
          refine stm rfl rfl rfl ?_
          refine stg 111 (fun hb => hop_move rfl) rfl rfl rfl rfl rfl ?_
          refine stg 111 (fun hb => hop_move rfl) rfl rfl rfl rfl rfl ?_
          refine stg 111 (fun hb => hop_lss rfl rfl) rfl rfl rfl rfl rfl ?_
          refine hq_p 115 (hstep_or _ _ rfl rfl rfl) rfl rfl rfl ?_
          refine hseq_nilU (by rfl) (by simp only [dropUn, slots]; exact rfl) ?_
          refine h29 _ ?_
          refine hw_cond _ rfl (fun hc5 => ?_) (fun hc5 => ?_)
          · have hr5 := hc5; (try simp only [hcs, Int.reduceToNat] at hc5)
            have h5 : m < 1 ∨ 20 < m ∨ m < n := (by have h := hr5; simp only [Bool.or_eq_true, decide_eq_true_eq] at h; omega)
            refine srg fun N h30 => ?_
            refine st1 (hol_load ty_80 rfl (nb rfl) (nb rfl) (fun h => (by cases h))) rfl rfl rfl ?_
            refine stm rfl rfl rfl ?_
            refine hm_s1 (hol_storeW ty_80 rfl rfl rfl rfl) rfl rfl (pre1 rfl) (c' := 7) rfl ?_
            refine sta rfl rfl rfl ?_
            refine sta rfl rfl rfl ?_
            refine snl h30 ?_
            refine hw_ret ?_
            refine hq_then_ret ?_
            refine hq_then_ret ?_
            refine hq_ret3 rfl (rvl_cell rfl rfl ty_80 (fun h => by first | rfl | cases h) rfl rfl) (rval_tmp rfl) (rval_tmp rfl) [] rfl pre0 ?_
            have e : countF s i = (⟨5, i, n, -1, []⟩, ((p + 1 : Nat) : Int), 3) := (by unfold countF; rw [hn]; simp only; rw [if_neg h1, if_pos h2, if_neg h3, hm]; simp only; rw [if_pos h5]); rw [e]; exact fz_t3 (fz_agg5 (by first | exact .imm _ | exact .nil _ _ _ (by decide) _ | exact fz_toks _ | exact fz_mkss _ | exact Frz.fz) (by first | exact .imm _ | exact .nil _ _ _ (by decide) _ | exact fz_toks _ | exact fz_mkss _ | exact Frz.fz) (by first | exact .imm _ | exact .nil _ _ _ (by decide) _ | exact fz_toks _ | exact fz_mkss _ | exact Frz.fz) (by first | exact .imm _ | exact .nil _ _ _ (by decide) _ | exact fz_toks _ | exact fz_mkss _ | exact Frz.fz) (by first | exact .imm _ | exact .nil _ _ _ (by decide) _ | exact fz_toks _ | exact fz_mkss _ | exact Frz.fz)) (.imm _) (.imm _)
          have hr5 := hc5; (try simp only [hcs, Int.reduceToNat] at hc5)
          have h5 : ¬ (m < 1 ∨ 20 < m ∨ m < n) := (by have h := hr5; simp only [Bool.or_eq_false_iff, decide_eq_false_iff_not] at h; omega)
          refine hw_skip ?_
          refine h28 _ ?_
          refine srg fun N h31 => ?_
          refine stm rfl rfl rfl ?_
          refine st0 (hop_fa fd_80_3 rfl) rfl rfl ?_
          refine hm_s1 (hol_store ty_3 rfl rfl rfl rfl (nb rfl) (nb rfl) (nb rfl)) rfl rfl (pre1 rfl) (c' := 7) rfl ?_
          refine snl h31 ?_
          refine hw_region ?_
          refine stm rfl rfl rfl ?_
          refine sta rfl rfl rfl ?_
          refine snl h15 ?_
          refine hw_seq (fun Nh32 h32 => ?_)
          refine srg fun N h33 => ?_
          refine stm rfl rfl rfl ?_
          refine stm rfl rfl rfl ?_
          refine st0 (hop_len_strl (T := 9) rfl (by kernel_rfl) rfl) rfl rfl ?_
          refine st0 (hop_geq rfl rfl) rfl rfl ?_
          refine stm rfl rfl rfl ?_
          refine stg 125 (fun hb => hop_move rfl) rfl rfl rfl rfl rfl ?_
          refine stg 125 (fun hb => hop_move rfl) rfl rfl rfl rfl rfl ?_
          refine stg 125 (fun hb => hop_ix_strl (by kernel_rfl) rfl rfl (by (simp at hb; first | omega | (dsimp only; omega) | (simp <;> omega))) (by (simp at hb; first | omega | (dsimp only; omega) | (simp <;> omega)))) rfl rfl rfl rfl rfl ?_
          refine stg 125 (fun hb => hop_neq rfl rfl) rfl rfl rfl rfl rfl ?_
          refine hq_p 130 (hstep_or _ _ rfl rfl rfl) rfl rfl rfl ?_
          refine hseq_nilU (by rfl) (by simp only [dropUn, slots]; exact rfl) ?_
          refine h33 _ ?_
          refine hw_cond _ rfl (fun hc6 => ?_) (fun hc6 => ?_)
          · have hr6 := hc6; (try simp only [hcs, Int.reduceToNat] at hc6)
            have h6 : ¬ bz s q = 125 := (by have h := hr6; rw [Int.toNat_natCast, bz_neb s q (by decide)] at h; simpa using h)
            refine srg fun N h34 => ?_
            refine stm rfl rfl rfl ?_
            refine stm rfl rfl rfl ?_
            refine st0 (hop_call0 (xs := [_, _]) (refWrong_h s q) ⟨rfl, ⟨rfl, trivial⟩⟩ ⟨(Fz.eq rfl), ⟨(Fz.eq rfl), trivial⟩⟩) rfl rfl ?_
            refine stm rfl rfl rfl ?_
            refine st0 (hop_extract rfl rfl) rfl rfl ?_
            refine st0 (hop_extract rfl rfl) rfl rfl ?_
            refine sta rfl rfl rfl ?_
            refine sta rfl rfl rfl ?_
            refine snl h34 ?_
            refine srg fun N h35 => ?_
            refine st1 (hol_load ty_80 rfl (nb rfl) (nb rfl) (fun h => (by cases h))) rfl rfl rfl ?_
            refine stm rfl rfl rfl ?_
            refine stm rfl rfl rfl ?_
            refine hm_s1 (hol_storeW ty_80 rfl rfl rfl rfl) rfl rfl (pre1 rfl) (c' := 8) rfl ?_
            refine sta rfl rfl rfl ?_
            refine sta rfl rfl rfl ?_
            refine snl h35 ?_
            refine hw_ret ?_
            refine hq_then_ret ?_
            refine hq_ret3 rfl (rvl_cell rfl rfl ty_80 (fun h => by first | rfl | cases h) rfl rfl) (rval_tmp rfl) (rval_tmp rfl) [] rfl pre0 ?_
            have e : countF s i = (⟨5, i, n, m, []⟩, wrongV s q) := (by unfold countF; rw [hn]; simp only; rw [if_neg h1, if_pos h2, if_neg h3, hm]; simp only; rw [if_neg h5, if_neg h6]); rw [e]; exact fz_t3 (fz_agg5 (by first | exact .imm _ | exact .nil _ _ _ (by decide) _ | exact fz_toks _ | exact fz_mkss _ | exact Frz.fz) (by first | exact .imm _ | exact .nil _ _ _ (by decide) _ | exact fz_toks _ | exact fz_mkss _ | exact Frz.fz) (by first | exact .imm _ | exact .nil _ _ _ (by decide) _ | exact fz_toks _ | exact fz_mkss _ | exact Frz.fz) (by first | exact .imm _ | exact .nil _ _ _ (by decide) _ | exact fz_toks _ | exact fz_mkss _ | exact Frz.fz) (by first | exact .imm _ | exact .nil _ _ _ (by decide) _ | exact fz_toks _ | exact fz_mkss _ | exact Frz.fz)) (.imm _) (.imm _)
          have hr6 := hc6; (try simp only [hcs, Int.reduceToNat] at hc6)
          have h6 : bz s q = 125 := (by have h := hr6; rw [Int.toNat_natCast, bz_neb s q (by decide)] at h; simpa using h)
          refine hw_skip ?_
          refine h32 _ ?_
          refine srg fun N h36 => ?_
          refine st1 (hol_load ty_80 rfl (nb rfl) (nb rfl) (fun h => (by cases h))) rfl rfl rfl ?_
          refine stm rfl rfl rfl ?_
          refine st0 (hop_addi rfl rfl rfl (by omega) (by omega)) rfl rfl ?_
          refine hm_s1 (hol_storeW ty_80 rfl rfl rfl rfl) rfl rfl (pre1 rfl) (c' := 8) rfl ?_
          refine sta rfl rfl rfl ?_
          refine sta rfl rfl rfl ?_
          refine snl h36 ?_
          refine hw_ret ?_
          refine hq_ret3 rfl (rvl_cell rfl rfl ty_80 (fun h => by first | rfl | cases h) rfl rfl) (rval_tmp rfl) (rval_tmp rfl) [] rfl pre0 ?_
          have e : countF s i = (⟨5, i, n, m, []⟩, ((q + 1 : Nat) : Int), 0) := (by unfold countF; rw [hn]; simp only; rw [if_neg h1, if_pos h2, if_neg h3, hm]; simp only; rw [if_neg h5, if_pos h6]); rw [e]; exact fz_t3 (fz_agg5 (by first | exact .imm _ | exact .nil _ _ _ (by decide) _ | exact fz_toks _ | exact fz_mkss _ | exact Frz.fz) (by first | exact .imm _ | exact .nil _ _ _ (by decide) _ | exact fz_toks _ | exact fz_mkss _ | exact Frz.fz) (by first | exact .imm _ | exact .nil _ _ _ (by decide) _ | exact fz_toks _ | exact fz_mkss _ | exact Frz.fz) (by first | exact .imm _ | exact .nil _ _ _ (by decide) _ | exact fz_toks _ | exact fz_mkss _ | exact Frz.fz) (by first | exact .imm _ | exact .nil _ _ _ (by decide) _ | exact fz_toks _ | exact fz_mkss _ | exact Frz.fz)) (.imm _) (.imm _)
      have hr3 := hc3; (try simp only [hcs, Int.reduceToNat] at hc3)
      have h3 : bz s (p + 1) = 125 := (by have h := hr3; rw [Int.toNat_natCast, bz_neb s (p + 1) (by decide)] at h; simpa using h)
      refine hw_skip ?_
      refine h15 _ ?_
      refine hw_seq (fun Nh37 h37 => ?_)
      refine srg fun N h38 => ?_
      refine stm rfl rfl rfl ?_
      refine stm rfl rfl rfl ?_
      refine st0 (hop_len_strl (T := 9) rfl (by kernel_rfl) rfl) rfl rfl ?_
      refine st0 (hop_geq rfl rfl) rfl rfl ?_
      refine stm rfl rfl rfl ?_
      refine stg 125 (fun hb => hop_move rfl) rfl rfl rfl rfl rfl ?_
      refine stg 125 (fun hb => hop_move rfl) rfl rfl rfl rfl rfl ?_
      refine stg 125 (fun hb => hop_ix_strl (by kernel_rfl) rfl rfl (by (simp at hb; first | omega | (dsimp only; omega) | (simp <;> omega))) (by (simp at hb; first | omega | (dsimp only; omega) | (simp <;> omega)))) rfl rfl rfl rfl rfl ?_
      refine stg 125 (fun hb => hop_neq rfl rfl) rfl rfl rfl rfl rfl ?_
      refine hq_p 130 (hstep_or _ _ rfl rfl rfl) rfl rfl rfl ?_
      refine hseq_nilU (by rfl) (by simp only [dropUn, slots]; exact rfl) ?_
      refine h38 _ ?_
      refine hw_cond _ rfl (fun hc6 => ?_) (fun hc6 => ?_)
      · have hr6 := hc6; (try simp only [hcs, Int.reduceToNat] at hc6)
        exfalso; have h := hr6; rw [Int.toNat_natCast, bz_neb s (p + 1) (by decide), h3] at h; exact absurd h (by decide)
      have hr6 := hc6; (try simp only [hcs, Int.reduceToNat] at hc6)
      refine hw_skip ?_
      refine h37 _ ?_
      refine srg fun N h39 => ?_
      refine st1 (hol_load ty_80 rfl (nb rfl) (nb rfl) (fun h => (by cases h))) rfl rfl rfl ?_
      refine stm rfl rfl rfl ?_
      refine st0 (hop_addi rfl rfl rfl (by omega) (by omega)) rfl rfl ?_
      refine hm_s1 (hol_storeW ty_80 rfl rfl rfl rfl) rfl rfl (pre1 rfl) (c' := 7) rfl ?_
      refine sta rfl rfl rfl ?_
      refine sta rfl rfl rfl ?_
      refine snl h39 ?_
      refine hw_ret ?_
      refine hq_ret3 rfl (rvl_cell rfl rfl ty_80 (fun h => by first | rfl | cases h) rfl rfl) (rval_tmp rfl) (rval_tmp rfl) [] rfl pre0 ?_
      have e : countF s i = (⟨5, i, n, -1, []⟩, ((p + 2 : Nat) : Int), 0) := (by unfold countF; rw [hn]; simp only; rw [if_neg h1, if_pos h2, if_pos h3]); rw [e]; exact fz_t3 (fz_agg5 (by first | exact .imm _ | exact .nil _ _ _ (by decide) _ | exact fz_toks _ | exact fz_mkss _ | exact Frz.fz) (by first | exact .imm _ | exact .nil _ _ _ (by decide) _ | exact fz_toks _ | exact fz_mkss _ | exact Frz.fz) (by first | exact .imm _ | exact .nil _ _ _ (by decide) _ | exact fz_toks _ | exact fz_mkss _ | exact Frz.fz) (by first | exact .imm _ | exact .nil _ _ _ (by decide) _ | exact fz_toks _ | exact fz_mkss _ | exact Frz.fz) (by first | exact .imm _ | exact .nil _ _ _ (by decide) _ | exact fz_toks _ | exact fz_mkss _ | exact Frz.fz)) (fz_int (by show ((p + 1 : Nat) : Int) + 1 = ((p + 2 : Nat) : Int); omega)) (.imm _)
    have hr2 := hc2; (try simp only [hcs, Int.reduceToNat] at hc2)
    have h2 : ¬ bz s p = 44 := (by have h := hr2; rw [Int.toNat_natCast, bz_eqb s p (by decide)] at h; exact of_decide_eq_false h)
    refine hw_skip ?_
    refine h15 _ ?_
    refine hw_seq (fun Nh40 h40 => ?_)
    refine srg fun N h41 => ?_
    refine stm rfl rfl rfl ?_
    refine stm rfl rfl rfl ?_
    refine st0 (hop_len_strl (T := 9) rfl (by kernel_rfl) rfl) rfl rfl ?_
    refine st0 (hop_geq rfl rfl) rfl rfl ?_
    refine stm rfl rfl rfl ?_
    refine stg 125 (fun hb => hop_move rfl) rfl rfl rfl rfl rfl ?_
    refine stg 125 (fun hb => hop_move rfl) rfl rfl rfl rfl rfl ?_
    refine stg 125 (fun hb => hop_ix_strl (by kernel_rfl) rfl rfl (by (simp at hb; first | omega | (dsimp only; omega) | (simp <;> omega))) (by (simp at hb; first | omega | (dsimp only; omega) | (simp <;> omega)))) rfl rfl rfl rfl rfl ?_
    refine stg 125 (fun hb => hop_neq rfl rfl) rfl rfl rfl rfl rfl ?_
    refine hq_p 130 (hstep_or _ _ rfl rfl rfl) rfl rfl rfl ?_
    refine hseq_nilU (by rfl) (by simp only [dropUn, slots]; exact rfl) ?_
    refine h41 _ ?_
    refine hw_cond _ rfl (fun hc6 => ?_) (fun hc6 => ?_)
    · have hr6 := hc6; (try simp only [hcs, Int.reduceToNat] at hc6)
      have h6 : ¬ bz s p = 125 := (by have h := hr6; rw [Int.toNat_natCast, bz_neb s p (by decide)] at h; simpa using h)
      refine srg fun N h42 => ?_
      refine stm rfl rfl rfl ?_
      refine stm rfl rfl rfl ?_
      refine st0 (hop_call0 (xs := [_, _]) (refWrong_h s p) ⟨rfl, ⟨rfl, trivial⟩⟩ ⟨(Fz.eq rfl), ⟨(Fz.eq rfl), trivial⟩⟩) rfl rfl ?_
      refine stm rfl rfl rfl ?_
      refine st0 (hop_extract rfl rfl) rfl rfl ?_
      refine st0 (hop_extract rfl rfl) rfl rfl ?_
      refine sta rfl rfl rfl ?_
      refine sta rfl rfl rfl ?_
      refine snl h42 ?_
      refine srg fun N h43 => ?_
      refine st1 (hol_load ty_80 rfl (nb rfl) (nb rfl) (fun h => (by cases h))) rfl rfl rfl ?_
      refine stm rfl rfl rfl ?_
      refine stm rfl rfl rfl ?_
      refine hm_s1 (hol_storeW ty_80 rfl rfl rfl rfl) rfl rfl (pre1 rfl) (c' := 6) rfl ?_
      refine sta rfl rfl rfl ?_
      refine sta rfl rfl rfl ?_
      refine snl h43 ?_
      refine hw_ret ?_
      refine hq_then_ret ?_
      refine hq_ret3 rfl (rvl_cell rfl rfl ty_80 (fun h => by first | rfl | cases h) rfl rfl) (rval_tmp rfl) (rval_tmp rfl) [] rfl pre0 ?_
      have e : countF s i = (⟨5, i, n, n, []⟩, wrongV s p) := (by unfold countF; rw [hn]; simp only; rw [if_neg h1, if_neg h2, if_neg h6]); rw [e]; exact fz_t3 (fz_agg5 (by first | exact .imm _ | exact .nil _ _ _ (by decide) _ | exact fz_toks _ | exact fz_mkss _ | exact Frz.fz) (by first | exact .imm _ | exact .nil _ _ _ (by decide) _ | exact fz_toks _ | exact fz_mkss _ | exact Frz.fz) (by first | exact .imm _ | exact .nil _ _ _ (by decide) _ | exact fz_toks _ | exact fz_mkss _ | exact Frz.fz) (by first | exact .imm _ | exact .nil _ _ _ (by decide) _ | exact fz_toks _ | exact fz_mkss _ | exact Frz.fz) (by first | exact .imm _ | exact .nil _ _ _ (by decide) _ | exact fz_toks _ | exact fz_mkss _ | exact Frz.fz)) (.imm _) (.imm _)
    have hr6 := hc6; (try simp only [hcs, Int.reduceToNat] at hc6)
    have h6 : bz s p = 125 := (by have h := hr6; rw [Int.toNat_natCast, bz_neb s p (by decide)] at h; simpa using h)
    refine hw_skip ?_
    refine h40 _ ?_
    refine srg fun N h44 => ?_
    refine st1 (hol_load ty_80 rfl (nb rfl) (nb rfl) (fun h => (by cases h))) rfl rfl rfl ?_
    refine stm rfl rfl rfl ?_
    refine st0 (hop_addi rfl rfl rfl (by omega) (by omega)) rfl rfl ?_
    refine hm_s1 (hol_storeW ty_80 rfl rfl rfl rfl) rfl rfl (pre1 rfl) (c' := 6) rfl ?_
    refine sta rfl rfl rfl ?_
    refine sta rfl rfl rfl ?_
    refine snl h44 ?_
    refine hw_ret ?_
    refine hq_ret3 rfl (rvl_cell rfl rfl ty_80 (fun h => by first | rfl | cases h) rfl rfl) (rval_tmp rfl) (rval_tmp rfl) [] rfl pre0 ?_
    have e : countF s i = (⟨5, i, n, n, []⟩, ((p + 1 : Nat) : Int), 0) := (by unfold countF; rw [hn]; simp only; rw [if_neg h1, if_neg h2, if_pos h6]); rw [e]; exact fz_t3 (fz_agg5 (by first | exact .imm _ | exact .nil _ _ _ (by decide) _ | exact fz_toks _ | exact fz_mkss _ | exact Frz.fz) (by first | exact .imm _ | exact .nil _ _ _ (by decide) _ | exact fz_toks _ | exact fz_mkss _ | exact Frz.fz) (by first | exact .imm _ | exact .nil _ _ _ (by decide) _ | exact fz_toks _ | exact fz_mkss _ | exact Frz.fz) (by first | exact .imm _ | exact .nil _ _ _ (by decide) _ | exact fz_toks _ | exact fz_mkss _ | exact Frz.fz) (by first | exact .imm _ | exact .nil _ _ _ (by decide) _ | exact fz_toks _ | exact fz_mkss _ | exact Frz.fz)) (.imm _) (.imm _)
end Go.Proofs.YtmcchhmgchgaaaaDoor

namespace Go.Proofs.YtmcchhmgchgaaaaDoor
set_option linter.unusedSimpArgs false
set_option linter.unusedVariables false
set_option maxRecDepth 100000
open Go.RowKit

theorem refBegins_h (x : Int) : HPure Tryd.prog 66 [.imm (.int .u8 x)] (boolV (beginZ x)) := by
  refine hpure_of Tryd.func66 rfl (by kernel_rfl) _ _ _ rfl 33 rfl rfl (fun w F => ?_)
  refine srg fun N h1 => ?_
  refine sta rfl rfl rfl ?_
  refine snl h1 ?_
  refine srg fun N h2 => ?_
  refine stm rfl rfl rfl ?_
  refine st0 (hop_call0 (xs := [_]) (refSmall_h _) ⟨rfl, trivial⟩ ⟨(Fz.eq rfl), trivial⟩) rfl rfl ?_
  refine stm rfl rfl rfl ?_
  refine stg 5 (fun hb => hop_move rfl) rfl rfl rfl rfl rfl ?_
  refine stg 5 (fun hb => hop_eql rfl rfl) rfl rfl rfl rfl rfl ?_
  refine hq_p 8 (hstep_or _ _ rfl rfl rfl) rfl rfl rfl ?_
  refine stm rfl rfl rfl ?_
  refine stg 9 (fun hb => hop_move rfl) rfl rfl rfl rfl rfl ?_
  refine stg 9 (fun hb => hop_eql rfl rfl) rfl rfl rfl rfl rfl ?_
  refine hq_p 12 (hstep_or _ _ rfl rfl rfl) rfl rfl rfl ?_
  refine stm rfl rfl rfl ?_
  refine stg 13 (fun hb => hop_move rfl) rfl rfl rfl rfl rfl ?_
  refine stg 13 (fun hb => hop_eql rfl rfl) rfl rfl rfl rfl rfl ?_
  refine hq_p 16 (hstep_or _ _ rfl rfl rfl) rfl rfl rfl ?_
  refine stm rfl rfl rfl ?_
  refine stg 17 (fun hb => hop_move rfl) rfl rfl rfl rfl rfl ?_
  refine stg 17 (fun hb => hop_eql rfl rfl) rfl rfl rfl rfl rfl ?_
  refine hq_p 20 (hstep_or _ _ rfl rfl rfl) rfl rfl rfl ?_
  refine stm rfl rfl rfl ?_
  refine stg 21 (fun hb => hop_move rfl) rfl rfl rfl rfl rfl ?_
  refine stg 21 (fun hb => hop_eql rfl rfl) rfl rfl rfl rfl rfl ?_
  refine hq_p 24 (hstep_or _ _ rfl rfl rfl) rfl rfl rfl ?_
  refine stm rfl rfl rfl ?_
  refine stg 25 (fun hb => hop_move rfl) rfl rfl rfl rfl rfl ?_
  refine stg 25 (fun hb => hop_eql rfl rfl) rfl rfl rfl rfl rfl ?_
  refine hq_p 28 (hstep_or _ _ rfl rfl rfl) rfl rfl rfl ?_
  refine stm rfl rfl rfl ?_
  refine stg 29 (fun hb => hop_move rfl) rfl rfl rfl rfl rfl ?_
  refine stg 29 (fun hb => hop_eql rfl rfl) rfl rfl rfl rfl rfl ?_
  refine hq_p 32 (hstep_or _ _ rfl rfl rfl) rfl rfl rfl ?_
  refine sta rfl rfl rfl ?_
  refine hseq_nilU (by rfl) (by simp only [dropUn, slots]; exact rfl) ?_
  refine h2 _ ?_
  refine hw_ret ?_
  refine hq_ret1 rfl (rval_tmp rfl) [] rfl pre0 ?_
  exact Frz.fz
theorem refOne_h (s : List UInt8) (i : Nat) (hs : s.length ≤ 1000000) (hi : i < s.length) : HPure Tryd.prog 67 [strV s, intV i] (oneH (oneF s i)) := by
  refine hpure_of Tryd.func67 rfl (by kernel_rfl) _ _ _ rfl 93 rfl rfl (fun w F => ?_)
  refine srg fun N h1 => ?_
  refine hm_1 4 (hop_alloc (id := 4) (sz := 5) zc_80 rfl rfl (nb rfl) (nb rfl)) rfl rfl pre0 rfl rfl (c' := 1) rfl ?_
  refine sta rfl rfl rfl ?_
  refine sta rfl rfl rfl ?_
  refine snl h1 ?_
  refine srg fun N h2 => ?_
  refine stm rfl rfl rfl ?_
  refine stm rfl rfl rfl ?_
  refine st0 (HOp.val (v' := .imm (.int .u8 (bz s i))) (hop_ix_strl (by kernel_rfl) rfl rfl (by omega) (by omega)) (by rw [bz_in hi, Int.toNat_natCast])) rfl rfl ?_
  refine sta rfl rfl rfl ?_
  refine snl h2 ?_
  refine hw_seq (fun Nh3 h3 => ?_)
  refine srg fun N h4 => ?_
  refine stm rfl rfl rfl ?_
  refine st0 (hop_call0 (xs := [_]) (refSmall_h _) ⟨rfl, trivial⟩ ⟨(Fz.eq rfl), trivial⟩) rfl rfl ?_
  refine snl h4 ?_
  refine hw_cond _ rfl (fun hc0 => ?_) (fun hc0 => ?_)
  · have hr0 := hc0; (try simp only [hcs, Int.reduceToNat] at hc0)
    refine srg fun N h5 => ?_
    refine stm rfl rfl rfl ?_
    refine sta rfl rfl rfl ?_
    refine snl h5 ?_
    refine hw_seq (fun Nh6 h6 => ?_)
    refine hw_block ?_
    refine hw_loopc (α := Nat) (fun x c => ⟨93, [(0, .v (strV s)), (1, .v (intV i)), (4, .v (.pt 4 0 0 0)), (8, .v (intV ((i + x : Nat) : Int)))], [(4, ⟨0, 1, 5, 80, 0, sg0⟩)], c⟩) (fun x => x ≤ 12 ∧ i + x ≤ s.length ∧ (∀ j, j < x → alnumZ (bz s (i + j)) = true)) (fun x => 12 - x) (0) (by exact ⟨by omega, by omega, fun j h => absurd h (by omega)⟩) (hsub_of rfl (Nat.le_refl _) (TmSub.cons rfl (Sb.refl _) (TmSub.cons rfl (Sb.refl _) (TmSub.cons rfl (Sb.refl _) (TmSub.cons rfl (Sb.refl _) TmSub.nil)))) (HpSub.cons rfl (OSub.refl _) HpSub.nil)) (fun k c hx NhL7 hL7 => ?_)
    (try dsimp only at hx hL7 ⊢)
    obtain ⟨hk, hik, hal⟩ := hx
    refine hw_seq (fun Nh8 h8 => ?_)
    refine srg fun N h9 => ?_
    refine stm rfl rfl rfl ?_
    refine stm rfl rfl rfl ?_
    refine st0 (hop_len_strl (T := 9) rfl (by kernel_rfl) rfl) rfl rfl ?_
    refine st0 (hop_lss rfl rfl) rfl rfl ?_
    refine stm rfl rfl rfl ?_
    refine stg 19 (fun hb => hop_move rfl) rfl rfl rfl rfl rfl ?_
    refine stg 19 (fun hb => hop_move rfl) rfl rfl rfl rfl rfl ?_
    refine stg 19 (fun hb => hop_ix_strl (by kernel_rfl) rfl rfl (by (simp at hb; first | omega | (dsimp only; omega) | (simp <;> omega))) (by (simp at hb; first | omega | (dsimp only; omega) | (simp <;> omega)))) rfl rfl rfl rfl rfl ?_
    refine stg 19 (fun hb => hop_call0 (xs := [_]) (refSmall_h _) ⟨rfl, trivial⟩ ⟨(Fz.eq rfl), trivial⟩) rfl rfl rfl rfl rfl ?_
    refine stg 19 (fun hb => hop_move rfl) rfl rfl rfl rfl rfl ?_
    refine hq_g3 25 9 24 19 true false _ _ (fun hb hb2 => hop_move rfl) rfl rfl rfl rfl rfl pre0 rfl rfl rfl ?_
    refine hq_g3 26 9 24 19 true false _ _ (fun hb hb2 => hop_move rfl) rfl rfl rfl rfl rfl pre0 rfl rfl rfl ?_
    refine hq_g3 27 9 24 19 true false _ _ (fun hb hb2 => hop_ix_strl (by kernel_rfl) rfl rfl (by simp at hb; omega) (by simp at hb2; omega)) rfl rfl rfl rfl rfl pre0 rfl rfl rfl ?_
    refine hq_g3 28 9 24 19 true false _ _ (fun hb hb2 => hop_call0 (xs := [_]) (refDigit_h _) ⟨rfl, trivial⟩ ⟨(Fz.eq rfl), trivial⟩) rfl rfl rfl rfl rfl pre0 rfl rfl rfl ?_
    refine hq_pg 29 (hstep_org (gi := 4) (j := 19) _ _ rfl rfl rfl rfl) rfl rfl rfl rfl ?_
    refine hq_p 30 (hstep_and _ _ rfl rfl rfl) rfl rfl rfl ?_
    refine hseq_nilU (by rfl) (by simp only [dropUn, slots]; exact rfl) ?_
    refine h9 _ ?_
    refine hw_cond _ rfl (fun hc1 => ?_) (fun hc1 => ?_)
    · have hr1 := hc1; (try simp only [hcs, Int.reduceToNat] at hc1)
      have hall : alnumZ (bz s (i + k)) = true := (by have h := hr1; rw [Int.toNat_natCast, bz_alnum] at h; exact h); have hlt : i + k < s.length := bz_lt (fun h => by rw [h] at hall; exact absurd hall (by decide))
      refine hw_skip ?_
      refine h8 _ ?_
      refine hw_block ?_
      refine hw_seq (fun Nh10 h10 => ?_)
      refine srg fun N h11 => ?_
      refine stm rfl rfl rfl ?_
      refine stm rfl rfl rfl ?_
      refine st0 (hop_subi rfl rfl rfl (by omega) (by omega)) rfl rfl ?_
      refine st0 (hop_eql rfl rfl) rfl rfl ?_
      refine snl h11 ?_
      refine hw_cond _ rfl (fun hc2 => ?_) (fun hc2 => ?_)
      · have hr2 := hc2; (try simp only [hcs, Int.reduceToNat] at hc2)
        refine srg fun N h12 => ?_
        refine st0 (hop_build (hs := []) st_80 rfl rfl trivial) rfl rfl ?_
        refine stm rfl rfl rfl ?_
        refine hm_s1 (hol_storeW ty_80 rfl rfl rfl rfl) rfl rfl (pre1 rfl) (c' := c + 1) rfl ?_
        refine sta rfl rfl rfl ?_
        refine sta rfl rfl rfl ?_
        refine snl h12 ?_
        refine hw_ret ?_
        refine hq_then_ret ?_
        refine hq_block_ret ?_
        refine hq_then_ret ?_
        refine hq_block_ret ?_
        refine hq_then_ret ?_
        refine hq_then_ret ?_
        refine hq_ret3 rfl (rvl_cell rfl rfl ty_80 (fun h => by first | rfl | cases h) rfl rfl) (rval_tmp rfl) (rval_tmp rfl) [] rfl pre0 ?_
        obtain rfl : k = 12 := (by omega); have e : oneF s i = (sgZ, ((i + 12 : Nat) : Int), 2) := (by unfold oneF; rw [if_pos hc0]; unfold nameF; rw [if_pos (run_eq (Nat.le_refl _) (fun j hj => by rcases Nat.lt_or_ge j 12 with h | h; exact hal j h; obtain rfl : j = 12 := (by omega); exact hall) (fun h => absurd h (by omega)))]); rw [e]; exact fz_t3 (fz_agg5 (by first | exact .imm _ | exact .nil _ _ _ (by decide) _ | exact fz_toks _ | exact fz_mkss _ | exact Frz.fz) (by first | exact .imm _ | exact .nil _ _ _ (by decide) _ | exact fz_toks _ | exact fz_mkss _ | exact Frz.fz) (by first | exact .imm _ | exact .nil _ _ _ (by decide) _ | exact fz_toks _ | exact fz_mkss _ | exact Frz.fz) (by first | exact .imm _ | exact .nil _ _ _ (by decide) _ | exact fz_toks _ | exact fz_mkss _ | exact Frz.fz) (by first | exact .imm _ | exact .nil _ _ _ (by decide) _ | exact fz_toks _ | exact fz_mkss _ | exact Frz.fz)) (.imm _) (.imm _)
      have hr2 := hc2; (try simp only [hcs, Int.reduceToNat] at hc2)
      refine hw_skip ?_
      refine h10 _ ?_
      refine hw_region ?_
      refine stm rfl rfl rfl ?_
      refine st0 (HOp.val (v' := intV ((i + (k + 1) : Nat) : Int)) (hop_addi rfl rfl rfl (by omega) (by omega)) (rfl)) rfl rfl ?_
      refine sta rfl rfl rfl ?_
      refine hseq_nil ?_
      refine hq_block ?_
      exact hL7 (k + 1) _ _ (by (try dsimp only); exact ⟨by omega, by omega, fun j hj => by rcases Nat.lt_or_ge j k with h | h; exact hal j h; obtain rfl : j = k := (by omega); exact hall⟩) (by (try dsimp only); omega) (hsub_of rfl (Nat.le_refl _) (TmSub.cons rfl (Sb.refl _) (TmSub.cons rfl (Sb.refl _) (TmSub.cons rfl (Sb.refl _) (TmSub.cons rfl (Sb.refl _) TmSub.nil)))) (HpSub.cons rfl (OSub.refl _) HpSub.nil))
    have hr1 := hc1; (try simp only [hcs, Int.reduceToNat] at hc1)
    have hno : alnumZ (bz s (i + k)) = false := (by have h := hr1; rw [Int.toNat_natCast, bz_alnum] at h; exact h)
    refine hw_exit ?_
    refine hq_then_exit ?_
    refine hq_then_exit ?_
    refine hq_block_here ?_
    refine h6 _ ?_
    refine srg fun N h13 => ?_
    refine stm rfl rfl rfl ?_
    refine stm rfl rfl rfl ?_
    refine stm rfl rfl rfl ?_
    refine stm rfl rfl rfl ?_
    refine st0 (hop_cut_strl (by kernel_rfl) rfl (.inr ⟨_, _, rfl, rfl⟩) (.inr ⟨_, _, rfl, rfl⟩) (by omega) (by omega) (by omega)) rfl rfl ?_
    refine st0 (hop_build (hs := [(0, 1, _), (1, 1, _), (4, 1, _)]) st_80 rfl rfl ⟨rfl, rfl, rfl, rfl, rfl, ⟨rfl, rfl, rfl, rfl, rfl, ⟨rfl, rfl, rfl, rfl, rfl, trivial⟩⟩⟩) rfl rfl ?_
    refine stm rfl rfl rfl ?_
    refine hm_s1 (hol_storeW ty_80 rfl rfl rfl rfl) rfl rfl (pre1 rfl) (c' := c + 1) rfl ?_
    refine sta rfl rfl rfl ?_
    refine sta rfl rfl rfl ?_
    refine snl h13 ?_
    refine hw_ret ?_
    refine hq_then_ret ?_
    refine hq_ret3 rfl (rvl_cell rfl rfl ty_80 (fun h => by first | rfl | cases h) rfl rfl) (rval_tmp rfl) (rval_tmp rfl) [] rfl pre0 ?_
    have e : oneF s i = (⟨1, i, 0, 0, (s.drop i).take (i + k - i)⟩, ((i + k : Nat) : Int), 0) := (by unfold oneF; rw [if_pos hc0]; unfold nameF; rw [run_eq (f := 13) (show k ≤ 13 by omega) hal (fun _ => hno), if_neg (show ¬ k = 13 by omega), show i + k - i = k by omega]); rw [e]; exact fz_t3 (fz_agg5 (by first | exact .imm _ | exact .nil _ _ _ (by decide) _ | exact fz_toks _ | exact fz_mkss _ | exact Frz.fz) (by first | exact .imm _ | exact .nil _ _ _ (by decide) _ | exact fz_toks _ | exact fz_mkss _ | exact Frz.fz) (by first | exact .imm _ | exact .nil _ _ _ (by decide) _ | exact fz_toks _ | exact fz_mkss _ | exact Frz.fz) (by first | exact .imm _ | exact .nil _ _ _ (by decide) _ | exact fz_toks _ | exact fz_mkss _ | exact Frz.fz) (by first | exact .imm _ | exact .nil _ _ _ (by decide) _ | exact fz_toks _ | exact fz_mkss _ | exact Frz.fz)) (.imm _) (.imm _)
  have hr0 := hc0; (try simp only [hcs, Int.reduceToNat] at hc0)
  have h0 : ¬ smallZ (bz s i) = true := (by rw [hc0]; decide)
  refine hw_skip ?_
  refine h3 _ ?_
  refine hw_seq (fun Nh14 h14 => ?_)
  refine srg fun N h15 => ?_
  refine stm rfl rfl rfl ?_
  refine snl h15 ?_
  refine hw_block ?_
  refine srg fun N h16 => ?_
  refine st0 (hop_eql rfl rfl) rfl rfl ?_
  refine sta rfl rfl rfl ?_
  refine snl h16 ?_
  refine hw_cond _ rfl (fun hc3 => ?_) (fun hc3 => ?_)
  · have hr3 := hc3; (try simp only [hcs, Int.reduceToNat] at hc3)
    refine srg fun N h17 => ?_
    refine stm rfl rfl rfl ?_
    refine st0 (hop_build (hs := [(0, 1, _), (1, 1, _)]) st_80 rfl rfl ⟨rfl, rfl, rfl, rfl, rfl, ⟨rfl, rfl, rfl, rfl, rfl, trivial⟩⟩) rfl rfl ?_
    refine stm rfl rfl rfl ?_
    refine st0 (hop_addi rfl rfl rfl (by omega) (by omega)) rfl rfl ?_
    refine hm_s1 (hol_storeW ty_80 rfl rfl rfl rfl) rfl rfl (pre1 rfl) (c' := 2) rfl ?_
    refine sta rfl rfl rfl ?_
    refine sta rfl rfl rfl ?_
    refine snl h17 ?_
    refine hw_ret ?_
    refine hq_block_ret ?_
    refine hq_then_ret ?_
    refine hq_ret3 rfl (rvl_cell rfl rfl ty_80 (fun h => by first | rfl | cases h) rfl rfl) (rval_tmp rfl) (rval_tmp rfl) [] rfl pre0 ?_
    have e : oneF s i = (⟨2, i, 0, 0, []⟩, ((i + 1 : Nat) : Int), 0) := (by unfold oneF; rw [if_neg h0, if_pos hc3]); rw [e]; exact fz_t3 (fz_agg5 (by first | exact .imm _ | exact .nil _ _ _ (by decide) _ | exact fz_toks _ | exact fz_mkss _ | exact Frz.fz) (by first | exact .imm _ | exact .nil _ _ _ (by decide) _ | exact fz_toks _ | exact fz_mkss _ | exact Frz.fz) (by first | exact .imm _ | exact .nil _ _ _ (by decide) _ | exact fz_toks _ | exact fz_mkss _ | exact Frz.fz) (by first | exact .imm _ | exact .nil _ _ _ (by decide) _ | exact fz_toks _ | exact fz_mkss _ | exact Frz.fz) (by first | exact .imm _ | exact .nil _ _ _ (by decide) _ | exact fz_toks _ | exact fz_mkss _ | exact Frz.fz)) (.imm _) (.imm _)
  have hr3 := hc3; (try simp only [hcs, Int.reduceToNat] at hc3)
  refine srg fun N h18 => ?_
  refine st0 (hop_eql rfl rfl) rfl rfl ?_
  refine sta rfl rfl rfl ?_
  refine snl h18 ?_
  refine hw_cond _ rfl (fun hc4 => ?_) (fun hc4 => ?_)
  · have hr4 := hc4; (try simp only [hcs, Int.reduceToNat] at hc4)
    refine srg fun N h19 => ?_
    refine stm rfl rfl rfl ?_
    refine st0 (hop_build (hs := [(0, 1, _), (1, 1, _)]) st_80 rfl rfl ⟨rfl, rfl, rfl, rfl, rfl, ⟨rfl, rfl, rfl, rfl, rfl, trivial⟩⟩) rfl rfl ?_
    refine stm rfl rfl rfl ?_
    refine st0 (hop_addi rfl rfl rfl (by omega) (by omega)) rfl rfl ?_
    refine hm_s1 (hol_storeW ty_80 rfl rfl rfl rfl) rfl rfl (pre1 rfl) (c' := 2) rfl ?_
    refine sta rfl rfl rfl ?_
    refine sta rfl rfl rfl ?_
    refine snl h19 ?_
    refine hw_ret ?_
    refine hq_block_ret ?_
    refine hq_then_ret ?_
    refine hq_ret3 rfl (rvl_cell rfl rfl ty_80 (fun h => by first | rfl | cases h) rfl rfl) (rval_tmp rfl) (rval_tmp rfl) [] rfl pre0 ?_
    have e : oneF s i = (⟨3, i, 0, 0, []⟩, ((i + 1 : Nat) : Int), 0) := (by unfold oneF; rw [if_neg h0, if_neg hc3, if_pos hc4]); rw [e]; exact fz_t3 (fz_agg5 (by first | exact .imm _ | exact .nil _ _ _ (by decide) _ | exact fz_toks _ | exact fz_mkss _ | exact Frz.fz) (by first | exact .imm _ | exact .nil _ _ _ (by decide) _ | exact fz_toks _ | exact fz_mkss _ | exact Frz.fz) (by first | exact .imm _ | exact .nil _ _ _ (by decide) _ | exact fz_toks _ | exact fz_mkss _ | exact Frz.fz) (by first | exact .imm _ | exact .nil _ _ _ (by decide) _ | exact fz_toks _ | exact fz_mkss _ | exact Frz.fz) (by first | exact .imm _ | exact .nil _ _ _ (by decide) _ | exact fz_toks _ | exact fz_mkss _ | exact Frz.fz)) (.imm _) (.imm _)
  have hr4 := hc4; (try simp only [hcs, Int.reduceToNat] at hc4)
  refine srg fun N h20 => ?_
  refine st0 (hop_eql rfl rfl) rfl rfl ?_
  refine sta rfl rfl rfl ?_
  refine snl h20 ?_
  refine hw_cond _ rfl (fun hc5 => ?_) (fun hc5 => ?_)
  · have hr5 := hc5; (try simp only [hcs, Int.reduceToNat] at hc5)
    refine srg fun N h21 => ?_
    refine stm rfl rfl rfl ?_
    refine st0 (hop_build (hs := [(0, 1, _), (1, 1, _)]) st_80 rfl rfl ⟨rfl, rfl, rfl, rfl, rfl, ⟨rfl, rfl, rfl, rfl, rfl, trivial⟩⟩) rfl rfl ?_
    refine stm rfl rfl rfl ?_
    refine st0 (hop_addi rfl rfl rfl (by omega) (by omega)) rfl rfl ?_
    refine hm_s1 (hol_storeW ty_80 rfl rfl rfl rfl) rfl rfl (pre1 rfl) (c' := 2) rfl ?_
    refine sta rfl rfl rfl ?_
    refine sta rfl rfl rfl ?_
    refine snl h21 ?_
    refine hw_ret ?_
    refine hq_block_ret ?_
    refine hq_then_ret ?_
    refine hq_ret3 rfl (rvl_cell rfl rfl ty_80 (fun h => by first | rfl | cases h) rfl rfl) (rval_tmp rfl) (rval_tmp rfl) [] rfl pre0 ?_
    have e : oneF s i = (⟨4, i, 0, 0, []⟩, ((i + 1 : Nat) : Int), 0) := (by unfold oneF; rw [if_neg h0, if_neg hc3, if_neg hc4, if_pos hc5]); rw [e]; exact fz_t3 (fz_agg5 (by first | exact .imm _ | exact .nil _ _ _ (by decide) _ | exact fz_toks _ | exact fz_mkss _ | exact Frz.fz) (by first | exact .imm _ | exact .nil _ _ _ (by decide) _ | exact fz_toks _ | exact fz_mkss _ | exact Frz.fz) (by first | exact .imm _ | exact .nil _ _ _ (by decide) _ | exact fz_toks _ | exact fz_mkss _ | exact Frz.fz) (by first | exact .imm _ | exact .nil _ _ _ (by decide) _ | exact fz_toks _ | exact fz_mkss _ | exact Frz.fz) (by first | exact .imm _ | exact .nil _ _ _ (by decide) _ | exact fz_toks _ | exact fz_mkss _ | exact Frz.fz)) (.imm _) (.imm _)
  have hr5 := hc5; (try simp only [hcs, Int.reduceToNat] at hc5)
  refine srg fun N h22 => ?_
  refine st0 (hop_eql rfl rfl) rfl rfl ?_
  refine sta rfl rfl rfl ?_
  refine snl h22 ?_
  refine hw_cond _ rfl (fun hc6 => ?_) (fun hc6 => ?_)
  · have hr6 := hc6; (try simp only [hcs, Int.reduceToNat] at hc6)
    refine srg fun N h23 => ?_
    refine stm rfl rfl rfl ?_
    refine st0 (hop_build (hs := [(0, 1, _), (1, 1, _), (3, 1, _)]) st_80 rfl rfl ⟨rfl, rfl, rfl, rfl, rfl, ⟨rfl, rfl, rfl, rfl, rfl, ⟨rfl, rfl, rfl, rfl, rfl, trivial⟩⟩⟩) rfl rfl ?_
    refine stm rfl rfl rfl ?_
    refine st0 (hop_addi rfl rfl rfl (by omega) (by omega)) rfl rfl ?_
    refine hm_s1 (hol_storeW ty_80 rfl rfl rfl rfl) rfl rfl (pre1 rfl) (c' := 2) rfl ?_
    refine sta rfl rfl rfl ?_
    refine sta rfl rfl rfl ?_
    refine snl h23 ?_
    refine hw_ret ?_
    refine hq_block_ret ?_
    refine hq_then_ret ?_
    refine hq_ret3 rfl (rvl_cell rfl rfl ty_80 (fun h => by first | rfl | cases h) rfl rfl) (rval_tmp rfl) (rval_tmp rfl) [] rfl pre0 ?_
    have e : oneF s i = (⟨5, i, 0, -1, []⟩, ((i + 1 : Nat) : Int), 0) := (by unfold oneF; rw [if_neg h0, if_neg hc3, if_neg hc4, if_neg hc5, if_pos hc6]); rw [e]; exact fz_t3 (fz_agg5 (by first | exact .imm _ | exact .nil _ _ _ (by decide) _ | exact fz_toks _ | exact fz_mkss _ | exact Frz.fz) (by first | exact .imm _ | exact .nil _ _ _ (by decide) _ | exact fz_toks _ | exact fz_mkss _ | exact Frz.fz) (by first | exact .imm _ | exact .nil _ _ _ (by decide) _ | exact fz_toks _ | exact fz_mkss _ | exact Frz.fz) (by first | exact .imm _ | exact .nil _ _ _ (by decide) _ | exact fz_toks _ | exact fz_mkss _ | exact Frz.fz) (by first | exact .imm _ | exact .nil _ _ _ (by decide) _ | exact fz_toks _ | exact fz_mkss _ | exact Frz.fz)) (.imm _) (.imm _)
  have hr6 := hc6; (try simp only [hcs, Int.reduceToNat] at hc6)
  refine srg fun N h24 => ?_
  refine st0 (hop_eql rfl rfl) rfl rfl ?_
  refine sta rfl rfl rfl ?_
  refine snl h24 ?_
  refine hw_cond _ rfl (fun hc7 => ?_) (fun hc7 => ?_)
  · have hr7 := hc7; (try simp only [hcs, Int.reduceToNat] at hc7)
    refine srg fun N h25 => ?_
    refine stm rfl rfl rfl ?_
    refine st0 (hop_build (hs := [(0, 1, _), (1, 1, _), (2, 1, _), (3, 1, _)]) st_80 rfl rfl ⟨rfl, rfl, rfl, rfl, rfl, ⟨rfl, rfl, rfl, rfl, rfl, ⟨rfl, rfl, rfl, rfl, rfl, ⟨rfl, rfl, rfl, rfl, rfl, trivial⟩⟩⟩⟩) rfl rfl ?_
    refine stm rfl rfl rfl ?_
    refine st0 (hop_addi rfl rfl rfl (by omega) (by omega)) rfl rfl ?_
    refine hm_s1 (hol_storeW ty_80 rfl rfl rfl rfl) rfl rfl (pre1 rfl) (c' := 2) rfl ?_
    refine sta rfl rfl rfl ?_
    refine sta rfl rfl rfl ?_
    refine snl h25 ?_
    refine hw_ret ?_
    refine hq_block_ret ?_
    refine hq_then_ret ?_
    refine hq_ret3 rfl (rvl_cell rfl rfl ty_80 (fun h => by first | rfl | cases h) rfl rfl) (rval_tmp rfl) (rval_tmp rfl) [] rfl pre0 ?_
    have e : oneF s i = (⟨5, i, 1, -1, []⟩, ((i + 1 : Nat) : Int), 0) := (by unfold oneF; rw [if_neg h0, if_neg hc3, if_neg hc4, if_neg hc5, if_neg hc6, if_pos hc7]); rw [e]; exact fz_t3 (fz_agg5 (by first | exact .imm _ | exact .nil _ _ _ (by decide) _ | exact fz_toks _ | exact fz_mkss _ | exact Frz.fz) (by first | exact .imm _ | exact .nil _ _ _ (by decide) _ | exact fz_toks _ | exact fz_mkss _ | exact Frz.fz) (by first | exact .imm _ | exact .nil _ _ _ (by decide) _ | exact fz_toks _ | exact fz_mkss _ | exact Frz.fz) (by first | exact .imm _ | exact .nil _ _ _ (by decide) _ | exact fz_toks _ | exact fz_mkss _ | exact Frz.fz) (by first | exact .imm _ | exact .nil _ _ _ (by decide) _ | exact fz_toks _ | exact fz_mkss _ | exact Frz.fz)) (.imm _) (.imm _)
  have hr7 := hc7; (try simp only [hcs, Int.reduceToNat] at hc7)
  refine srg fun N h26 => ?_
  refine st0 (hop_eql rfl rfl) rfl rfl ?_
  refine sta rfl rfl rfl ?_
  refine snl h26 ?_
  refine hw_cond _ rfl (fun hc8 => ?_) (fun hc8 => ?_)
  · have hr8 := hc8; (try simp only [hcs, Int.reduceToNat] at hc8)
    refine srg fun N h27 => ?_
    refine stm rfl rfl rfl ?_
    refine st0 (hop_build (hs := [(0, 1, _), (1, 1, _), (3, 1, _)]) st_80 rfl rfl ⟨rfl, rfl, rfl, rfl, rfl, ⟨rfl, rfl, rfl, rfl, rfl, ⟨rfl, rfl, rfl, rfl, rfl, trivial⟩⟩⟩) rfl rfl ?_
    refine stm rfl rfl rfl ?_
    refine st0 (hop_addi rfl rfl rfl (by omega) (by omega)) rfl rfl ?_
    refine hm_s1 (hol_storeW ty_80 rfl rfl rfl rfl) rfl rfl (pre1 rfl) (c' := 2) rfl ?_
    refine sta rfl rfl rfl ?_
    refine sta rfl rfl rfl ?_
    refine snl h27 ?_
    refine hw_ret ?_
    refine hq_block_ret ?_
    refine hq_then_ret ?_
    refine hq_ret3 rfl (rvl_cell rfl rfl ty_80 (fun h => by first | rfl | cases h) rfl rfl) (rval_tmp rfl) (rval_tmp rfl) [] rfl pre0 ?_
    have e : oneF s i = (⟨5, i, 0, 1, []⟩, ((i + 1 : Nat) : Int), 0) := (by unfold oneF; rw [if_neg h0, if_neg hc3, if_neg hc4, if_neg hc5, if_neg hc6, if_neg hc7, if_pos hc8]); rw [e]; exact fz_t3 (fz_agg5 (by first | exact .imm _ | exact .nil _ _ _ (by decide) _ | exact fz_toks _ | exact fz_mkss _ | exact Frz.fz) (by first | exact .imm _ | exact .nil _ _ _ (by decide) _ | exact fz_toks _ | exact fz_mkss _ | exact Frz.fz) (by first | exact .imm _ | exact .nil _ _ _ (by decide) _ | exact fz_toks _ | exact fz_mkss _ | exact Frz.fz) (by first | exact .imm _ | exact .nil _ _ _ (by decide) _ | exact fz_toks _ | exact fz_mkss _ | exact Frz.fz) (by first | exact .imm _ | exact .nil _ _ _ (by decide) _ | exact fz_toks _ | exact fz_mkss _ | exact Frz.fz)) (.imm _) (.imm _)
  have hr8 := hc8; (try simp only [hcs, Int.reduceToNat] at hc8)
  refine srg fun N h28 => ?_
  refine st0 (hop_eql rfl rfl) rfl rfl ?_
  refine sta rfl rfl rfl ?_
  refine snl h28 ?_
  refine hw_cond _ rfl (fun hc9 => ?_) (fun hc9 => ?_)
  · have hr9 := hc9; (try simp only [hcs, Int.reduceToNat] at hc9)
    refine srg fun N h29 => ?_
    refine stm rfl rfl rfl ?_
    refine stm rfl rfl rfl ?_
    refine st0 (hop_call0 (xs := [_, _]) (refCount_h s i hs hi) ⟨rfl, ⟨rfl, trivial⟩⟩ ⟨(Fz.eq rfl), ⟨(Fz.eq rfl), trivial⟩⟩) rfl rfl ?_
    refine st0 (hop_extract rfl rfl) rfl rfl ?_
    refine st0 (hop_extract rfl rfl) rfl rfl ?_
    refine st0 (hop_extract rfl rfl) rfl rfl ?_
    refine hm_s1 (hol_storeW ty_80 rfl rfl rfl rfl) rfl rfl (pre1 rfl) (c' := 2) rfl ?_
    refine sta rfl rfl rfl ?_
    refine sta rfl rfl rfl ?_
    refine snl h29 ?_
    refine hw_ret ?_
    refine hq_block_ret ?_
    refine hq_then_ret ?_
    refine hq_ret3 rfl (rvl_cell rfl rfl ty_80 (fun h => by first | rfl | cases h) rfl rfl) (rval_tmp rfl) (rval_tmp rfl) [] rfl pre0 ?_
    have e : oneF s i = countF s i := (by unfold oneF; rw [if_neg h0, if_neg hc3, if_neg hc4, if_neg hc5, if_neg hc6, if_neg hc7, if_neg hc8, if_pos hc9]); rw [e]; exact fz_t3 (fz_agg5 (by first | exact .imm _ | exact .nil _ _ _ (by decide) _ | exact fz_toks _ | exact fz_mkss _ | exact Frz.fz) (by first | exact .imm _ | exact .nil _ _ _ (by decide) _ | exact fz_toks _ | exact fz_mkss _ | exact Frz.fz) (by first | exact .imm _ | exact .nil _ _ _ (by decide) _ | exact fz_toks _ | exact fz_mkss _ | exact Frz.fz) (by first | exact .imm _ | exact .nil _ _ _ (by decide) _ | exact fz_toks _ | exact fz_mkss _ | exact Frz.fz) (by first | exact .imm _ | exact .nil _ _ _ (by decide) _ | exact fz_toks _ | exact fz_mkss _ | exact Frz.fz)) (.imm _) (.imm _)
  have hr9 := hc9; (try simp only [hcs, Int.reduceToNat] at hc9)
  refine hw_skip ?_
  refine hq_block ?_
  refine h14 _ ?_
  refine srg fun N h30 => ?_
  refine st0 (hop_build (hs := []) st_80 rfl rfl trivial) rfl rfl ?_
  refine stm rfl rfl rfl ?_
  refine hm_s1 (hol_storeW ty_80 rfl rfl rfl rfl) rfl rfl (pre1 rfl) (c' := 2) rfl ?_
  refine sta rfl rfl rfl ?_
  refine sta rfl rfl rfl ?_
  refine snl h30 ?_
  refine hw_ret ?_
  refine hq_ret3 rfl (rvl_cell rfl rfl ty_80 (fun h => by first | rfl | cases h) rfl rfl) (rval_tmp rfl) (rval_tmp rfl) [] rfl pre0 ?_
  have e : oneF s i = (sgZ, (i : Int), 2) := (by unfold oneF; rw [if_neg h0, if_neg hc3, if_neg hc4, if_neg hc5, if_neg hc6, if_neg hc7, if_neg hc8, if_neg hc9]); rw [e]; exact fz_t3 (fz_agg5 (by first | exact .imm _ | exact .nil _ _ _ (by decide) _ | exact fz_toks _ | exact fz_mkss _ | exact Frz.fz) (by first | exact .imm _ | exact .nil _ _ _ (by decide) _ | exact fz_toks _ | exact fz_mkss _ | exact Frz.fz) (by first | exact .imm _ | exact .nil _ _ _ (by decide) _ | exact fz_toks _ | exact fz_mkss _ | exact Frz.fz) (by first | exact .imm _ | exact .nil _ _ _ (by decide) _ | exact fz_toks _ | exact fz_mkss _ | exact Frz.fz) (by first | exact .imm _ | exact .nil _ _ _ (by decide) _ | exact fz_toks _ | exact fz_mkss _ | exact Frz.fz)) (.imm _) (.imm _)
theorem sb_sg {f : Nat → HV} (x : Sg) (h0 : Sb (f 0) (sgF x 0)) (h1 : Sb (f 1) (sgF x 1)) (h2 : Sb (f 2) (sgF x 2)) (h3 : Sb (f 3) (sgF x 3)) (h4 : Sb (f 4) (sgF x 4)) : ∀ j, j < 5 → Sb (f j) (sgF x j) := fun j hj => by
  match j, hj with
  | 0, _ => exact h0
  | 1, _ => exact h1
  | 2, _ => exact h2
  | 3, _ => exact h3
  | 4, _ => exact h4
theorem sg_fz7 {sh : List (Nat × HObj)} (x : Sg) (j : Nat) : Fz sh (sgF x j) (sgF x j) := by
  match j with
  | 0 => exact .imm _
  | 1 => exact .imm _
  | 2 => exact .imm _
  | 3 => exact .imm _
  | j + 4 => exact .imm _
theorem refLex_h (s : List UInt8) (hs : s.length ≤ 1000000) : HPure Tryd.prog 44 [strV s] (lexH (lexO (lexV s))) := by
  have hV := lexV_at s
  refine hpure_of Tryd.func44 rfl (by kernel_rfl) _ _ _ rfl 47 rfl rfl (fun w F => ?_)
  refine srg fun N h1 => ?_
  refine sta rfl rfl rfl ?_
  refine sta rfl rfl rfl ?_
  refine sta rfl rfl rfl ?_
  refine snl h1 ?_
  refine srg fun N h2 => ?_
  refine sta rfl rfl rfl ?_
  refine snl h2 ?_
  refine hw_seq (fun Nh3 h3 => ?_)
  refine srg fun N h4 => ?_
  refine sta rfl rfl rfl ?_
  refine snl h4 ?_
  refine hw_block ?_
  refine hw_own 5 5 5 80 ((sgsF [])) rfl (by decide) rfl (c' := 1) rfl ?_
  refine hw_loopc (α := Nat × List Sg × Nat × Nat) (fun x c => ⟨47, [(0, .v (strV s)), (6, .v (intV x.1)), (5, .v (.os 5 x.2.2.1 0 x.2.2.2))], [(5, ⟨x.2.2.1, x.2.2.2, 5, 80, 0, sgsF x.2.1⟩)], c⟩) (fun x => x.1 ≤ s.length ∧ x.2.1.length ≤ 200 ∧ x.2.2.2 = x.2.1.length ∧ lexAt s x.1 x.2.1 = lexV s) (fun x => s.length - x.1) ((0, [], 0, 0)) (by exact ⟨Nat.zero_le _, Nat.zero_le _, rfl, hV⟩) (hsub_of rfl (Nat.le_refl _) (TmSub.cons rfl (Sb.refl _) (TmSub.cons rfl (Sb.refl _) (TmSub.cons rfl (Sb.refl _) TmSub.nil))) (HpSub.cons rfl (OSub.refl _) HpSub.nil)) (fun x c hx NhL5 hL5 => ?_)
  revert hx hL5; obtain ⟨i, out, gl, n⟩ := x; intro hx hL5; dsimp only at hx hL5 ⊢
  obtain ⟨hi, hol, hn, hL⟩ := hx
  refine hw_seq (fun Nh6 h6 => ?_)
  refine srg fun N h7 => ?_
  refine stm rfl rfl rfl ?_
  refine stm rfl rfl rfl ?_
  refine st0 (hop_len_strl (T := 9) rfl (by kernel_rfl) rfl) rfl rfl ?_
  refine st0 (hop_lss rfl rfl) rfl rfl ?_
  refine snl h7 ?_
  refine hw_cond _ rfl (fun hc0 => ?_) (fun hc0 => ?_)
  · have hr0 := hc0; (try simp only [hcs, Int.reduceToNat] at hc0)
    have hil : i < s.length := (by omega)
    refine hw_skip ?_
    refine h6 _ ?_
    refine hw_block ?_
    refine hw_seq (fun Nh8 h8 => ?_)
    refine srg fun N h9 => ?_
    refine stm rfl rfl rfl ?_
    refine stm rfl rfl rfl ?_
    refine st0 (HOp.val (v' := .imm (.int .u8 (bz s i))) (hop_ix_strl (by kernel_rfl) rfl rfl (by omega) (by omega)) (by rw [bz_in hil, Int.toNat_natCast])) rfl rfl ?_
    refine st0 (hop_eql rfl rfl) rfl rfl ?_
    refine snl h9 ?_
    refine hw_cond _ rfl (fun hc1 => ?_) (fun hc1 => ?_)
    · have hr1 := hc1; (try simp only [hcs, Int.reduceToNat] at hc1)
      refine srg fun N h10 => ?_
      refine stm rfl rfl rfl ?_
      refine st0 (HOp.val (v' := intV ((i + 1 : Nat) : Int)) (hop_addi rfl rfl rfl (by omega) (by omega)) (rfl)) rfl rfl ?_
      refine sta rfl rfl rfl ?_
      refine snl h10 ?_
      refine hw_exit ?_
      refine hq_then_exit ?_
      refine hq_block_here ?_
      exact hL5 ((i + 1, out, gl, n)) _ _ (by (try dsimp only); exact ⟨hil, hol, hn, by rw [← lexAt_sp hil hc1]; exact hL⟩) (by (try dsimp only); omega) (hsub_of rfl (Nat.le_refl _) (TmSub.cons rfl (Sb.refl _) (TmSub.cons rfl (Sb.refl _) (TmSub.cons rfl (Sb.refl _) TmSub.nil))) (HpSub.cons rfl (OSub.refl _) HpSub.nil))
    have hr1 := hc1; (try simp only [hcs, Int.reduceToNat] at hc1)
    refine hw_skip ?_
    refine h8 _ ?_
    refine hw_seq (fun Nh11 h11 => ?_)
    refine srg fun N h12 => ?_
    refine stm rfl rfl rfl ?_
    refine st0 (hop_len_os (T := 76) rfl (elOf_spec el_76).1 rfl) rfl rfl ?_
    refine st0 (hop_eql rfl rfl) rfl rfl ?_
    refine stm rfl rfl rfl ?_
    refine stg 23 (fun hb => hop_move rfl) rfl rfl rfl rfl rfl ?_
    refine stg 23 (fun hb => hop_move rfl) rfl rfl rfl rfl rfl ?_
    refine stg 23 (fun hb => HOp.val (v' := .imm (.int .u8 (bz s i))) (hop_ix_strl (by kernel_rfl) rfl rfl (by (simp at hb; first | omega | (dsimp only; omega) | (simp <;> omega))) (by (simp at hb; first | omega | (dsimp only; omega) | (simp <;> omega)))) (by rw [bz_in hil, Int.toNat_natCast])) rfl rfl rfl rfl rfl ?_
    refine stg 23 (fun hb => hop_call0 (xs := [_]) (refBegins_h _) ⟨rfl, trivial⟩ ⟨(Fz.eq rfl), trivial⟩) rfl rfl rfl rfl rfl ?_
    refine hq_p 28 (hstep_and _ _ rfl rfl rfl) rfl rfl rfl ?_
    refine hseq_nilU (by rfl) (by simp only [dropUn, slots]; exact rfl) ?_
    refine h12 _ ?_
    refine hw_cond _ rfl (fun hc2 => ?_) (fun hc2 => ?_)
    · have hr2 := hc2; (try simp only [hcs, Int.reduceToNat] at hc2)
      refine srg fun N h13 => ?_
      refine stm rfl rfl rfl ?_
      refine sta rfl rfl rfl ?_
      refine sta rfl rfl rfl ?_
      refine sta rfl rfl rfl ?_
      refine snl h13 ?_
      refine hw_ret ?_
      refine hq_then_ret ?_
      refine hq_block_ret ?_
      refine hq_then_ret ?_
      refine hq_block_ret ?_
      refine hq_then_ret ?_
      refine hq_ret3 rfl (rval_tmp rfl) (rval_tmp rfl) (rval_tmp rfl) [] rfl pre0 ?_
      have e : lexV s = .error ((i : Int), 4) := (by rw [← hL]; exact lexAt_long hil hc1 (by omega) hc2.2); rw [e]; exact fz_t3 (.nil 0 5 _ (by decide) none) (.imm _) (.imm _)
    have hr2 := hc2; (try simp only [hcs, Int.reduceToNat] at hc2)
    refine hw_skip ?_
    refine h11 _ ?_
    refine hw_seq (fun Nh14 h14 => ?_)
    have hsm := one_same s i hil; rcases hone : oneR s i with e | ⟨x, q⟩ <;> rw [hone] at hsm
    · skip
      refine hw_region ?_
      refine stm rfl rfl rfl ?_
      refine stm rfl rfl rfl ?_
      refine st0 (hop_call0 (xs := [_, _]) (refOne_h s i hs hil) ⟨rfl, ⟨rfl, trivial⟩⟩ ⟨(Fz.eq rfl), ⟨(Fz.eq rfl), trivial⟩⟩) rfl rfl ?_
      refine stm rfl rfl rfl ?_
      refine st0 (hop_extract rfl rfl) rfl rfl ?_
      refine st0 (HOp.val (v' := intV e.1) (hop_extract rfl rfl) (by rw [← hsm.1]; rfl)) rfl rfl ?_
      refine st0 (HOp.val (v' := intV e.2) (hop_extract rfl rfl) (by rw [← hsm.1]; rfl)) rfl rfl ?_
      refine hm_1 7 (hop_alloc (id := 7) (sz := 5) zc_80 rfl rfl (nb rfl) (nb rfl)) rfl rfl pre0 rfl rfl (c' := c + 1) rfl ?_
      refine hm_s1 (hol_storeW ty_80 rfl rfl rfl rfl) rfl rfl (pre1 rfl) (c' := c + 2) rfl ?_
      refine sta rfl rfl rfl ?_
      refine sta rfl rfl rfl ?_
      refine snl h14 ?_
      refine hw_seq (fun Nh15 h15 => ?_)
      refine srg fun N h16 => ?_
      refine stm rfl rfl rfl ?_
      refine st0 (hop_neq rfl rfl) rfl rfl ?_
      refine snl h16 ?_
      refine hw_cond _ rfl (fun hc3 => ?_) (fun hc3 => ?_)
      · have hr3 := hc3; (try simp only [hcs, Int.reduceToNat] at hc3)
        refine srg fun N h17 => ?_
        refine stm rfl rfl rfl ?_
        refine stm rfl rfl rfl ?_
        refine sta rfl rfl rfl ?_
        refine sta rfl rfl rfl ?_
        refine sta rfl rfl rfl ?_
        refine snl h17 ?_
        refine hw_ret ?_
        refine hq_then_ret ?_
        refine hq_block_ret ?_
        refine hq_then_ret ?_
        refine hq_block_ret ?_
        refine hq_then_ret ?_
        refine hq_ret3 rfl (rval_tmp rfl) (rval_tmp rfl) (rval_tmp rfl) [] rfl pre0 ?_
        have e' : lexV s = .error e := (by rw [← hL]; rcases Classical.em (out.length = 200) with h200 | h200; (have hb : beginZ (bz s i) = false := (by have h := hr2; rw [show ((n : Int) == 200) = true by (rw [hn, h200]; try rfl), Bool.true_and] at h; exact h); rw [lexAt_odd hil hc1 h200 hb]; rw [one_nobegin hb] at hone; injection hone with hone; rw [hone]); exact lexAt_err hil hc1 h200 hone); rw [e']; exact fz_t3 (.nil 0 5 _ (by decide) none) (.imm _) (.imm _)
      have hr3 := hc3; (try simp only [hcs, Int.reduceToNat] at hc3)
      exfalso; exact hsm.2 (by simpa using hr3)
    · skip
      refine hw_region ?_
      refine stm rfl rfl rfl ?_
      refine stm rfl rfl rfl ?_
      refine st0 (hop_call0 (xs := [_, _]) (refOne_h s i hs hil) ⟨rfl, ⟨rfl, trivial⟩⟩ ⟨(Fz.eq rfl), ⟨(Fz.eq rfl), trivial⟩⟩) rfl rfl ?_
      refine stm rfl rfl rfl ?_
      refine st0 (HOp.val (v' := sgH x) (hop_extract rfl rfl) (by rw [show oneF s i = (x, (q : Int), 0) from hsm]; rfl)) rfl rfl ?_
      refine st0 (HOp.val (v' := intV q) (hop_extract rfl rfl) (by rw [show oneF s i = (x, (q : Int), 0) from hsm]; rfl)) rfl rfl ?_
      refine st0 (HOp.val (v' := intV 0) (hop_extract rfl rfl) (by rw [show oneF s i = (x, (q : Int), 0) from hsm]; rfl)) rfl rfl ?_
      refine hm_1 7 (hop_alloc (id := 7) (sz := 5) zc_80 rfl rfl (nb rfl) (nb rfl)) rfl rfl pre0 rfl rfl (c' := c + 1) rfl ?_
      refine hm_s1 (hol_storeW ty_80 rfl rfl rfl rfl) rfl rfl (pre1 rfl) (c' := c + 2) rfl ?_
      refine sta rfl rfl rfl ?_
      refine sta rfl rfl rfl ?_
      refine snl h14 ?_
      refine hw_seq (fun Nh18 h18 => ?_)
      refine srg fun N h19 => ?_
      refine stm rfl rfl rfl ?_
      refine st0 (hop_neq rfl rfl) rfl rfl ?_
      refine snl h19 ?_
      refine hw_cond _ rfl (fun hc3 => ?_) (fun hc3 => ?_)
      · have hr3 := hc3; (try simp only [hcs, Int.reduceToNat] at hc3)
        exfalso; exact absurd hr3 (by decide)
      have hr3 := hc3; (try simp only [hcs, Int.reduceToNat] at hc3)
      refine hw_skip ?_
      refine h18 _ ?_
      refine hw_seq (fun Nh20 h20 => ?_)
      have hq := oneR_le hone; have h200 : ¬ out.length = 200 := (fun h200 => by have h := hr2; rw [show ((n : Int) == 200) = true by (rw [hn, h200]; try rfl), Bool.true_and] at h; rw [one_nobegin h] at hone; cases hone)
      refine hw_region ?_
      refine stm rfl rfl rfl ?_
      refine st1 (hol_load ty_80 rfl (nb rfl) (nb rfl) (fun h => (by cases h))) rfl rfl rfl ?_
      refine hm_1 43 (hop_buildSlice (id := 43) (hs := [_]) ei_76 (nb rfl) rfl (nb rfl) ⟨rfl, rfl, rfl, rfl, trivial⟩) rfl rfl pre0 rfl rfl (c' := c + 3) rfl ?_
      refine hm_1 44 (hol_append ei_76 (nb rfl) rfl (by omega) (nb rfl) (srl_os0 rfl (nb rfl)) (by omega) rfl) rfl rfl (preC rfl (pre1 rfl)) rfl rfl (c' := c + 4) rfl ?_
      refine sta rfl rfl rfl ?_
      refine snl h20 ?_
      refine hw_region ?_
      refine stm rfl rfl rfl ?_
      refine sta rfl rfl rfl ?_
      refine hseq_nil ?_
      refine hq_block ?_
      exact hL5 ((q, out ++ [x], c + 3, n + 1)) _ _ (by (try dsimp only); exact ⟨hq.2, by rw [List.length_append]; show out.length + 1 ≤ 200; omega, by rw [List.length_append, hn]; rfl, by rw [← lexAt_go hil hc1 h200 hone]; exact hL⟩) (by (try dsimp only); omega) (hsub_of rfl (Nat.le_refl _) (TmSub.cons rfl (Sb.refl _) (TmSub.cons rfl (Sb.refl _) (TmSub.cons rfl (Sb.refl _) TmSub.nil))) (HpSub.cons rfl (OSub.of fun i j hi hj => sb_cat (l := out) (k := [x]) (enc := sgF) (d := default) hn (fun i j _ _ => .refl _) (sb_one (x := x) (enc := sgF) (d := default) (sb_sg x (.refl _) (.refl _) (.refl _) (.refl _) (.refl _))) i j (by rw [List.length_append, ← hn]; exact hi) hj) HpSub.nil))
  have hr0 := hc0; (try simp only [hcs, Int.reduceToNat] at hc0)
  refine hw_exit ?_
  refine hq_then_exit ?_
  refine hq_then_exit ?_
  refine hq_block_here ?_
  refine h3 _ ?_
  refine srg fun N h21 => ?_
  refine stm rfl rfl rfl ?_
  refine sta rfl rfl rfl ?_
  refine sta rfl rfl rfl ?_
  refine sta rfl rfl rfl ?_
  refine snl h21 ?_
  refine hw_ret ?_
  refine hq_ret3 rfl (rval_tmp rfl) (rval_tmp rfl) (rval_tmp rfl) [(5, _)] rfl (preC rfl pre0) ?_
  have e : lexV s = .ok out := (by rw [← hL]; exact lexAt_end (by omega)); rw [e]; exact fz_t3 (fz_row (l := out) (enc := sgF) (d := default) (List.mem_cons_self ..) rfl hn (Nat.le_refl _) (fun i j hi hj => sg_fz7 _ j)) (.imm _) (.imm _)
end Go.Proofs.YtmcchhmgchgaaaaDoor

namespace Go.Proofs.YtmcchhmgchgaaaaDoor
set_option linter.unusedSimpArgs false
set_option linter.unusedVariables false
set_option maxRecDepth 100000
open Go.RowKit

end Go.Proofs.YtmcchhmgchgaaaaDoor

