/-
  The ways of weld, by the program.
-/
import Derived.Test.YtkeeipfglmpgjaaHb
import Derived.Test.YtkeeipfglmpgjaaConcat
import Derived.Test.YtkeeipfglmpgjaaWeldV
namespace Go.Proofs.Ytkeeipfglmpgjaa
set_option linter.unusedSimpArgs false
set_option linter.unusedVariables false
set_option maxRecDepth 100000
open Go.RowKit

@[reducible] def optV (o : Option St) : HV := match o with | Option.none => t2 (stV St.none) (boolV false) | some s => t2 (stV s) (boolV true)
theorem fz_optV {sh : List (Nat × HObj)} (o : Option St) : Fz sh (optV o) (optV o) := by cases o <;> exact fz_t2 Frz.fz (.imm _)
instance (o : Option St) : Frz (optV o) := ⟨fz_optV o⟩

theorem shape_h (s : St) (h1 : s.sl.length ≤ 1000000) (h2 : s.sets.length ≤ 1000000) : HPure Try.prog 47 [stV s] (boolV s.shape) := by
  refine ⟨⟨_, _, Try.func47, rfl, by kernel_rfl⟩, fun w F vs hF hr hw => ?_⟩
  obtain ⟨v, rfl, hv⟩ := rep1 hr
  obtain ⟨a, rfl, rfl, ha⟩ := stp_of hv
  refine (StepShape_any a _ w ha (Nat.le_refl _) (by rw [← ha.1]; exact h1) (by rw [← ha.2.1]; exact h2)).mono ?_
  rintro e w' ⟨rfl, hb⟩
  exact pure_imm hF hb
theorem shape25_h (s : St) (h1 : s.sl.length ≤ 1000000) (h2 : s.sets.length ≤ 1000000) : HPure Try.prog 49 [stV s] (boolV s.shape) := by
  refine ⟨⟨_, _, Try.func49, rfl, by kernel_rfl⟩, fun w F vs hF hr hw => ?_⟩
  obtain ⟨v, rfl, hv⟩ := rep1 hr
  obtain ⟨a, rfl, rfl, ha⟩ := stp_of hv
  refine (Shape25_ok a _ w ha (by rw [← ha.1]; exact h1) (by rw [← ha.2.1]; exact h2)).mono ?_
  rintro e w' ⟨rfl, hb⟩
  exact pure_imm hF hb
theorem concat2_h (l m : List Tok) (f : Nat → Nat → HV) (h0 : f 0 0 = toksV l) (h1 : f 1 0 = toksV m) (hl : l.length + m.length ≤ 1000000) : HPure Try.prog 40 [.sl 1 2 f] (toksV (l ++ m)) := by
  refine ⟨⟨_, _, Try.func40, rfl, by kernel_rfl⟩, fun w F vs hF hr hw => ?_⟩
  obtain ⟨v, rfl, hv⟩ := rep1 hr
  cases hv with
  | sl A _ c _ _ vs hc hm hA h =>
    have r0 : Rep w (Env.just F) (vs 0 0) (toksV l) := h0 ▸ h 0 0 (by omega) (by omega)
    have r1 : Rep w (Env.just F) (vs 1 0) (toksV m) := h1 ▸ h 1 0 (by omega) (by omega)
    obtain ⟨A1, c1, e1, o1, _, s1⟩ := toks_of r0
    obtain ⟨A2, c2, e2, o2, _, s2⟩ := toks_of r1
    obtain ⟨b, o, rfl, hlt, hcell⟩ := hA (by omega)
    have hsl : Sl w w.heap.size 1 SlT.cells (some ⟨b, o, none⟩) [⟨A1, l.length, c1, l⟩, ⟨A2, m.length, c2, m⟩] := by
      refine ⟨SlT.cells_length, rfl, fun _ => ⟨_, rfl, hlt, fun j u hu => ?_⟩⟩
      match j with
      | 0 =>
        have := (hcell 0 0 (by omega) (by omega)).2.1
        simp [SlT.cells] at hu
        rw [add_off, ← hu]
        simpa [e1] using this
      | 1 =>
        have := (hcell 1 0 (by omega) (by omega)).2.1
        simp [SlT.cells] at hu
        rw [add_off, ← hu]
        simpa [e2] using this
      | j + 2 => simp [SlT.cells] at hu
    have := Concat_any (some ⟨b, o, none⟩) 2 c w.heap.size [⟨A1, l.length, c1, l⟩, ⟨A2, m.length, c2, m⟩] w rfl hsl (Nat.le_refl _) (fun x hx => by
      simp only [List.mem_cons, List.not_mem_nil, or_false] at hx
      rcases hx with rfl | rfl
      · exact ⟨rfl, s1⟩
      · exact ⟨rfl, s2⟩) (by simp [SlT.sum]; omega) (by omega)
    have e : SlT.all [⟨A1, l.length, c1, l⟩, ⟨A2, m.length, c2, m⟩] = l ++ m := by simp [SlT.all]
    rw [e] at this
    refine this.mono fun en w' hg => ?_
    exact gives_pure hF tokF tokF_imm tok_one tok0 hg
theorem ahead_h (a b : St) (o : Option St) (ho : (if a.f + a.sl.length = b.f then some (a.ahead b) else Option.none) = o) (l1 : a.sl.length ≤ 100000) (l2 : b.sl.length ≤ 100000) (fa : 0 ≤ a.f ∧ a.f ≤ 1073741824 ∧ 0 ≤ a.t ∧ a.t ≤ 1073741824) (fb : 0 ≤ b.f ∧ b.f ≤ 1073741824 ∧ 0 ≤ b.t ∧ b.t ≤ 1073741824) :
    HPure Try.prog 60 [stV a, stV b] (optV o) := by
  obtain ⟨fa0, fa1, fa2, fa3⟩ := fa
  obtain ⟨fb0, fb1, fb2, fb3⟩ := fb
  refine hpure_of Try.func60 rfl (by kernel_rfl) _ _ _ rfl 33 rfl rfl (fun w F => ?_)
  refine hw_seq (fun Nh1 h1 => ?_)
  refine hw_region ?_
  refine hm_1 2 (hop_box (id := 2) (sz := 10) rfl rfl rfl (by first | exact Nat.le_of_ble_eq_true rfl | omega | (dsimp only; omega) | (simp <;> omega)) (by first | exact Nat.le_of_ble_eq_true rfl | omega | (dsimp only; omega) | (simp <;> omega))) rfl rfl pre0 rfl rfl (c' := 1) rfl ?_
  refine hm_1 3 (hop_box (id := 3) (sz := 10) rfl rfl rfl (by first | exact Nat.le_of_ble_eq_true rfl | omega | (dsimp only; omega) | (simp <;> omega)) (by first | exact Nat.le_of_ble_eq_true rfl | omega | (dsimp only; omega) | (simp <;> omega))) rfl rfl pre0 rfl rfl (c' := 2) rfl ?_
  refine hm_1 4 (hop_alloc (id := 4) (sz := 10) zc_77 rfl rfl (by first | exact Nat.le_of_ble_eq_true rfl | omega | (dsimp only; omega) | (simp <;> omega)) (by first | exact Nat.le_of_ble_eq_true rfl | omega | (dsimp only; omega) | (simp <;> omega))) rfl rfl pre0 rfl rfl (c' := 3) rfl ?_
  refine hq_ 5 (hop_assign rfl) rfl rfl pre0 rfl rfl ?_
  refine hseq_nil ?_
  refine h1 _ ?_
  refine hw_seq (fun Nh2 h2 => ?_)
  refine hw_seq (fun Nh3 h3 => ?_)
  refine hw_region ?_
  first
  | refine hq_ 6 (hop_fa fd_77_1 rfl) rfl rfl pre0 rfl rfl ?_
  | refine hq_ 6 (hop_fa_fp fd_77_1 rfl (by first | exact Nat.le_of_ble_eq_true rfl | omega | (dsimp only; omega) | (simp <;> omega))) rfl rfl pre0 rfl rfl ?_
  first
  | refine hq_ 7 (hol_load ty_3 rfl (by first | exact Nat.le_of_ble_eq_true rfl | omega | (dsimp only; omega) | (simp <;> omega)) (by first | exact Nat.le_of_ble_eq_true rfl | omega | (dsimp only; omega) | (simp <;> omega)) (fun h => by first | rfl | cases h)) rfl rfl (pre1 rfl) rfl rfl ?_
  | refine hq_ 7 (hop_load_fp ty_3 rfl (by first | exact Nat.le_of_ble_eq_true rfl | omega | (dsimp only; omega) | (simp <;> omega)) (fun h => by first | rfl | cases h)) rfl rfl pre0 rfl rfl ?_
  first
  | refine hq_ 8 (hop_fa fd_77_8 rfl) rfl rfl pre0 rfl rfl ?_
  | refine hq_ 8 (hop_fa_fp fd_77_8 rfl (by first | exact Nat.le_of_ble_eq_true rfl | omega | (dsimp only; omega) | (simp <;> omega))) rfl rfl pre0 rfl rfl ?_
  first
  | refine hq_ 9 (hol_load ty_26 rfl (by first | exact Nat.le_of_ble_eq_true rfl | omega | (dsimp only; omega) | (simp <;> omega)) (by first | exact Nat.le_of_ble_eq_true rfl | omega | (dsimp only; omega) | (simp <;> omega)) (fun h => by first | rfl | cases h)) rfl rfl (pre1 rfl) rfl rfl ?_
  | refine hq_ 9 (hop_load_fp ty_26 rfl (by first | exact Nat.le_of_ble_eq_true rfl | omega | (dsimp only; omega) | (simp <;> omega)) (fun h => by first | rfl | cases h)) rfl rfl pre0 rfl rfl ?_
  first
  | refine hq_ 10 (hop_len_sl (T := 26) rfl (elOf_spec el_26).1 rfl) rfl rfl pre0 rfl rfl ?_
  | refine hq_ 10 (hop_len_os (T := 26) rfl (elOf_spec el_26).1 rfl) rfl rfl pre0 rfl rfl ?_
  | refine hq_ 10 (hop_len_nil (T := 26) rfl (elOf_spec el_26).1 rfl) rfl rfl pre0 rfl rfl ?_
  first
  | refine hq_ 11 (hop_addi rfl rfl rfl (by first | exact Nat.le_of_ble_eq_true rfl | omega | (dsimp only; omega) | (simp <;> omega)) (by first | exact Nat.le_of_ble_eq_true rfl | omega | (dsimp only; omega) | (simp <;> omega))) rfl rfl pre0 rfl rfl ?_
  | refine hq_ 11 (hop_add rfl rfl) rfl rfl pre0 rfl rfl ?_
  first
  | refine hq_ 12 (hop_fa fd_77_1 rfl) rfl rfl pre0 rfl rfl ?_
  | refine hq_ 12 (hop_fa_fp fd_77_1 rfl (by first | exact Nat.le_of_ble_eq_true rfl | omega | (dsimp only; omega) | (simp <;> omega))) rfl rfl pre0 rfl rfl ?_
  first
  | refine hq_ 13 (hol_load ty_3 rfl (by first | exact Nat.le_of_ble_eq_true rfl | omega | (dsimp only; omega) | (simp <;> omega)) (by first | exact Nat.le_of_ble_eq_true rfl | omega | (dsimp only; omega) | (simp <;> omega)) (fun h => by first | rfl | cases h)) rfl rfl (pre1 rfl) rfl rfl ?_
  | refine hq_ 13 (hop_load_fp ty_3 rfl (by first | exact Nat.le_of_ble_eq_true rfl | omega | (dsimp only; omega) | (simp <;> omega)) (fun h => by first | rfl | cases h)) rfl rfl pre0 rfl rfl ?_
  refine hq_ 14 (hop_neq rfl rfl) rfl rfl pre0 rfl rfl ?_
  refine hseq_nil ?_
  refine h3 _ ?_
  refine hw_cond _ rfl (fun hc0 => ?_) (fun hc0 => ?_)
  · have hr0 := hc0; (try simp only [decide_eq_true_eq, decide_eq_false_iff_not, Bool.and_eq_true, Bool.or_eq_true, Bool.not_eq_true', Bool.or_eq_false_iff, beq_iff_eq, bne_iff_ne, ne_eq, beq_eq_false_iff_ne, bne_eq_false_iff_eq, Bool.not_eq_true, Bool.not_eq_false, Bool.not_eq_false', Int.toNat_natCast, Int.reduceToNat] at hc0)
    refine hw_seq (fun Nh4 h4 => ?_)
    refine hw_region ?_
    refine hq_ 15 (hop_build (hs := []) st_77 rfl rfl trivial) rfl rfl pre0 rfl rfl ?_
    first
    | refine hm_s1 (hol_storeW ty_77 rfl rfl rfl rfl) rfl rfl (pre1 rfl) (c' := 4) rfl ?_
    | refine hm_s1 (hol_store ty_77 rfl rfl rfl rfl (by first | exact Nat.le_of_ble_eq_true rfl | omega | (dsimp only; omega) | (simp <;> omega)) (by first | exact Nat.le_of_ble_eq_true rfl | omega | (dsimp only; omega) | (simp <;> omega)) (by first | exact Nat.le_of_ble_eq_true rfl | omega | (dsimp only; omega) | (simp <;> omega))) rfl rfl (pre1 rfl) (c' := 4) rfl ?_
    refine hq_ 5 (hop_assign rfl) rfl rfl pre0 rfl rfl ?_
    refine hseq_nil ?_
    refine h4 _ ?_
    refine hw_ret ?_
    refine hq_then_ret ?_
    refine hq_ret2 rfl (rvl_cell rfl rfl ty_77 (fun h => by first | rfl | cases h) rfl rfl) (rval_tmp rfl) [] rfl pre0 ?_
    obtain rfl : Option.none = o := (by rw [← ho, if_neg hc0]); exact fz_t2 (fz_agg10 (by first | exact .imm _ | exact .nil _ _ _ (by decide) _ | exact fz_toks _ | exact fz_mkss _ | exact Frz.fz) (by first | exact .imm _ | exact .nil _ _ _ (by decide) _ | exact fz_toks _ | exact fz_mkss _ | exact Frz.fz) (by first | exact .imm _ | exact .nil _ _ _ (by decide) _ | exact fz_toks _ | exact fz_mkss _ | exact Frz.fz) (by first | exact .imm _ | exact .nil _ _ _ (by decide) _ | exact fz_toks _ | exact fz_mkss _ | exact Frz.fz) (by first | exact .imm _ | exact .nil _ _ _ (by decide) _ | exact fz_toks _ | exact fz_mkss _ | exact Frz.fz) (by first | exact .imm _ | exact .nil _ _ _ (by decide) _ | exact fz_toks _ | exact fz_mkss _ | exact Frz.fz) (by first | exact .imm _ | exact .nil _ _ _ (by decide) _ | exact fz_toks _ | exact fz_mkss _ | exact Frz.fz) (by first | exact .imm _ | exact .nil _ _ _ (by decide) _ | exact fz_toks _ | exact fz_mkss _ | exact Frz.fz) (by first | exact .imm _ | exact .nil _ _ _ (by decide) _ | exact fz_toks _ | exact fz_mkss _ | exact Frz.fz) (by first | exact .imm _ | exact .nil _ _ _ (by decide) _ | exact fz_toks _ | exact fz_mkss _ | exact Frz.fz)) (.imm _)
  · have hr0 := hc0; (try simp only [decide_eq_true_eq, decide_eq_false_iff_not, Bool.and_eq_true, Bool.or_eq_true, Bool.not_eq_true', Bool.or_eq_false_iff, beq_iff_eq, bne_iff_ne, ne_eq, beq_eq_false_iff_ne, bne_eq_false_iff_eq, Bool.not_eq_true, Bool.not_eq_false, Bool.not_eq_false', Int.toNat_natCast, Int.reduceToNat] at hc0)
    refine hw_skip ?_
    refine h2 _ ?_
    refine hw_seq (fun Nh5 h5 => ?_)
    refine hd_start ?_
    first
    | refine hd_q 16 (hop_fa fd_77_1 rfl) rfl rfl pre0 rfl rfl (k' := 1) rfl ?_
    | refine hd_q 16 (hop_fa_fp fd_77_1 rfl (by first | exact Nat.le_of_ble_eq_true rfl | omega | (dsimp only; omega) | (simp <;> omega))) rfl rfl pre0 rfl rfl (k' := 1) rfl ?_
    first
    | refine hd_q 17 (hol_load ty_3 rfl (by first | exact Nat.le_of_ble_eq_true rfl | omega | (dsimp only; omega) | (simp <;> omega)) (by first | exact Nat.le_of_ble_eq_true rfl | omega | (dsimp only; omega) | (simp <;> omega)) (fun h => by first | rfl | cases h)) rfl rfl (pre1 rfl) rfl rfl (k' := 2) rfl ?_
    | refine hd_q 17 (hop_load_fp ty_3 rfl (by first | exact Nat.le_of_ble_eq_true rfl | omega | (dsimp only; omega) | (simp <;> omega)) (fun h => by first | rfl | cases h)) rfl rfl pre0 rfl rfl (k' := 2) rfl ?_
    first
    | refine hd_q 18 (hop_fa fd_77_2 rfl) rfl rfl pre0 rfl rfl (k' := 3) rfl ?_
    | refine hd_q 18 (hop_fa_fp fd_77_2 rfl (by first | exact Nat.le_of_ble_eq_true rfl | omega | (dsimp only; omega) | (simp <;> omega))) rfl rfl pre0 rfl rfl (k' := 3) rfl ?_
    first
    | refine hd_q 19 (hol_load ty_3 rfl (by first | exact Nat.le_of_ble_eq_true rfl | omega | (dsimp only; omega) | (simp <;> omega)) (by first | exact Nat.le_of_ble_eq_true rfl | omega | (dsimp only; omega) | (simp <;> omega)) (fun h => by first | rfl | cases h)) rfl rfl (pre1 rfl) rfl rfl (k' := 4) rfl ?_
    | refine hd_q 19 (hop_load_fp ty_3 rfl (by first | exact Nat.le_of_ble_eq_true rfl | omega | (dsimp only; omega) | (simp <;> omega)) (fun h => by first | rfl | cases h)) rfl rfl pre0 rfl rfl (k' := 4) rfl ?_
    first
    | refine hd_q 20 (hop_fa fd_77_2 rfl) rfl rfl pre0 rfl rfl (k' := 5) rfl ?_
    | refine hd_q 20 (hop_fa_fp fd_77_2 rfl (by first | exact Nat.le_of_ble_eq_true rfl | omega | (dsimp only; omega) | (simp <;> omega))) rfl rfl pre0 rfl rfl (k' := 5) rfl ?_
    first
    | refine hd_q 21 (hol_load ty_3 rfl (by first | exact Nat.le_of_ble_eq_true rfl | omega | (dsimp only; omega) | (simp <;> omega)) (by first | exact Nat.le_of_ble_eq_true rfl | omega | (dsimp only; omega) | (simp <;> omega)) (fun h => by first | rfl | cases h)) rfl rfl (pre1 rfl) rfl rfl (k' := 6) rfl ?_
    | refine hd_q 21 (hop_load_fp ty_3 rfl (by first | exact Nat.le_of_ble_eq_true rfl | omega | (dsimp only; omega) | (simp <;> omega)) (fun h => by first | rfl | cases h)) rfl rfl pre0 rfl rfl (k' := 6) rfl ?_
    first
    | refine hd_q 22 (hop_addi rfl rfl rfl (by first | exact Nat.le_of_ble_eq_true rfl | omega | (dsimp only; omega) | (simp <;> omega)) (by first | exact Nat.le_of_ble_eq_true rfl | omega | (dsimp only; omega) | (simp <;> omega))) rfl rfl pre0 rfl rfl (k' := 7) rfl ?_
    | refine hd_q 22 (hop_add rfl rfl) rfl rfl pre0 rfl rfl (k' := 7) rfl ?_
    first
    | refine hd_q 23 (hop_fa fd_77_1 rfl) rfl rfl pre0 rfl rfl (k' := 8) rfl ?_
    | refine hd_q 23 (hop_fa_fp fd_77_1 rfl (by first | exact Nat.le_of_ble_eq_true rfl | omega | (dsimp only; omega) | (simp <;> omega))) rfl rfl pre0 rfl rfl (k' := 8) rfl ?_
    first
    | refine hd_q 24 (hol_load ty_3 rfl (by first | exact Nat.le_of_ble_eq_true rfl | omega | (dsimp only; omega) | (simp <;> omega)) (by first | exact Nat.le_of_ble_eq_true rfl | omega | (dsimp only; omega) | (simp <;> omega)) (fun h => by first | rfl | cases h)) rfl rfl (pre1 rfl) rfl rfl (k' := 9) rfl ?_
    | refine hd_q 24 (hop_load_fp ty_3 rfl (by first | exact Nat.le_of_ble_eq_true rfl | omega | (dsimp only; omega) | (simp <;> omega)) (fun h => by first | rfl | cases h)) rfl rfl pre0 rfl rfl (k' := 9) rfl ?_
    first
    | refine hd_q 25 (hop_subi rfl rfl rfl (by first | exact Nat.le_of_ble_eq_true rfl | omega | (dsimp only; omega) | (simp <;> omega)) (by first | exact Nat.le_of_ble_eq_true rfl | omega | (dsimp only; omega) | (simp <;> omega))) rfl rfl pre0 rfl rfl (k' := 10) rfl ?_
    | refine hd_q 25 (hop_sub rfl rfl) rfl rfl pre0 rfl rfl (k' := 10) rfl ?_
    first
    | refine hd_q 26 (hop_fa fd_77_8 rfl) rfl rfl pre0 rfl rfl (k' := 11) rfl ?_
    | refine hd_q 26 (hop_fa_fp fd_77_8 rfl (by first | exact Nat.le_of_ble_eq_true rfl | omega | (dsimp only; omega) | (simp <;> omega))) rfl rfl pre0 rfl rfl (k' := 11) rfl ?_
    first
    | refine hd_q 27 (hol_load ty_26 rfl (by first | exact Nat.le_of_ble_eq_true rfl | omega | (dsimp only; omega) | (simp <;> omega)) (by first | exact Nat.le_of_ble_eq_true rfl | omega | (dsimp only; omega) | (simp <;> omega)) (fun h => by first | rfl | cases h)) rfl rfl (pre1 rfl) rfl rfl (k' := 12) rfl ?_
    | refine hd_q 27 (hop_load_fp ty_26 rfl (by first | exact Nat.le_of_ble_eq_true rfl | omega | (dsimp only; omega) | (simp <;> omega)) (fun h => by first | rfl | cases h)) rfl rfl pre0 rfl rfl (k' := 12) rfl ?_
    first
    | refine hd_q 28 (hop_fa fd_77_8 rfl) rfl rfl pre0 rfl rfl (k' := 13) rfl ?_
    | refine hd_q 28 (hop_fa_fp fd_77_8 rfl (by first | exact Nat.le_of_ble_eq_true rfl | omega | (dsimp only; omega) | (simp <;> omega))) rfl rfl pre0 rfl rfl (k' := 13) rfl ?_
    first
    | refine hd_q 29 (hol_load ty_26 rfl (by first | exact Nat.le_of_ble_eq_true rfl | omega | (dsimp only; omega) | (simp <;> omega)) (by first | exact Nat.le_of_ble_eq_true rfl | omega | (dsimp only; omega) | (simp <;> omega)) (fun h => by first | rfl | cases h)) rfl rfl (pre1 rfl) rfl rfl (k' := 14) rfl ?_
    | refine hd_q 29 (hop_load_fp ty_26 rfl (by first | exact Nat.le_of_ble_eq_true rfl | omega | (dsimp only; omega) | (simp <;> omega)) (fun h => by first | rfl | cases h)) rfl rfl pre0 rfl rfl (k' := 14) rfl ?_
    refine hd_1 30 (hop_buildSlice (id := 30) (hs := [_, _]) ei_107 (by first | exact Nat.le_of_ble_eq_true rfl | omega | (dsimp only; omega) | (simp <;> omega)) rfl (by first | exact Nat.le_of_ble_eq_true rfl | omega | (dsimp only; omega) | (simp <;> omega)) ⟨rfl, rfl, rfl, rfl, ⟨rfl, rfl, rfl, rfl, trivial⟩⟩) rfl rfl pre0 rfl rfl (k' := 15) rfl ?_
    refine hd_m 31 (hop_call (xs := [_]) [(30, _)] (concat2_h a.sl b.sl (fun i _ => match i with | 0 => toksV a.sl | _ => toksV b.sl) rfl rfl (by omega)) ⟨rfl, trivial⟩ ⟨Fz.os _ _ _ _ _ _ (List.mem_cons_self ..) rfl (Nat.le_refl _) (fun i j hi hj => by match i, hi with | 0, _ => exact fz_toks _ | 1, _ => exact fz_toks _), trivial⟩ rfl) rfl rfl (preC rfl pre0) rfl rfl (k' := 16) rfl ?_
    refine hd_q 32 (hop_build (hs := [(0, 1, _), (1, 1, _), (2, 1, _), (8, 1, _)]) st_77 rfl rfl ⟨rfl, rfl, rfl, rfl, rfl, ⟨rfl, rfl, rfl, rfl, rfl, ⟨rfl, rfl, rfl, rfl, rfl, ⟨rfl, rfl, rfl, rfl, rfl, trivial⟩⟩⟩⟩) rfl rfl pre0 rfl rfl (k' := 17) rfl ?_
    first
    | refine hd_s1 (hol_storeW ty_77 rfl rfl rfl rfl) rfl rfl (pre1 rfl) (k' := 18) rfl ?_
    | refine hd_s1 (hol_store ty_77 rfl rfl rfl rfl (by first | exact Nat.le_of_ble_eq_true rfl | omega | (dsimp only; omega) | (simp <;> omega)) (by first | exact Nat.le_of_ble_eq_true rfl | omega | (dsimp only; omega) | (simp <;> omega)) (by first | exact Nat.le_of_ble_eq_true rfl | omega | (dsimp only; omega) | (simp <;> omega))) rfl rfl (pre1 rfl) (k' := 18) rfl ?_
    refine hd_q 5 (hop_assign rfl) rfl rfl pre0 rfl rfl (k' := 19) rfl ?_
    refine hd_nil (by kernel_rfl) (by kernel_rfl) (c' := 22) rfl ?_
    refine h5 _ ?_
    refine hw_ret ?_
    refine hq_ret2 rfl (rvl_cell rfl rfl ty_77 (fun h => by first | rfl | cases h) rfl rfl) (rval_tmp rfl) [] rfl pre0 ?_
    obtain rfl : some (a.ahead b) = o := (by rw [← ho, if_pos hc0]); exact fz_t2 (fz_agg10 (by first | exact .imm _ | exact .nil _ _ _ (by decide) _ | exact fz_toks _ | exact fz_mkss _ | exact Frz.fz) (by first | exact .imm _ | exact .nil _ _ _ (by decide) _ | exact fz_toks _ | exact fz_mkss _ | exact Frz.fz) (by first | exact .imm _ | exact .nil _ _ _ (by decide) _ | exact fz_toks _ | exact fz_mkss _ | exact Frz.fz) (by first | exact .imm _ | exact .nil _ _ _ (by decide) _ | exact fz_toks _ | exact fz_mkss _ | exact Frz.fz) (by first | exact .imm _ | exact .nil _ _ _ (by decide) _ | exact fz_toks _ | exact fz_mkss _ | exact Frz.fz) (by first | exact .imm _ | exact .nil _ _ _ (by decide) _ | exact fz_toks _ | exact fz_mkss _ | exact Frz.fz) (by first | exact .imm _ | exact .nil _ _ _ (by decide) _ | exact fz_toks _ | exact fz_mkss _ | exact Frz.fz) (by first | exact .imm _ | exact .nil _ _ _ (by decide) _ | exact fz_toks _ | exact fz_mkss _ | exact Frz.fz) (by first | exact .imm _ | exact .nil _ _ _ (by decide) _ | exact fz_toks _ | exact fz_mkss _ | exact Frz.fz) (by first | exact .imm _ | exact .nil _ _ _ (by decide) _ | exact fz_toks _ | exact fz_mkss _ | exact Frz.fz)) (.imm _)
end Go.Proofs.Ytkeeipfglmpgjaa
