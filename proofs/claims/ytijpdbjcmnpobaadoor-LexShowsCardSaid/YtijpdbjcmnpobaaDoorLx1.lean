/-
  The reader of signs: its small parts.
-/
import Derived.Test.YtijpdbjcmnpobaaDoorHi
import Derived.Test.YtijpdbjcmnpobaaDoorHty
import Derived.Test.YtijpdbjcmnpobaaDoorHu
import Derived.Test.YtijpdbjcmnpobaaDoorHbu
import Derived.Test.YtijpdbjcmnpobaaDoorNum
import Derived.Test.YtijpdbjcmnpobaaDoorLexV
namespace Go.Proofs.YtijpdbjcmnpobaaDoor
set_option linter.unusedSimpArgs false
set_option linter.unusedVariables false
set_option maxRecDepth 100000
open Go.RowKit

@[reducible] def rdF (s : List UInt8) (i : Nat) : Nat → Nat → HV := fun _ j => match j with | 0 => strV s | _ => intV i
@[reducible] def rdO (g : Nat) (s : List UInt8) (i : Nat) : HObj := ⟨g, 1, 2, 89, 0, rdF s i⟩
@[reducible] def faultF (e : Int × Int) : Nat → HV := fun j => match j with | 0 => intV e.1 | _ => intV e.2
@[reducible] def faultV (e : Int × Int) : HV := .ifc 85 (.agg 2 (faultF e))
theorem fz_agg2 {sh : List (Nat × HObj)} {f f' : Nat → HV} (h0 : Fz sh (f 0) (f' 0)) (h1 : Fz sh (f 1) (f' 1)) : Fz sh (.agg 2 f) (.agg 2 f') := .agg _ _ _ fun i hi => by
  match i, hi with
  | 0, _ => exact h0
  | 1, _ => exact h1
theorem fz_agg5 {sh : List (Nat × HObj)} {f f' : Nat → HV} (h0 : Fz sh (f 0) (f' 0)) (h1 : Fz sh (f 1) (f' 1)) (h2 : Fz sh (f 2) (f' 2)) (h3 : Fz sh (f 3) (f' 3)) (h4 : Fz sh (f 4) (f' 4)) : Fz sh (.agg 5 f) (.agg 5 f') := .agg _ _ _ fun i hi => by
  match i, hi with
  | 0, _ => exact h0
  | 1, _ => exact h1
  | 2, _ => exact h2
  | 3, _ => exact h3
  | 4, _ => exact h4
instance frz_fault (e : Int × Int) : Frz (faultV e) := ⟨.ifc _ _ _ (fz_agg2 (.imm _) (.imm _))⟩
theorem kz_fault {kp sh : List (Nat × HObj)} (e : Int × Int) : Kz kp sh (faultV e) (faultV e) := .fz _ _ Frz.fz
theorem kz_rd {kp sh : List (Nat × HObj)} {g i : Nat} {s : List UInt8} : OKz kp sh (rdO g s i) (rdO g s i) := okz2 (.fz _ _ (.imm _)) (.fz _ _ (.imm _))
theorem small_h (x : Int) : HPure Tryd.prog 53 [.imm (.int .u8 x)] (boolV (smallZ x)) := by
  refine hpure_of Tryd.func53 rfl (by kernel_rfl) _ _ _ rfl 9 rfl rfl (fun w F => ?_)
  refine hw_seq (fun Nh1 h1 => ?_)
  refine hw_region ?_
  refine hq_ 2 (hop_assign rfl) rfl rfl pre0 rfl rfl ?_
  refine hseq_nil ?_
  refine h1 _ ?_
  refine hw_seq (fun Nh2 h2 => ?_)
  refine hw_region ?_
  refine hq_ 3 (hop_move rfl) rfl rfl pre0 rfl rfl ?_
  refine hq_ 4 (hop_geq rfl rfl) rfl rfl pre0 rfl rfl ?_
  refine hq_ 5 (hop_move rfl) rfl rfl pre0 rfl rfl ?_
  first
  | refine hq_g 6 2 5 true _ (fun hb => hop_move rfl) rfl rfl rfl rfl pre0 rfl rfl rfl ?_
  | refine hq_g2 6 2 5 _ _ true _ (fun hb => hop_move rfl) rfl rfl rfl rfl pre0 rfl rfl rfl ?_
  first
  | refine hq_g 7 2 5 true _ (fun hb => hop_leq rfl rfl) rfl rfl rfl rfl pre0 rfl rfl rfl ?_
  | refine hq_g2 7 2 5 _ _ true _ (fun hb => hop_leq rfl rfl) rfl rfl rfl rfl pre0 rfl rfl rfl ?_
  first
  | refine hq_p 8 (hstep_and _ _ rfl rfl rfl) rfl rfl rfl ?_
  | refine hq_p 8 (hstep_or _ _ rfl rfl rfl) rfl rfl rfl ?_
  | refine hq_p 8 (hstep_ite _ _ _ rfl rfl rfl) rfl rfl rfl ?_
  | refine hq_p 8 (hstep_pick _ _ _ _ rfl rfl rfl (fun _ => .refl _) (fun _ => .refl _)) rfl rfl rfl ?_
  refine hq_ 2 (hop_assign rfl) rfl rfl pre0 rfl rfl ?_
  refine hseq_nilU (by rfl) (by simp only [dropUn, slots]; exact rfl) ?_
  refine h2 _ ?_
  refine hw_ret ?_
  refine hq_ret1 rfl (rval_tmp rfl) [] rfl pre0 ?_
  exact Frz.fz
theorem digit_h (x : Int) : HPure Tryd.prog 98 [.imm (.int .u8 x)] (boolV (digitZ x)) := by
  refine hpure_of Tryd.func98 rfl (by kernel_rfl) _ _ _ rfl 9 rfl rfl (fun w F => ?_)
  refine hw_seq (fun Nh1 h1 => ?_)
  refine hw_region ?_
  refine hq_ 2 (hop_assign rfl) rfl rfl pre0 rfl rfl ?_
  refine hseq_nil ?_
  refine h1 _ ?_
  refine hw_seq (fun Nh2 h2 => ?_)
  refine hw_region ?_
  refine hq_ 3 (hop_move rfl) rfl rfl pre0 rfl rfl ?_
  refine hq_ 4 (hop_geq rfl rfl) rfl rfl pre0 rfl rfl ?_
  refine hq_ 5 (hop_move rfl) rfl rfl pre0 rfl rfl ?_
  first
  | refine hq_g 6 2 5 true _ (fun hb => hop_move rfl) rfl rfl rfl rfl pre0 rfl rfl rfl ?_
  | refine hq_g2 6 2 5 _ _ true _ (fun hb => hop_move rfl) rfl rfl rfl rfl pre0 rfl rfl rfl ?_
  first
  | refine hq_g 7 2 5 true _ (fun hb => hop_leq rfl rfl) rfl rfl rfl rfl pre0 rfl rfl rfl ?_
  | refine hq_g2 7 2 5 _ _ true _ (fun hb => hop_leq rfl rfl) rfl rfl rfl rfl pre0 rfl rfl rfl ?_
  first
  | refine hq_p 8 (hstep_and _ _ rfl rfl rfl) rfl rfl rfl ?_
  | refine hq_p 8 (hstep_or _ _ rfl rfl rfl) rfl rfl rfl ?_
  | refine hq_p 8 (hstep_ite _ _ _ rfl rfl rfl) rfl rfl rfl ?_
  | refine hq_p 8 (hstep_pick _ _ _ _ rfl rfl rfl (fun _ => .refl _) (fun _ => .refl _)) rfl rfl rfl ?_
  refine hq_ 2 (hop_assign rfl) rfl rfl pre0 rfl rfl ?_
  refine hseq_nilU (by rfl) (by simp only [dropUn, slots]; exact rfl) ?_
  refine h2 _ ?_
  refine hw_ret ?_
  refine hq_ret1 rfl (rval_tmp rfl) [] rfl pre0 ?_
  exact Frz.fz
theorem peek_h (g : Nat) (s : List UInt8) (i : Nat) (hs : s.length ≤ 1000000) (hi : i ≤ s.length) : HFunD Tryd.prog 52 [.pt 9001 g 0 0] [(9001, rdO g s i)] (.imm (.int .u8 (bz s i))) [(9001, rdO g s i)] := by
  intro c
  refine hfun_of Tryd.func52 rfl (by kernel_rfl) _ _ _ _ rfl 22 rfl rfl (fun X ok hX => ?_)
  refine hw_seq (fun Nh1 h1 => ?_)
  refine hw_region ?_
  refine hq_ 2 (hop_assign rfl) rfl rfl pre0 rfl rfl ?_
  refine hseq_nil ?_
  refine h1 _ ?_
  refine hw_seq (fun Nh2 h2 => ?_)
  refine hw_seq (fun Nh3 h3 => ?_)
  refine hd_start ?_
  refine hd_q 3 (hop_move rfl) rfl rfl pre0 rfl rfl (k' := 1) rfl ?_
  first
  | refine hd_q 4 (hop_nilcheck_pt rfl) rfl rfl pre0 rfl rfl (k' := 2) rfl ?_
  | refine hd_q 4 (hop_nilcheck_fp rfl) rfl rfl pre0 rfl rfl (k' := 2) rfl ?_
  first
  | refine hd_q 5 (hop_fa fd_89_1 rfl) rfl rfl pre0 rfl rfl (k' := 3) rfl ?_
  | refine hd_q 5 (hop_fa_fp fd_89_1 rfl (by first | exact Nat.le_of_ble_eq_true rfl | omega | (dsimp only; omega) | (simp <;> omega))) rfl rfl pre0 rfl rfl (k' := 3) rfl ?_
  first
  | refine hd_q 6 (hol_load ty_3 rfl (by first | exact Nat.le_of_ble_eq_true rfl | omega | (dsimp only; omega) | (simp <;> omega)) (by first | exact Nat.le_of_ble_eq_true rfl | omega | (dsimp only; omega) | (simp <;> omega)) (fun h => by first | rfl | cases h)) rfl rfl (pre1 rfl) rfl rfl (k' := 4) rfl ?_
  | refine hd_q 6 (hop_load_fp ty_3 rfl (by first | exact Nat.le_of_ble_eq_true rfl | omega | (dsimp only; omega) | (simp <;> omega)) (fun h => by first | rfl | cases h)) rfl rfl pre0 rfl rfl (k' := 4) rfl ?_
  refine hd_q 7 (hop_move rfl) rfl rfl pre0 rfl rfl (k' := 5) rfl ?_
  first
  | refine hd_q 8 (hop_nilcheck_pt rfl) rfl rfl pre0 rfl rfl (k' := 6) rfl ?_
  | refine hd_q 8 (hop_nilcheck_fp rfl) rfl rfl pre0 rfl rfl (k' := 6) rfl ?_
  first
  | refine hd_q 9 (hop_fa fd_89_0 rfl) rfl rfl pre0 rfl rfl (k' := 7) rfl ?_
  | refine hd_q 9 (hop_fa_fp fd_89_0 rfl (by first | exact Nat.le_of_ble_eq_true rfl | omega | (dsimp only; omega) | (simp <;> omega))) rfl rfl pre0 rfl rfl (k' := 7) rfl ?_
  first
  | refine hd_q 10 (hol_load ty_9 rfl (by first | exact Nat.le_of_ble_eq_true rfl | omega | (dsimp only; omega) | (simp <;> omega)) (by first | exact Nat.le_of_ble_eq_true rfl | omega | (dsimp only; omega) | (simp <;> omega)) (fun h => by first | rfl | cases h)) rfl rfl (pre1 rfl) rfl rfl (k' := 8) rfl ?_
  | refine hd_q 10 (hop_load_fp ty_9 rfl (by first | exact Nat.le_of_ble_eq_true rfl | omega | (dsimp only; omega) | (simp <;> omega)) (fun h => by first | rfl | cases h)) rfl rfl pre0 rfl rfl (k' := 8) rfl ?_
  refine hd_q 11 (hop_len_strl (T := 9) rfl (by kernel_rfl) rfl) rfl rfl pre0 rfl rfl (k' := 9) rfl ?_
  refine hd_q 12 (hop_lss rfl rfl) rfl rfl pre0 rfl rfl (k' := 10) rfl ?_
  refine hd_nil (by kernel_rfl) (by kernel_rfl) (c' := c + 10) rfl ?_
  refine h3 _ ?_
  refine hw_cond _ rfl (fun hc0 => ?_) (fun hc0 => ?_)
  · have hr0 := hc0; (try simp only [decide_eq_true_eq, decide_eq_false_iff_not, Bool.and_eq_true, Bool.or_eq_true, Bool.not_eq_true', Bool.or_eq_false_iff, beq_iff_eq, bne_iff_ne, ne_eq, beq_eq_false_iff_ne, bne_eq_false_iff_eq, Bool.not_eq_true, Bool.not_eq_false, Bool.not_eq_false', Int.toNat_natCast, Int.reduceToNat] at hc0)
    refine hw_seq (fun Nh4 h4 => ?_)
    refine hd_start ?_
    refine hd_q 13 (hop_move rfl) rfl rfl pre0 rfl rfl (k' := 1) rfl ?_
    first
    | refine hd_q 14 (hop_nilcheck_pt rfl) rfl rfl pre0 rfl rfl (k' := 2) rfl ?_
    | refine hd_q 14 (hop_nilcheck_fp rfl) rfl rfl pre0 rfl rfl (k' := 2) rfl ?_
    first
    | refine hd_q 15 (hop_fa fd_89_0 rfl) rfl rfl pre0 rfl rfl (k' := 3) rfl ?_
    | refine hd_q 15 (hop_fa_fp fd_89_0 rfl (by first | exact Nat.le_of_ble_eq_true rfl | omega | (dsimp only; omega) | (simp <;> omega))) rfl rfl pre0 rfl rfl (k' := 3) rfl ?_
    first
    | refine hd_q 16 (hol_load ty_9 rfl (by first | exact Nat.le_of_ble_eq_true rfl | omega | (dsimp only; omega) | (simp <;> omega)) (by first | exact Nat.le_of_ble_eq_true rfl | omega | (dsimp only; omega) | (simp <;> omega)) (fun h => by first | rfl | cases h)) rfl rfl (pre1 rfl) rfl rfl (k' := 4) rfl ?_
    | refine hd_q 16 (hop_load_fp ty_9 rfl (by first | exact Nat.le_of_ble_eq_true rfl | omega | (dsimp only; omega) | (simp <;> omega)) (fun h => by first | rfl | cases h)) rfl rfl pre0 rfl rfl (k' := 4) rfl ?_
    refine hd_q 17 (hop_move rfl) rfl rfl pre0 rfl rfl (k' := 5) rfl ?_
    first
    | refine hd_q 18 (hop_nilcheck_pt rfl) rfl rfl pre0 rfl rfl (k' := 6) rfl ?_
    | refine hd_q 18 (hop_nilcheck_fp rfl) rfl rfl pre0 rfl rfl (k' := 6) rfl ?_
    first
    | refine hd_q 19 (hop_fa fd_89_1 rfl) rfl rfl pre0 rfl rfl (k' := 7) rfl ?_
    | refine hd_q 19 (hop_fa_fp fd_89_1 rfl (by first | exact Nat.le_of_ble_eq_true rfl | omega | (dsimp only; omega) | (simp <;> omega))) rfl rfl pre0 rfl rfl (k' := 7) rfl ?_
    first
    | refine hd_q 20 (hol_load ty_3 rfl (by first | exact Nat.le_of_ble_eq_true rfl | omega | (dsimp only; omega) | (simp <;> omega)) (by first | exact Nat.le_of_ble_eq_true rfl | omega | (dsimp only; omega) | (simp <;> omega)) (fun h => by first | rfl | cases h)) rfl rfl (pre1 rfl) rfl rfl (k' := 8) rfl ?_
    | refine hd_q 20 (hop_load_fp ty_3 rfl (by first | exact Nat.le_of_ble_eq_true rfl | omega | (dsimp only; omega) | (simp <;> omega)) (fun h => by first | rfl | cases h)) rfl rfl pre0 rfl rfl (k' := 8) rfl ?_
    refine hd_q 21 (hop_ix_strl (by kernel_rfl) rfl rfl (by first | exact Nat.le_of_ble_eq_true rfl | omega | (dsimp only; omega) | (simp <;> omega)) (by first | exact Nat.le_of_ble_eq_true rfl | omega | (dsimp only; omega) | (simp <;> omega))) rfl rfl pre0 rfl rfl (k' := 9) rfl ?_
    refine hd_q 2 (hop_assign rfl) rfl rfl pre0 rfl rfl (k' := 10) rfl ?_
    refine hd_nil (by kernel_rfl) (by kernel_rfl) (c' := c + 20) rfl ?_
    refine h4 _ ?_
    refine hw_ret ?_
    refine hq_then_ret ?_
    refine hf_retR1 ok hX RetS.one rfl (rval_tmp rfl) [] rfl pre0 (()) (trivial) (by rfl) (by rfl) (by rw [bz_in (by simpa using hc0)]; exact (by first | exact .fz _ _ (.imm _) | exact .os _ _ _ _ _ rfl rfl | exact .pt _ _ _ _ _ rfl rfl | exact .nps _ _ _ rfl rfl | (dsimp only; exact .fz _ _ Frz.fz) | exact .fz _ _ (.tup 0 _ _ (fun i hi => absurd hi (Nat.not_lt_zero _))))) ?_
    exact ⟨⟨_, rfl, okz2 (by first | exact .fz _ _ (.imm _) | exact .os _ _ _ _ _ rfl rfl | exact .pt _ _ _ _ _ rfl rfl | exact .nps _ _ _ rfl rfl | (dsimp only; exact .fz _ _ Frz.fz) | exact .fz _ _ (.tup 0 _ _ (fun i hi => absurd hi (Nat.not_lt_zero _)))) (by first | exact .fz _ _ (.imm _) | exact .os _ _ _ _ _ rfl rfl | exact .pt _ _ _ _ _ rfl rfl | exact .nps _ _ _ rfl rfl | (dsimp only; exact .fz _ _ Frz.fz) | exact .fz _ _ (.tup 0 _ _ (fun i hi => absurd hi (Nat.not_lt_zero _))))⟩, trivial⟩
  · have hr0 := hc0; (try simp only [decide_eq_true_eq, decide_eq_false_iff_not, Bool.and_eq_true, Bool.or_eq_true, Bool.not_eq_true', Bool.or_eq_false_iff, beq_iff_eq, bne_iff_ne, ne_eq, beq_eq_false_iff_ne, bne_eq_false_iff_eq, Bool.not_eq_true, Bool.not_eq_false, Bool.not_eq_false', Int.toNat_natCast, Int.reduceToNat] at hc0)
    refine hw_skip ?_
    refine h2 _ ?_
    refine hw_seq (fun Nh5 h5 => ?_)
    refine hw_region ?_
    refine hq_ 2 (hop_assign rfl) rfl rfl pre0 rfl rfl ?_
    refine hseq_nil ?_
    refine h5 _ ?_
    refine hw_ret ?_
    refine hf_retR1 ok hX RetS.one rfl (rval_tmp rfl) [] rfl pre0 (()) (trivial) (by rfl) (by rfl) (by rw [bz_out (by simpa using hc0)]; exact (by first | exact .fz _ _ (.imm _) | exact .os _ _ _ _ _ rfl rfl | exact .pt _ _ _ _ _ rfl rfl | exact .nps _ _ _ rfl rfl | (dsimp only; exact .fz _ _ Frz.fz) | exact .fz _ _ (.tup 0 _ _ (fun i hi => absurd hi (Nat.not_lt_zero _))))) ?_
    exact ⟨⟨_, rfl, okz2 (by first | exact .fz _ _ (.imm _) | exact .os _ _ _ _ _ rfl rfl | exact .pt _ _ _ _ _ rfl rfl | exact .nps _ _ _ rfl rfl | (dsimp only; exact .fz _ _ Frz.fz) | exact .fz _ _ (.tup 0 _ _ (fun i hi => absurd hi (Nat.not_lt_zero _)))) (by first | exact .fz _ _ (.imm _) | exact .os _ _ _ _ _ rfl rfl | exact .pt _ _ _ _ _ rfl rfl | exact .nps _ _ _ rfl rfl | (dsimp only; exact .fz _ _ Frz.fz) | exact .fz _ _ (.tup 0 _ _ (fun i hi => absurd hi (Nat.not_lt_zero _))))⟩, trivial⟩
theorem stop_h (c g : Nat) (s : List UInt8) (i : Nat) (p e : Int) : HFun Tryd.prog 56 c [.pt 9001 g 0 0, intV p, intV e] [(9001, rdO g s i)] (PanP (fun (y : Int × Int) _ => y = (p, e)) faultV (fun _ => [(9001, rdO g s i)])) := by
  refine hfun_of Tryd.func56 rfl (by kernel_rfl) _ _ _ _ rfl 10 rfl rfl (fun X ok hX => ?_)
  refine hw_region ?_
  refine hq_ 6 (hop_move rfl) rfl rfl pre0 rfl rfl ?_
  refine hq_ 7 (hop_move rfl) rfl rfl pre0 rfl rfl ?_
  refine hq_ 8 (hop_build (hs := [(0, 1, _), (1, 1, _)]) st_85 rfl rfl ⟨rfl, rfl, rfl, rfl, rfl, ⟨rfl, rfl, rfl, rfl, rfl, trivial⟩⟩) rfl rfl pre0 rfl rfl ?_
  refine hq_ 9 (hop_iface (by kernel_rfl) rfl) rfl rfl pre0 rfl rfl ?_
  refine hseq_panic rfl ?_
  exact hf_panP ok hX (p, e) rfl rfl (.ifc _ _ _ (.fz _ _ (fz_agg2 (.imm _) (.imm _)))) ⟨⟨_, rfl, okz2 (.fz _ _ (.imm _)) (.fz _ _ (.imm _))⟩, trivial⟩
theorem odd_h (c g : Nat) (s : List UInt8) (i : Nat) (hs : s.length ≤ 1000000) (hi : i ≤ s.length) : HFun Tryd.prog 55 c [.pt 9001 g 0 0] [(9001, rdO g s i)] (PanP (fun (y : Int × Int) _ => y = wrongV s i) faultV (fun _ => [(9001, rdO g s i)])) := by
  refine hfun_of Tryd.func55 rfl (by kernel_rfl) _ _ _ _ rfl 24 rfl rfl (fun X ok hX => ?_)
  refine hw_seq (fun Nh1 h1 => ?_)
  refine hw_seq (fun Nh2 h2 => ?_)
  refine hd_start ?_
  refine hd_q 2 (hop_move rfl) rfl rfl pre0 rfl rfl (k' := 1) rfl ?_
  first
  | refine hd_q 3 (hop_nilcheck_pt rfl) rfl rfl pre0 rfl rfl (k' := 2) rfl ?_
  | refine hd_q 3 (hop_nilcheck_fp rfl) rfl rfl pre0 rfl rfl (k' := 2) rfl ?_
  first
  | refine hd_q 4 (hop_fa fd_89_1 rfl) rfl rfl pre0 rfl rfl (k' := 3) rfl ?_
  | refine hd_q 4 (hop_fa_fp fd_89_1 rfl (by first | exact Nat.le_of_ble_eq_true rfl | omega | (dsimp only; omega) | (simp <;> omega))) rfl rfl pre0 rfl rfl (k' := 3) rfl ?_
  first
  | refine hd_q 5 (hol_load ty_3 rfl (by first | exact Nat.le_of_ble_eq_true rfl | omega | (dsimp only; omega) | (simp <;> omega)) (by first | exact Nat.le_of_ble_eq_true rfl | omega | (dsimp only; omega) | (simp <;> omega)) (fun h => by first | rfl | cases h)) rfl rfl (pre1 rfl) rfl rfl (k' := 4) rfl ?_
  | refine hd_q 5 (hop_load_fp ty_3 rfl (by first | exact Nat.le_of_ble_eq_true rfl | omega | (dsimp only; omega) | (simp <;> omega)) (fun h => by first | rfl | cases h)) rfl rfl pre0 rfl rfl (k' := 4) rfl ?_
  refine hd_q 6 (hop_move rfl) rfl rfl pre0 rfl rfl (k' := 5) rfl ?_
  first
  | refine hd_q 7 (hop_nilcheck_pt rfl) rfl rfl pre0 rfl rfl (k' := 6) rfl ?_
  | refine hd_q 7 (hop_nilcheck_fp rfl) rfl rfl pre0 rfl rfl (k' := 6) rfl ?_
  first
  | refine hd_q 8 (hop_fa fd_89_0 rfl) rfl rfl pre0 rfl rfl (k' := 7) rfl ?_
  | refine hd_q 8 (hop_fa_fp fd_89_0 rfl (by first | exact Nat.le_of_ble_eq_true rfl | omega | (dsimp only; omega) | (simp <;> omega))) rfl rfl pre0 rfl rfl (k' := 7) rfl ?_
  first
  | refine hd_q 9 (hol_load ty_9 rfl (by first | exact Nat.le_of_ble_eq_true rfl | omega | (dsimp only; omega) | (simp <;> omega)) (by first | exact Nat.le_of_ble_eq_true rfl | omega | (dsimp only; omega) | (simp <;> omega)) (fun h => by first | rfl | cases h)) rfl rfl (pre1 rfl) rfl rfl (k' := 8) rfl ?_
  | refine hd_q 9 (hop_load_fp ty_9 rfl (by first | exact Nat.le_of_ble_eq_true rfl | omega | (dsimp only; omega) | (simp <;> omega)) (fun h => by first | rfl | cases h)) rfl rfl pre0 rfl rfl (k' := 8) rfl ?_
  refine hd_q 10 (hop_len_strl (T := 9) rfl (by kernel_rfl) rfl) rfl rfl pre0 rfl rfl (k' := 9) rfl ?_
  refine hd_q 11 (hop_eql rfl rfl) rfl rfl pre0 rfl rfl (k' := 10) rfl ?_
  refine hd_nil (by kernel_rfl) (by kernel_rfl) (c' := c + 10) rfl ?_
  refine h2 _ ?_
  refine hw_cond _ rfl (fun hc0 => ?_) (fun hc0 => ?_)
  · have hr0 := hc0; (try simp only [decide_eq_true_eq, decide_eq_false_iff_not, Bool.and_eq_true, Bool.or_eq_true, Bool.not_eq_true', Bool.or_eq_false_iff, beq_iff_eq, bne_iff_ne, ne_eq, beq_eq_false_iff_ne, bne_eq_false_iff_eq, Bool.not_eq_true, Bool.not_eq_false, Bool.not_eq_false', Int.toNat_natCast, Int.reduceToNat] at hc0)
    refine hw_region ?_
    refine hq_ 12 (hop_move rfl) rfl rfl pre0 rfl rfl ?_
    refine hq_ 13 (hop_move rfl) rfl rfl pre0 rfl rfl ?_
    first
    | refine hq_ 14 (hop_nilcheck_pt rfl) rfl rfl pre0 rfl rfl ?_
    | refine hq_ 14 (hop_nilcheck_fp rfl) rfl rfl pre0 rfl rfl ?_
    first
    | refine hq_ 15 (hop_fa fd_89_1 rfl) rfl rfl pre0 rfl rfl ?_
    | refine hq_ 15 (hop_fa_fp fd_89_1 rfl (by first | exact Nat.le_of_ble_eq_true rfl | omega | (dsimp only; omega) | (simp <;> omega))) rfl rfl pre0 rfl rfl ?_
    first
    | refine hq_ 16 (hol_load ty_3 rfl (by first | exact Nat.le_of_ble_eq_true rfl | omega | (dsimp only; omega) | (simp <;> omega)) (by first | exact Nat.le_of_ble_eq_true rfl | omega | (dsimp only; omega) | (simp <;> omega)) (fun h => by first | rfl | cases h)) rfl rfl (pre1 rfl) rfl rfl ?_
    | refine hq_ 16 (hop_load_fp ty_3 rfl (by first | exact Nat.le_of_ble_eq_true rfl | omega | (dsimp only; omega) | (simp <;> omega)) (fun h => by first | rfl | cases h)) rfl rfl pre0 rfl rfl ?_
    refine hf_callP (xs := [_, _, _]) (pre := [(9001, _)]) (stop_h _ _ _ _ _ _) ⟨rfl, ⟨rfl, ⟨rfl, trivial⟩⟩⟩ (preC rfl pre0) (fun y c1 hy => ?_)
    refine (hpan_then ?_)
    exact hf_panP ok hX y (by rw [hy]; unfold wrongV; rw [if_pos (by omega), hc0]) rfl (kz_fault _) ⟨⟨_, rfl, kz_rd⟩, trivial⟩
  · have hr0 := hc0; (try simp only [decide_eq_true_eq, decide_eq_false_iff_not, Bool.and_eq_true, Bool.or_eq_true, Bool.not_eq_true', Bool.or_eq_false_iff, beq_iff_eq, bne_iff_ne, ne_eq, beq_eq_false_iff_ne, bne_eq_false_iff_eq, Bool.not_eq_true, Bool.not_eq_false, Bool.not_eq_false', Int.toNat_natCast, Int.reduceToNat] at hc0)
    refine hw_skip ?_
    refine h1 _ ?_
    refine hw_region ?_
    refine hq_ 18 (hop_move rfl) rfl rfl pre0 rfl rfl ?_
    refine hq_ 19 (hop_move rfl) rfl rfl pre0 rfl rfl ?_
    first
    | refine hq_ 20 (hop_nilcheck_pt rfl) rfl rfl pre0 rfl rfl ?_
    | refine hq_ 20 (hop_nilcheck_fp rfl) rfl rfl pre0 rfl rfl ?_
    first
    | refine hq_ 21 (hop_fa fd_89_1 rfl) rfl rfl pre0 rfl rfl ?_
    | refine hq_ 21 (hop_fa_fp fd_89_1 rfl (by first | exact Nat.le_of_ble_eq_true rfl | omega | (dsimp only; omega) | (simp <;> omega))) rfl rfl pre0 rfl rfl ?_
    first
    | refine hq_ 22 (hol_load ty_3 rfl (by first | exact Nat.le_of_ble_eq_true rfl | omega | (dsimp only; omega) | (simp <;> omega)) (by first | exact Nat.le_of_ble_eq_true rfl | omega | (dsimp only; omega) | (simp <;> omega)) (fun h => by first | rfl | cases h)) rfl rfl (pre1 rfl) rfl rfl ?_
    | refine hq_ 22 (hop_load_fp ty_3 rfl (by first | exact Nat.le_of_ble_eq_true rfl | omega | (dsimp only; omega) | (simp <;> omega)) (fun h => by first | rfl | cases h)) rfl rfl pre0 rfl rfl ?_
    refine hf_callP (xs := [_, _, _]) (pre := [(9001, _)]) (stop_h _ _ _ _ _ _) ⟨rfl, ⟨rfl, ⟨rfl, trivial⟩⟩⟩ (preC rfl pre0) (fun y c2 hy => ?_)
    refine ?_
    exact hf_panP ok hX y (by rw [hy]; unfold wrongV; rw [if_neg (by omega)]) rfl (kz_fault _) ⟨⟨_, rfl, kz_rd⟩, trivial⟩
end Go.Proofs.YtijpdbjcmnpobaaDoor
