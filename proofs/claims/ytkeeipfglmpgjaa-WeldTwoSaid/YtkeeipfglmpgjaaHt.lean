/-
  Encodings: tokens, sets of marks, steps.
-/
import Derived.Test.YtkeeipfglmpgjaaHu
import Derived.Test.YtkeeipfglmpgjaaStp
namespace Go.Proofs.Ytkeeipfglmpgjaa
set_option linter.unusedSimpArgs false
set_option linter.unusedVariables false
set_option maxRecDepth 100000
open Go.RowKit
def tok0 : Tok := ⟨0, 0, 0, 0, 0, 0, 0, 0, 0, 0, 0, 0⟩
def mks0 : Mks := ⟨0, 0, 0, 0, 0, 0, 0, 0⟩
def tokF (t : Tok) : Nat → HV
  | 0 => .imm (.int .i64 t.kind) | 1 => .imm (.int .i64 t.typ) | 2 => .imm (.int .i64 t.attr) | 3 => .imm (.int .i32 t.rune)
  | 4 => .imm (.int .u16 t.m0) | 5 => .imm (.int .u16 t.m1) | 6 => .imm (.int .u16 t.m2) | 7 => .imm (.int .u16 t.m3)
  | 8 => .imm (.int .u16 t.m4) | 9 => .imm (.int .u16 t.m5) | 10 => .imm (.int .u16 t.m6) | _ => .imm (.int .u16 t.m7)
def mksF (t : Mks) : Nat → HV
  | 0 => .imm (.int .u16 t.m0) | 1 => .imm (.int .u16 t.m1) | 2 => .imm (.int .u16 t.m2) | 3 => .imm (.int .u16 t.m3)
  | 4 => .imm (.int .u16 t.m4) | 5 => .imm (.int .u16 t.m5) | 6 => .imm (.int .u16 t.m6) | _ => .imm (.int .u16 t.m7)
@[reducible] def toksV (l : List Tok) : HV := .sl 12 l.length (fun i => tokF (l.getD i tok0))
@[reducible] def mkssV (l : List Mks) : HV := .sl 8 l.length (fun i => mksF (l.getD i mks0))
def stF (s : St) : Nat → HV
  | 0 => .imm (.int .i64 s.k) | 1 => .imm (.int .i64 s.f) | 2 => .imm (.int .i64 s.t) | 3 => .imm (.int .i64 s.gf) | 4 => .imm (.int .i64 s.gt)
  | 5 => .imm (.int .i64 s.ins) | 6 => .imm (.int .i64 s.mark) | 7 => .imm (.int .i64 s.vl) | 8 => toksV s.sl | _ => mkssV s.sets
@[reducible] def stV (s : St) : HV := .agg 10 (stF s)
@[reducible] def stsV (l : List St) : HV := .sl 10 l.length (fun i => stF (l.getD i St.none))
theorem fz_tokF {sh : List (Nat × HObj)} (t : Tok) (j : Nat) : Fz sh (tokF t j) (tokF t j) := by unfold tokF; split <;> exact .imm _
theorem fz_mksF {sh : List (Nat × HObj)} (t : Mks) (j : Nat) : Fz sh (mksF t j) (mksF t j) := by unfold mksF; split <;> exact .imm _
theorem fz_toks {sh : List (Nat × HObj)} (l : List Tok) : Fz sh (toksV l) (toksV l) := .sl _ _ _ _ fun i j _ _ => fz_tokF _ _
theorem fz_mkss {sh : List (Nat × HObj)} (l : List Mks) : Fz sh (mkssV l) (mkssV l) := .sl _ _ _ _ fun i j _ _ => fz_mksF _ _
theorem fz_stF {sh : List (Nat × HObj)} (t : St) (j : Nat) : Fz sh (stF t j) (stF t j) := by unfold stF; split <;> first | exact .imm _ | exact fz_toks _ | exact fz_mkss _
instance (t : Tok) (j : Nat) : Frz (tokF t j) := ⟨fz_tokF t j⟩
instance (t : Mks) (j : Nat) : Frz (mksF t j) := ⟨fz_mksF t j⟩
instance (t : St) (j : Nat) : Frz (stF t j) := ⟨fz_stF t j⟩
theorem Few25h (s : St) : HPure Try.prog 46 [stV s] (boolV (decide ((s.sl.length : Int) ≤ 60) && decide ((s.sets.length : Int) ≤ 150))) := by
  refine hpure_of Try.func46 rfl (by kernel_rfl) _ _ _ rfl 13 rfl rfl (fun w F => ?_)
  refine hw_seq (fun Nh1 h1 => ?_)
  refine hw_region ?_
  refine hm_1 1 (hop_box (id := 1) (sz := 10) rfl rfl rfl (by first | exact Nat.le_of_ble_eq_true rfl | omega | (dsimp only; omega) | (simp <;> omega)) (by first | exact Nat.le_of_ble_eq_true rfl | omega | (dsimp only; omega) | (simp <;> omega))) rfl rfl pre0 rfl rfl (c' := 1) rfl ?_
  refine hq_ 2 (hop_assign rfl) rfl rfl pre0 rfl rfl ?_
  refine hseq_nil ?_
  refine h1 _ ?_
  refine hw_seq (fun Nh2 h2 => ?_)
  refine hw_region ?_
  first
  | refine hq_ 3 (hop_fa fd_77_8 rfl) rfl rfl pre0 rfl rfl ?_
  | refine hq_ 3 (hop_fa_fp fd_77_8 rfl (by first | exact Nat.le_of_ble_eq_true rfl | omega | (dsimp only; omega) | (simp <;> omega))) rfl rfl pre0 rfl rfl ?_
  first
  | refine hq_ 4 (hol_load ty_26 rfl (by first | exact Nat.le_of_ble_eq_true rfl | omega | (dsimp only; omega) | (simp <;> omega)) (by first | exact Nat.le_of_ble_eq_true rfl | omega | (dsimp only; omega) | (simp <;> omega)) (fun h => by first | rfl | cases h)) rfl rfl (pre1 rfl) rfl rfl ?_
  | refine hq_ 4 (hop_load_fp ty_26 rfl (by first | exact Nat.le_of_ble_eq_true rfl | omega | (dsimp only; omega) | (simp <;> omega)) (fun h => by first | rfl | cases h)) rfl rfl pre0 rfl rfl ?_
  first
  | refine hq_ 5 (hop_len_sl (T := 26) rfl (elOf_spec el_26).1 rfl) rfl rfl pre0 rfl rfl ?_
  | refine hq_ 5 (hop_len_os (T := 26) rfl (elOf_spec el_26).1 rfl) rfl rfl pre0 rfl rfl ?_
  | refine hq_ 5 (hop_len_nil (T := 26) rfl (elOf_spec el_26).1 rfl) rfl rfl pre0 rfl rfl ?_
  refine hq_ 6 (hop_leq rfl rfl) rfl rfl pre0 rfl rfl ?_
  refine hq_ 7 (hop_move rfl) rfl rfl pre0 rfl rfl ?_
  first
  | refine hq_g 8 4 7 true _ (fun hb => hop_fa fd_77_9 rfl) rfl rfl rfl rfl pre0 rfl rfl rfl ?_
  | refine hq_g2 8 4 7 _ _ true _ (fun hb => hop_fa fd_77_9 rfl) rfl rfl rfl rfl pre0 rfl rfl rfl ?_
  | refine hq_g 8 4 7 true _ (fun hb => hop_fa_fp fd_77_9 rfl (by first | exact Nat.le_of_ble_eq_true rfl | (simp at hb; first | omega | (dsimp only; omega) | (simp <;> omega)))) rfl rfl rfl rfl pre0 rfl rfl rfl ?_
  | refine hq_g2 8 4 7 _ _ true _ (fun hb => hop_fa_fp fd_77_9 rfl (by first | exact Nat.le_of_ble_eq_true rfl | (simp at hb; first | omega | (dsimp only; omega) | (simp <;> omega)))) rfl rfl rfl rfl pre0 rfl rfl rfl ?_
  first
  | refine hq_g 9 4 7 true _ (fun hb => hol_load ty_75 rfl (by first | exact Nat.le_of_ble_eq_true rfl | (simp at hb; first | omega | (dsimp only; omega) | (simp <;> omega))) (by first | exact Nat.le_of_ble_eq_true rfl | (simp at hb; first | omega | (dsimp only; omega) | (simp <;> omega))) (fun h => by first | rfl | cases h)) rfl rfl rfl rfl (pre1 rfl) rfl rfl rfl ?_
  | refine hq_g2 9 4 7 _ _ true _ (fun hb => hol_load ty_75 rfl (by first | exact Nat.le_of_ble_eq_true rfl | (simp at hb; first | omega | (dsimp only; omega) | (simp <;> omega))) (by first | exact Nat.le_of_ble_eq_true rfl | (simp at hb; first | omega | (dsimp only; omega) | (simp <;> omega))) (fun h => by first | rfl | cases h)) rfl rfl rfl rfl (pre1 rfl) rfl rfl rfl ?_
  | refine hq_g 9 4 7 true _ (fun hb => hop_load_fp ty_75 rfl (by first | exact Nat.le_of_ble_eq_true rfl | (simp at hb; first | omega | (dsimp only; omega) | (simp <;> omega))) (fun h => by first | rfl | cases h)) rfl rfl rfl rfl pre0 rfl rfl rfl ?_
  | refine hq_g2 9 4 7 _ _ true _ (fun hb => hop_load_fp ty_75 rfl (by first | exact Nat.le_of_ble_eq_true rfl | (simp at hb; first | omega | (dsimp only; omega) | (simp <;> omega))) (fun h => by first | rfl | cases h)) rfl rfl rfl rfl pre0 rfl rfl rfl ?_
  first
  | refine hq_g 10 4 7 true _ (fun hb => hop_len_sl (T := 75) rfl (elOf_spec el_75).1 rfl) rfl rfl rfl rfl pre0 rfl rfl rfl ?_
  | refine hq_g2 10 4 7 _ _ true _ (fun hb => hop_len_sl (T := 75) rfl (elOf_spec el_75).1 rfl) rfl rfl rfl rfl pre0 rfl rfl rfl ?_
  | refine hq_g 10 4 7 true _ (fun hb => hop_len_os (T := 75) rfl (elOf_spec el_75).1 rfl) rfl rfl rfl rfl pre0 rfl rfl rfl ?_
  | refine hq_g2 10 4 7 _ _ true _ (fun hb => hop_len_os (T := 75) rfl (elOf_spec el_75).1 rfl) rfl rfl rfl rfl pre0 rfl rfl rfl ?_
  | refine hq_g 10 4 7 true _ (fun hb => hop_len_nil (T := 75) rfl (elOf_spec el_75).1 rfl) rfl rfl rfl rfl pre0 rfl rfl rfl ?_
  | refine hq_g2 10 4 7 _ _ true _ (fun hb => hop_len_nil (T := 75) rfl (elOf_spec el_75).1 rfl) rfl rfl rfl rfl pre0 rfl rfl rfl ?_
  first
  | refine hq_g 11 4 7 true _ (fun hb => hop_leq rfl rfl) rfl rfl rfl rfl pre0 rfl rfl rfl ?_
  | refine hq_g2 11 4 7 _ _ true _ (fun hb => hop_leq rfl rfl) rfl rfl rfl rfl pre0 rfl rfl rfl ?_
  first
  | refine hq_p 12 (hstep_and _ _ rfl rfl rfl) rfl rfl rfl ?_
  | refine hq_p 12 (hstep_or _ _ rfl rfl rfl) rfl rfl rfl ?_
  | refine hq_p 12 (hstep_ite _ _ _ rfl rfl rfl) rfl rfl rfl ?_
  | refine hq_p 12 (hstep_pick _ _ _ _ rfl rfl rfl (fun _ => .refl _) (fun _ => .refl _)) rfl rfl rfl ?_
  refine hq_ 2 (hop_assign rfl) rfl rfl pre0 rfl rfl ?_
  refine hseq_nilU (by rfl) (by simp only [dropUn, slots]; exact rfl) ?_
  refine h2 _ ?_
  refine hw_ret ?_
  refine hq_ret1 rfl (rval_tmp rfl) [] rfl pre0 ?_
  exact Frz.fz
end Go.Proofs.Ytkeeipfglmpgjaa
