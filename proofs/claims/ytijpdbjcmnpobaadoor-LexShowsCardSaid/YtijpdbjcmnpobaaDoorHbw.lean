/-
  The writers of strings.Builder in the reader's words.
-/
import Derived.Test.YtijpdbjcmnpobaaDoorHbl
namespace Go.Proofs.YtijpdbjcmnpobaaDoor
set_option linter.unusedSimpArgs false
set_option linter.unusedVariables false
set_option maxRecDepth 100000
open Go.RowKit

theorem writeByte_h (c g g2 n : Nat) (l : List UInt8) (b : UInt8) (x : Int) (hx : x = (b.toNat : Int)) (hn : n = l.length) (hl : n ≤ 1000000000) : HFun Tryd.prog 45 c [.pt 8001 g 0 0, .imm (.int .u8 x)] [(8001, bldO g g2 n), (8002, bufO g2 n l)]
    (RetP (fun (g3 : Nat) _ => True) (fun _ => .imm .nilIface) (fun g3 => [(8001, bldO g g3 (n + 1)), (8002, bufO g3 (n + 1) (l ++ [b]))])) := by
  subst hx
  refine hfun_of Tryd.func45 rfl (by kernel_rfl) _ _ _ _ rfl 17 rfl rfl (fun X ok hX => ?_)
  refine hw_seq (fun Nh1 h1 => ?_)
  refine hw_region ?_
  refine hq_ 4 (hop_assign rfl) rfl rfl pre0 rfl rfl ?_
  refine hseq_nil ?_
  refine h1 _ ?_
  refine hw_seq (fun Nh2 h2 => ?_)
  refine hw_region ?_
  refine hq_ 5 (hop_move rfl) rfl rfl pre0 rfl rfl ?_
  refine hf_callR 6 (xs := [_]) (pre := [(8001, _)]) (copy_h _ _ _ _) ⟨rfl, trivial⟩ (preC rfl pre0) rfl rfl (fun x1 c1 hx1 => ?_)
  obtain rfl := hx1
  (try dsimp only)
  refine hseq_nil ?_
  refine h2 _ ?_
  refine hw_seq (fun Nh3 h3 => ?_)
  refine hw_region ?_
  refine hq_ 7 (hop_move rfl) rfl rfl pre0 rfl rfl ?_
  refine hq_ 8 (hop_move rfl) rfl rfl pre0 rfl rfl ?_
  first
  | refine hq_ 9 (hop_nilcheck_pt rfl) rfl rfl pre0 rfl rfl ?_
  | refine hq_ 9 (hop_nilcheck_fp rfl) rfl rfl pre0 rfl rfl ?_
  first
  | refine hq_ 10 (hop_fa fd_76_1 rfl) rfl rfl pre0 rfl rfl ?_
  | refine hq_ 10 (hop_fa_fp fd_76_1 rfl (by first | exact Nat.le_of_ble_eq_true rfl | omega | (dsimp only; omega) | (simp <;> omega))) rfl rfl pre0 rfl rfl ?_
  first
  | refine hq_ 11 (hol_load ty_27 rfl (by first | exact Nat.le_of_ble_eq_true rfl | omega | (dsimp only; omega) | (simp <;> omega)) (by first | exact Nat.le_of_ble_eq_true rfl | omega | (dsimp only; omega) | (simp <;> omega)) (fun h => by first | rfl | cases h)) rfl rfl (pre1 rfl) rfl rfl ?_
  | refine hq_ 11 (hop_load_fp ty_27 rfl (by first | exact Nat.le_of_ble_eq_true rfl | omega | (dsimp only; omega) | (simp <;> omega)) (fun h => by first | rfl | cases h)) rfl rfl pre0 rfl rfl ?_
  refine hq_ 12 (hop_move rfl) rfl rfl pre0 rfl rfl ?_
  refine hm_1 13 (hop_buildSlice (id := 13) (hs := [_]) ei_27 (by first | exact Nat.le_of_ble_eq_true rfl | omega | (dsimp only; omega) | (simp <;> omega)) rfl (by first | exact Nat.le_of_ble_eq_true rfl | omega | (dsimp only; omega) | (simp <;> omega)) ⟨rfl, rfl, rfl, rfl, trivial⟩) rfl rfl pre0 rfl rfl (c' := c1 + 1) rfl ?_
  first
  | refine hm_1 14 (hol_append ei_27 (by first | exact Nat.le_of_ble_eq_true rfl | omega | (dsimp only; omega) | (simp <;> omega)) rfl (by first | exact Nat.le_of_ble_eq_true rfl | omega | (dsimp only; omega) | (simp <;> omega)) (by first | exact Nat.le_of_ble_eq_true rfl | omega | (dsimp only; omega) | (simp <;> omega)) (srl_os0 rfl (by first | exact Nat.le_of_ble_eq_true rfl | omega | (dsimp only; omega) | (simp <;> omega))) (by first | exact Nat.le_of_ble_eq_true rfl | omega | (dsimp only; omega) | (simp <;> omega)) rfl) rfl rfl (preC rfl (pre1 rfl)) rfl rfl (c' := c1 + 2) rfl ?_
  | refine hm_1 14 (hol_append ei_27 (by first | exact Nat.le_of_ble_eq_true rfl | omega | (dsimp only; omega) | (simp <;> omega)) rfl (by first | exact Nat.le_of_ble_eq_true rfl | omega | (dsimp only; omega) | (simp <;> omega)) (by first | exact Nat.le_of_ble_eq_true rfl | omega | (dsimp only; omega) | (simp <;> omega)) (srl_os rfl (by first | exact Nat.le_of_ble_eq_true rfl | omega | (dsimp only; omega) | (simp <;> omega))) (by first | exact Nat.le_of_ble_eq_true rfl | omega | (dsimp only; omega) | (simp <;> omega)) rfl) rfl rfl (preC rfl (pre1 rfl)) rfl rfl (c' := c1 + 2) rfl ?_
  | refine hm_1 14 (hol_append ei_27 (by first | exact Nat.le_of_ble_eq_true rfl | omega | (dsimp only; omega) | (simp <;> omega)) rfl (by first | exact Nat.le_of_ble_eq_true rfl | omega | (dsimp only; omega) | (simp <;> omega)) (by first | exact Nat.le_of_ble_eq_true rfl | omega | (dsimp only; omega) | (simp <;> omega)) (src_sl rfl) (by first | exact Nat.le_of_ble_eq_true rfl | omega | (dsimp only; omega) | (simp <;> omega)) rfl) rfl rfl (preC rfl pre0) rfl rfl (c' := c1 + 2) rfl ?_
  | refine hm_1 14 (hol_append ei_27 (by first | exact Nat.le_of_ble_eq_true rfl | omega | (dsimp only; omega) | (simp <;> omega)) rfl (by first | exact Nat.le_of_ble_eq_true rfl | omega | (dsimp only; omega) | (simp <;> omega)) (by first | exact Nat.le_of_ble_eq_true rfl | omega | (dsimp only; omega) | (simp <;> omega)) (src_nil 1 (fun _ _ => default) rfl) (by first | exact Nat.le_of_ble_eq_true rfl | omega | (dsimp only; omega) | (simp <;> omega)) rfl) rfl rfl (preC rfl pre0) rfl rfl (c' := c1 + 2) rfl ?_
  first
  | refine hq_ 15 (hop_nilcheck_pt rfl) rfl rfl pre0 rfl rfl ?_
  | refine hq_ 15 (hop_nilcheck_fp rfl) rfl rfl pre0 rfl rfl ?_
  first
  | refine hq_ 16 (hop_fa fd_76_1 rfl) rfl rfl pre0 rfl rfl ?_
  | refine hq_ 16 (hop_fa_fp fd_76_1 rfl (by first | exact Nat.le_of_ble_eq_true rfl | omega | (dsimp only; omega) | (simp <;> omega))) rfl rfl pre0 rfl rfl ?_
  first
  | refine hm_s1 (hol_storeW ty_27 rfl rfl rfl rfl) rfl rfl (pre1 rfl) (c' := c1 + 3) rfl ?_
  | refine hm_s1 (hol_store ty_27 rfl rfl rfl rfl (by first | exact Nat.le_of_ble_eq_true rfl | omega | (dsimp only; omega) | (simp <;> omega)) (by first | exact Nat.le_of_ble_eq_true rfl | omega | (dsimp only; omega) | (simp <;> omega)) (by first | exact Nat.le_of_ble_eq_true rfl | omega | (dsimp only; omega) | (simp <;> omega))) rfl rfl (pre1 rfl) (c' := c1 + 3) rfl ?_
  refine hseq_nil ?_
  refine h3 _ ?_
  refine hw_seq (fun Nh4 h4 => ?_)
  refine hw_region ?_
  refine hq_ 4 (hop_assign rfl) rfl rfl pre0 rfl rfl ?_
  refine hseq_nil ?_
  refine h4 _ ?_
  refine hw_ret ?_
  refine hf_retR1 ok hX RetS.one rfl (rval_tmp rfl) [] rfl pre0 (c1 + 1) (trivial) (by rfl) (by rfl) ((by first | exact .fz _ _ (.imm _) | exact .os _ _ _ _ _ rfl rfl | exact .pt _ _ _ _ _ rfl rfl | exact .nps _ _ _ rfl rfl | (dsimp only; exact .fz _ _ Frz.fz) | exact .fz _ _ (.tup 0 _ _ (fun i hi => absurd hi (Nat.not_lt_zero _))))) ?_
  exact ⟨⟨_, rfl, okz2 (by first | exact .fz _ _ (.imm _) | exact .os _ _ _ _ _ rfl rfl | exact .pt _ _ _ _ _ rfl rfl | exact .nps _ _ _ rfl rfl | (dsimp only; exact .fz _ _ Frz.fz) | exact .fz _ _ (.tup 0 _ _ (fun i hi => absurd hi (Nat.not_lt_zero _)))) (by first | exact .fz _ _ (.imm _) | exact .os _ _ _ _ _ rfl rfl | exact .pt _ _ _ _ _ rfl rfl | exact .nps _ _ _ rfl rfl | (dsimp only; exact .fz _ _ Frz.fz) | exact .fz _ _ (.tup 0 _ _ (fun i hi => absurd hi (Nat.not_lt_zero _))))⟩, ⟨⟨_, rfl, OKz.of (fun i j hi hj => .fz _ _ (fz_cat (l := l) (k := [b]) (enc := fun c _ => u8V c) (d := 0) hn (fun i j _ _ => .imm _) (fun i j hi hj => by match i, hi with | 0, _ => exact .imm _) i j (by simp; omega) hj))⟩, trivial⟩⟩
theorem writeString_h (c g g2 n : Nat) (l m : List UInt8) (hn : n = l.length) (hl : n + m.length ≤ 1000000000) : HFun Tryd.prog 47 c [.pt 8001 g 0 0, strV m] [(8001, bldO g g2 n), (8002, bufO g2 n l)]
    (RetP (fun (g3 : Nat) _ => True) (fun _ => t2 (intV m.length) (.imm .nilIface)) (fun g3 => [(8001, bldO g g3 (n + m.length)), (8002, bufO g3 (n + m.length) (l ++ m))])) := by
  refine hfun_of Tryd.func47 rfl (by kernel_rfl) _ _ _ _ rfl 19 rfl rfl (fun X ok hX => ?_)
  refine hw_seq (fun Nh1 h1 => ?_)
  refine hw_region ?_
  refine hq_ 4 (hop_assign rfl) rfl rfl pre0 rfl rfl ?_
  refine hq_ 5 (hop_assign rfl) rfl rfl pre0 rfl rfl ?_
  refine hseq_nil ?_
  refine h1 _ ?_
  refine hw_seq (fun Nh2 h2 => ?_)
  refine hw_region ?_
  refine hq_ 6 (hop_move rfl) rfl rfl pre0 rfl rfl ?_
  refine hf_callR 7 (xs := [_]) (pre := [(8001, _)]) (copy_h _ _ _ _) ⟨rfl, trivial⟩ (preC rfl pre0) rfl rfl (fun x1 c1 hx1 => ?_)
  obtain rfl := hx1
  (try dsimp only)
  refine hseq_nil ?_
  refine h2 _ ?_
  refine hw_seq (fun Nh3 h3 => ?_)
  refine hw_region ?_
  refine hq_ 8 (hop_move rfl) rfl rfl pre0 rfl rfl ?_
  refine hq_ 9 (hop_move rfl) rfl rfl pre0 rfl rfl ?_
  first
  | refine hq_ 10 (hop_nilcheck_pt rfl) rfl rfl pre0 rfl rfl ?_
  | refine hq_ 10 (hop_nilcheck_fp rfl) rfl rfl pre0 rfl rfl ?_
  first
  | refine hq_ 11 (hop_fa fd_76_1 rfl) rfl rfl pre0 rfl rfl ?_
  | refine hq_ 11 (hop_fa_fp fd_76_1 rfl (by first | exact Nat.le_of_ble_eq_true rfl | omega | (dsimp only; omega) | (simp <;> omega))) rfl rfl pre0 rfl rfl ?_
  first
  | refine hq_ 12 (hol_load ty_27 rfl (by first | exact Nat.le_of_ble_eq_true rfl | omega | (dsimp only; omega) | (simp <;> omega)) (by first | exact Nat.le_of_ble_eq_true rfl | omega | (dsimp only; omega) | (simp <;> omega)) (fun h => by first | rfl | cases h)) rfl rfl (pre1 rfl) rfl rfl ?_
  | refine hq_ 12 (hop_load_fp ty_27 rfl (by first | exact Nat.le_of_ble_eq_true rfl | omega | (dsimp only; omega) | (simp <;> omega)) (fun h => by first | rfl | cases h)) rfl rfl pre0 rfl rfl ?_
  refine hq_ 13 (hop_move rfl) rfl rfl pre0 rfl rfl ?_
  refine hm_1 14 (hol_append_str m ei_27 (by kernel_rfl) (by kernel_rfl) rfl rfl (by first | omega | exact Nat.le_refl _) (Nat.zero_le _) (by omega) rfl) rfl rfl (pre1 rfl) rfl rfl (c' := c1 + 1) rfl ?_
  first
  | refine hq_ 15 (hop_nilcheck_pt rfl) rfl rfl pre0 rfl rfl ?_
  | refine hq_ 15 (hop_nilcheck_fp rfl) rfl rfl pre0 rfl rfl ?_
  first
  | refine hq_ 16 (hop_fa fd_76_1 rfl) rfl rfl pre0 rfl rfl ?_
  | refine hq_ 16 (hop_fa_fp fd_76_1 rfl (by first | exact Nat.le_of_ble_eq_true rfl | omega | (dsimp only; omega) | (simp <;> omega))) rfl rfl pre0 rfl rfl ?_
  first
  | refine hm_s1 (hol_storeW ty_27 rfl rfl rfl rfl) rfl rfl (pre1 rfl) (c' := c1 + 2) rfl ?_
  | refine hm_s1 (hol_store ty_27 rfl rfl rfl rfl (by first | exact Nat.le_of_ble_eq_true rfl | omega | (dsimp only; omega) | (simp <;> omega)) (by first | exact Nat.le_of_ble_eq_true rfl | omega | (dsimp only; omega) | (simp <;> omega)) (by first | exact Nat.le_of_ble_eq_true rfl | omega | (dsimp only; omega) | (simp <;> omega))) rfl rfl (pre1 rfl) (c' := c1 + 2) rfl ?_
  refine hseq_nil ?_
  refine h3 _ ?_
  refine hw_seq (fun Nh4 h4 => ?_)
  refine hw_region ?_
  refine hq_ 17 (hop_move rfl) rfl rfl pre0 rfl rfl ?_
  refine hq_ 18 (hop_len_strl (T := 9) rfl (by kernel_rfl) rfl) rfl rfl pre0 rfl rfl ?_
  refine hq_ 4 (hop_assign rfl) rfl rfl pre0 rfl rfl ?_
  refine hq_ 5 (hop_assign rfl) rfl rfl pre0 rfl rfl ?_
  refine hseq_nil ?_
  refine h4 _ ?_
  refine hw_ret ?_
  refine hf_retR2 ok hX RetS.one rfl (rval_tmp rfl) (rval_tmp rfl) [] rfl pre0 (c1) (trivial) (by rfl) (by rfl) (kz_t2 (by first | exact .fz _ _ (.imm _) | exact .os _ _ _ _ _ rfl rfl | exact .pt _ _ _ _ _ rfl rfl | exact .nps _ _ _ rfl rfl | (dsimp only; exact .fz _ _ Frz.fz) | exact .fz _ _ (.tup 0 _ _ (fun i hi => absurd hi (Nat.not_lt_zero _)))) (by first | exact .fz _ _ (.imm _) | exact .os _ _ _ _ _ rfl rfl | exact .pt _ _ _ _ _ rfl rfl | exact .nps _ _ _ rfl rfl | (dsimp only; exact .fz _ _ Frz.fz) | exact .fz _ _ (.tup 0 _ _ (fun i hi => absurd hi (Nat.not_lt_zero _))))) ?_
  exact ⟨⟨_, rfl, okz2 (by first | exact .fz _ _ (.imm _) | exact .os _ _ _ _ _ rfl rfl | exact .pt _ _ _ _ _ rfl rfl | exact .nps _ _ _ rfl rfl | (dsimp only; exact .fz _ _ Frz.fz) | exact .fz _ _ (.tup 0 _ _ (fun i hi => absurd hi (Nat.not_lt_zero _)))) (by first | exact .fz _ _ (.imm _) | exact .os _ _ _ _ _ rfl rfl | exact .pt _ _ _ _ _ rfl rfl | exact .nps _ _ _ rfl rfl | (dsimp only; exact .fz _ _ Frz.fz) | exact .fz _ _ (.tup 0 _ _ (fun i hi => absurd hi (Nat.not_lt_zero _))))⟩, ⟨⟨_, rfl, OKz.of (fun i j hi hj => .fz _ _ (fz_cat (l := l) (k := m) (enc := fun c _ => u8V c) (d := 0) hn (fun i j _ _ => .imm _) (fun i j _ _ => .imm _) i j (by simp; omega) hj))⟩, trivial⟩⟩
end Go.Proofs.YtijpdbjcmnpobaaDoor
