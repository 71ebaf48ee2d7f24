/-
  All's closure, called with BagAll's own function.
-/
import Derived.Test.YtkeeipfglmpgjaaDoorBagYield
namespace Go.Proofs.YtkeeipfglmpgjaaDoor
set_option linter.unusedSimpArgs false
set_option linter.unusedVariables false
open Go.RowKit
attribute [local go_sem ↓] run_load_bag run_store_bag run_load_arr
attribute [local go_sem] rd_drewN rd_drew aggLoad_ptr aggRes_some aggStore_row rd_new rd_alloc rd_row_far rd_row rowSz_set rowSz_at rowSz_lt rowSz_far rowSz_drewN rowSz_drew bag_one Bag.cells_length
attribute [local irreducible] ones

set_option maxRecDepth 100000 in
set_option maxHeartbeats 2000000 in
theorem All1_fn (p7 p3 : Value) (Bx n₀ : Nat) (x : Bag) (hx : x.ok) (hg : 0 < n₀) (J Jx : List Int → World → Prop)
    (hY : ∀ pre v W, J pre W → pre.length < x.list.length → Calls Tryd.prog 10 #[.int .i64 v, p7, p3] W fun e W' =>
      (e = .returned (.bool true) ∧ J (pre ++ [v]) W' ∧ Below n₀ W W') ∨ (e = .returned (.bool false) ∧ Jx (pre ++ [v]) W'))
    (W : World) (hb : rd W ⟨Bx, 0, none⟩ 4 = some x.cells) (hT : TabAt W) (h0 : J [] W) :
    Calls Tryd.prog 22 #[.func (.func 10) #[] #[p7, p3], .pointer (some ⟨Bx, 0, none⟩)] W fun e W' => (∃ v, e = .returned v) ∧
      ((∃ ys, ys = x.list ∧ J ys W') ∨ (∃ pre, pre <+: x.list ∧ Jx pre W')) := by
  go_enter Tryd.func22, Tryd.ntmps22
  go_wp2
  go_loopw [7] (fun i wr => ∃ k : Nat, k ≤ 4 ∧ i = .int .i64 k ∧ J (x.part k) wr ∧ TabAt wr) (fun i _ => 4 - (intOf i).toNat)
  case atStart => exact ⟨0, by omega, rfl, h0, hT⟩
  case round =>
    obtain ⟨k, hk, rfl, hJ, hTr⟩ := hrel
    by_cases hlt : k < 4
    · have hc := run_index_bag x k hlt
      have hwk := x.word_lt hx k
      have hk4 : decide ((k : Int) < 4) = true := by simp; omega
      go_wp2
      go_loopw [4] (fun v wr => ∃ y : Nat, ∃ a, v = .int .u64 y ∧ y < 18446744073709551616 ∧ ones (x.word k) = a ++ ones y ∧ J (x.part k ++ nums k a) wr ∧ TabAt wr) (fun v _ => (intOf v).toNat)
      case atStart => exact ⟨x.word k, [], rfl, hwk, rfl, by rw [show nums k [] = [] from by unfold nums; rfl, List.append_nil]; exact hJ, hTr⟩
      case round =>
        obtain ⟨y, a, rfl, hy, ha, hJs, hT2⟩ := hrel
        by_cases h0y : y = 0
        · subst h0y
          have hfin : x.part k ++ nums k a = x.part (k + 1) := by
            show _ = x.part k ++ nums k (ones (x.word k))
            rw [ha, ones_zero, List.append_nil]
          go_wp2
          go_roundw
          case rel => exact ⟨k + 1, by omega, by go_num, by rw [← hfin]; exact hJs, hT2⟩
          case measure => simp [intOf]; omega
        · obtain ⟨hz, hst⟩ := ones_step y h0y hy
          have hlen := x.here_lt k hlt a y _ _ ha hst
          have hTZ := TrailingZeros_any y hy h0y wr hT2
          obtain ⟨z, hzz⟩ : ∃ z, Lib.ctz 64 y = z := ⟨_, rfl⟩
          rw [hzz] at hz hst hTZ
          have hp : 64 * (k : Int) + (z : Int) = ((64 * k + z : Nat) : Int) := by omega
          obtain ⟨V, hV⟩ : ∃ V : Int, ((64 * k + z : Nat) : Int) = V := ⟨_, rfl⟩
          have hR := hY _ V wr hJs hlen
          rw [hV] at hp
          have HV := Lib.hid hV
          have hand : bits .and .u64 (y : Int) ((y : Int) - 1) = ((y &&& (y - 1) : Nat) : Int) := by
            have e : (y : Int) - 1 = ((y - 1 : Nat) : Int) := by omega
            rw [e]; exact bits_and_u64_nat y (y - 1) hy (by omega)
          have hand2 : bits .and .u64 (y : Int) (IntKind.u64.wrap ((y : Int) - 1)) = ((y &&& (y - 1) : Nat) : Int) := by
            have e : IntKind.u64.wrap ((y : Int) - 1) = (y : Int) - 1 := by rw [IntKind.wrap_u64]; omega
            rw [e]; exact hand
          have hdec := and_pred_lt y h0y
          obtain ⟨y', hy'⟩ : ∃ y', y &&& (y - 1) = y' := ⟨_, rfl⟩
          rw [hy'] at hand hand2 hdec hst
          have HA := Lib.hid ha
          have HS := Lib.hid hst
          have HT := Lib.hid hT2
          clear hV hy' ha hst hT2 hT hTr hzz
          go_wp2_with (go_at_call 23; refine hTZ.mono ?_; rintro e w1 ⟨rfl, rfl⟩)
          refine hR.mono ?_
          rintro e W3 (⟨rfl, hJ3, hk3⟩ | ⟨rfl, hJx3⟩)
          · go_wp2
            go_roundw
            case rel => exact ⟨y', a ++ [z], by go_num, by omega, by rw [HA.out, HS.out]; simp, by rw [nums_snoc, ← List.append_assoc, HV.out]; exact hJ3, HT.out.below hk3 hg⟩
            case measure => simp [intOf]; omega
          · go_wp2
            refine bodyPost_ret (results_none rfl _ _ _) rfl ?_
            refine ⟨⟨_, rfl⟩, .inr ⟨_, ?_, hJx3⟩⟩
            have h5 := x.here' k hlt (a ++ [z]) (ones y') (by rw [HA.out, HS.out]; simp)
            rw [nums_snoc, ← List.append_assoc, HV.out] at h5
            exact h5
    · obtain rfl : k = 4 := by omega
      go_wp2
      go_end0
      exact ⟨⟨_, rfl⟩, .inl ⟨_, by unfold Bag.list; rfl, hJ⟩⟩
end Go.Proofs.YtkeeipfglmpgjaaDoor
