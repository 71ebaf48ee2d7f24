/-
  A bag's numbers, told one by one: All's closure under a range over it.
-/
import Derived.RangeFuncBox
import Derived.RangeFuncBound
import Derived.RangeFuncCalls
import Derived.RangeFuncLeaves
import Derived.Shelf.Abstract
import Derived.Shelf.RegionOpen
import Derived.WalkKit
import Derived.OwnWalkIn
import Derived.TacticsInMore
import Derived.LoopNIn
import Derived.LoopIn
import Derived.Maps.AppendAt
import Derived.Test.YtkeeipfglmpgjaaDoorBagOf
namespace Go.Proofs.YtkeeipfglmpgjaaDoor
set_option linter.unusedSimpArgs false
set_option linter.unusedVariables false
open Go.RowKit Go.Shelf
attribute [local go_sem ↓] run_load_bag run_store_bag run_load_arr
attribute [local go_sem] rd_drewN rd_drew aggLoad_ptr aggRes_some aggStore_row rd_new rd_alloc rd_row_far rd_row rowSz_set rowSz_at rowSz_lt rowSz_far rowSz_drewN rowSz_drew bag_one Bag.cells_length
attribute [local go_sem] Oper.semAt_some

/-- The numbers of word k, from the list of its ones. -/
def nums (k : Nat) (l : List Nat) : List Int := l.map fun j => ((64 * k + j : Nat) : Int)
theorem nums_snoc (k : Nat) (l : List Nat) (j : Nat) : nums k (l ++ [j]) = nums k l ++ [((64 * k + j : Nat) : Int)] := by simp [nums]
/-- The numbers of the words below k. -/
def Bag.part (x : Bag) : Nat → List Int | 0 => [] | k + 1 => x.part k ++ nums k (ones (x.word k))
def Bag.list (x : Bag) : List Int := x.part 4
theorem Bag.part_prefix (x : Bag) : ∀ d k, x.part k <+: x.part (k + d) := by
  intro d
  induction d with
  | zero => intro k; exact List.prefix_refl _
  | succ d ih => intro k; exact (ih k).trans (by rw [← Nat.add_assoc]; exact List.prefix_append _ _)
theorem Bag.here' (x : Bag) (k : Nat) (hk : k < 4) (a r : List Nat) (h : ones (x.word k) = a ++ r) : x.part k ++ nums k a <+: x.list := by
  have h1 : x.part k ++ nums k a <+: x.part (k + 1) := by
    show _ <+: x.part k ++ nums k (ones (x.word k))
    rw [h, nums, nums, List.map_append, ← List.append_assoc]
    exact List.prefix_append _ _
  have h2 := x.part_prefix (3 - k) (k + 1)
  rw [show k + 1 + (3 - k) = 4 from by omega] at h2
  exact h1.trans h2
theorem Bag.here (x : Bag) (k : Nat) (hk : k < 4) (a : List Nat) (y : Nat) (h : ones (x.word k) = a ++ ones y) : x.part k ++ nums k a <+: x.list := x.here' k hk a _ h
theorem Bag.here_lt (x : Bag) (k : Nat) (hk : k < 4) (a : List Nat) (y j : Nat) (r : List Nat) (h : ones (x.word k) = a ++ ones y) (hy : ones y = j :: r) : (x.part k ++ nums k a).length < x.list.length := by
  have h3 := (x.here' k hk (a ++ [j]) r (by rw [h, hy]; simp)).length_le
  have h4 : (x.part k ++ nums k (a ++ [j])).length = (x.part k ++ nums k a).length + 1 := by rw [nums_snoc, ← List.append_assoc, List.length_append]; rfl
  omega
attribute [local irreducible] ones
attribute [irreducible] nums Bag.list

theorem natOf_u64 (y : Nat) : (intOf (.int .u64 (y : Int))).toNat = y := by simp [intOf]

set_option maxRecDepth 100000 in
set_option maxHeartbeats 2000000 in
theorem All1_in (n : Nat) (hn : 1 ≤ n) (l Bx n₀ : Nat) (x : Bag) (hx : x.ok) (hg : 0 < n₀) (J Jx : List Int → World → Prop)
    (hY : ∀ pre v W, J pre W → pre.length < x.list.length → YieldAt Fence.wide (n - 1) Tryd.prog l #[.int .i64 v] W fun e W' =>
      (e = .returned (.bool true) ∧ J (pre ++ [v]) W' ∧ Below n₀ W W') ∨ (e = .returned (.bool false) ∧ Jx (pre ++ [v]) W'))
    (W : World) (hb : rd W ⟨Bx, 0, none⟩ 4 = some x.cells) (hT : TabAt W) (h0 : J [] W) :
    CallsIn Fence.wide n Tryd.prog 22 #[.func (.yield l) #[] #[], .pointer (some ⟨Bx, 0, none⟩)] W fun e W' => (∃ v, e = .returned v) ∧
      ((∃ ys, ys = x.list ∧ J ys W') ∨ (∃ pre, pre <+: x.list ∧ Jx pre W')) := by
  have c0 : W.cell? ⟨Bx, 0, none⟩ = some (.int .u64 x.a) := (rd_cell hb).2 0 (by omega)
  have c1 : W.cell? ⟨Bx, 1, none⟩ = some (.int .u64 x.b) := by simpa [Addr.add, Bag.cells] using (rd_cell hb).2 1 (by omega)
  have c2 : W.cell? ⟨Bx, 2, none⟩ = some (.int .u64 x.c) := by simpa [Addr.add, Bag.cells] using (rd_cell hb).2 2 (by omega)
  have c3 : W.cell? ⟨Bx, 3, none⟩ = some (.int .u64 x.d) := by simpa [Addr.add, Bag.cells] using (rd_cell hb).2 3 (by omega)
  clear hb
  refine callsIn_of_wp Tryd.func22 rfl trivial ?_ rfl
  simp only [Tryd.ntmps22, List.size_toArray, List.length_cons, List.length_nil, Nat.reduceAdd, Nat.reduceSub, Array.replicate_succ, Array.replicate_zero, List.push_toArray, List.append_toArray, List.nil_append, List.cons_append]
  gi_wp2
  gi_loopw [7] (fun i wr => ∃ k : Nat, k ≤ 4 ∧ i = .int .i64 k ∧ J (x.part k) wr ∧ TabAt wr) (fun i _ => 4 - (intOf i).toNat)
  case atStart => exact ⟨0, by omega, rfl, h0, hT⟩
  case round =>
    obtain ⟨k, hk, rfl, hJ, hTr⟩ := hrel
    by_cases hlt : k < 4
    · have hc : ∀ w, (Instr.index 27 (.agg #[.int .u64 x.a, .int .u64 x.b, .int .u64 x.c, .int .u64 x.d]) (.int .i64 k)).run Tryd.prog w = .ok (.int .u64 (x.word k)) w := run_index_bag x k hlt
      have hwk := x.word_lt hx k
      have hk4 : decide ((k : Int) < 4) = true := by simp; omega
      gi_wp2
      gi_loopw [4] (fun v wr => ∃ y : Nat, ∃ a, v = .int .u64 y ∧ y < 18446744073709551616 ∧ ones (x.word k) = a ++ ones y ∧ J (x.part k ++ nums k a) wr ∧ TabAt wr) (fun v _ => (intOf v).toNat)
      case atStart => exact ⟨x.word k, [], rfl, hwk, rfl, by rw [show nums k [] = [] from by unfold nums; rfl, List.append_nil]; exact hJ, hTr⟩
      case round =>
        obtain ⟨y, a, rfl, hy, ha, hJs, hT2⟩ := hrel
        by_cases h0y : y = 0
        · subst h0y
          have hfin : x.part k ++ nums k a = x.part (k + 1) := by
            show _ = x.part k ++ nums k (ones (x.word k))
            rw [ha, ones_zero, List.append_nil]
          gi_wp2
          go_roundw
          case rel => exact ⟨k + 1, by omega, by go_num, by rw [← hfin]; exact hJs, hT2⟩
          case measure => simp [intOf]; omega
        · obtain ⟨hz, hst⟩ := ones_step y h0y hy
          have hlen := x.here_lt k hlt a y _ _ ha hst
          have hTZ := TrailingZeros_any y hy h0y wr hT2
          obtain ⟨z, hzz⟩ : ∃ z, Lib.ctz 64 y = z := ⟨_, rfl⟩
          rw [hzz] at hz hst hTZ
          have hp : 64 * (k : Int) + (z : Int) = ((64 * k + z : Nat) : Int) := by omega
          obtain ⟨V, hV⟩ : ∃ V : Int, ((64 * k + z : Nat) : Int) = V := ⟨_, rfl⟩
          obtain ⟨fn, tmps, assign, body, hyv, hR⟩ := hY _ V wr hJs hlen
          rw [hV] at hp
          have HV := Lib.hid hV
          have hand : bits .and .u64 (y : Int) ((y : Int) - 1) = ((y &&& (y - 1) : Nat) : Int) := by
            have e : (y : Int) - 1 = ((y - 1 : Nat) : Int) := by omega
            rw [e]; exact bits_and_u64_nat y (y - 1) hy (by omega)
          have hand2 : bits .and .u64 (y : Int) (IntKind.u64.wrap ((y : Int) - 1)) = ((y &&& (y - 1) : Nat) : Int) := by
            have e : IntKind.u64.wrap ((y : Int) - 1) = (y : Int) - 1 := by rw [IntKind.wrap_u64]; omega
            rw [e]; exact hand
          have hdec := and_pred_lt y h0y
          obtain ⟨y', hy'⟩ : ∃ y', y &&& (y - 1) = y' := ⟨_, rfl⟩
          rw [hy'] at hand hand2 hdec hst
          have HA := Lib.hid ha
          have HS := Lib.hid hst
          have HT := Lib.hid hT2
          clear hV hy' ha hst hT2 hT hTr hzz
          gi_wp2_with (refine ⟨trivial, ?_⟩; gi_at_call 23; refine (callsIn_wide.2 hTZ).mono ?_; rintro e w1 ⟨rfl, rfl⟩)
          refine hR.mono ?_
          rintro e W3 (⟨rfl, hJ3, hk3⟩ | ⟨rfl, hJx3⟩)
          · gi_wp2
            go_roundw
            case rel => exact ⟨y', a ++ [z], by go_num, by omega, by rw [HA.out, HS.out]; simp, by rw [nums_snoc, ← List.append_assoc, HV.out]; exact hJ3, HT.out.below hk3 hg⟩
            case measure => simp [intOf]; omega
          · gi_wp2
            refine bodyPost_ret (results_none rfl _ _ _) rfl ?_
            refine ⟨⟨_, rfl⟩, .inr ⟨_, ?_, hJx3⟩⟩
            have h5 := x.here' k hlt (a ++ [z]) (ones y') (by rw [HA.out, HS.out]; simp)
            rw [nums_snoc, ← List.append_assoc, HV.out] at h5
            exact h5
    · obtain rfl : k = 4 := by omega
      gi_wp2
      go_end0
      exact ⟨⟨_, rfl⟩, .inl ⟨_, by unfold Bag.list; rfl, hJ⟩⟩
end Go.Proofs.YtkeeipfglmpgjaaDoor
