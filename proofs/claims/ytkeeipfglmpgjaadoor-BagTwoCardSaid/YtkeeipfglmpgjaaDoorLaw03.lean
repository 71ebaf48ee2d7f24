/-
  Layer 3's laws: what must be whatever is asked.
-/
import Derived.Test.YtkeeipfglmpgjaaDoorBagM2
import Derived.Deep.RegionHeld3
import Derived.Deep.DeepCutAuto
import Derived.OpenShut
namespace Go.Proofs.YtkeeipfglmpgjaaDoor
set_option linter.unusedSimpArgs false
set_option linter.unusedVariables false
open Go.RowKit
attribute [local go_sem ↓] run_load_bag run_store_bag run_load_arr
attribute [local go_sem] rd_drewN rd_drew aggLoad_ptr aggRes_some aggStore_row rd_new rd_alloc rd_row_far rd_row rowSz_set rowSz_at rowSz_lt rowSz_far rowSz_drewN rowSz_drew bag_one Bag.cells_length

theorem Bag.eq_iff (s t : Bag) : (s.a = t.a ∧ s.b = t.b ∧ s.c = t.c ∧ s.d = t.d) ↔ s = t := by cases s; cases t; simp only [Bag.mk.injEq]
instance bagDec : DecidableEq Bag := fun s t => decidable_of_iff _ (Bag.eq_iff s t)
theorem ite_ok {p : Prop} [Decidable p] (b : Bool) (w : World) : (if p then Result.ok b w else Result.ok false w) = Result.ok (decide p && b) w := by by_cases h : p <;> simp [h]
theorem ite_ok2 (b : Bool) (w : World) : (if b = false then Result.ok false w else Result.ok true w) = Result.ok b w := by cases b <;> simp
theorem u64_info : ∃ i, Tryd.prog.info? 26 = some i := by
  cases h : Tryd.prog.info? 26 with
  | some i => exact ⟨i, rfl⟩
  | none => have h1 : (Tryd.prog.info? 26).isSome = true := by kernel_rfl
            simp [h] at h1
theorem cells_u64 : Tryd.prog.cellsOf 26 = 1 := by kernel_rfl
theorem eq_arr (w : World) (a0 a1 a2 a3 b0 b1 b2 b3 : Int) (d : Nat) :
    (Op.equalIn (d + 2) 27 (.agg #[.int .u64 a0, .int .u64 a1, .int .u64 a2, .int .u64 a3]) (.agg #[.int .u64 b0, .int .u64 b1, .int .u64 b2, .int .u64 b3])).run Tryd.prog w
      = .ok (decide (a0 = b0 ∧ a1 = b1 ∧ a2 = b2 ∧ a3 = b3)) w := by
  obtain ⟨i, hi⟩ := u64_info
  rw [run_equalIn_array w (d + 1) _ _ Tryd.underlying27 hi, cells_u64]
  simp [List.range_succ, Op.eqItems, part, go_sem]
  simp only [ite_ok, Bool.and_true]
theorem run_eqbagIn (w : World) (s t : Bag) (d : Nat) : (Op.equalIn (d + 3) 29 (.agg s.cells.toArray) (.agg t.cells.toArray)).run Tryd.prog w = .ok (decide (s = t)) w := by
  obtain ⟨a, b, c, d'⟩ := s
  obtain ⟨e, f, g, h⟩ := t
  simp [Bag.cells, go_sem, eq_arr]
  by_cases h1 : a = e <;> by_cases h2 : b = f <;> by_cases h3 : c = g <;> by_cases h4 : d' = h <;> simp [h1, h2, h3, h4, Int.natCast_inj]
theorem run_eqbag (w : World) (s t : Bag) : (binOp .eql 29 (.agg s.cells.toArray) (.agg t.cells.toArray)).run Tryd.prog w = .ok (.bool (decide (s = t))) w := by
  simp only [run_eql_struct, run_eqbagIn w s t 9997, Result.andThen_ok]
theorem run_nebag (w : World) (s t : Bag) : (binOp .neq 29 (.agg s.cells.toArray) (.agg t.cells.toArray)).run Tryd.prog w = .ok (.bool (!decide (s = t))) w := by
  simp only [run_neq_struct, run_eqbagIn w s t 9997, Result.andThen_ok]

attribute [local go_sem ↓] run_eqbag run_nebag

theorem keepS {w a b : World} {B : Nat} {x : Bag} (h : rd a ⟨B, 0, none⟩ 4 = some x.cells ∧ Below w.heap.size w a ∧ B < a.heap.size) (hb : Below a.heap.size a b) :
    rd b ⟨B, 0, none⟩ 4 = some x.cells ∧ Below w.heap.size w b ∧ B < b.heap.size :=
  ⟨(rd_below hb _ _ h.2.2).trans h.1, h.2.1.trans (hb.mono h.2.1.size), Nat.lt_of_lt_of_le h.2.2 hb.size⟩
/-- The bag that live asks of. -/
def liveBag : Bag := bagOf [3, 300, -1, 3]
theorem liveBag_three : bagOf [3] = liveBag := by decide +kernel
theorem liveBag_len : liveBag.len = 1 := by decide +kernel
theorem liveBag_list : liveBag.list = [3] := by rw [Bag.list_eq]; decide +kernel
theorem liveBag_ok : liveBag.ok := (bagOf_ok_has _).1
attribute [irreducible] liveBag

set_option maxHeartbeats 1000000 in
theorem live03 (w : World) (hg : 0 < w.heap.size) (hT : TabAt w) : Calls Tryd.prog 6 #[] w fun e w' => e = .returned (.bool true) ∧ Below w.heap.size w w' := by
  go_enter Tryd.func6, Tryd.ntmps6
  go_wp2_with fail
  refine (Of_any _ 4 4 _ [3, 300, -1, 3] _ rfl (Sl.newl w intC 1 int_len 3 [3, 300, -1, 3] _ rfl) (by simp) (by decide)).mono ?_
  rintro e w1 ⟨rfl, hb1⟩
  have hB1 : Below w.heap.size w w1 := ((Below.refl _ w).alloc (Nat.le_refl _) _).trans (hb1.mono (by simp))
  rw [show bagOf [3, 300, -1, 3] = liveBag from by unfold liveBag; rfl]
  have HB1 := Lib.hid hB1
  have hsz := hB1.size
  have HT := Lib.hid hT
  clear hb1 hB1 hT
  go_wp2_with fail
  obtain ⟨W2, hW2⟩ : ∃ W2, (w1.alloc (.cells #[.int .u64 0, .int .u64 0, .int .u64 0, .int .u64 0] 29)).setRow w1.heap.size liveBag.cells.toArray = W2 := ⟨_, rfl⟩
  have hB2 : Below w.heap.size w W2 := by rw [← hW2]; exact bel_setRow (HB1.out.alloc hsz _) hsz _
  have hblk : Blk W2 w1.heap.size 29 liveBag.cells.toArray := by rw [← hW2]; exact (Blk.new w1 _ _).setRow _
  rw [hW2]
  clear hW2
  refine (First_any liveBag liveBag_ok W2 (by have := hB2.size; omega) (HT.out.below hB2 hg)).mono ?_
  rintro e w3 ⟨rfl, hb3⟩
  rw [liveBag_list]
  have hB3 : Below w.heap.size w w3 := hB2.trans (hb3.mono hB2.size)
  have hblk3 := hblk.below hb3 hblk.lt
  have h3sz := hblk3.lt
  have HB3 := Lib.hid hB3
  have HK := Lib.hid hblk3
  have r3 : rd w3 ⟨w1.heap.size, 0, none⟩ 4 = some liveBag.cells := hblk3.rd_
  clear hB2 hblk hb3 hB3 hblk3
  go_wp2_with fail
  have s3 : rd w3.drew ⟨w1.heap.size, 0, none⟩ 4 = some liveBag.cells ∧ Below w.heap.size w w3.drew ∧ w1.heap.size < w3.drew.heap.size := ⟨r3, HB3.out.drew, h3sz⟩
  have S3 := Lib.hid s3
  clear s3 r3
  go_region_held3 (fun w' => rd w' ⟨w1.heap.size, 0, none⟩ 4 = some liveBag.cells ∧ Below w.heap.size w w' ∧ w1.heap.size < w'.heap.size) (first | exact S3.out | exact s4.out | exact keepS s4.out ((Below.refl _ _).alloc (Nat.le_refl _) _) | exact s5.out | trace_state) (first
    | (go_simp; go_at_call 13; refine (Len_any liveBag liveBag_ok _).mono ?_; rintro e w4 ⟨rfl, hb4⟩; rw [liveBag_len]; have s4 := Lib.hid (keepS S3.out hb4); clear hb4)
    | (go_simp; go_at_call 7; refine (Of_any _ 1 1 _ [3] _ rfl (Sl.newl w4 intC 1 int_len 3 [3] _ rfl) (by simp) (by decide)).mono ?_; rintro e w5 ⟨rfl, hb5⟩; rw [liveBag_three]; have s5 := Lib.hid (keepS (keepS s4.out ((Below.refl _ _).alloc (Nat.le_refl _) _)) hb5); clear hb5)
    | trace_state)
  go_wp2
  go_ret
  exact ⟨rfl, s5.out.2.1⟩
end Go.Proofs.YtkeeipfglmpgjaaDoor
