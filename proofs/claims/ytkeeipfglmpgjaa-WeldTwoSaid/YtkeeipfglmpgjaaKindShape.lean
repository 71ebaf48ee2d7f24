/-
  The shapes of the kinds of steps.
-/
import Derived.Test.YtkeeipfglmpgjaaStepSame
import Derived.Deep.Cut
import Derived.Deep.DeepCutAuto
namespace Go.Proofs.Ytkeeipfglmpgjaa
set_option linter.unusedSimpArgs false
set_option linter.unusedVariables false
set_option linter.unnecessarySimpa false
open Go.RowKit
attribute [local go_sem ↓] run_load_step
attribute [local go_sem] rd_drewN rd_drew aggLoad_ptr aggRes_some Stp.cells_length build_stp

set_option maxRecDepth 100000 in
set_option maxHeartbeats 4000000 in
theorem SpliceShape (x : Stp) (B : Nat) (w : World) (hx : x.Ok w B) (hB : B ≤ w.heap.size) (b1 : x.n1 ≤ 1000000) (b2 : x.n2 ≤ 1000000) :
    Calls Try.prog 88 #[.agg x.cells.toArray] w fun e w' => e = .returned (.bool (decide (x.v = (⟨x.v.k, x.v.f, x.v.t, 0, 0, 0, 0, 0, x.v.sl, []⟩ : St)) && decide ((x.n1 : Int) ≤ 20000))) ∧ Below w.heap.size w w' := by
  have r0 : rd (w.alloc (.cells x.cells.toArray 120)) ⟨w.heap.size, 0, none⟩ 10 = some x.cells := rd_alloc_new w x.cells 120 10 x.cells_length
  have HB0 : Hid (Below w.heap.size w (w.alloc (.cells x.cells.toArray 120))) := (Below.refl _ w).alloc (Nat.le_refl _) _
  have c0 : (w.alloc (.cells x.cells.toArray 120)).cell? ⟨w.heap.size, 0, none⟩ = some (.int .i64 x.v.k) := by
    have := (rd_cell r0).2 0 (by omega)
    simpa [Addr.add, Stp.cells] using this
  have c1 : (w.alloc (.cells x.cells.toArray 120)).cell? ⟨w.heap.size, 1, none⟩ = some (.int .i64 x.v.f) := by
    have := (rd_cell r0).2 1 (by omega)
    simpa [Addr.add, Stp.cells] using this
  have c2 : (w.alloc (.cells x.cells.toArray 120)).cell? ⟨w.heap.size, 2, none⟩ = some (.int .i64 x.v.t) := by
    have := (rd_cell r0).2 2 (by omega)
    simpa [Addr.add, Stp.cells] using this
  have c8 : (w.alloc (.cells x.cells.toArray 120)).cell? ⟨w.heap.size, 8, none⟩ = some (.slice x.a1 x.n1 x.c1) := by
    have := (rd_cell r0).2 8 (by omega)
    simpa [Addr.add, Stp.cells] using this
  have HS : Hid (∀ w', Below w.heap.size w w' → Calls Try.prog 90 #[.agg x.cells.toArray, .agg #[.int .i64 x.v.k, .int .i64 x.v.f, .int .i64 x.v.t, .int .i64 0, .int .i64 0, .int .i64 0, .int .i64 0, .int .i64 0, .slice x.a1 x.n1 x.c1, .slice none 0 0]] w' fun e w'' => e = .returned (.bool (decide (x.v = (⟨x.v.k, x.v.f, x.v.t, 0, 0, 0, 0, 0, x.v.sl, []⟩ : St)))) ∧ Below w'.heap.size w' w'') := fun w' hb =>
    StepSame_any x ⟨⟨x.v.k, x.v.f, x.v.t, 0, 0, 0, 0, 0, x.v.sl, []⟩, x.a1, x.n1, x.c1, none, 0, 0⟩ B B w' (hx.keep hB hb) (⟨hx.1, rfl, (hx.keep hB hb).2.2.1, ⟨Mks.cells_length, Reads.none_⟩, hx.2.2.2.2.1, Nat.le_refl _⟩) (Nat.le_trans hB hb.size) (Nat.le_trans hB hb.size) b1 b1 b2 (by simp)
  obtain ⟨same, hsame⟩ : ∃ b, decide (x.v = (⟨x.v.k, x.v.f, x.v.t, 0, 0, 0, 0, 0, x.v.sl, []⟩ : St)) = b := ⟨_, rfl⟩
  rw [hsame] at HS ⊢
  clear hsame
  have KB : Hid (∀ w1, Below (w.alloc (.cells x.cells.toArray 120)).heap.size (w.alloc (.cells x.cells.toArray 120)) w1 → Below w.heap.size w w1) := fun w1 hb => HB0.out.trans (hb.mono HB0.out.size)
  have KEEP : Hid (∀ w1, Below (w.alloc (.cells x.cells.toArray 120)).heap.size (w.alloc (.cells x.cells.toArray 120)) w1 → ∀ i v, (w.alloc (.cells x.cells.toArray 120)).cell? ⟨w.heap.size, i, none⟩ = some v → w1.cell? ⟨w.heap.size, i, none⟩ = some v) := fun w1 hb i v hv => by
    rw [hb.cell (p := ⟨w.heap.size, i, none⟩) (by simp), hv]
  cases same
  case false =>
    go_enter Try.func88, Try.ntmps88
    go_wp2_with (go_at_call 90; refine (HS.out _ HB0.out).mono ?_; rintro e w1 ⟨rfl, hb1⟩; have HB1 := Lib.hid (KB.out _ hb1); have HK := KEEP.out _ hb1; skip; clear HK hb1)
    go_ret
    exact ⟨rfl, HB1.out⟩
  go_enter Try.func88, Try.ntmps88
  go_wp2_with (go_at_call 90; refine (HS.out _ HB0.out).mono ?_; rintro e w1 ⟨rfl, hb1⟩; have HB1 := Lib.hid (KB.out _ hb1); have HK := KEEP.out _ hb1; have k8 := HK 8 _ c8; clear HK hb1)
  go_ret
  exact ⟨rfl, HB1.out⟩
set_option maxRecDepth 100000 in
set_option maxHeartbeats 4000000 in
theorem MarkShape (x : Stp) (B : Nat) (w : World) (hx : x.Ok w B) (hB : B ≤ w.heap.size) (b1 : x.n1 ≤ 1000000) (b2 : x.n2 ≤ 1000000) :
    Calls Try.prog 100 #[.agg x.cells.toArray] w fun e w' => e = .returned (.bool (decide (x.v = (⟨x.v.k, x.v.f, x.v.t, 0, 0, 0, x.v.mark, x.v.vl, [], []⟩ : St)))) ∧ Below w.heap.size w w' := by
  have r0 : rd (w.alloc (.cells x.cells.toArray 122)) ⟨w.heap.size, 0, none⟩ 10 = some x.cells := rd_alloc_new w x.cells 122 10 x.cells_length
  have HB0 : Hid (Below w.heap.size w (w.alloc (.cells x.cells.toArray 122))) := (Below.refl _ w).alloc (Nat.le_refl _) _
  have c0 : (w.alloc (.cells x.cells.toArray 122)).cell? ⟨w.heap.size, 0, none⟩ = some (.int .i64 x.v.k) := by
    have := (rd_cell r0).2 0 (by omega)
    simpa [Addr.add, Stp.cells] using this
  have c1 : (w.alloc (.cells x.cells.toArray 122)).cell? ⟨w.heap.size, 1, none⟩ = some (.int .i64 x.v.f) := by
    have := (rd_cell r0).2 1 (by omega)
    simpa [Addr.add, Stp.cells] using this
  have c2 : (w.alloc (.cells x.cells.toArray 122)).cell? ⟨w.heap.size, 2, none⟩ = some (.int .i64 x.v.t) := by
    have := (rd_cell r0).2 2 (by omega)
    simpa [Addr.add, Stp.cells] using this
  have c6 : (w.alloc (.cells x.cells.toArray 122)).cell? ⟨w.heap.size, 6, none⟩ = some (.int .i64 x.v.mark) := by
    have := (rd_cell r0).2 6 (by omega)
    simpa [Addr.add, Stp.cells] using this
  have c7 : (w.alloc (.cells x.cells.toArray 122)).cell? ⟨w.heap.size, 7, none⟩ = some (.int .i64 x.v.vl) := by
    have := (rd_cell r0).2 7 (by omega)
    simpa [Addr.add, Stp.cells] using this
  have HS : Hid (∀ w', Below w.heap.size w w' → Calls Try.prog 90 #[.agg x.cells.toArray, .agg #[.int .i64 x.v.k, .int .i64 x.v.f, .int .i64 x.v.t, .int .i64 0, .int .i64 0, .int .i64 0, .int .i64 x.v.mark, .int .i64 x.v.vl, .slice none 0 0, .slice none 0 0]] w' fun e w'' => e = .returned (.bool (decide (x.v = (⟨x.v.k, x.v.f, x.v.t, 0, 0, 0, x.v.mark, x.v.vl, [], []⟩ : St)))) ∧ Below w'.heap.size w' w'') := fun w' hb =>
    StepSame_any x ⟨⟨x.v.k, x.v.f, x.v.t, 0, 0, 0, x.v.mark, x.v.vl, [], []⟩, none, 0, 0, none, 0, 0⟩ B B w' (hx.keep hB hb) (⟨rfl, rfl, ⟨Tok.cells_length, Reads.none_⟩, ⟨Mks.cells_length, Reads.none_⟩, Nat.le_refl _, Nat.le_refl _⟩) (Nat.le_trans hB hb.size) (Nat.le_trans hB hb.size) b1 (by simp) b2 (by simp)
  obtain ⟨same, hsame⟩ : ∃ b, decide (x.v = (⟨x.v.k, x.v.f, x.v.t, 0, 0, 0, x.v.mark, x.v.vl, [], []⟩ : St)) = b := ⟨_, rfl⟩
  rw [hsame] at HS ⊢
  clear hsame
  have KB : Hid (∀ w1, Below (w.alloc (.cells x.cells.toArray 122)).heap.size (w.alloc (.cells x.cells.toArray 122)) w1 → Below w.heap.size w w1) := fun w1 hb => HB0.out.trans (hb.mono HB0.out.size)
  have KEEP : Hid (∀ w1, Below (w.alloc (.cells x.cells.toArray 122)).heap.size (w.alloc (.cells x.cells.toArray 122)) w1 → ∀ i v, (w.alloc (.cells x.cells.toArray 122)).cell? ⟨w.heap.size, i, none⟩ = some v → w1.cell? ⟨w.heap.size, i, none⟩ = some v) := fun w1 hb i v hv => by
    rw [hb.cell (p := ⟨w.heap.size, i, none⟩) (by simp), hv]
  go_enter Try.func100, Try.ntmps100
  go_wp2_with (go_at_call 90; refine (HS.out _ HB0.out).mono ?_; rintro e w1 ⟨rfl, hb1⟩; have HB1 := Lib.hid (KB.out _ hb1); have HK := KEEP.out _ hb1; skip; clear HK hb1)
  go_ret
  exact ⟨rfl, HB1.out⟩
set_option maxRecDepth 100000 in
set_option maxHeartbeats 4000000 in
theorem RemarkShape (x : Stp) (B : Nat) (w : World) (hx : x.Ok w B) (hB : B ≤ w.heap.size) (b1 : x.n1 ≤ 1000000) (b2 : x.n2 ≤ 1000000) (hf : 0 ≤ x.v.f) (hft : x.v.f ≤ x.v.t) (ht : x.v.t ≤ 1073741824) :
    Calls Try.prog 105 #[.agg x.cells.toArray] w fun e w' => e = .returned (.bool (decide (x.v = (⟨x.v.k, x.v.f, x.v.t, 0, 0, 0, 0, 0, [], x.v.sets⟩ : St)) && ((x.n2 : Int) == x.v.t - x.v.f) && decide ((x.n2 : Int) ≤ 20000))) ∧ Below w.heap.size w w' := by
  have r0 : rd (w.alloc (.cells x.cells.toArray 123)) ⟨w.heap.size, 0, none⟩ 10 = some x.cells := rd_alloc_new w x.cells 123 10 x.cells_length
  have HB0 : Hid (Below w.heap.size w (w.alloc (.cells x.cells.toArray 123))) := (Below.refl _ w).alloc (Nat.le_refl _) _
  have c0 : (w.alloc (.cells x.cells.toArray 123)).cell? ⟨w.heap.size, 0, none⟩ = some (.int .i64 x.v.k) := by
    have := (rd_cell r0).2 0 (by omega)
    simpa [Addr.add, Stp.cells] using this
  have c1 : (w.alloc (.cells x.cells.toArray 123)).cell? ⟨w.heap.size, 1, none⟩ = some (.int .i64 x.v.f) := by
    have := (rd_cell r0).2 1 (by omega)
    simpa [Addr.add, Stp.cells] using this
  have c2 : (w.alloc (.cells x.cells.toArray 123)).cell? ⟨w.heap.size, 2, none⟩ = some (.int .i64 x.v.t) := by
    have := (rd_cell r0).2 2 (by omega)
    simpa [Addr.add, Stp.cells] using this
  have c9 : (w.alloc (.cells x.cells.toArray 123)).cell? ⟨w.heap.size, 9, none⟩ = some (.slice x.a2 x.n2 x.c2) := by
    have := (rd_cell r0).2 9 (by omega)
    simpa [Addr.add, Stp.cells] using this
  have HS : Hid (∀ w', Below w.heap.size w w' → Calls Try.prog 90 #[.agg x.cells.toArray, .agg #[.int .i64 x.v.k, .int .i64 x.v.f, .int .i64 x.v.t, .int .i64 0, .int .i64 0, .int .i64 0, .int .i64 0, .int .i64 0, .slice none 0 0, .slice x.a2 x.n2 x.c2]] w' fun e w'' => e = .returned (.bool (decide (x.v = (⟨x.v.k, x.v.f, x.v.t, 0, 0, 0, 0, 0, [], x.v.sets⟩ : St)))) ∧ Below w'.heap.size w' w'') := fun w' hb =>
    StepSame_any x ⟨⟨x.v.k, x.v.f, x.v.t, 0, 0, 0, 0, 0, [], x.v.sets⟩, none, 0, 0, x.a2, x.n2, x.c2⟩ B B w' (hx.keep hB hb) (⟨rfl, hx.2.1, ⟨Tok.cells_length, Reads.none_⟩, (hx.keep hB hb).2.2.2.1, Nat.le_refl _, hx.2.2.2.2.2⟩) (Nat.le_trans hB hb.size) (Nat.le_trans hB hb.size) b1 (by simp) b2 b2
  obtain ⟨same, hsame⟩ : ∃ b, decide (x.v = (⟨x.v.k, x.v.f, x.v.t, 0, 0, 0, 0, 0, [], x.v.sets⟩ : St)) = b := ⟨_, rfl⟩
  rw [hsame] at HS ⊢
  clear hsame
  have KB : Hid (∀ w1, Below (w.alloc (.cells x.cells.toArray 123)).heap.size (w.alloc (.cells x.cells.toArray 123)) w1 → Below w.heap.size w w1) := fun w1 hb => HB0.out.trans (hb.mono HB0.out.size)
  have KEEP : Hid (∀ w1, Below (w.alloc (.cells x.cells.toArray 123)).heap.size (w.alloc (.cells x.cells.toArray 123)) w1 → ∀ i v, (w.alloc (.cells x.cells.toArray 123)).cell? ⟨w.heap.size, i, none⟩ = some v → w1.cell? ⟨w.heap.size, i, none⟩ = some v) := fun w1 hb i v hv => by
    rw [hb.cell (p := ⟨w.heap.size, i, none⟩) (by simp), hv]
  have hwr : IntKind.i64.wrap (x.v.t - x.v.f) = x.v.t - x.v.f := by rw [IntKind.wrap_i64]; omega
  cases same
  case false =>
    go_enter Try.func105, Try.ntmps105
    go_wp2_with (go_at_call 90; refine (HS.out _ HB0.out).mono ?_; rintro e w1 ⟨rfl, hb1⟩; have HB1 := Lib.hid (KB.out _ hb1); have HK := KEEP.out _ hb1; skip; clear HK hb1)
    go_ret
    exact ⟨rfl, HB1.out⟩
  cases e1 : ((x.n2 : Int) == x.v.t - x.v.f)
  case false =>
    go_enter Try.func105, Try.ntmps105
    go_wp2_with (go_at_call 90; refine (HS.out _ HB0.out).mono ?_; rintro e w1 ⟨rfl, hb1⟩; have HB1 := Lib.hid (KB.out _ hb1); have HK := KEEP.out _ hb1; have k1 := HK 1 _ c1; have k2 := HK 2 _ c2; have k9 := HK 9 _ c9; clear HK hb1)
    go_ret
    exact ⟨rfl, HB1.out⟩
  go_enter Try.func105, Try.ntmps105
  go_wp2_with (go_at_call 90; refine (HS.out _ HB0.out).mono ?_; rintro e w1 ⟨rfl, hb1⟩; have HB1 := Lib.hid (KB.out _ hb1); have HK := KEEP.out _ hb1; have k1 := HK 1 _ c1; have k2 := HK 2 _ c2; have k9 := HK 9 _ c9; clear HK hb1)
  go_ret
  exact ⟨rfl, HB1.out⟩
end Go.Proofs.Ytkeeipfglmpgjaa
