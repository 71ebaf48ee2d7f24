/-
  step.of: a step's kind.
-/
import Derived.Test.YtkeeipfglmpgjaaStp
namespace Go.Proofs.Ytkeeipfglmpgjaa
set_option linter.unusedSimpArgs false
set_option linter.unusedVariables false
set_option linter.unnecessarySimpa false
open Go.RowKit
attribute [local go_sem ↓] run_load_step
attribute [local go_sem] rd_drewN rd_drew aggLoad_ptr aggRes_some Stp.cells_length build_stp

set_option maxRecDepth 100000 in
set_option maxHeartbeats 4000000 in
theorem StepOf1 (x : Stp) (w : World) (hk : x.v.k = 1) :
    Calls Try.prog 59 #[.agg x.cells.toArray] w fun e w' => e = .returned (.iface 120 (.agg x.cells.toArray)) ∧ Below w.heap.size w w' := by
  have r0 : rd (w.alloc (.cells x.cells.toArray 77)) ⟨w.heap.size, 0, none⟩ 10 = some x.cells := rd_alloc_new w x.cells 77 10 x.cells_length
  have HB0 : Hid (Below w.heap.size w (w.alloc (.cells x.cells.toArray 77))) := (Below.refl _ w).alloc (Nat.le_refl _) _
  have c0 : (w.alloc (.cells x.cells.toArray 77)).cell? ⟨w.heap.size, 0, none⟩ = some (.int .i64 1) := by
    have := (rd_cell r0).2 0 (by omega)
    simpa [Addr.add, Stp.cells, hk] using this
  go_enter Try.func59, Try.ntmps59
  go_wp2
  go_ret
  exact ⟨rfl, HB0.out⟩
set_option maxRecDepth 100000 in
set_option maxHeartbeats 4000000 in
theorem StepOf2 (x : Stp) (w : World) (hk : x.v.k = 2) :
    Calls Try.prog 59 #[.agg x.cells.toArray] w fun e w' => e = .returned (.iface 121 (.agg x.cells.toArray)) ∧ Below w.heap.size w w' := by
  have r0 : rd (w.alloc (.cells x.cells.toArray 77)) ⟨w.heap.size, 0, none⟩ 10 = some x.cells := rd_alloc_new w x.cells 77 10 x.cells_length
  have HB0 : Hid (Below w.heap.size w (w.alloc (.cells x.cells.toArray 77))) := (Below.refl _ w).alloc (Nat.le_refl _) _
  have c0 : (w.alloc (.cells x.cells.toArray 77)).cell? ⟨w.heap.size, 0, none⟩ = some (.int .i64 2) := by
    have := (rd_cell r0).2 0 (by omega)
    simpa [Addr.add, Stp.cells, hk] using this
  go_enter Try.func59, Try.ntmps59
  go_wp2
  go_ret
  exact ⟨rfl, HB0.out⟩
set_option maxRecDepth 100000 in
set_option maxHeartbeats 4000000 in
theorem StepOf3 (x : Stp) (w : World) (hk : x.v.k = 3) :
    Calls Try.prog 59 #[.agg x.cells.toArray] w fun e w' => e = .returned (.iface 122 (.agg x.cells.toArray)) ∧ Below w.heap.size w w' := by
  have r0 : rd (w.alloc (.cells x.cells.toArray 77)) ⟨w.heap.size, 0, none⟩ 10 = some x.cells := rd_alloc_new w x.cells 77 10 x.cells_length
  have HB0 : Hid (Below w.heap.size w (w.alloc (.cells x.cells.toArray 77))) := (Below.refl _ w).alloc (Nat.le_refl _) _
  have c0 : (w.alloc (.cells x.cells.toArray 77)).cell? ⟨w.heap.size, 0, none⟩ = some (.int .i64 3) := by
    have := (rd_cell r0).2 0 (by omega)
    simpa [Addr.add, Stp.cells, hk] using this
  go_enter Try.func59, Try.ntmps59
  go_wp2
  go_ret
  exact ⟨rfl, HB0.out⟩
set_option maxRecDepth 100000 in
set_option maxHeartbeats 4000000 in
theorem StepOf4 (x : Stp) (w : World) (hk : x.v.k = 4) :
    Calls Try.prog 59 #[.agg x.cells.toArray] w fun e w' => e = .returned (.iface 122 (.agg x.cells.toArray)) ∧ Below w.heap.size w w' := by
  have r0 : rd (w.alloc (.cells x.cells.toArray 77)) ⟨w.heap.size, 0, none⟩ 10 = some x.cells := rd_alloc_new w x.cells 77 10 x.cells_length
  have HB0 : Hid (Below w.heap.size w (w.alloc (.cells x.cells.toArray 77))) := (Below.refl _ w).alloc (Nat.le_refl _) _
  have c0 : (w.alloc (.cells x.cells.toArray 77)).cell? ⟨w.heap.size, 0, none⟩ = some (.int .i64 4) := by
    have := (rd_cell r0).2 0 (by omega)
    simpa [Addr.add, Stp.cells, hk] using this
  go_enter Try.func59, Try.ntmps59
  go_wp2
  go_ret
  exact ⟨rfl, HB0.out⟩
set_option maxRecDepth 100000 in
set_option maxHeartbeats 4000000 in
theorem StepOf5 (x : Stp) (w : World) (hk : x.v.k = 5) :
    Calls Try.prog 59 #[.agg x.cells.toArray] w fun e w' => e = .returned (.iface 123 (.agg x.cells.toArray)) ∧ Below w.heap.size w w' := by
  have r0 : rd (w.alloc (.cells x.cells.toArray 77)) ⟨w.heap.size, 0, none⟩ 10 = some x.cells := rd_alloc_new w x.cells 77 10 x.cells_length
  have HB0 : Hid (Below w.heap.size w (w.alloc (.cells x.cells.toArray 77))) := (Below.refl _ w).alloc (Nat.le_refl _) _
  have c0 : (w.alloc (.cells x.cells.toArray 77)).cell? ⟨w.heap.size, 0, none⟩ = some (.int .i64 5) := by
    have := (rd_cell r0).2 0 (by omega)
    simpa [Addr.add, Stp.cells, hk] using this
  go_enter Try.func59, Try.ntmps59
  go_wp2
  go_ret
  exact ⟨rfl, HB0.out⟩
set_option maxRecDepth 100000 in
set_option maxHeartbeats 4000000 in
theorem StepOf0 (x : Stp) (w : World) (h1 : (x.v.k == 1) = false) (h2 : (x.v.k == 2) = false) (h3 : (x.v.k == 3) = false) (h4 : (x.v.k == 4) = false) (h5 : (x.v.k == 5) = false) :
    Calls Try.prog 59 #[.agg x.cells.toArray] w fun e w' => e = .returned (.nilIface) ∧ Below w.heap.size w w' := by
  have r0 : rd (w.alloc (.cells x.cells.toArray 77)) ⟨w.heap.size, 0, none⟩ 10 = some x.cells := rd_alloc_new w x.cells 77 10 x.cells_length
  have HB0 : Hid (Below w.heap.size w (w.alloc (.cells x.cells.toArray 77))) := (Below.refl _ w).alloc (Nat.le_refl _) _
  have c0 : (w.alloc (.cells x.cells.toArray 77)).cell? ⟨w.heap.size, 0, none⟩ = some (.int .i64 x.v.k) := by
    have := (rd_cell r0).2 0 (by omega)
    simpa [Addr.add, Stp.cells] using this
  go_enter Try.func59, Try.ntmps59
  go_wp2
  go_ret
  exact ⟨rfl, HB0.out⟩
end Go.Proofs.Ytkeeipfglmpgjaa
