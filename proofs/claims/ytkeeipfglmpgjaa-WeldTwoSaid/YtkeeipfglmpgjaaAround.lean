/-
  The shape of an around.
-/
import Derived.Test.YtkeeipfglmpgjaaStp
import Derived.Deep.Cut
import Derived.Deep.DeepCutAuto
namespace Go.Proofs.Ytkeeipfglmpgjaa
set_option linter.unusedSimpArgs false
set_option linter.unusedVariables false
set_option linter.unnecessarySimpa false
open Go.RowKit
attribute [local go_sem ↓] run_load_step
attribute [local go_sem] rd_drewN rd_drew aggLoad_ptr aggRes_some Stp.cells_length build_stp

set_option maxRecDepth 100000 in
set_option maxHeartbeats 4000000 in
theorem AroundShape (x : Stp) (B : Nat) (w : World) (hx : x.Ok w B) (hB : B ≤ w.heap.size) (b1 : x.n1 ≤ 1000000) (b2 : x.n2 ≤ 1000000) :
    Calls Try.prog 95 #[.agg x.cells.toArray] w fun e w' => e = .returned (.bool ((decide (x.v.f ≤ x.v.gf) && decide (x.v.gf ≤ x.v.gt) && decide (x.v.gt ≤ x.v.t)) && decide (0 ≤ x.v.ins) && decide (x.v.ins ≤ (x.n1 : Int)) && decide ((x.n1 : Int) ≤ 20000) && (x.v.mark == 0) && (x.v.vl == 0) && ((x.n2 : Int) == 0))) ∧ Below w.heap.size w w' := by
  have r0 : rd (w.alloc (.cells x.cells.toArray 121)) ⟨w.heap.size, 0, none⟩ 10 = some x.cells := rd_alloc_new w x.cells 121 10 x.cells_length
  have HB0 : Hid (Below w.heap.size w (w.alloc (.cells x.cells.toArray 121))) := (Below.refl _ w).alloc (Nat.le_refl _) _
  have c1 : (w.alloc (.cells x.cells.toArray 121)).cell? ⟨w.heap.size, 1, none⟩ = some (.int .i64 x.v.f) := by
    have := (rd_cell r0).2 1 (by omega)
    simpa [Addr.add, Stp.cells] using this
  have c2 : (w.alloc (.cells x.cells.toArray 121)).cell? ⟨w.heap.size, 2, none⟩ = some (.int .i64 x.v.t) := by
    have := (rd_cell r0).2 2 (by omega)
    simpa [Addr.add, Stp.cells] using this
  have c3 : (w.alloc (.cells x.cells.toArray 121)).cell? ⟨w.heap.size, 3, none⟩ = some (.int .i64 x.v.gf) := by
    have := (rd_cell r0).2 3 (by omega)
    simpa [Addr.add, Stp.cells] using this
  have c4 : (w.alloc (.cells x.cells.toArray 121)).cell? ⟨w.heap.size, 4, none⟩ = some (.int .i64 x.v.gt) := by
    have := (rd_cell r0).2 4 (by omega)
    simpa [Addr.add, Stp.cells] using this
  have c5 : (w.alloc (.cells x.cells.toArray 121)).cell? ⟨w.heap.size, 5, none⟩ = some (.int .i64 x.v.ins) := by
    have := (rd_cell r0).2 5 (by omega)
    simpa [Addr.add, Stp.cells] using this
  have c6 : (w.alloc (.cells x.cells.toArray 121)).cell? ⟨w.heap.size, 6, none⟩ = some (.int .i64 x.v.mark) := by
    have := (rd_cell r0).2 6 (by omega)
    simpa [Addr.add, Stp.cells] using this
  have c7 : (w.alloc (.cells x.cells.toArray 121)).cell? ⟨w.heap.size, 7, none⟩ = some (.int .i64 x.v.vl) := by
    have := (rd_cell r0).2 7 (by omega)
    simpa [Addr.add, Stp.cells] using this
  have c8 : (w.alloc (.cells x.cells.toArray 121)).cell? ⟨w.heap.size, 8, none⟩ = some (.slice x.a1 x.n1 x.c1) := by
    have := (rd_cell r0).2 8 (by omega)
    simpa [Addr.add, Stp.cells] using this
  have c9 : (w.alloc (.cells x.cells.toArray 121)).cell? ⟨w.heap.size, 9, none⟩ = some (.slice x.a2 x.n2 x.c2) := by
    have := (rd_cell r0).2 9 (by omega)
    simpa [Addr.add, Stp.cells] using this
  obtain ⟨gp, hgp⟩ : ∃ b, (decide (x.v.f ≤ x.v.gf) && decide (x.v.gf ≤ x.v.gt) && decide (x.v.gt ≤ x.v.t)) = b := ⟨_, rfl⟩
  rw [hgp]
  have HGP := Lib.hid hgp
  clear hgp
  obtain ⟨sh, hsh⟩ : ∃ b, (gp && decide (0 ≤ x.v.ins) && decide (x.v.ins ≤ (x.n1 : Int)) && decide ((x.n1 : Int) ≤ 20000) && (x.v.mark == 0) && (x.v.vl == 0) && ((x.n2 : Int) == 0)) = b := ⟨_, rfl⟩
  rw [hsh]
  have HSH := Lib.hid hsh.symm
  clear hsh
  go_enter Try.func95, Try.ntmps95
  go_upto_region 1 with fail
  go_cut [3] (fun v wx => v = .bool gp ∧ w.alloc (.cells x.cells.toArray 121) = wx)
  case first =>
    cases e1 : decide (x.v.f ≤ x.v.gf)
    case false =>
      go_wp2
      go_meet
      case rel => exact ⟨by rw [← HGP.out, e1]; rfl, rfl⟩
    cases e2 : decide (x.v.gf ≤ x.v.gt)
    case false =>
      go_wp2
      go_meet
      case rel => exact ⟨by rw [← HGP.out, e1, e2]; rfl, rfl⟩
    cases e3 : decide (x.v.gt ≤ x.v.t)
    case false =>
      go_wp2
      go_meet
      case rel => exact ⟨by rw [← HGP.out, e1, e2, e3]; rfl, rfl⟩
    go_wp2
    go_meet
    case rel => exact ⟨by rw [← HGP.out, e1, e2, e3]; rfl, rfl⟩
  case rest =>
    obtain ⟨rfl, rfl⟩ := hcut
    clear HGP
    cases gp
    case false =>
      go_wp2
      go_ret
      exact ⟨ret_bool (by rw [HSH.out]; rfl), HB0.out⟩
    cases e1 : decide (0 ≤ x.v.ins)
    case false =>
      go_wp2
      go_ret
      exact ⟨ret_bool (by rw [HSH.out, e1]; rfl), HB0.out⟩
    cases e2 : decide (x.v.ins ≤ (x.n1 : Int))
    case false =>
      go_wp2
      go_ret
      exact ⟨ret_bool (by rw [HSH.out, e1, e2]; rfl), HB0.out⟩
    cases e3 : decide ((x.n1 : Int) ≤ 20000)
    case false =>
      go_wp2
      go_ret
      exact ⟨ret_bool (by rw [HSH.out, e1, e2, e3]; rfl), HB0.out⟩
    cases e4 : (x.v.mark == 0)
    case false =>
      go_wp2
      go_ret
      exact ⟨ret_bool (by rw [HSH.out, e1, e2, e3, e4]; rfl), HB0.out⟩
    cases e5 : (x.v.vl == 0)
    case false =>
      go_wp2
      go_ret
      exact ⟨ret_bool (by rw [HSH.out, e1, e2, e3, e4, e5]; rfl), HB0.out⟩
    cases e6 : ((x.n2 : Int) == 0)
    case false =>
      go_wp2
      go_ret
      exact ⟨ret_bool (by rw [HSH.out, e1, e2, e3, e4, e5, e6]; rfl), HB0.out⟩
    go_wp2
    go_ret
    exact ⟨ret_bool (by rw [HSH.out, e1, e2, e3, e4, e5, e6]; rfl), HB0.out⟩
end Go.Proofs.Ytkeeipfglmpgjaa
