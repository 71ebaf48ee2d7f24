/-
  step.Shape: by the kind's shape; it is what the reference's Shape is.
-/
import Derived.Test.YtkeeipfglmpgjaaStepOf
import Derived.Test.YtkeeipfglmpgjaaKindShape
import Derived.Test.YtkeeipfglmpgjaaAround
import Derived.Test.YtkeeipfglmpgjaaShape25
namespace Go.Proofs.Ytkeeipfglmpgjaa
set_option linter.unusedSimpArgs false
set_option linter.unusedVariables false
set_option linter.unnecessarySimpa false
open Go.RowKit
attribute [local go_sem ↓] run_load_step
attribute [local go_sem] rd_drewN rd_drew aggLoad_ptr aggRes_some Stp.cells_length build_stp
theorem run_m_splice (n : Nat) (v : Value) (w : World) : (method (n + 1) 120 v "stet/step.shape").run Try.prog w = .ok (88, v) w := by kernel_rfl
theorem run_m_around (n : Nat) (v : Value) (w : World) : (method (n + 1) 121 v "stet/step.shape").run Try.prog w = .ok (95, v) w := by kernel_rfl
theorem run_m_mark (n : Nat) (v : Value) (w : World) : (method (n + 1) 122 v "stet/step.shape").run Try.prog w = .ok (100, v) w := by kernel_rfl
theorem run_m_remark (n : Nat) (v : Value) (w : World) : (method (n + 1) 123 v "stet/step.shape").run Try.prog w = .ok (105, v) w := by kernel_rfl
attribute [local go_sem] run_m_splice run_m_around run_m_mark run_m_remark

set_option maxRecDepth 100000 in
set_option maxHeartbeats 4000000 in
theorem StepShape1 (x : Stp) (B : Nat) (w : World) (hx : x.Ok w B) (hB : B ≤ w.heap.size) (b1 : x.n1 ≤ 1000000) (b2 : x.n2 ≤ 1000000) (hk : x.v.k = 1) :
    Calls Try.prog 47 #[.agg x.cells.toArray] w fun e w' => e = .returned (.bool (decide (0 ≤ x.v.f) && decide (x.v.f ≤ x.v.t) && decide (x.v.t ≤ 1073741824) && (decide (x.v = ⟨x.v.k, x.v.f, x.v.t, 0, 0, 0, 0, 0, x.v.sl, []⟩) && decide ((x.n1 : Int) ≤ 20000)))) ∧ Below w.heap.size w w' := by
  have r0 : rd (w.alloc (.cells x.cells.toArray 77)) ⟨w.heap.size, 0, none⟩ 10 = some x.cells := rd_alloc_new w x.cells 77 10 x.cells_length
  have HB0 : Hid (Below w.heap.size w (w.alloc (.cells x.cells.toArray 77))) := (Below.refl _ w).alloc (Nat.le_refl _) _
  have c1 : (w.alloc (.cells x.cells.toArray 77)).cell? ⟨w.heap.size, 1, none⟩ = some (.int .i64 x.v.f) := by
    have := (rd_cell r0).2 1 (by omega)
    simpa [Addr.add, Stp.cells] using this
  have c2 : (w.alloc (.cells x.cells.toArray 77)).cell? ⟨w.heap.size, 2, none⟩ = some (.int .i64 x.v.t) := by
    have := (rd_cell r0).2 2 (by omega)
    simpa [Addr.add, Stp.cells] using this
  have HO := Lib.hid (StepOf1 x (w.alloc (.cells x.cells.toArray 77)) hk)
  have KB : Hid (∀ w1, Below (w.alloc (.cells x.cells.toArray 77)).heap.size (w.alloc (.cells x.cells.toArray 77)) w1 → Below w.heap.size w w1) := fun w1 hb => HB0.out.trans (hb.mono HB0.out.size)
  have KEEP : Hid (∀ w1, Below (w.alloc (.cells x.cells.toArray 77)).heap.size (w.alloc (.cells x.cells.toArray 77)) w1 → ∀ i v, (w.alloc (.cells x.cells.toArray 77)).cell? ⟨w.heap.size, i, none⟩ = some v → w1.cell? ⟨w.heap.size, i, none⟩ = some v) := fun w1 hb i v hv => by
    rw [hb.cell (p := ⟨w.heap.size, i, none⟩) (by simp), hv]
  have KT : Hid (∀ w1 w2, Below w.heap.size w w1 → Below w1.heap.size w1 w2 → Below w.heap.size w w2) := fun w1 w2 h1 h2 => h1.trans (h2.mono h1.size)
  have HK : Hid (∀ w', Below w.heap.size w w' → decide (0 ≤ x.v.f) = true → decide (x.v.f ≤ x.v.t) = true → decide (x.v.t ≤ 1073741824) = true → Calls Try.prog 88 #[.agg x.cells.toArray] w' fun e w'' => e = .returned (.bool (decide (x.v = ⟨x.v.k, x.v.f, x.v.t, 0, 0, 0, 0, 0, x.v.sl, []⟩) && decide ((x.n1 : Int) ≤ 20000))) ∧ Below w'.heap.size w' w'') := fun w' hb _ _ _ => SpliceShape x B w' (hx.keep hB hb) (Nat.le_trans hB hb.size) b1 b2
  obtain ⟨kb, hkb⟩ : ∃ b, (decide (x.v = ⟨x.v.k, x.v.f, x.v.t, 0, 0, 0, 0, 0, x.v.sl, []⟩) && decide ((x.n1 : Int) ≤ 20000)) = b := ⟨_, rfl⟩
  rw [hkb] at HK ⊢
  clear hkb hk
  cases e1 : decide (0 ≤ x.v.f)
  case false =>
    go_enter Try.func47, Try.ntmps47
    go_wp2_with (first | (go_at_call 59; refine HO.out.mono ?_; rintro e w1 ⟨rfl, hb1⟩; have HB1 := Lib.hid (KB.out _ hb1); have HKP := KEEP.out _ hb1; have k1 := HKP 1 _ c1; have k2 := HKP 2 _ c2; clear HKP hb1) | fail)
    go_ret
    exact ⟨rfl, HB1.out⟩
  cases e2 : decide (x.v.f ≤ x.v.t)
  case false =>
    go_enter Try.func47, Try.ntmps47
    go_wp2_with (first | (go_at_call 59; refine HO.out.mono ?_; rintro e w1 ⟨rfl, hb1⟩; have HB1 := Lib.hid (KB.out _ hb1); have HKP := KEEP.out _ hb1; have k1 := HKP 1 _ c1; have k2 := HKP 2 _ c2; clear HKP hb1) | fail)
    go_ret
    exact ⟨rfl, HB1.out⟩
  cases e3 : decide (x.v.t ≤ 1073741824)
  case false =>
    go_enter Try.func47, Try.ntmps47
    go_wp2_with (first | (go_at_call 59; refine HO.out.mono ?_; rintro e w1 ⟨rfl, hb1⟩; have HB1 := Lib.hid (KB.out _ hb1); have HKP := KEEP.out _ hb1; have k1 := HKP 1 _ c1; have k2 := HKP 2 _ c2; clear HKP hb1) | fail)
    go_ret
    exact ⟨rfl, HB1.out⟩
  go_enter Try.func47, Try.ntmps47
  go_wp2_with (first | (go_at_call 59; refine HO.out.mono ?_; rintro e w1 ⟨rfl, hb1⟩; have HB1 := Lib.hid (KB.out _ hb1); have HKP := KEEP.out _ hb1; have k1 := HKP 1 _ c1; have k2 := HKP 2 _ c2; clear HKP hb1) | fail)
  refine (HK.out _ HB1.out e1 e2 e3).mono ?_
  rintro e w2 ⟨rfl, hb2⟩
  have HB2 := Lib.hid (KT.out _ _ HB1.out hb2)
  clear hb2
  go_wp2_with fail
  go_ret
  exact ⟨rfl, HB2.out⟩

set_option maxRecDepth 100000 in
set_option maxHeartbeats 4000000 in
theorem StepShape2 (x : Stp) (B : Nat) (w : World) (hx : x.Ok w B) (hB : B ≤ w.heap.size) (b1 : x.n1 ≤ 1000000) (b2 : x.n2 ≤ 1000000) (hk : x.v.k = 2) :
    Calls Try.prog 47 #[.agg x.cells.toArray] w fun e w' => e = .returned (.bool (decide (0 ≤ x.v.f) && decide (x.v.f ≤ x.v.t) && decide (x.v.t ≤ 1073741824) && (decide (x.v.f ≤ x.v.gf) && decide (x.v.gf ≤ x.v.gt) && decide (x.v.gt ≤ x.v.t) && decide (0 ≤ x.v.ins) && decide (x.v.ins ≤ (x.n1 : Int)) && decide ((x.n1 : Int) ≤ 20000) && (x.v.mark == 0) && (x.v.vl == 0) && ((x.n2 : Int) == 0)))) ∧ Below w.heap.size w w' := by
  have r0 : rd (w.alloc (.cells x.cells.toArray 77)) ⟨w.heap.size, 0, none⟩ 10 = some x.cells := rd_alloc_new w x.cells 77 10 x.cells_length
  have HB0 : Hid (Below w.heap.size w (w.alloc (.cells x.cells.toArray 77))) := (Below.refl _ w).alloc (Nat.le_refl _) _
  have c1 : (w.alloc (.cells x.cells.toArray 77)).cell? ⟨w.heap.size, 1, none⟩ = some (.int .i64 x.v.f) := by
    have := (rd_cell r0).2 1 (by omega)
    simpa [Addr.add, Stp.cells] using this
  have c2 : (w.alloc (.cells x.cells.toArray 77)).cell? ⟨w.heap.size, 2, none⟩ = some (.int .i64 x.v.t) := by
    have := (rd_cell r0).2 2 (by omega)
    simpa [Addr.add, Stp.cells] using this
  have HO := Lib.hid (StepOf2 x (w.alloc (.cells x.cells.toArray 77)) hk)
  have KB : Hid (∀ w1, Below (w.alloc (.cells x.cells.toArray 77)).heap.size (w.alloc (.cells x.cells.toArray 77)) w1 → Below w.heap.size w w1) := fun w1 hb => HB0.out.trans (hb.mono HB0.out.size)
  have KEEP : Hid (∀ w1, Below (w.alloc (.cells x.cells.toArray 77)).heap.size (w.alloc (.cells x.cells.toArray 77)) w1 → ∀ i v, (w.alloc (.cells x.cells.toArray 77)).cell? ⟨w.heap.size, i, none⟩ = some v → w1.cell? ⟨w.heap.size, i, none⟩ = some v) := fun w1 hb i v hv => by
    rw [hb.cell (p := ⟨w.heap.size, i, none⟩) (by simp), hv]
  have KT : Hid (∀ w1 w2, Below w.heap.size w w1 → Below w1.heap.size w1 w2 → Below w.heap.size w w2) := fun w1 w2 h1 h2 => h1.trans (h2.mono h1.size)
  have HK : Hid (∀ w', Below w.heap.size w w' → decide (0 ≤ x.v.f) = true → decide (x.v.f ≤ x.v.t) = true → decide (x.v.t ≤ 1073741824) = true → Calls Try.prog 95 #[.agg x.cells.toArray] w' fun e w'' => e = .returned (.bool (decide (x.v.f ≤ x.v.gf) && decide (x.v.gf ≤ x.v.gt) && decide (x.v.gt ≤ x.v.t) && decide (0 ≤ x.v.ins) && decide (x.v.ins ≤ (x.n1 : Int)) && decide ((x.n1 : Int) ≤ 20000) && (x.v.mark == 0) && (x.v.vl == 0) && ((x.n2 : Int) == 0))) ∧ Below w'.heap.size w' w'') := fun w' hb _ _ _ => AroundShape x B w' (hx.keep hB hb) (Nat.le_trans hB hb.size) b1 b2
  obtain ⟨kb, hkb⟩ : ∃ b, (decide (x.v.f ≤ x.v.gf) && decide (x.v.gf ≤ x.v.gt) && decide (x.v.gt ≤ x.v.t) && decide (0 ≤ x.v.ins) && decide (x.v.ins ≤ (x.n1 : Int)) && decide ((x.n1 : Int) ≤ 20000) && (x.v.mark == 0) && (x.v.vl == 0) && ((x.n2 : Int) == 0)) = b := ⟨_, rfl⟩
  rw [hkb] at HK ⊢
  clear hkb hk
  cases e1 : decide (0 ≤ x.v.f)
  case false =>
    go_enter Try.func47, Try.ntmps47
    go_wp2_with (first | (go_at_call 59; refine HO.out.mono ?_; rintro e w1 ⟨rfl, hb1⟩; have HB1 := Lib.hid (KB.out _ hb1); have HKP := KEEP.out _ hb1; have k1 := HKP 1 _ c1; have k2 := HKP 2 _ c2; clear HKP hb1) | fail)
    go_ret
    exact ⟨rfl, HB1.out⟩
  cases e2 : decide (x.v.f ≤ x.v.t)
  case false =>
    go_enter Try.func47, Try.ntmps47
    go_wp2_with (first | (go_at_call 59; refine HO.out.mono ?_; rintro e w1 ⟨rfl, hb1⟩; have HB1 := Lib.hid (KB.out _ hb1); have HKP := KEEP.out _ hb1; have k1 := HKP 1 _ c1; have k2 := HKP 2 _ c2; clear HKP hb1) | fail)
    go_ret
    exact ⟨rfl, HB1.out⟩
  cases e3 : decide (x.v.t ≤ 1073741824)
  case false =>
    go_enter Try.func47, Try.ntmps47
    go_wp2_with (first | (go_at_call 59; refine HO.out.mono ?_; rintro e w1 ⟨rfl, hb1⟩; have HB1 := Lib.hid (KB.out _ hb1); have HKP := KEEP.out _ hb1; have k1 := HKP 1 _ c1; have k2 := HKP 2 _ c2; clear HKP hb1) | fail)
    go_ret
    exact ⟨rfl, HB1.out⟩
  go_enter Try.func47, Try.ntmps47
  go_wp2_with (first | (go_at_call 59; refine HO.out.mono ?_; rintro e w1 ⟨rfl, hb1⟩; have HB1 := Lib.hid (KB.out _ hb1); have HKP := KEEP.out _ hb1; have k1 := HKP 1 _ c1; have k2 := HKP 2 _ c2; clear HKP hb1) | fail)
  refine (HK.out _ HB1.out e1 e2 e3).mono ?_
  rintro e w2 ⟨rfl, hb2⟩
  have HB2 := Lib.hid (KT.out _ _ HB1.out hb2)
  clear hb2
  go_wp2_with fail
  go_ret
  exact ⟨rfl, HB2.out⟩

set_option maxRecDepth 100000 in
set_option maxHeartbeats 4000000 in
theorem StepShape3 (x : Stp) (B : Nat) (w : World) (hx : x.Ok w B) (hB : B ≤ w.heap.size) (b1 : x.n1 ≤ 1000000) (b2 : x.n2 ≤ 1000000) (hk : x.v.k = 3) :
    Calls Try.prog 47 #[.agg x.cells.toArray] w fun e w' => e = .returned (.bool (decide (0 ≤ x.v.f) && decide (x.v.f ≤ x.v.t) && decide (x.v.t ≤ 1073741824) && (decide (x.v = ⟨x.v.k, x.v.f, x.v.t, 0, 0, 0, x.v.mark, x.v.vl, [], []⟩)))) ∧ Below w.heap.size w w' := by
  have r0 : rd (w.alloc (.cells x.cells.toArray 77)) ⟨w.heap.size, 0, none⟩ 10 = some x.cells := rd_alloc_new w x.cells 77 10 x.cells_length
  have HB0 : Hid (Below w.heap.size w (w.alloc (.cells x.cells.toArray 77))) := (Below.refl _ w).alloc (Nat.le_refl _) _
  have c1 : (w.alloc (.cells x.cells.toArray 77)).cell? ⟨w.heap.size, 1, none⟩ = some (.int .i64 x.v.f) := by
    have := (rd_cell r0).2 1 (by omega)
    simpa [Addr.add, Stp.cells] using this
  have c2 : (w.alloc (.cells x.cells.toArray 77)).cell? ⟨w.heap.size, 2, none⟩ = some (.int .i64 x.v.t) := by
    have := (rd_cell r0).2 2 (by omega)
    simpa [Addr.add, Stp.cells] using this
  have HO := Lib.hid (StepOf3 x (w.alloc (.cells x.cells.toArray 77)) hk)
  have KB : Hid (∀ w1, Below (w.alloc (.cells x.cells.toArray 77)).heap.size (w.alloc (.cells x.cells.toArray 77)) w1 → Below w.heap.size w w1) := fun w1 hb => HB0.out.trans (hb.mono HB0.out.size)
  have KEEP : Hid (∀ w1, Below (w.alloc (.cells x.cells.toArray 77)).heap.size (w.alloc (.cells x.cells.toArray 77)) w1 → ∀ i v, (w.alloc (.cells x.cells.toArray 77)).cell? ⟨w.heap.size, i, none⟩ = some v → w1.cell? ⟨w.heap.size, i, none⟩ = some v) := fun w1 hb i v hv => by
    rw [hb.cell (p := ⟨w.heap.size, i, none⟩) (by simp), hv]
  have KT : Hid (∀ w1 w2, Below w.heap.size w w1 → Below w1.heap.size w1 w2 → Below w.heap.size w w2) := fun w1 w2 h1 h2 => h1.trans (h2.mono h1.size)
  have HK : Hid (∀ w', Below w.heap.size w w' → decide (0 ≤ x.v.f) = true → decide (x.v.f ≤ x.v.t) = true → decide (x.v.t ≤ 1073741824) = true → Calls Try.prog 100 #[.agg x.cells.toArray] w' fun e w'' => e = .returned (.bool (decide (x.v = ⟨x.v.k, x.v.f, x.v.t, 0, 0, 0, x.v.mark, x.v.vl, [], []⟩))) ∧ Below w'.heap.size w' w'') := fun w' hb _ _ _ => MarkShape x B w' (hx.keep hB hb) (Nat.le_trans hB hb.size) b1 b2
  obtain ⟨kb, hkb⟩ : ∃ b, (decide (x.v = ⟨x.v.k, x.v.f, x.v.t, 0, 0, 0, x.v.mark, x.v.vl, [], []⟩)) = b := ⟨_, rfl⟩
  rw [hkb] at HK ⊢
  clear hkb hk
  cases e1 : decide (0 ≤ x.v.f)
  case false =>
    go_enter Try.func47, Try.ntmps47
    go_wp2_with (first | (go_at_call 59; refine HO.out.mono ?_; rintro e w1 ⟨rfl, hb1⟩; have HB1 := Lib.hid (KB.out _ hb1); have HKP := KEEP.out _ hb1; have k1 := HKP 1 _ c1; have k2 := HKP 2 _ c2; clear HKP hb1) | fail)
    go_ret
    exact ⟨rfl, HB1.out⟩
  cases e2 : decide (x.v.f ≤ x.v.t)
  case false =>
    go_enter Try.func47, Try.ntmps47
    go_wp2_with (first | (go_at_call 59; refine HO.out.mono ?_; rintro e w1 ⟨rfl, hb1⟩; have HB1 := Lib.hid (KB.out _ hb1); have HKP := KEEP.out _ hb1; have k1 := HKP 1 _ c1; have k2 := HKP 2 _ c2; clear HKP hb1) | fail)
    go_ret
    exact ⟨rfl, HB1.out⟩
  cases e3 : decide (x.v.t ≤ 1073741824)
  case false =>
    go_enter Try.func47, Try.ntmps47
    go_wp2_with (first | (go_at_call 59; refine HO.out.mono ?_; rintro e w1 ⟨rfl, hb1⟩; have HB1 := Lib.hid (KB.out _ hb1); have HKP := KEEP.out _ hb1; have k1 := HKP 1 _ c1; have k2 := HKP 2 _ c2; clear HKP hb1) | fail)
    go_ret
    exact ⟨rfl, HB1.out⟩
  go_enter Try.func47, Try.ntmps47
  go_wp2_with (first | (go_at_call 59; refine HO.out.mono ?_; rintro e w1 ⟨rfl, hb1⟩; have HB1 := Lib.hid (KB.out _ hb1); have HKP := KEEP.out _ hb1; have k1 := HKP 1 _ c1; have k2 := HKP 2 _ c2; clear HKP hb1) | fail)
  refine (HK.out _ HB1.out e1 e2 e3).mono ?_
  rintro e w2 ⟨rfl, hb2⟩
  have HB2 := Lib.hid (KT.out _ _ HB1.out hb2)
  clear hb2
  go_wp2_with fail
  go_ret
  exact ⟨rfl, HB2.out⟩

set_option maxRecDepth 100000 in
set_option maxHeartbeats 4000000 in
theorem StepShape4 (x : Stp) (B : Nat) (w : World) (hx : x.Ok w B) (hB : B ≤ w.heap.size) (b1 : x.n1 ≤ 1000000) (b2 : x.n2 ≤ 1000000) (hk : x.v.k = 4) :
    Calls Try.prog 47 #[.agg x.cells.toArray] w fun e w' => e = .returned (.bool (decide (0 ≤ x.v.f) && decide (x.v.f ≤ x.v.t) && decide (x.v.t ≤ 1073741824) && (decide (x.v = ⟨x.v.k, x.v.f, x.v.t, 0, 0, 0, x.v.mark, x.v.vl, [], []⟩)))) ∧ Below w.heap.size w w' := by
  have r0 : rd (w.alloc (.cells x.cells.toArray 77)) ⟨w.heap.size, 0, none⟩ 10 = some x.cells := rd_alloc_new w x.cells 77 10 x.cells_length
  have HB0 : Hid (Below w.heap.size w (w.alloc (.cells x.cells.toArray 77))) := (Below.refl _ w).alloc (Nat.le_refl _) _
  have c1 : (w.alloc (.cells x.cells.toArray 77)).cell? ⟨w.heap.size, 1, none⟩ = some (.int .i64 x.v.f) := by
    have := (rd_cell r0).2 1 (by omega)
    simpa [Addr.add, Stp.cells] using this
  have c2 : (w.alloc (.cells x.cells.toArray 77)).cell? ⟨w.heap.size, 2, none⟩ = some (.int .i64 x.v.t) := by
    have := (rd_cell r0).2 2 (by omega)
    simpa [Addr.add, Stp.cells] using this
  have HO := Lib.hid (StepOf4 x (w.alloc (.cells x.cells.toArray 77)) hk)
  have KB : Hid (∀ w1, Below (w.alloc (.cells x.cells.toArray 77)).heap.size (w.alloc (.cells x.cells.toArray 77)) w1 → Below w.heap.size w w1) := fun w1 hb => HB0.out.trans (hb.mono HB0.out.size)
  have KEEP : Hid (∀ w1, Below (w.alloc (.cells x.cells.toArray 77)).heap.size (w.alloc (.cells x.cells.toArray 77)) w1 → ∀ i v, (w.alloc (.cells x.cells.toArray 77)).cell? ⟨w.heap.size, i, none⟩ = some v → w1.cell? ⟨w.heap.size, i, none⟩ = some v) := fun w1 hb i v hv => by
    rw [hb.cell (p := ⟨w.heap.size, i, none⟩) (by simp), hv]
  have KT : Hid (∀ w1 w2, Below w.heap.size w w1 → Below w1.heap.size w1 w2 → Below w.heap.size w w2) := fun w1 w2 h1 h2 => h1.trans (h2.mono h1.size)
  have HK : Hid (∀ w', Below w.heap.size w w' → decide (0 ≤ x.v.f) = true → decide (x.v.f ≤ x.v.t) = true → decide (x.v.t ≤ 1073741824) = true → Calls Try.prog 100 #[.agg x.cells.toArray] w' fun e w'' => e = .returned (.bool (decide (x.v = ⟨x.v.k, x.v.f, x.v.t, 0, 0, 0, x.v.mark, x.v.vl, [], []⟩))) ∧ Below w'.heap.size w' w'') := fun w' hb _ _ _ => MarkShape x B w' (hx.keep hB hb) (Nat.le_trans hB hb.size) b1 b2
  obtain ⟨kb, hkb⟩ : ∃ b, (decide (x.v = ⟨x.v.k, x.v.f, x.v.t, 0, 0, 0, x.v.mark, x.v.vl, [], []⟩)) = b := ⟨_, rfl⟩
  rw [hkb] at HK ⊢
  clear hkb hk
  cases e1 : decide (0 ≤ x.v.f)
  case false =>
    go_enter Try.func47, Try.ntmps47
    go_wp2_with (first | (go_at_call 59; refine HO.out.mono ?_; rintro e w1 ⟨rfl, hb1⟩; have HB1 := Lib.hid (KB.out _ hb1); have HKP := KEEP.out _ hb1; have k1 := HKP 1 _ c1; have k2 := HKP 2 _ c2; clear HKP hb1) | fail)
    go_ret
    exact ⟨rfl, HB1.out⟩
  cases e2 : decide (x.v.f ≤ x.v.t)
  case false =>
    go_enter Try.func47, Try.ntmps47
    go_wp2_with (first | (go_at_call 59; refine HO.out.mono ?_; rintro e w1 ⟨rfl, hb1⟩; have HB1 := Lib.hid (KB.out _ hb1); have HKP := KEEP.out _ hb1; have k1 := HKP 1 _ c1; have k2 := HKP 2 _ c2; clear HKP hb1) | fail)
    go_ret
    exact ⟨rfl, HB1.out⟩
  cases e3 : decide (x.v.t ≤ 1073741824)
  case false =>
    go_enter Try.func47, Try.ntmps47
    go_wp2_with (first | (go_at_call 59; refine HO.out.mono ?_; rintro e w1 ⟨rfl, hb1⟩; have HB1 := Lib.hid (KB.out _ hb1); have HKP := KEEP.out _ hb1; have k1 := HKP 1 _ c1; have k2 := HKP 2 _ c2; clear HKP hb1) | fail)
    go_ret
    exact ⟨rfl, HB1.out⟩
  go_enter Try.func47, Try.ntmps47
  go_wp2_with (first | (go_at_call 59; refine HO.out.mono ?_; rintro e w1 ⟨rfl, hb1⟩; have HB1 := Lib.hid (KB.out _ hb1); have HKP := KEEP.out _ hb1; have k1 := HKP 1 _ c1; have k2 := HKP 2 _ c2; clear HKP hb1) | fail)
  refine (HK.out _ HB1.out e1 e2 e3).mono ?_
  rintro e w2 ⟨rfl, hb2⟩
  have HB2 := Lib.hid (KT.out _ _ HB1.out hb2)
  clear hb2
  go_wp2_with fail
  go_ret
  exact ⟨rfl, HB2.out⟩

set_option maxRecDepth 100000 in
set_option maxHeartbeats 4000000 in
theorem StepShape5 (x : Stp) (B : Nat) (w : World) (hx : x.Ok w B) (hB : B ≤ w.heap.size) (b1 : x.n1 ≤ 1000000) (b2 : x.n2 ≤ 1000000) (hk : x.v.k = 5) :
    Calls Try.prog 47 #[.agg x.cells.toArray] w fun e w' => e = .returned (.bool (decide (0 ≤ x.v.f) && decide (x.v.f ≤ x.v.t) && decide (x.v.t ≤ 1073741824) && (decide (x.v = ⟨x.v.k, x.v.f, x.v.t, 0, 0, 0, 0, 0, [], x.v.sets⟩) && ((x.n2 : Int) == x.v.t - x.v.f) && decide ((x.n2 : Int) ≤ 20000)))) ∧ Below w.heap.size w w' := by
  have r0 : rd (w.alloc (.cells x.cells.toArray 77)) ⟨w.heap.size, 0, none⟩ 10 = some x.cells := rd_alloc_new w x.cells 77 10 x.cells_length
  have HB0 : Hid (Below w.heap.size w (w.alloc (.cells x.cells.toArray 77))) := (Below.refl _ w).alloc (Nat.le_refl _) _
  have c1 : (w.alloc (.cells x.cells.toArray 77)).cell? ⟨w.heap.size, 1, none⟩ = some (.int .i64 x.v.f) := by
    have := (rd_cell r0).2 1 (by omega)
    simpa [Addr.add, Stp.cells] using this
  have c2 : (w.alloc (.cells x.cells.toArray 77)).cell? ⟨w.heap.size, 2, none⟩ = some (.int .i64 x.v.t) := by
    have := (rd_cell r0).2 2 (by omega)
    simpa [Addr.add, Stp.cells] using this
  have HO := Lib.hid (StepOf5 x (w.alloc (.cells x.cells.toArray 77)) hk)
  have KB : Hid (∀ w1, Below (w.alloc (.cells x.cells.toArray 77)).heap.size (w.alloc (.cells x.cells.toArray 77)) w1 → Below w.heap.size w w1) := fun w1 hb => HB0.out.trans (hb.mono HB0.out.size)
  have KEEP : Hid (∀ w1, Below (w.alloc (.cells x.cells.toArray 77)).heap.size (w.alloc (.cells x.cells.toArray 77)) w1 → ∀ i v, (w.alloc (.cells x.cells.toArray 77)).cell? ⟨w.heap.size, i, none⟩ = some v → w1.cell? ⟨w.heap.size, i, none⟩ = some v) := fun w1 hb i v hv => by
    rw [hb.cell (p := ⟨w.heap.size, i, none⟩) (by simp), hv]
  have KT : Hid (∀ w1 w2, Below w.heap.size w w1 → Below w1.heap.size w1 w2 → Below w.heap.size w w2) := fun w1 w2 h1 h2 => h1.trans (h2.mono h1.size)
  have HK : Hid (∀ w', Below w.heap.size w w' → decide (0 ≤ x.v.f) = true → decide (x.v.f ≤ x.v.t) = true → decide (x.v.t ≤ 1073741824) = true → Calls Try.prog 105 #[.agg x.cells.toArray] w' fun e w'' => e = .returned (.bool (decide (x.v = ⟨x.v.k, x.v.f, x.v.t, 0, 0, 0, 0, 0, [], x.v.sets⟩) && ((x.n2 : Int) == x.v.t - x.v.f) && decide ((x.n2 : Int) ≤ 20000))) ∧ Below w'.heap.size w' w'') := fun w' hb g1 g2 g3 => RemarkShape x B w' (hx.keep hB hb) (Nat.le_trans hB hb.size) b1 b2 (by simpa using g1) (by simpa using g2) (by simpa using g3)
  obtain ⟨kb, hkb⟩ : ∃ b, (decide (x.v = ⟨x.v.k, x.v.f, x.v.t, 0, 0, 0, 0, 0, [], x.v.sets⟩) && ((x.n2 : Int) == x.v.t - x.v.f) && decide ((x.n2 : Int) ≤ 20000)) = b := ⟨_, rfl⟩
  rw [hkb] at HK ⊢
  clear hkb hk
  cases e1 : decide (0 ≤ x.v.f)
  case false =>
    go_enter Try.func47, Try.ntmps47
    go_wp2_with (first | (go_at_call 59; refine HO.out.mono ?_; rintro e w1 ⟨rfl, hb1⟩; have HB1 := Lib.hid (KB.out _ hb1); have HKP := KEEP.out _ hb1; have k1 := HKP 1 _ c1; have k2 := HKP 2 _ c2; clear HKP hb1) | fail)
    go_ret
    exact ⟨rfl, HB1.out⟩
  cases e2 : decide (x.v.f ≤ x.v.t)
  case false =>
    go_enter Try.func47, Try.ntmps47
    go_wp2_with (first | (go_at_call 59; refine HO.out.mono ?_; rintro e w1 ⟨rfl, hb1⟩; have HB1 := Lib.hid (KB.out _ hb1); have HKP := KEEP.out _ hb1; have k1 := HKP 1 _ c1; have k2 := HKP 2 _ c2; clear HKP hb1) | fail)
    go_ret
    exact ⟨rfl, HB1.out⟩
  cases e3 : decide (x.v.t ≤ 1073741824)
  case false =>
    go_enter Try.func47, Try.ntmps47
    go_wp2_with (first | (go_at_call 59; refine HO.out.mono ?_; rintro e w1 ⟨rfl, hb1⟩; have HB1 := Lib.hid (KB.out _ hb1); have HKP := KEEP.out _ hb1; have k1 := HKP 1 _ c1; have k2 := HKP 2 _ c2; clear HKP hb1) | fail)
    go_ret
    exact ⟨rfl, HB1.out⟩
  go_enter Try.func47, Try.ntmps47
  go_wp2_with (first | (go_at_call 59; refine HO.out.mono ?_; rintro e w1 ⟨rfl, hb1⟩; have HB1 := Lib.hid (KB.out _ hb1); have HKP := KEEP.out _ hb1; have k1 := HKP 1 _ c1; have k2 := HKP 2 _ c2; clear HKP hb1) | fail)
  refine (HK.out _ HB1.out e1 e2 e3).mono ?_
  rintro e w2 ⟨rfl, hb2⟩
  have HB2 := Lib.hid (KT.out _ _ HB1.out hb2)
  clear hb2
  go_wp2_with fail
  go_ret
  exact ⟨rfl, HB2.out⟩

set_option maxRecDepth 100000 in
set_option maxHeartbeats 4000000 in
theorem StepShape0 (x : Stp) (B : Nat) (w : World) (hx : x.Ok w B) (hB : B ≤ w.heap.size) (b1 : x.n1 ≤ 1000000) (b2 : x.n2 ≤ 1000000) (h1 : (x.v.k == 1) = false) (h2 : (x.v.k == 2) = false) (h3 : (x.v.k == 3) = false) (h4 : (x.v.k == 4) = false) (h5 : (x.v.k == 5) = false) :
    Calls Try.prog 47 #[.agg x.cells.toArray] w fun e w' => e = .returned (.bool (false)) ∧ Below w.heap.size w w' := by
  have r0 : rd (w.alloc (.cells x.cells.toArray 77)) ⟨w.heap.size, 0, none⟩ 10 = some x.cells := rd_alloc_new w x.cells 77 10 x.cells_length
  have HB0 : Hid (Below w.heap.size w (w.alloc (.cells x.cells.toArray 77))) := (Below.refl _ w).alloc (Nat.le_refl _) _
  have c1 : (w.alloc (.cells x.cells.toArray 77)).cell? ⟨w.heap.size, 1, none⟩ = some (.int .i64 x.v.f) := by
    have := (rd_cell r0).2 1 (by omega)
    simpa [Addr.add, Stp.cells] using this
  have c2 : (w.alloc (.cells x.cells.toArray 77)).cell? ⟨w.heap.size, 2, none⟩ = some (.int .i64 x.v.t) := by
    have := (rd_cell r0).2 2 (by omega)
    simpa [Addr.add, Stp.cells] using this
  have HO := Lib.hid (StepOf0 x (w.alloc (.cells x.cells.toArray 77)) h1 h2 h3 h4 h5)
  have KB : Hid (∀ w1, Below (w.alloc (.cells x.cells.toArray 77)).heap.size (w.alloc (.cells x.cells.toArray 77)) w1 → Below w.heap.size w w1) := fun w1 hb => HB0.out.trans (hb.mono HB0.out.size)
  have KEEP : Hid (∀ w1, Below (w.alloc (.cells x.cells.toArray 77)).heap.size (w.alloc (.cells x.cells.toArray 77)) w1 → ∀ i v, (w.alloc (.cells x.cells.toArray 77)).cell? ⟨w.heap.size, i, none⟩ = some v → w1.cell? ⟨w.heap.size, i, none⟩ = some v) := fun w1 hb i v hv => by
    rw [hb.cell (p := ⟨w.heap.size, i, none⟩) (by simp), hv]
  have KT : Hid (∀ w1 w2, Below w.heap.size w w1 → Below w1.heap.size w1 w2 → Below w.heap.size w w2) := fun w1 w2 h1 h2 => h1.trans (h2.mono h1.size)
  clear h1 h2 h3 h4 h5
  go_enter Try.func47, Try.ntmps47
  go_wp2_with (first | (go_at_call 59; refine HO.out.mono ?_; rintro e w1 ⟨rfl, hb1⟩; have HB1 := Lib.hid (KB.out _ hb1); have HKP := KEEP.out _ hb1; have k1 := HKP 1 _ c1; have k2 := HKP 2 _ c2; clear HKP hb1) | fail)
  go_ret
  exact ⟨rfl, HB1.out⟩
end Go.Proofs.Ytkeeipfglmpgjaa
