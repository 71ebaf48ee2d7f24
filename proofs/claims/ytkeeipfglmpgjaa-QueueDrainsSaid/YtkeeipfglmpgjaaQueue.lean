/-
  The queue's row: Less, Swap, Len.
-/
import Derived.Test.YtkeeipfglmpgjaaMid
import Derived.Test.YtkeeipfglmpgjaaHeapM
import Derived.Test.YtkeeipfglmpgjaaChecked
import Derived.BigRegion
import Derived.Outline
namespace Go.Proofs.Ytkeeipfglmpgjaa
set_option linter.unusedSimpArgs false
set_option linter.unusedVariables false
open Go.RowKit

def One.cells (x : One) : List Value := [.int .i64 x.key, .int .i64 x.came, .int .i64 x.thing]
theorem One.cells_length (x : One) : x.cells.length = 3 := by simp [One.cells]
theorem one_one (x : One) : ∀ u ∈ x.cells, u.oneCell' = true := by
  intro u hu
  simp only [One.cells, List.mem_cons, List.not_mem_nil, or_false] at hu
  rcases hu with rfl | rfl | rfl <;> rfl
theorem oneElem : Elem Try.prog 53 93 3 24 :=
  ⟨Try.underlying53, info_some (z := .agg #[.int .i64 0, .int .i64 0, .int .i64 0]) (by kernel_rfl) rfl, by omega, by omega⟩
set_option maxHeartbeats 1000000 in
theorem Less_any (A : Option Addr) (n c B : Nat) (l : List One) (i j : Nat) (w : World) (hn : l.length = n) (h : Sl w B 3 One.cells A l) (hi : i < l.length) (hj : j < l.length) (hl : n ≤ 1000000000) :
    Calls Try.prog 81 #[.slice A n c, .int .i64 i, .int .i64 j] w fun e w' => e = .returned (.bool (lessB l[i] l[j])) ∧ ∃ k, w' = w.drewN k := by
  subst hn
  obtain ⟨b, o, rfl, _⟩ := h.addr (by omega) (by omega)
  have a0 : w.cell? ⟨b, o + i * 3, none⟩ = some (.int .i64 l[i].key) := h.cell_ hi 0 (by omega)
  have a1 : w.cell? ⟨b, o + i * 3 + 1, none⟩ = some (.int .i64 l[i].came) := h.cell_ hi 1 (by omega)
  have b0 : w.cell? ⟨b, o + j * 3, none⟩ = some (.int .i64 l[j].key) := h.cell_ hj 0 (by omega)
  have b1 : w.cell? ⟨b, o + j * 3 + 1, none⟩ = some (.int .i64 l[j].came) := h.cell_ hj 1 (by omega)
  obtain ⟨x, hx⟩ : ∃ x, l[i] = x := ⟨_, rfl⟩
  obtain ⟨y, hy⟩ : ∃ y, l[j] = y := ⟨_, rfl⟩
  rw [hx] at a0 a1 ⊢
  rw [hy] at b0 b1 ⊢
  clear hx hy h
  obtain ⟨k1, c1, t1⟩ := x
  obtain ⟨k2, c2, t2⟩ := y
  simp only at a0 a1 b0 b1
  by_cases hk : k1 = k2
  · subst hk
    have e : lessB ⟨k1, c1, t1⟩ ⟨k1, c2, t2⟩ = decide (c1 < c2) := by simp [lessB]
    rw [e]
    clear e
    have hne : (k1 != k1) = false := by simp
    go_enter Try.func81, Try.ntmps81
    go_wp2
    go_quiet (fail)
    go_wp2
    go_quiet (fail)
    go_wp2
    go_ret
    exact ⟨rfl, _, by rw [World.drewN_drewN]⟩
  · have e : lessB ⟨k1, c1, t1⟩ ⟨k2, c2, t2⟩ = decide (k1 < k2) := by simp [lessB, hk]
    rw [e]
    clear e
    have hne : (k1 != k2) = true := by simpa using hk
    clear hk
    go_enter Try.func81, Try.ntmps81
    go_wp2
    go_quiet (fail)
    go_wp2
    go_quiet (fail)
    go_wp2
    go_ret
    exact ⟨rfl, _, by rw [World.drewN_drewN]⟩

theorem RLen_any (A : Option Addr) (n c : Nat) (w : World) : Calls Try.prog 80 #[.slice A n c] w fun e w' => e = .returned (.int .i64 n) ∧ w = w' := by
  go_enter Try.func80, Try.ntmps80
  go_wp2
  go_ret
  exact ⟨rfl, rfl⟩

theorem one_agg : ∀ w, (isAgg 93).run Try.prog w = .ok true w := fun w => by kernel_rfl
theorem one_size : ∀ w, (sizeOf 93).run Try.prog w = .ok 3 w := fun w => by kernel_rfl
theorem run_load_one (w : World) (ρ : Operand → Value) (x : Operand) (d : Option Tmp) (ty : TypeId) (pos : String) (af : Array _) (g : Option _) :
    (execOp ρ ⟨d, .load 93 x, ty, pos, af, g⟩).run Try.prog w = aggLoad Try.prog 93 3 w (ρ x) := run_load_agg _ one_agg 3 one_size w ρ x d ty pos af g
theorem run_store_one (w : World) (ρ : Operand → Value) (p x : Operand) (d : Option Tmp) (ty : TypeId) (pos : String) (af : Array _) (g : Option _) :
    (execOp ρ ⟨d, .store 93 p x, ty, pos, af, g⟩).run Try.prog w = midStore Try.prog 93 3 w (ρ p) (ρ x) := run_store_mid _ 3 (by kernel_rfl) w ρ p x d ty pos af g
theorem cells_one (x : One) : (∀ u, u ∈ x.cells → u.oneCell' = true) = True := by simp only [eq_iff_iff, iff_true]; exact one_one x
attribute [local go_sem ↓] run_load_one run_store_one
attribute [local go_sem] rd_drewN rd_drew aggLoad_ptr aggRes_some midStore_at thereB_setCells thereB_drew thereB_drewN cells_one One.cells_length

set_option maxHeartbeats 2000000 in
theorem Swap_any (A : Option Addr) (n c base : Nat) (l : List One) (i j : Nat) (w : World) (h : Own w base 93 3 One.cells (.slice A n c) l) (hi : i < n) (hj : j < n) (hl : n ≤ 1000000000) :
    Calls Try.prog 82 #[.slice A n c, .int .i64 i, .int .i64 j] w fun e w' => e = .returned (.tuple #[]) ∧ Own w' base 93 3 One.cells (.slice A n c) (swapL l i j) ∧ w.grownBy w' (Value.slice A n c).ownBlock := by
  obtain ⟨g, rfl, hg, _⟩ := h.addr0 (by omega)
  have hn := h.cap.2
  have r1 : rd w ⟨g, i * 3, none⟩ 3 = some (l[i]'(by omega)).cells := by simpa using h.sl'.rd_ (k := i) (by omega)
  have r2 : rd w ⟨g, j * 3, none⟩ 3 = some (l[j]'(by omega)).cells := by simpa using h.sl'.rd_ (k := j) (by omega)
  have t1 := h.there_ i hi
  have t2 := h.there_ j hj
  have HX := Lib.hid (List.getElem?_eq_getElem (l := l) (i := i) (by omega))
  have HY := Lib.hid (List.getElem?_eq_getElem (l := l) (i := j) (by omega))
  revert r1 r2 HX HY
  generalize l[i]'(by omega) = x
  generalize l[j]'(by omega) = y
  intro r1 r2 HX HY
  have HO := Lib.hid h
  clear h hn
  go_enter Try.func82, Try.ntmps82
  go_wp2
  go_region
  go_end0
  refine ⟨rfl, ?_, ?_⟩
  · have h1 := (HO.out.drew.set_ (by omega) i hi y).set_ (by omega) j hj x
    rw [show swapL l i j = (l.set i y).set j x from by simp [swapL, at_, HX.out, HY.out]]
    exact h1
  · have h1 := (grown_setCells (w.drew) g y.cells (i * 3)).trans (grown_setCells _ g x.cells (j * 3))
    exact ⟨h1.os, h1.tape, h1.output, h1.size, h1.block⟩
end Go.Proofs.Ytkeeipfglmpgjaa
