/-
  Tokens: their cells, what a load of one gives, and when two are the same.
-/
import Derived.Test.YtkeeipfglmpgjaaBase
import Derived.Test.YtkeeipfglmpgjaaChecked
import Derived.Laws.StructEq
import Derived.DeepKeys
namespace Go.Proofs.Ytkeeipfglmpgjaa
set_option linter.unusedSimpArgs false
set_option linter.unusedVariables false
open Go.RowKit

structure Tok where
  kind : Int
  typ : Int
  attr : Int
  rune : Int
  m0 : Int
  m1 : Int
  m2 : Int
  m3 : Int
  m4 : Int
  m5 : Int
  m6 : Int
  m7 : Int
theorem Tok.eq_iff (s t : Tok) : (s.kind = t.kind ∧ s.typ = t.typ ∧ s.attr = t.attr ∧ s.rune = t.rune ∧ s.m0 = t.m0 ∧ s.m1 = t.m1 ∧ s.m2 = t.m2 ∧ s.m3 = t.m3 ∧ s.m4 = t.m4 ∧ s.m5 = t.m5 ∧ s.m6 = t.m6 ∧ s.m7 = t.m7) ↔ s = t := by
  cases s; cases t; simp only [Tok.mk.injEq]
instance tokDec : DecidableEq Tok := fun s t => decidable_of_iff _ (Tok.eq_iff s t)

def Tok.cells (t : Tok) : List Value := [.int .i64 t.kind, .int .i64 t.typ, .int .i64 t.attr, .int .i32 t.rune, .int .u16 t.m0, .int .u16 t.m1, .int .u16 t.m2, .int .u16 t.m3, .int .u16 t.m4, .int .u16 t.m5, .int .u16 t.m6, .int .u16 t.m7]
theorem Tok.cells_length (t : Tok) : t.cells.length = 12 := rfl
def Tok.val (t : Tok) : Value := .agg t.cells.toArray

theorem tok_agg : ∀ w, (isAgg 43).run Try.prog w = .ok true w := fun w => by kernel_rfl
theorem tok_size : ∀ w, (sizeOf 43).run Try.prog w = .ok 12 w := fun w => by kernel_rfl

theorem run_load_tok (w : World) (ρ : Operand → Value) (x : Operand) (d : Option Tmp) (ty : TypeId) (pos : String) (af : Array _) (g : Option _) :
    (execOp ρ ⟨d, .load 43 x, ty, pos, af, g⟩).run Try.prog w = aggLoad Try.prog 43 12 w (ρ x) := run_load_agg _ tok_agg 12 tok_size w ρ x d ty pos af g

theorem ite_ok {p : Prop} [Decidable p] (b : Bool) (w : World) : (if p then Result.ok b w else Result.ok false w) = Result.ok (decide p && b) w := by by_cases h : p <;> simp [h]
theorem ite_ok2 (b : Bool) (w : World) : (if b = false then Result.ok false w else Result.ok true w) = Result.ok b w := by cases b <;> simp
theorem u16_info : ∃ i, Try.prog.info? 39 = some i := by
  cases h : Try.prog.info? 39 with
  | some i => exact ⟨i, rfl⟩
  | none => have h1 : (Try.prog.info? 39).isSome = true := by kernel_rfl
            simp [h] at h1
theorem cells_u16 : Try.prog.cellsOf 39 = 1 := by kernel_rfl
theorem eq_marks (w : World) (a0 a1 a2 a3 a4 a5 a6 a7 b0 b1 b2 b3 b4 b5 b6 b7 : Int) (d : Nat) :
    (Op.equalIn (d + 2) 41 (.agg #[.int .u16 a0, .int .u16 a1, .int .u16 a2, .int .u16 a3, .int .u16 a4, .int .u16 a5, .int .u16 a6, .int .u16 a7])
      (.agg #[.int .u16 b0, .int .u16 b1, .int .u16 b2, .int .u16 b3, .int .u16 b4, .int .u16 b5, .int .u16 b6, .int .u16 b7])).run Try.prog w
      = .ok (decide (a0 = b0 ∧ a1 = b1 ∧ a2 = b2 ∧ a3 = b3 ∧ a4 = b4 ∧ a5 = b5 ∧ a6 = b6 ∧ a7 = b7)) w := by
  obtain ⟨i, hi⟩ := u16_info
  rw [run_equalIn_array w (d + 1) _ _ Try.underlying41 hi, cells_u16]
  simp [List.range_succ, Op.eqItems, part, go_sem]
  simp only [ite_ok, Bool.and_true]
theorem run_eqtok (w : World) (s t : Tok) (d : Nat) : (Op.equalIn (d + 3) 43 (.agg s.cells.toArray) (.agg t.cells.toArray)).run Try.prog w = .ok (decide (s = t)) w := by
  simp [Tok.cells, go_sem, eq_marks]
  simp only [ite_ok2, ite_ok]
  congr 1
  cases s; cases t
  simp only [Tok.mk.injEq, Bool.decide_and]

theorem run_eql_tok (w : World) (s t : Tok) : (binOp .eql 43 (.agg s.cells.toArray) (.agg t.cells.toArray)).run Try.prog w = .ok (.bool (decide (s = t))) w := by
  simp only [run_eql_struct, run_eqtok w s t 9997, Result.andThen_ok]
theorem run_neq_tok (w : World) (s t : Tok) : (binOp .neq 43 (.agg s.cells.toArray) (.agg t.cells.toArray)).run Try.prog w = .ok (.bool (!decide (s = t))) w := by
  simp only [run_neq_struct, run_eqtok w s t 9997, Result.andThen_ok]

theorem tok_one (t : Tok) : ∀ u ∈ t.cells, u.oneCell' = true := by
  intro u hu
  simp only [Tok.cells, List.mem_cons, List.not_mem_nil, or_false] at hu
  rcases hu with rfl | rfl | rfl | rfl | rfl | rfl | rfl | rfl | rfl | rfl | rfl | rfl <;> rfl
theorem tokElem : Elem Try.prog 26 43 12 48 :=
  ⟨Try.underlying26, info_some (z := .agg #[.int .i64 0, .int .i64 0, .int .i64 0, .int .i32 0, .int .u16 0, .int .u16 0, .int .u16 0, .int .u16 0, .int .u16 0, .int .u16 0, .int .u16 0, .int .u16 0]) (by kernel_rfl) rfl, by omega, by omega⟩


/-! Steps: eight numbers and two slices. -/
theorem step_agg : ∀ w, (isAgg 77).run Try.prog w = .ok true w := fun w => by kernel_rfl
theorem step_size : ∀ w, (sizeOf 77).run Try.prog w = .ok 10 w := fun w => by kernel_rfl
theorem run_load_step (w : World) (ρ : Operand → Value) (x : Operand) (d : Option Tmp) (ty : TypeId) (pos : String) (af : Array _) (g : Option _) :
    (execOp ρ ⟨d, .load 77 x, ty, pos, af, g⟩).run Try.prog w = aggLoad Try.prog 77 10 w (ρ x) := run_load_agg _ step_agg 10 step_size w ρ x d ty pos af g
theorem run_store_step (w : World) (ρ : Operand → Value) (p x : Operand) (d : Option Tmp) (ty : TypeId) (pos : String) (af : Array _) (g : Option _) :
    (execOp ρ ⟨d, .store 77 p x, ty, pos, af, g⟩).run Try.prog w = aggStore Try.prog 77 10 w (ρ p) (ρ x) := run_store_agg _ 10 (by kernel_rfl) w ρ p x d ty pos af g
theorem run_slice_tok (w : World) (ρ : Operand → Value) (x : Operand) (lo hi mx : Option Operand) (d : Option Tmp) (ty : TypeId) (pos : String) (af : Array _) (g : Option _) :
    (execOp ρ ⟨d, .slice 26 x lo hi mx, ty, pos, af, g⟩).run Try.prog w = cutRes Try.prog 26 12 w (ρ x) (lo.map ρ) (hi.map ρ) (mx.map ρ) := run_slice_op _ _ 12 Try.underlying26 tok_size w ρ x lo hi mx d ty pos af g

end Go.Proofs.Ytkeeipfglmpgjaa
