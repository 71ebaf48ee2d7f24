/-
  Signs compared; the example.
-/
import Derived.Test.YtijpdbjcmnpobaaDoorLx5
import Derived.Test.YtijpdbjcmnpobaaDoorLx7
import Derived.Test.YtijpdbjcmnpobaaDoorLx8
namespace Go.Proofs.YtijpdbjcmnpobaaDoor
set_option linter.unusedSimpArgs false
set_option linter.unusedVariables false
set_option maxRecDepth 100000
open Go.RowKit

def sgC (x : Sg) : List Value := [.int .i64 x.kind, .int .i64 x.at_, .int .i64 x.low, .int .i64 x.high, .string ⟨x.name.toArray⟩]
theorem iteL_ok {p : Prop} [Decidable p] (b : Bool) (w : World) : (if p then Result.ok b w else Result.ok false w) = Result.ok (decide p && b) w := by by_cases h : p <;> simp [h]
theorem iteL_ok2 (b : Bool) (w : World) : (if b = false then Result.ok false w else Result.ok true w) = Result.ok b w := by cases b <;> simp
theorem sg_ite (w : World) (s t : Sg) : (if s.kind = t.kind then if s.at_ = t.at_ then if s.low = t.low then if s.high = t.high then if s.name = t.name then Result.ok true w else Result.ok false w else Result.ok false w else Result.ok false w else Result.ok false w else Result.ok false w) = Result.ok (decide (s = t)) w := by
  cases s; cases t
  simp only [Sg.mk.injEq, Bool.decide_and]
  repeat' split
  all_goals simp_all
theorem run_eqsg (w : World) (s t : Sg) (d : Nat) : (Op.equalIn (d + 2) 41 (.agg (sgC s).toArray) (.agg (sgC t).toArray)).run Tryd.prog w = .ok (decide (s = t)) w := by
  simp [sgC, go_sem]
  exact sg_ite w s t
theorem run_eqsg2 (w : World) (s t : Sg) (d : Nat) : (Op.equalIn (d + 2) 40 (.agg (sgC s).toArray) (.agg (sgC t).toArray)).run Tryd.prog w = .ok (decide (s = t)) w := by
  simp [sgC, go_sem]
  exact sg_ite w s t
theorem rep_sg {w : World} {E : Env} {v : Value} {s : Sg} {f : Nat → HV} (hf : ∀ j, j < 5 → f j = sgF s j) (h : Rep w E v (.agg 5 f)) : v = .agg (sgC s).toArray := by
  cases h with
  | agg cs _ _ vs hn hv h =>
    have e : ∀ j, j < 5 → cs[j]? = some ((sgC s).getD j undef) := by
      intro j hj
      rw [(hv j hj).1]
      congr 1
      have := h j hj
      rw [hf j hj] at this
      match j, hj with
      | 0, _ => exact this.imm_inv
      | 1, _ => exact this.imm_inv
      | 2, _ => exact this.imm_inv
      | 3, _ => exact this.imm_inv
      | 4, _ => exact this.imm_inv
    congr 1
    apply Array.ext
    · rw [hn]; rfl
    · intro j h1 h2
      have hj : j < 5 := by rw [hn] at h1; exact h1
      have := e j hj
      rw [Array.getElem?_eq_getElem h1] at this
      injection this with this
      rw [this]
      match j, hj with
      | 0, _ => rfl
      | 1, _ => rfl
      | 2, _ => rfl
      | 3, _ => rfl
      | 4, _ => rfl
theorem hop_neq_sg {ov : Nat → Option HV} {g : Nat} {d : Option Tmp} {ty : TypeId} {pos : String} {af : Array Edge} {gd : Option (Nat × Bool)} {T yT : TypeId} {x y : Operand} (s t : Sg)
    (hT : ∀ w, (binOp .neq T (.agg (sgC s).toArray) (.agg (sgC t).toArray)).run Tryd.prog w = .ok (.bool (!decide (s = t))) w) (hG : Tryd.prog.eqGuardType Tryd.prog.depth T = false) {f1 f2 : Nat → HV} (h1 : ovl ov x = some (.agg 5 f1)) (h2 : ovl ov y = some (.agg 5 f2)) (hf1 : ∀ j, j < 5 → f1 j = sgF s j) (hf2 : ∀ j, j < 5 → f2 j = sgF t j) :
    HOp Tryd.prog ⟨d, .binOp .neq T x y yT, ty, pos, af, gd⟩ ov g [] (.imm (.bool (!decide (s = t)))) [] :=
  hop_pure fun w E ρ hr => by
    have e1 := rep_sg hf1 (hr x _ (by simp [Op.operands]) h1)
    have e2 := rep_sg hf2 (hr y _ (by simp [Op.operands]) h2)
    refine ⟨_, ?_, .imm _⟩
    have hg : (eqGuard .neq T x y (.agg (sgC s).toArray) (.agg (sgC t).toArray)).run Tryd.prog w = .ok () w := by
      simp [eqGuard, program, Sem.run, hG, Sem.run_bind]
    simp only [execOp, e1, e2, Sem.run_bind, hg, Result.andThen_ok, hT, Sem.run_pure]
theorem hop_eql_sg {ov : Nat → Option HV} {g : Nat} {d : Option Tmp} {ty : TypeId} {pos : String} {af : Array Edge} {gd : Option (Nat × Bool)} {T yT : TypeId} {x y : Operand} (s t : Sg)
    (hT : ∀ w, (binOp .eql T (.agg (sgC s).toArray) (.agg (sgC t).toArray)).run Tryd.prog w = .ok (.bool (decide (s = t))) w) (hG : Tryd.prog.eqGuardType Tryd.prog.depth T = false) {f1 f2 : Nat → HV} (h1 : ovl ov x = some (.agg 5 f1)) (h2 : ovl ov y = some (.agg 5 f2)) (hf1 : ∀ j, j < 5 → f1 j = sgF s j) (hf2 : ∀ j, j < 5 → f2 j = sgF t j) :
    HOp Tryd.prog ⟨d, .binOp .eql T x y yT, ty, pos, af, gd⟩ ov g [] (.imm (.bool (decide (s = t)))) [] :=
  hop_pure fun w E ρ hr => by
    have e1 := rep_sg hf1 (hr x _ (by simp [Op.operands]) h1)
    have e2 := rep_sg hf2 (hr y _ (by simp [Op.operands]) h2)
    refine ⟨_, ?_, .imm _⟩
    have hg : (eqGuard .eql T x y (.agg (sgC s).toArray) (.agg (sgC t).toArray)).run Tryd.prog w = .ok () w := by
      simp [eqGuard, program, Sem.run, hG, Sem.run_bind]
    simp only [execOp, e1, e2, Sem.run_bind, hg, Result.andThen_ok, hT, Sem.run_pure]
theorem eql41 (s t : Sg) (w : World) : (binOp .eql 41 (.agg (sgC s).toArray) (.agg (sgC t).toArray)).run Tryd.prog w = .ok (.bool (decide (s = t))) w := by
  simp only [run_eql_struct, run_eqsg w s t 9998, Result.andThen_ok]
theorem neq41 (s t : Sg) (w : World) : (binOp .neq 41 (.agg (sgC s).toArray) (.agg (sgC t).toArray)).run Tryd.prog w = .ok (.bool (!decide (s = t))) w := by
  simp only [run_neq_struct, run_eqsg w s t 9998, Result.andThen_ok]
theorem neq40 (s t : Sg) (w : World) : (binOp .neq 40 (.agg (sgC s).toArray) (.agg (sgC t).toArray)).run Tryd.prog w = .ok (.bool (!decide (s = t))) w := by
  simp only [run_neq_struct, run_eqsg2 w s t 9998, Result.andThen_ok]
theorem guard41 : Tryd.prog.eqGuardType Tryd.prog.depth 41 = false := by kernel_rfl
theorem guard40 : Tryd.prog.eqGuardType Tryd.prog.depth 40 = false := by kernel_rfl
def exL : List UInt8 := [97, 43, 32, 40, 98, 124, 99, 41, 123, 50, 44, 125]
def exS : List Sg := [⟨1, 0, 0, 0, [97]⟩, ⟨5, 1, 1, -1, []⟩, ⟨2, 3, 0, 0, []⟩, ⟨1, 4, 0, 0, [98]⟩, ⟨4, 5, 0, 0, []⟩, ⟨1, 6, 0, 0, [99]⟩, ⟨3, 7, 0, 0, []⟩, ⟨5, 8, 2, -1, []⟩]
theorem ex_lex : (match lexV exL with | .ok l => decide (l = exS) | .error _ => false) = true := by decide +kernel
theorem ex_lex2 : lexV exL = .ok exS := by
  have := ex_lex
  split at this
  · rename_i l hl; rw [hl, of_decide_eq_true this]
  · cases this
theorem ex_show : showL exS = [97, 43, 32, 40, 32, 98, 32, 124, 32, 99, 32, 41, 123, 50, 44, 125] := by decide +kernel
end Go.Proofs.YtijpdbjcmnpobaaDoor
