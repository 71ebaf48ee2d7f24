/-
  What each operation does, in the reader's words. Plain lemmas, no program in sight.
-/
import Derived.Test.YtijpdbjcmnpobaaDoorHz
namespace Go.Proofs.YtijpdbjcmnpobaaDoor
set_option linter.unusedSimpArgs false
set_option linter.unusedVariables false
open Go.RowKit

def ovl (tm : Nat → Option HV) : Operand → Option HV
  | .tmp t => tm t
  | .const (.agg cs) => match cs.all (·.oneCell') with | true => some (.agg cs.size (fun i => .imm (cs.getD i undef))) | false => some (.imm (.agg cs))
  | .const v => some (.imm v)
  | .global g => some (.imm (.pointer (some ⟨g, 0, none⟩)))
  | .func f => some (.fn (.func f) 0 (fun _ => default))
theorem rep_cst (w : World) (E : Env) (tm : Nat → Option HV) (v : Value) (x : HV) (h : ovl tm (.const v) = some x) : Rep w E v x := by
  cases v <;> first | (injection h with h; subst h; exact .imm _) | skip
  rename_i cs
  simp only [ovl] at h
  split at h
  · rename_i hall
    injection h with h
    subst h
    refine .agg cs cs.size _ (fun i => cs.getD i undef) rfl (fun i hi => ⟨by simp [hi], ?_⟩) (fun i hi => .imm _)
    rw [Array.all_eq_true] at hall
    have := hall i hi
    simpa [hi] using this
  · injection h with h
    subst h
    exact .imm _
theorem Rep.imm_inv {w : World} {E : Env} {v u : Value} (h : Rep w E v (.imm u)) : v = u := by cases h; rfl

def OpRep (w : World) (E : Env) (ρ : Operand → Value) (o : Oper) (ov : Nat → Option HV) : Prop := ∀ x hv, x ∈ o.op.operands.toList → ovl ov x = some hv → Rep w E (ρ x) hv
def HOp (P : Program) (o : Oper) (ov : Nat → Option HV) (g : Nat) (pre : List (Nat × HObj)) (v : HV) (post : List (Nat × HObj)) : Prop :=
  ∀ K w0 F0 E h (a : Act) w Q (N : Act → World → Prop), R K w0 F0 E h w → OpRep w E a.eval o ov → ¬ E.G g → (∃ c, ∀ g', E.G g' → g' < c) → (∀ p ∈ pre, h p.1 = some p.2) →
    (∀ val w' E', Ext w E w' E' → R K w0 F0 E' (hupd h post) w' → (∀ g', E'.G g' → E.G g' ∨ (post ≠ [] ∧ g' = g)) → Rep w' E' val v → N (a.put o.dst val) w') → o.wp P a w N Q

section
variable {P : Program} {ops : Array Oper} {ov : Nat → Option HV} {g : Nat}
theorem wp_val {o : Oper} {a : Act} {w w' : World} {N : Act → World → Prop} {Q : Exit → Act → World → Prop} {v : Value} (h : (execOp a.eval o).run P w = .ok (.value v) w') (hn : N (a.put o.dst v) w') : o.wp P a w N Q := by
  unfold Oper.wp; rw [h]; exact hn
theorem wp_skp {o : Oper} {a : Act} {w w' : World} {N : Act → World → Prop} {Q : Exit → Act → World → Prop} (h : (execOp a.eval o).run P w = .ok .skip w') (hn : N (a.put o.dst undef) w') : o.wp P a w N Q := by
  unfold Oper.wp; rw [h]; exact hn

/-! From an operation to a step of a region. -/
def pview (tm : Nat → Option TV) (t : Nat) : Option HV := match tm t with | some (.v x) => some x | _ => none
def ops_tmps (o : Oper) : List Nat := o.op.operands.toList.filterMap fun | .tmp t => some t | _ => none
theorem mem_tmps {o : Oper} {t : Nat} (h : Operand.tmp t ∈ o.op.operands.toList) : t ∈ ops_tmps o := List.mem_filterMap.2 ⟨_, h, rfl⟩
theorem hstep_plain {o : Oper} {tm : Nat → Option TV} {pre post : List (Nat × HObj)} {v : HV} (hg : o.guard = none) (h : HOp P o (pview tm) g pre v post) : HStep P ops o tm g ⟨.v v, ops_tmps o, pre, post⟩ := by
  intro K w0 F0 E hh a w Q N r ht hG hBd hp hN
  rw [if_pos (by simp [Region.wanted, hg])]
  refine h K w0 F0 E hh a w Q N r (fun x hv hx ho => ?_) hG hBd hp hN
  cases x with
  | tmp t =>
    simp only [ovl, pview] at ho
    split at ho
    · rename_i y hy
      injection ho with ho
      subst ho
      exact ht t _ (mem_tmps hx) hy
    · cases ho
  | const v => exact rep_cst w E _ v _ ho
  | global k => injection ho with ho; subst ho; exact .imm _
  | func f => injection ho with ho; subst ho; exact .fn (.func f) #[] 0 _ (fun _ => undef) rfl (fun i hi => absurd hi (Nat.not_lt_zero _)) (fun i hi => absurd hi (Nat.not_lt_zero _))
/-- What slots say where slot j says b. -/
def gview (tm : Nat → Option TV) (j : Nat) (b : Bool) (t : Nat) : Option HV :=
  match tm t with
  | some (.v x) => some x
  | some (.un j1 b1 x) => match (Nat.beq j j1 && b == b1) with
    | true => some x
    | false => match tm j with
      | some (.un j2 b2 _) => match (Nat.beq j2 j1 && b2 == b1) with | true => some x | false => none
      | _ => none
  | none => none
theorem gview_sound {w : World} {E : Env} {a : Act} {tm : Nat → Option TV} {j : Nat} {b : Bool} {t : Nat} {x : HV} (hj : a.tmps.getD j undef = .bool b) (hk : ∀ y, tm j = some y → TVRep w E a (a.tmps.getD j undef) y)
    (ht : ∀ y, tm t = some y → TVRep w E a (a.tmps.getD t undef) y) (hx : gview tm j b t = some x) : Rep w E (a.tmps.getD t undef) x := by
  unfold gview at hx
  split at hx
  · rename_i y hy; injection hx with hx; subst hx; exact ht _ hy
  · rename_i j1 b1 y hy
    have h1 := ht _ hy
    split at hx
    · rename_i hb
      injection hx with hx
      subst hx
      simp only [Bool.and_eq_true, Nat.beq_eq, beq_iff_eq] at hb
      obtain ⟨rfl, rfl⟩ := hb
      exact h1.1 hj
    · split at hx
      · rename_i j2 b2 z hz
        split at hx
        · rename_i hb
          injection hx with hx
          subst hx
          simp only [Bool.and_eq_true, Nat.beq_eq, beq_iff_eq] at hb
          obtain ⟨rfl, rfl⟩ := hb
          have h2 := hk _ hz
          refine h1.1 ?_
          by_cases h3 : a.tmps.getD j2 undef = .bool b2
          · exact h3
          · have := h2.2 h3
            rw [hj] at this
            exact absurd this (by simp [undef])
        · cases hx
      · cases hx
  · cases hx
/-- The same under a guard: slot j, that operation gi yields. -/
theorem hstep_guard {o : Oper} {tm : Nat → Option TV} {pre : List (Nat × HObj)} {v : HV} (gi j : Nat) (b c : Bool) (hg : o.guard = some (gi, b)) (hgi : (ops[gi]?).bind (·.dst) = some j)
    (hc : tm j = some (.v (.imm (.bool c))) ∨ ∃ j2 b2, tm j = some (.un j2 b2 (.imm (.bool c)))) (h : c = b → HOp P o (gview tm j b) g pre v []) : HStep P ops o tm g ⟨.un j b v, j :: ops_tmps o, pre, []⟩ := by
  intro K w0 F0 E hh a w Q N r ht hG hBd hp hN
  have hwant : Region.wanted o (yielded ops a.tmps) = true ↔ a.tmps.getD j undef = .bool b := by
    unfold Region.wanted yielded
    rw [hg]
    simp only [hgi, Option.bind_some]
    by_cases hj : j < a.tmps.size
    · have e1 : a.tmps[j]? = some a.tmps[j] := Array.getElem?_eq_getElem hj
      have e2 : a.tmps.getD j undef = a.tmps[j] := by simp [hj]
      rw [e1, e2]
      cases h : a.tmps[j] <;> simp
    · have e1 : a.tmps[j]? = none := Array.getElem?_eq_none (by omega)
      have e2 : a.tmps.getD j undef = undef := by simp [hj]
      rw [e1, e2]
      try simp [undef]
  by_cases hj : a.tmps.getD j undef = .bool b
  · rw [if_pos (hwant.2 hj)]
    have hcb : c = b := by
      rcases hc with hc | ⟨j2, b2, hc⟩
      · have := Rep.imm_inv (ht j _ (List.mem_cons_self ..) hc)
        rw [hj] at this; injection this with this; exact this.symm
      · have h2 := ht j _ (List.mem_cons_self ..) hc
        by_cases h3 : a.tmps.getD j2 undef = .bool b2
        · have := Rep.imm_inv (h2.1 h3)
          rw [hj] at this; injection this with this; exact this.symm
        · have := h2.2 h3
          rw [hj] at this
          exact absurd this (by simp [undef])
    refine h hcb K w0 F0 E hh a w Q N r (fun x hv hx ho => ?_) hG hBd hp (fun val w' E' e r' hG' hv => hN val w' E' e r' hG' ⟨fun _ => hv, fun hne => absurd hj hne⟩)
    cases x with
    | tmp t => exact gview_sound hj (fun y hy => ht j y (List.mem_cons_self ..) hy) (fun y hy => ht t y (List.mem_cons_of_mem _ (mem_tmps hx)) hy) ho
    | const v => exact rep_cst w E _ v _ ho
    | global k => injection ho with ho; subst ho; exact .imm _
    | func f => injection ho with ho; subst ho; exact .fn (.func f) #[] 0 _ (fun _ => undef) rfl (fun i hi => absurd hi (Nat.not_lt_zero _)) (fun i hi => absurd hi (Nat.not_lt_zero _))
  · rw [if_neg (fun h => hj (hwant.1 h))]
    exact hN undef w E (Ext.refl _ _) r (fun _ h => .inl h) ⟨fun h => absurd h hj, fun _ => rfl⟩

theorem hop_pure {o : Oper} {v : HV} (h : ∀ (w : World) (E : Env) (ρ : Operand → Value), OpRep w E ρ o ov → ∃ val, (execOp ρ o).run P w = .ok (.value val) w ∧ Rep w E val v) : HOp P o ov g [] v [] := by
  intro K w0 F0 E hh a w Q N r ht hG hBd hp hN
  obtain ⟨val, h1, h2⟩ := h w E a.eval ht
  exact wp_val h1 (hN val w E (Ext.refl _ _) r (fun _ h => .inl h) h2)
/-- It looks at one object. -/
theorem hop_read {o : Oper} {v : HV} {id : Nat} {ob : HObj} (h : ∀ K w0 F0 E hh (w : World) (ρ : Operand → Value), R K w0 F0 E hh w → hh id = some ob → OpRep w E ρ o ov → ∃ val, (execOp ρ o).run P w = .ok (.value val) w ∧ Rep w E val v) : HOp P o ov g [(id, ob)] v [] := by
  intro K w0 F0 E hh a w Q N r ht hG hBd hp hN
  obtain ⟨val, h1, h2⟩ := h K w0 F0 E hh w a.eval r (hp _ (List.mem_cons_self ..)) ht
  exact wp_val h1 (hN val w E (Ext.refl _ _) r (fun _ h => .inl h) h2)

section
variable {d : Option Tmp} {ty : TypeId} {pos : String} {af : Array Edge} {gd : Option (Nat × Bool)} {T yT : TypeId} {x y z : Operand} {hx hy : HV}
theorem hop_move (h : ovl ov x = some hx) : HOp P ⟨d, .move x, ty, pos, af, gd⟩ ov g [] hx [] :=
  hop_pure fun w E ρ hr => ⟨ρ x, rfl, hr x hx (by simp [Op.operands]) h⟩
theorem hop_assign (h : ovl ov x = some hx) : HOp P ⟨d, .assign x, ty, pos, af, gd⟩ ov g [] hx [] :=
  hop_pure fun w E ρ hr => ⟨ρ x, rfl, hr x hx (by simp [Op.operands]) h⟩
theorem hop_bin (op : BinOp) (a b c : Value) (h1 : ovl ov x = some (.imm a)) (h2 : ovl ov y = some (.imm b)) (hg : ∀ w, (do eqGuard op T x y a b; binOp op T a b).run P w = .ok c w) : HOp P ⟨d, .binOp op T x y yT, ty, pos, af, gd⟩ ov g [] (.imm c) [] :=
  hop_pure fun w E ρ hr => by
    have e1 := Rep.imm_inv (hr x _ (by simp [Op.operands]) h1)
    have e2 := Rep.imm_inv (hr y _ (by simp [Op.operands]) h2)
    refine ⟨c, ?_, .imm _⟩
    simp only [execOp, e1, e2]
    have := hg w
    simp only [Sem.run_bind] at this ⊢
    rw [this]
    rfl
section
variable {k : IntKind} {a b : Int}
theorem hop_add (h1 : ovl ov x = some (.imm (.int k a))) (h2 : ovl ov y = some (.imm (.int k b))) : HOp P ⟨d, .binOp .add T x y yT, ty, pos, af, gd⟩ ov g [] (.imm (.int k (k.wrap (a + b)))) [] := hop_bin .add _ _ _ h1 h2 (fun w => by simp [eqGuard, binOp, Op.intArith])
theorem hop_sub (h1 : ovl ov x = some (.imm (.int k a))) (h2 : ovl ov y = some (.imm (.int k b))) : HOp P ⟨d, .binOp .sub T x y yT, ty, pos, af, gd⟩ ov g [] (.imm (.int k (k.wrap (a - b)))) [] := hop_bin .sub _ _ _ h1 h2 (fun w => by simp [eqGuard, binOp, Op.intArith])
theorem hop_mul (h1 : ovl ov x = some (.imm (.int k a))) (h2 : ovl ov y = some (.imm (.int k b))) : HOp P ⟨d, .binOp .mul T x y yT, ty, pos, af, gd⟩ ov g [] (.imm (.int k (k.wrap (a * b)))) [] := hop_bin .mul _ _ _ h1 h2 (fun w => by simp [eqGuard, binOp, Op.intArith])
theorem hop_addi {c : Int} (h1 : ovl ov x = some (.imm (.int .i64 a))) (h2 : ovl ov y = some (.imm (.int .i64 b))) (hc : c = a + b) (hl : -9223372036854775808 ≤ c) (hh : c ≤ 9223372036854775807) : HOp P ⟨d, .binOp .add T x y yT, ty, pos, af, gd⟩ ov g [] (.imm (.int .i64 c)) [] := by
  have := hop_add (P := P) (g := g) (d := d) (ty := ty) (pos := pos) (af := af) (gd := gd) (T := T) (yT := yT) h1 h2
  rwa [← hc, wrap_ok _ hl hh] at this
theorem hop_subi {c : Int} (h1 : ovl ov x = some (.imm (.int .i64 a))) (h2 : ovl ov y = some (.imm (.int .i64 b))) (hc : c = a - b) (hl : -9223372036854775808 ≤ c) (hh : c ≤ 9223372036854775807) : HOp P ⟨d, .binOp .sub T x y yT, ty, pos, af, gd⟩ ov g [] (.imm (.int .i64 c)) [] := by
  have := hop_sub (P := P) (g := g) (d := d) (ty := ty) (pos := pos) (af := af) (gd := gd) (T := T) (yT := yT) h1 h2
  rwa [← hc, wrap_ok _ hl hh] at this
theorem hop_muli {c : Int} (h1 : ovl ov x = some (.imm (.int .i64 a))) (h2 : ovl ov y = some (.imm (.int .i64 b))) (hc : c = a * b) (hl : -9223372036854775808 ≤ c) (hh : c ≤ 9223372036854775807) : HOp P ⟨d, .binOp .mul T x y yT, ty, pos, af, gd⟩ ov g [] (.imm (.int .i64 c)) [] := by
  have := hop_mul (P := P) (g := g) (d := d) (ty := ty) (pos := pos) (af := af) (gd := gd) (T := T) (yT := yT) h1 h2
  rwa [← hc, wrap_ok _ hl hh] at this
theorem hop_eql (h1 : ovl ov x = some (.imm (.int k a))) (h2 : ovl ov y = some (.imm (.int k b))) : HOp P ⟨d, .binOp .eql T x y yT, ty, pos, af, gd⟩ ov g [] (.imm (.bool (a == b))) [] := hop_bin .eql _ _ _ h1 h2 (fun w => by simp [eqGuard, binOp, Op.intCmp])
theorem hop_neq (h1 : ovl ov x = some (.imm (.int k a))) (h2 : ovl ov y = some (.imm (.int k b))) : HOp P ⟨d, .binOp .neq T x y yT, ty, pos, af, gd⟩ ov g [] (.imm (.bool (a != b))) [] := hop_bin .neq _ _ _ h1 h2 (fun w => by simp [eqGuard, binOp, Op.intCmp])
theorem hop_lss (h1 : ovl ov x = some (.imm (.int k a))) (h2 : ovl ov y = some (.imm (.int k b))) : HOp P ⟨d, .binOp .lss T x y yT, ty, pos, af, gd⟩ ov g [] (.imm (.bool (decide (a < b)))) [] := hop_bin .lss _ _ _ h1 h2 (fun w => by simp [eqGuard, binOp, Op.intCmp])
theorem hop_leq (h1 : ovl ov x = some (.imm (.int k a))) (h2 : ovl ov y = some (.imm (.int k b))) : HOp P ⟨d, .binOp .leq T x y yT, ty, pos, af, gd⟩ ov g [] (.imm (.bool (decide (a ≤ b)))) [] := hop_bin .leq _ _ _ h1 h2 (fun w => by simp [eqGuard, binOp, Op.intCmp])
theorem hop_gtr (h1 : ovl ov x = some (.imm (.int k a))) (h2 : ovl ov y = some (.imm (.int k b))) : HOp P ⟨d, .binOp .gtr T x y yT, ty, pos, af, gd⟩ ov g [] (.imm (.bool (decide (b < a)))) [] := hop_bin .gtr _ _ _ h1 h2 (fun w => by simp [eqGuard, binOp, Op.intCmp])
theorem hop_geq (h1 : ovl ov x = some (.imm (.int k a))) (h2 : ovl ov y = some (.imm (.int k b))) : HOp P ⟨d, .binOp .geq T x y yT, ty, pos, af, gd⟩ ov g [] (.imm (.bool (decide (b ≤ a)))) [] := hop_bin .geq _ _ _ h1 h2 (fun w => by simp [eqGuard, binOp, Op.intCmp])
theorem hop_quo (h1 : ovl ov x = some (.imm (.int k a))) (h2 : ovl ov y = some (.imm (.int k b))) (hb : b ≠ 0) : HOp P ⟨d, .binOp .quo T x y yT, ty, pos, af, gd⟩ ov g [] (.imm (.int k (k.wrap (a.tdiv b)))) [] := hop_bin .quo _ _ _ h1 h2 (fun w => by simp [eqGuard, binOp, Op.intDiv, hb])
theorem hop_rem (h1 : ovl ov x = some (.imm (.int k a))) (h2 : ovl ov y = some (.imm (.int k b))) (hb : b ≠ 0) : HOp P ⟨d, .binOp .rem T x y yT, ty, pos, af, gd⟩ ov g [] (.imm (.int k (a.tmod b))) [] := hop_bin .rem _ _ _ h1 h2 (fun w => by simp [eqGuard, binOp, Op.intDiv, hb])
end
theorem hop_beq {a b : Bool} (hT : ∀ w, (Op.equal T (.bool a) (.bool b)).run P w = .ok (a == b) w) (h1 : ovl ov x = some (.imm (.bool a))) (h2 : ovl ov y = some (.imm (.bool b))) : HOp P ⟨d, .binOp .eql T x y yT, ty, pos, af, gd⟩ ov g [] (.imm (.bool (a == b))) [] := hop_bin .eql _ _ _ h1 h2 (fun w => by simp [eqGuard, binOp, hT])
theorem hop_bne {a b : Bool} (hT : ∀ w, (Op.equal T (.bool a) (.bool b)).run P w = .ok (a == b) w) (h1 : ovl ov x = some (.imm (.bool a))) (h2 : ovl ov y = some (.imm (.bool b))) : HOp P ⟨d, .binOp .neq T x y yT, ty, pos, af, gd⟩ ov g [] (.imm (.bool (!(a == b)))) [] := hop_bin .neq _ _ _ h1 h2 (fun w => by simp [eqGuard, binOp, hT])
theorem hop_seq_ {a b : ByteArray} (h1 : ovl ov x = some (.imm (.string a))) (h2 : ovl ov y = some (.imm (.string b))) : HOp P ⟨d, .binOp .eql T x y yT, ty, pos, af, gd⟩ ov g [] (.imm (.bool (a.toList == b.toList))) [] := hop_bin .eql _ _ _ h1 h2 (fun w => by simp [eqGuard, binOp, Op.stringOp])
theorem hop_sne {a b : ByteArray} (h1 : ovl ov x = some (.imm (.string a))) (h2 : ovl ov y = some (.imm (.string b))) : HOp P ⟨d, .binOp .neq T x y yT, ty, pos, af, gd⟩ ov g [] (.imm (.bool (!(a.toList == b.toList)))) [] := hop_bin .neq _ _ _ h1 h2 (fun w => by simp [eqGuard, binOp, Op.stringOp])
theorem hop_not {b : Bool} (h1 : ovl ov x = some (.imm (.bool b))) : HOp P ⟨d, .unOp .not T x, ty, pos, af, gd⟩ ov g [] (.imm (.bool (!b))) [] :=
  hop_pure fun w E ρ hr => by
    have e1 := Rep.imm_inv (hr x _ (by simp [Op.operands]) h1)
    exact ⟨_, by simp [execOp, e1, Op.unary], .imm _⟩
theorem hop_neg {k : IntKind} {a : Int} (h1 : ovl ov x = some (.imm (.int k a))) : HOp P ⟨d, .unOp .neg T x, ty, pos, af, gd⟩ ov g [] (.imm (.int k (k.wrap (0 - a)))) [] :=
  hop_pure fun w E ρ hr => by
    have e1 := Rep.imm_inv (hr x _ (by simp [Op.operands]) h1)
    exact ⟨_, by simp [execOp, e1, Op.unary, Op.intArith], .imm _⟩
theorem hop_conv {k k' : IntKind} {a : Int} (hT : P.underlying yT = some (.int k')) (hS : (P.underlying T).isSome = true) (h1 : ovl ov x = some (.imm (.int k a))) : HOp P ⟨d, .convert T yT x, ty, pos, af, gd⟩ ov g [] (.imm (.int k' (k'.wrap a))) [] :=
  hop_pure fun w E ρ hr => by
    have e1 := Rep.imm_inv (hr x _ (by simp [Op.operands]) h1)
    obtain ⟨dd, hd⟩ := Option.isSome_iff_exists.1 hS
    refine ⟨_, ?_, .imm _⟩
    simp only [execOp, e1, convert, Sem.run_bind, run_underlying hd, run_underlying hT, Result.andThen_ok, Conv.intToInt, Sem.run_pure]
theorem hop_nilcheck_fp {n : Nat} {f : Nat → HV} (h1 : ovl ov x = some (.fp n f)) : HOp P ⟨d, .nilCheck x, ty, pos, af, gd⟩ ov g [] (.fp n f) [] :=
  hop_pure fun w E ρ hr => by
    have h := hr x _ (by simp [Op.operands]) h1
    refine ⟨ρ x, ?_, h⟩
    generalize hρ : ρ x = u at h
    cases h
    simp [execOp, hρ]
theorem hop_nilcheck_pt {id gg i off : Nat} (h1 : ovl ov x = some (.pt id gg i off)) : HOp P ⟨d, .nilCheck x, ty, pos, af, gd⟩ ov g [] (.pt id gg i off) [] :=
  hop_pure fun w E ρ hr => by
    have h := hr x _ (by simp [Op.operands]) h1
    refine ⟨ρ x, ?_, h⟩
    generalize hρ : ρ x = u at h
    cases h
    simp [execOp, hρ]
theorem hop_extract {n : Nat} {f : Nat → HV} {i : Nat} (h1 : ovl ov x = some (.tup n f)) (hi : Nat.blt i n = true) : HOp P ⟨d, .extract x i, ty, pos, af, gd⟩ ov g [] (f i) [] :=
  hop_pure fun w E ρ hr => by
    have h := hr x _ (by simp [Op.operands]) h1
    have hi : i < n := by simpa [Nat.blt_eq] using hi
    generalize hρ : ρ x = u at h
    cases h with
    | tup cs _ _ vs hn hv h => exact ⟨vs i, by simp [execOp, hρ, Instr.extract, (hv i hi)], h i hi⟩
theorem hop_iface {hx : HV} (hT : (match P.underlying T with | some (.interface _) => false | some _ => true | none => false) = true) (h1 : ovl ov x = some hx) : HOp P ⟨d, .makeInterface T x, ty, pos, af, gd⟩ ov g [] (.ifc T hx) [] :=
  hop_pure fun w E ρ hr => by
    have h := hr x _ (by simp [Op.operands]) h1
    refine ⟨.iface T (ρ x), ?_, .ifc _ _ _ h⟩
    cases hu : P.underlying T with
    | none => rw [hu] at hT; cases hT
    | some dd =>
      rw [hu] at hT
      simp only [execOp, Instr.makeInterface, Sem.run_bind, run_underlying hu, Result.andThen_ok]
      cases dd <;> first | rfl | cases hT
end
end
end Go.Proofs.YtijpdbjcmnpobaaDoor
