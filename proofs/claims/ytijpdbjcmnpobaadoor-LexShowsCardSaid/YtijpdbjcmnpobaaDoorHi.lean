/-
  Iterators over strings, type assertions, comparisons with nil, guarded picks. Plain lemmas, no program in sight.
-/
import Derived.Test.YtijpdbjcmnpobaaDoorHp
namespace Go.Proofs.YtijpdbjcmnpobaaDoor
set_option linter.unusedSimpArgs false
set_option linter.unusedVariables false
open Go.RowKit

section
variable {P : Program} {ops : Array Oper} {ov : Nat → Option HV} {g : Nat} {d : Option Tmp} {ty : TypeId} {pos : String} {af : Array Edge} {gd : Option (Nat × Bool)} {T yT : TypeId} {x y : Operand}
theorem hop_assert_ok {t : TypeId} {hv : HV} {xT : TypeId} (hT : (match P.underlying t with | some (.interface _) => false | some _ => true | none => false) = true) (h1 : ovl ov x = some (.ifc t hv)) : HOp P ⟨d, .typeAssert x xT t true, ty, pos, af, gd⟩ ov g [] (t2 hv (.imm (.bool true))) [] :=
  hop_pure fun w E ρ hr => by
    have h := hr x _ (by simp [Op.operands]) h1
    generalize hρ : ρ x = u at h
    cases h with
    | ifc _ v _ h =>
      refine ⟨.tuple #[v, .bool true], ?_, .tup _ 2 _ (fun i => match i with | 0 => v | _ => .bool true) rfl (fun i hi => by match i, hi with | 0, _ => rfl | 1, _ => rfl) (fun i hi => by match i, hi with | 0, _ => exact h | 1, _ => exact .imm _)⟩
      cases hu : P.underlying t with
      | none => rw [hu] at hT; cases hT
      | some dd =>
        rw [hu] at hT
        simp only [execOp, hρ, Instr.typeAssert, Sem.run_bind, run_underlying hu, Result.andThen_ok]
        cases dd <;> first | (simp; done) | cases hT
theorem equal_ifc_nil {t : TypeId} {v : Value} {w : World} {ms : _} (hu : P.underlying T = some (.interface ms)) : (Op.equal T (.iface t v) .nilIface).run P w = .ok false w := by
  have : Op.equal T (.iface t v) .nilIface = Op.equalIn (Op.maxDepth - 1 + 1) T (.iface t v) .nilIface := rfl
  rw [this]
  simp only [Op.equalIn, Sem.run_bind, run_underlying hu, Result.andThen_ok, Sem.run_pure]
theorem equal_nil_nil {w : World} {ms : _} (hu : P.underlying T = some (.interface ms)) : (Op.equal T .nilIface .nilIface).run P w = .ok true w := by
  have : Op.equal T .nilIface .nilIface = Op.equalIn (Op.maxDepth - 1 + 1) T .nilIface .nilIface := rfl
  rw [this]
  simp only [Op.equalIn, Sem.run_bind, run_underlying hu, Result.andThen_ok, Sem.run_pure]
theorem hop_ifc_ne_nil {t : TypeId} {hv : HV} (hT : (match P.underlying T with | some (.interface _) => true | _ => false) = true) (h1 : ovl ov x = some (.ifc t hv)) : HOp P ⟨d, .binOp .neq T x (.const .nilIface) yT, ty, pos, af, gd⟩ ov g [] (.imm (.bool true)) [] :=
  hop_pure fun w E ρ hr => by
    have h := hr x _ (by simp [Op.operands]) h1
    have e2 : ρ (.const .nilIface) = .nilIface := Rep.imm_inv (hr (.const .nilIface) _ (by simp [Op.operands]) rfl)
    generalize hρ : ρ x = u at h
    cases h with
    | ifc _ v _ h =>
      refine ⟨_, ?_, .imm _⟩
      cases hu : P.underlying T with
      | none => rw [hu] at hT; cases hT
      | some dd =>
        rw [hu] at hT
        cases dd <;> first | cases hT | skip
        simp [execOp, hρ, e2, eqGuard, binOp, equal_ifc_nil hu]
theorem hop_nil_ne_nil (hT : (match P.underlying T with | some (.interface _) => true | _ => false) = true) (h1 : ovl ov x = some (.imm .nilIface)) : HOp P ⟨d, .binOp .neq T x (.const .nilIface) yT, ty, pos, af, gd⟩ ov g [] (.imm (.bool false)) [] :=
  hop_pure fun w E ρ hr => by
    have e1 := Rep.imm_inv (hr x _ (by simp [Op.operands]) h1)
    have e2 : ρ (.const .nilIface) = .nilIface := Rep.imm_inv (hr (.const .nilIface) _ (by simp [Op.operands]) rfl)
    refine ⟨_, ?_, .imm _⟩
    cases hu : P.underlying T with
    | none => rw [hu] at hT; cases hT
    | some dd =>
      rw [hu] at hT
      cases dd <;> first | cases hT | skip
      simp [execOp, e1, e2, eqGuard, binOp, equal_nil_nil hu]

/-! An iterator over a string. -/
end
/-- What an iterator over s holds: where it is. -/
def iterO (g : Nat) (s : ByteArray) (p : Nat) : HObj := ⟨g, 0, 1, 0, 1, fun _ _ => .imm (.tuple #[.string s, .int .i64 (p : Int)])⟩
theorem iterO_raw {o : HObj} {ob : Obj} {g : Nat} {s : ByteArray} {p : Nat} (h : RawIs o ob) (ho : o = iterO g s p) : ob = .stringIter s p := by
  cases h with
  | iter g' ty' s' p' =>
    unfold iterO at ho
    injection ho with _ _ _ _ _ hf
    have h0 := congrFun (congrFun hf 0) 0
    injection h0 with h0
    injection h0 with h0
    have h1 : (.string s' : Value) = .string s := by have := congrArg (fun a => a[0]?) h0; simpa using this
    have h2 : (.int .i64 (p' : Int) : Value) = .int .i64 (p : Int) := by have := congrArg (fun a => a[1]?) h0; simpa using this
    injection h1 with h1
    injection h2 with _ h2
    have : p' = p := by omega
    subst h1; subst this; rfl
section
variable {K : Nat → Prop} {w0 w w' : World} {F0 : Addr → Prop} {E E' : Env} {h h' : Nat → Option HObj}
theorem R.newRaw (r : R K w0 F0 E h w) (id : Nat) (o : HObj) (ob : Obj) (hraw : RawIs o ob) (hg : ¬ E.G o.g) (hsz : 0 < o.sz) :
    Ext w E (w.alloc ob) (E.new id o.g w.heap.size 0 o.sz) ∧ R K w0 F0 (E.new id o.g w.heap.size 0 o.sz) (hset h id o) (w.alloc ob) := by
  have hb : Below w.heap.size w (w.alloc ob) := (Below.refl _ _).alloc (Nat.le_refl _) _
  have e : Ext w E (w.alloc ob) (E.new id o.g w.heap.size 0 o.sz) := Ext.new w E id o.g _ 0 o.sz hg _ hb.size (fun a ha => ((r.extBelow hb).F a ha).2)
  refine ⟨e, hb.os.trans r.os, hb.tape.trans r.tape, hb.output.trans r.output, Nat.le_trans r.size hb.size, fun k hk hK => (hb.block k (Nat.lt_of_lt_of_le hk r.size)).trans (r.keep k hk hK),
    fun a ha => ⟨(r.frz a ha).1, by rw [(e.F a ha).2]; exact (r.frz a ha).2⟩, r.fnew, r.klib, r.lib, fun k o1 ho => ?_, fun k k' o1 o2 l l' b ho ho' hl hl' hb1 hb2 => ?_⟩
  · by_cases hk : k = id
    · subst hk
      rw [hset_same] at ho
      injection ho with ho
      subst ho
      refine ⟨_, Env.new_L _ _ _ _ _ _, rfl, .inr rfl, rfl, hsz, .inr (.inr ⟨w.heap.size, ob, rfl, by show (w.heap.push ob)[w.heap.size]? = _; simp, hraw, fun hlt => absurd hlt (by have := r.size; omega)⟩)⟩
    · rw [hset_ne _ _ hk] at ho
      obtain ⟨l, hl, a⟩ := r.obj k o1 ho
      exact ⟨l, by rw [Env.new_Lne E hk]; exact hl, a.ext e (fun b hb' => hb.block b (a.lt hb')) (fun _ _ _ hF => hF)⟩
  · have old : ∀ k o1 l, k ≠ id → hset h id o k = some o1 → (E.new id o.g w.heap.size 0 o.sz).L k = some l → h k = some o1 ∧ E.L k = some l ∧ ∀ b, l.A = some b → b < w.heap.size := by
      intro k o1 l hk ho hl
      rw [hset_ne _ _ hk] at ho
      rw [Env.new_Lne E hk] at hl
      obtain ⟨l', hl', a⟩ := r.obj k o1 ho
      rw [hl] at hl'
      injection hl' with hl'
      subst hl'
      exact ⟨ho, hl, fun b hb' => a.lt hb'⟩
    by_cases hk : k = id <;> by_cases hk' : k' = id
    · rw [hk, hk']
    · subst hk
      rw [Env.new_L] at hl
      injection hl with hl
      subst hl
      have := (old k' o2 l' hk' ho' hl').2.2 b hb2
      injection hb1 with hb1
      omega
    · subst hk'
      rw [Env.new_L] at hl'
      injection hl' with hl'
      subst hl'
      have := (old k o1 l hk ho hl).2.2 b hb1
      injection hb2 with hb2
      omega
    · have a1 := old k o1 l hk ho hl
      have a2 := old k' o2 l' hk' ho' hl'
      exact r.inj k k' o1 o2 l l' b a1.1 a2.1 a1.2.1 a2.2.1 hb1 hb2
/-- What is known of an iterator. -/
theorem R.rawAt (r : R K w0 F0 E h w) {id g : Nat} {s : ByteArray} {p : Nat} (ho : h id = some (iterO g s p)) : ∃ l b, E.L id = some l ∧ l.g = g ∧ l.sz = 1 ∧ l.A = some b ∧ w.heap[b]? = some (.stringIter s p) := by
  obtain ⟨l, hl, a⟩ := r.obj id _ ho
  rcases a.at_ with ⟨h0, h1, h2, h3⟩ | ⟨b, cs, h1, h2, h3, h4, h5, h6, h8, h9⟩ | ⟨b, ob, h1, h2, h3, h4⟩
  · exact absurd h3 (by show ¬ (1 ≤ 0); omega)
  · exact absurd h9.2 (by show ¬ (1 ≤ 0); omega)
  · exact ⟨l, b, hl, a.g, a.sz, h1, by rw [iterO_raw h3 rfl] at h2; exact h2⟩
end

theorem R.setRaw {K : Nat → Prop} {w0 w : World} {F0 : Addr → Prop} {E : Env} {h : Nat → Option HObj} (r : R K w0 F0 E h w) {id g : Nat} {s : ByteArray} {p p' : Nat} {l : Loc} {b : Nat} (ho : h id = some (iterO g s p)) (hl : E.L id = some l) (hb : l.A = some b) (hw : w.heap[b]? = some (.stringIter s p)) :
    Ext w E { w with heap := w.heap.setIfInBounds b (.stringIter s p') } E ∧ R K w0 F0 E (hset h id (iterO g s p')) { w with heap := w.heap.setIfInBounds b (.stringIter s p') } := by
  obtain ⟨l', hl', a⟩ := r.obj id _ ho
  rw [hl] at hl'; injection hl' with hl'; subst hl'
  have hlt := a.lt hb
  refine r.write id _ _ l b ho hl hb rfl rfl rfl (by simp) (fun k hk => ?_) (fun k hk => ?_) (fun e => ⟨a.g, a.G, a.sz, a.pos, .inr (.inr ⟨b, _, hb, ?_, .iter .., a.notK hb⟩)⟩)
  · show (w.heap.setIfInBounds b _)[k]? = _
    rw [Array.getElem?_setIfInBounds_ne (Ne.symm hk)]
  · have := (r.frz _ hk).2
    simp [World.cell?, hw] at this
  · show (w.heap.setIfInBounds b _)[b]? = _
    rw [Array.getElem?_setIfInBounds_self_of_lt hlt]
section
variable {P : Program} {ops : Array Oper} {ov : Nat → Option HV} {g : Nat} {d : Option Tmp} {ty : TypeId} {pos : String} {af : Array Edge} {gd : Option (Nat × Bool)} {T yT : TypeId} {x y : Operand}
theorem hop_range_s {id : Nat} {s : ByteArray} (hT : P.underlying T = some .string) (h1 : ovl ov x = some (.imm (.string s))) : HOp P ⟨d, .range T x, ty, pos, af, gd⟩ ov g [] (.pt id g 0 0) [(id, iterO g s 0)] := by
  intro K w0 F0 E hh a w Q N r ht hG hBd hpre hN
  have e1 := Rep.imm_inv (ht x _ (by simp [Op.operands]) h1)
  have hnew := r.newRaw id (iterO g s 0) (.stringIter s 0) (.iter ..) hG (by show 0 < 1; omega)
  refine wp_val (v := .pointer (some ⟨w.heap.size, 0, none⟩)) (w' := w.alloc (.stringIter s 0)) ?_ (hN _ _ _ hnew.1 hnew.2 (fun g' hg' => hg'.imp (fun h => h) fun h => ⟨by simp, h⟩) ?_)
  · simp only [execOp, e1, Sem.run_bind, run_range_string w T s hT, Result.andThen_ok, Sem.run_pure]; rfl
  · refine .pt w.heap.size 0 id g 0 0 (.inr rfl) (fun l hl _ => ?_)
    rw [Env.new_L] at hl; injection hl with hl; subst hl
    exact ⟨rfl, rfl⟩
theorem run_next_at (w : World) (b : Nat) (s : ByteArray) (p : Nat) (ty : TypeId) (hw : w.heap[b]? = some (.stringIter s p)) (h : p < s.size) (ha : (s[p]'h).toNat < 128) :
    (Instr.next (.pointer (some ⟨b, 0, none⟩)) true ty).run P w = .ok (.tuple #[.bool true, .int .i64 (p : Int), .int .i32 ((s[p]'h).toNat : Int)]) { w with heap := w.heap.setIfInBounds b (.stringIter s (p + 1)) } := by
  simp only [Instr.next, getObj, setObj, Sem.run_bind, Sem.run, hw, Result.andThen, h, if_true, decode_ascii s p h ha]
  simp [goInt, Sem.run, hw]
theorem run_next_stop (w : World) (b : Nat) (s : ByteArray) (p : Nat) (ty : TypeId) (hw : w.heap[b]? = some (.stringIter s p)) (h : ¬ p < s.size) :
    (Instr.next (.pointer (some ⟨b, 0, none⟩)) true ty).run P w = .ok (.tuple #[.bool false]) w := by
  simp [Instr.next, getObj, Sem.run, hw, h]
theorem hop_next_s {id gg p : Nat} {s : ByteArray} {c : Int} (h1 : ovl ov x = some (.pt id gg 0 0)) (h : p < s.size) (ha : (s[p]'h).toNat < 128) (hc : ((s[p]'h).toNat : Int) = c) : HOp P ⟨d, .next x true, ty, pos, af, gd⟩ ov g [(id, iterO gg s p)] (t3 (.imm (.bool true)) (.imm (.int .i64 (p : Int))) (.imm (.int .i32 c))) [(id, iterO gg s (p + 1))] := by
  subst hc
  intro K w0 F0 E hh a w Q N r ht hG hBd hpre hN
  have ho := hpre _ (List.mem_cons_self ..)
  obtain ⟨l, b, hl, hlg, hlsz, hlA, hwb⟩ := r.rawAt ho
  have hX := ht x _ (by simp [Op.operands]) h1
  generalize hρ : a.eval x = u at hX
  cases hX with
  | pt b' k _ _ _ _ hgg hh' =>
    obtain ⟨h2, rfl⟩ := hh' l hl hlg
    rw [hlA] at h2; injection h2 with h2; subst h2
    rw [show 0 * l.sz + 0 = 0 from by simp] at hρ
    have hset := r.setRaw (p' := p + 1) ho hl hlA hwb
    refine wp_val (v := .tuple #[.bool true, .int .i64 (p : Int), .int .i32 ((s[p]'h).toNat : Int)]) ?_ (hN _ _ _ hset.1 hset.2 (fun g' hg' => .inl hg') ?_)
    · simp only [execOp, hρ, Sem.run_bind, run_next_at w b s p ty hwb h ha, Result.andThen_ok, Sem.run_pure]
    · exact .tup _ 3 _ (fun i => match i with | 0 => .bool true | 1 => .int .i64 (p : Int) | _ => .int .i32 ((s[p]'h).toNat : Int)) rfl (fun i hi => by match i, hi with | 0, _ => rfl | 1, _ => rfl | 2, _ => rfl) (fun i hi => by match i, hi with | 0, _ => exact .imm _ | 1, _ => exact .imm _ | 2, _ => exact .imm _)
theorem hop_next_end {id gg p : Nat} {s : ByteArray} (h1 : ovl ov x = some (.pt id gg 0 0)) (h : ¬ p < s.size) : HOp P ⟨d, .next x true, ty, pos, af, gd⟩ ov g [(id, iterO gg s p)] (.tup 1 (fun _ => .imm (.bool false))) [] := by
  intro K w0 F0 E hh a w Q N r ht hG hBd hpre hN
  have ho := hpre _ (List.mem_cons_self ..)
  obtain ⟨l, b, hl, hlg, hlsz, hlA, hwb⟩ := r.rawAt ho
  have hX := ht x _ (by simp [Op.operands]) h1
  generalize hρ : a.eval x = u at hX
  cases hX with
  | pt b' k _ _ _ _ hgg hh' =>
    obtain ⟨h2, rfl⟩ := hh' l hl hlg
    rw [hlA] at h2; injection h2 with h2; subst h2
    rw [show 0 * l.sz + 0 = 0 from by simp] at hρ
    refine wp_val (v := .tuple #[.bool false]) ?_ (hN _ _ _ (Ext.refl _ _) r (fun g' hg' => .inl hg') ?_)
    · simp only [execOp, hρ, Sem.run_bind, run_next_stop w b s p ty hwb h, Result.andThen_ok, Sem.run_pure]
    · exact .tup _ 1 _ (fun _ => .bool false) rfl (fun i hi => by match i, hi with | 0, _ => rfl) (fun i hi => .imm _)
/-- An operation under a guard that stands under a guard itself. -/
theorem hstep_guard3 {o : Oper} {tm : Nat → Option TV} {pre : List (Nat × HObj)} {v : HV} (gi j j2 : Nat) (b2 b c c2 : Bool) (hg : o.guard = some (gi, b)) (hgi : (ops[gi]?).bind (·.dst) = some j)
    (hc : tm j = some (.un j2 b2 (.imm (.bool c)))) (hc2 : tm j2 = some (.v (.imm (.bool c2)))) (h : c = b → c2 = b2 → HOp P o (gview tm j b) g pre v []) : HStep P ops o tm g ⟨.un j b v, j :: j2 :: ops_tmps o, pre, []⟩ := by
  intro K w0 F0 E hh a w Q N r ht hG hBd hp hN
  have hwant : Region.wanted o (yielded ops a.tmps) = true ↔ a.tmps.getD j undef = .bool b := by
    unfold Region.wanted yielded
    rw [hg]
    simp only [hgi, Option.bind_some]
    by_cases hj : j < a.tmps.size
    · have e1 : a.tmps[j]? = some a.tmps[j] := Array.getElem?_eq_getElem hj
      have e2 : a.tmps.getD j undef = a.tmps[j] := by simp [hj]
      rw [e1, e2]
      cases h : a.tmps[j] <;> simp
    · have e1 : a.tmps[j]? = none := Array.getElem?_eq_none (by omega)
      have e2 : a.tmps.getD j undef = undef := by simp [hj]
      rw [e1, e2]
      try simp [undef]
  by_cases hj : a.tmps.getD j undef = .bool b
  · rw [if_pos (hwant.2 hj)]
    have h2 := ht j _ (List.mem_cons_self ..) hc
    have h4 := Rep.imm_inv (ht j2 _ (List.mem_cons_of_mem _ (List.mem_cons_self ..)) hc2)
    have h3 : a.tmps.getD j2 undef = .bool b2 := by
      refine Classical.byContradiction fun hne => ?_
      have := h2.2 hne
      rw [hj] at this
      exact absurd this (by simp [undef])
    have hcb : c = b := by
      have := Rep.imm_inv (h2.1 h3)
      rw [hj] at this; injection this with this; exact this.symm
    have hcb2 : c2 = b2 := by rw [h3] at h4; injection h4 with h4; exact h4.symm
    refine h hcb hcb2 K w0 F0 E hh a w Q N r (fun x hv hx ho => ?_) hG hBd hp (fun val w' E' e r' hG' hv => hN val w' E' e r' hG' ⟨fun _ => hv, fun hne => absurd hj hne⟩)
    cases x with
    | tmp t => exact gview_sound hj (fun y hy => ht j y (List.mem_cons_self ..) hy) (fun y hy => ht t y (List.mem_cons_of_mem _ (List.mem_cons_of_mem _ (mem_tmps hx))) hy) ho
    | const v => exact rep_cst w E _ v _ ho
    | global k => injection ho with ho; subst ho; exact .imm _
    | func f => injection ho with ho; subst ho; exact .fn (.func f) #[] 0 _ (fun _ => undef) rfl (fun i hi => absurd hi (Nat.not_lt_zero _)) (fun i hi => absurd hi (Nat.not_lt_zero _))
  · rw [if_neg (fun h => hj (hwant.1 h))]
    exact hN undef w E (Ext.refl _ _) r (fun _ h => .inl h) ⟨fun h => absurd h hj, fun _ => rfl⟩
/-- A pick under a guard. -/
theorem hstep_pickg {tm : Nat → Option TV} {gi j j1 : Nat} {b : Bool} (c : Bool) (hx hy v : HV) (hgi : (ops[gi]?).bind (·.dst) = some j) (h0 : tm j1 = some (.un j b (.imm (.bool c)))) (h1 : ovl (gview tm j1 true) x = some hx) (h2 : ovl (gview tm j1 false) y = some hy) (hv1 : c = true → Sb hx v) (hv2 : c = false → Sb hy v) :
    HStep P ops ⟨d, .pick (.tmp j1) x y, ty, pos, af, some (gi, b)⟩ tm g ⟨.un j b v, j :: j1 :: ops_tmps ⟨d, .pick (.tmp j1) x y, ty, pos, af, some (gi, b)⟩, [], []⟩ := by
  intro K w0 F0 E hh a w Q N r ht hG hBd hp hN
  have hwant : Region.wanted ⟨d, .pick (.tmp j1) x y, ty, pos, af, some (gi, b)⟩ (yielded ops a.tmps) = true ↔ a.tmps.getD j undef = .bool b := by
    unfold Region.wanted yielded
    simp only [hgi, Option.bind_some]
    by_cases hj : j < a.tmps.size
    · have e1 : a.tmps[j]? = some a.tmps[j] := Array.getElem?_eq_getElem hj
      have e2 : a.tmps.getD j undef = a.tmps[j] := by simp [hj]
      rw [e1, e2]
      cases h : a.tmps[j] <;> simp
    · have e1 : a.tmps[j]? = none := Array.getElem?_eq_none (by omega)
      have e2 : a.tmps.getD j undef = undef := by simp [hj]
      rw [e1, e2]
      try simp [undef]
  by_cases hj : a.tmps.getD j undef = .bool b
  · rw [if_pos (hwant.2 hj)]
    have hj1 : a.eval (.tmp j1) = .bool c := Rep.imm_inv ((ht j1 _ (List.mem_cons_of_mem _ (List.mem_cons_self ..)) h0).1 hj)
    have look : ∀ (b' : Bool) (z : Operand) (h : HV), c = b' → z ∈ (Op.pick (.tmp j1) x y).operands.toList → ovl (gview tm j1 b') z = some h → Rep w E (a.eval z) h := by
      intro b' z h hb hz ho
      subst hb
      cases z with
      | tmp t => exact gview_sound hj1 (fun y hy => ht j1 y (List.mem_cons_of_mem _ (List.mem_cons_self ..)) hy) (fun y hy => ht t y (List.mem_cons_of_mem _ (List.mem_cons_of_mem _ (mem_tmps hz))) hy) ho
      | const v => exact rep_cst w E _ v _ ho
      | global k => injection ho with ho; subst ho; exact .imm _
      | func f => injection ho with ho; subst ho; exact .fn (.func f) #[] 0 _ (fun _ => undef) rfl (fun i hi => absurd hi (Nat.not_lt_zero _)) (fun i hi => absurd hi (Nat.not_lt_zero _))
    refine wp_val (v := if c = true then a.eval x else a.eval y) (w' := w) ?_ (hN _ w E (Ext.refl _ _) r (fun _ h => .inl h) ⟨fun _ => ?_, fun hne => absurd hj hne⟩)
    · cases c <;> simp [execOp, hj1, asBool]
    · cases c with
      | true => exact (hv1 rfl).sound (look true x hx rfl (by simp [Op.operands]) h1)
      | false => exact (hv2 rfl).sound (look false y hy rfl (by simp [Op.operands]) h2)
  · rw [if_neg (fun h => hj (hwant.1 h))]
    exact hN undef w E (Ext.refl _ _) r (fun _ h => .inl h) ⟨fun h => absurd h hj, fun _ => rfl⟩
theorem hstep_org {tm : Nat → Option TV} {gi j j1 : Nat} {b : Bool} (c e : Bool) (hgi : (ops[gi]?).bind (·.dst) = some j) (h0 : tm j1 = some (.un j b (.imm (.bool c)))) (h1 : ovl (gview tm j1 true) x = some (.imm (.bool true))) (h2 : ovl (gview tm j1 false) y = some (.imm (.bool e))) :
    HStep P ops ⟨d, .pick (.tmp j1) x y, ty, pos, af, some (gi, b)⟩ tm g ⟨.un j b (.imm (.bool (c || e))), j :: j1 :: ops_tmps ⟨d, .pick (.tmp j1) x y, ty, pos, af, some (gi, b)⟩, [], []⟩ :=
  hstep_pickg c _ _ _ hgi h0 h1 h2 (fun h => by subst h; exact .refl _) (fun h => by subst h; exact .refl _)
theorem hstep_andg {tm : Nat → Option TV} {gi j j1 : Nat} {b : Bool} (c e : Bool) (hgi : (ops[gi]?).bind (·.dst) = some j) (h0 : tm j1 = some (.un j b (.imm (.bool c)))) (h1 : ovl (gview tm j1 true) x = some (.imm (.bool e))) (h2 : ovl (gview tm j1 false) y = some (.imm (.bool false))) :
    HStep P ops ⟨d, .pick (.tmp j1) x y, ty, pos, af, some (gi, b)⟩ tm g ⟨.un j b (.imm (.bool (c && e))), j :: j1 :: ops_tmps ⟨d, .pick (.tmp j1) x y, ty, pos, af, some (gi, b)⟩, [], []⟩ :=
  hstep_pickg c _ _ _ hgi h0 h1 h2 (fun h => by subst h; exact .refl _) (fun h => by subst h; exact .refl _)
end
section
variable {C : Ctx} {P : Program} {ops : Array Oper} {Q : Exit → Act → World → Prop} {n clk : Nat} {tm : List (Nat × TV)} {hp : List (Nat × HObj)} {o : Oper} {rest : List Oper} {v : HV}
theorem hq_g3 {pre : List (Nat × HObj)} (d gi j j2 : Nat) (b2 b c c2 : Bool) (hop : c = b → c2 = b2 → HOp P o (gview (tget tm) j b) clk pre v []) (hd : o.dst = some d) (hg : o.guard = some (gi, b)) (hgi : (ops[gi]?).bind (·.dst) = some j) (hc : tget tm j = some (.un j2 b2 (.imm (.bool c)))) (hc2 : tget tm j2 = some (.v (.imm (.bool c2)))) (hpre : ∀ p ∈ pre, hget hp p.1 = some p.2) (hlt : Nat.blt d n = true) (hk : nokey tm d = true) (hjd : Nat.beq j d = false)
    (h : HSeq C P ops rest ⟨n, (d, .un j b v) :: tm, hp, clk⟩ Q) : HSeq C P ops (o :: rest) ⟨n, tm, hp, clk⟩ Q :=
  hseq_consq (s := ⟨n, tm, hp, clk⟩) d _ hd rfl (hstep_guard3 gi j j2 b2 b c c2 hg hgi hc hc2 hop) hpre hlt hk h (fun j' b' x h => by injection h with h1 h2 h3; subst h1; rw [← Bool.not_eq_true, Nat.beq_eq] at hjd; exact hjd)
theorem hq_pg (d : Nat) {need : List Nat} {j : Nat} {b : Bool} (hst : HStep P ops o (tget tm) clk ⟨.un j b v, need, [], []⟩) (hd : o.dst = some d) (hlt : Nat.blt d n = true) (hk : nokey tm d = true) (hjd : Nat.beq j d = false) (h : HSeq C P ops rest ⟨n, (d, .un j b v) :: tm, hp, clk⟩ Q) : HSeq C P ops (o :: rest) ⟨n, tm, hp, clk⟩ Q :=
  hseq_consq (s := ⟨n, tm, hp, clk⟩) d _ hd rfl hst pre0 hlt hk h (fun j' b' x h => by injection h with h1 h2 h3; subst h1; rw [← Bool.not_eq_true, Nat.beq_eq] at hjd; exact hjd)
end
section
variable {K : Nat → Prop} {w0 w : World} {F0 : Addr → Prop} {E : Env} {h : Nat → Option HObj}
/-- What an object holds, told anew. -/
theorem R.tell (r : R K w0 F0 E h w) (id : Nat) {g n sz : Nat} {ty : TypeId} {fl : Nat} {f f' : Nat → Nat → HV} (ho : h id = some ⟨g, n, sz, ty, fl, f⟩)
    (hc : ∀ l b cs, E.L id = some l → l.A = some b → Blk w b ty cs → ∀ i j u, i < n → j < sz → cs[i * sz + j]? = some u → Rep w E u (f i j) → Rep w E u (f' i j)) (hfn : fl ≤ n := by first | exact Nat.zero_le _ | exact Nat.le_refl _ | omega) : R K w0 F0 E (hset h id ⟨g, n, sz, ty, fl, f'⟩) w :=
  { r with
    obj := fun k o hk => by
      by_cases e : k = id
      · subst e
        rw [hset_same] at hk; injection hk with hk; subst hk
        obtain ⟨l, hl, a⟩ := r.obj k _ ho
        refine ⟨l, hl, a.g, a.G, a.sz, a.pos, ?_⟩
        rcases a.at_ with h0 | ⟨b, cs, g1, g2, g3, g4, g5, g6, ⟨vs, g8⟩, g9⟩ | ⟨_, _, _, _, h3, _⟩
        rotate_right
        · have h7 := h3.n; have h8 := h3.fl; simp only at h7 h8; omega
        · exact .inl h0
        · exact .inr (.inl ⟨b, cs, g1, g2, g3, g4, g5, g6, ⟨vs, fun i j hi hj => ⟨(g8 i j hi hj).1, (g8 i j hi hj).2.1, hc l b cs hl g1 g2 i j _ hi hj (g8 i j hi hj).1 (g8 i j hi hj).2.2⟩⟩, g9⟩)
      · rw [hset_ne _ _ e] at hk
        exact r.obj k o hk
    inj := fun k k' o o' l l' b hk hk' hl hl' hb hb' => by
      have old : ∀ k o, hset h id ⟨g, n, sz, ty, fl, f'⟩ k = some o → ∃ o, h k = some o := by
        intro k o hk
        by_cases e : k = id
        · subst e; exact ⟨_, ho⟩
        · rw [hset_ne _ _ e] at hk; exact ⟨o, hk⟩
      obtain ⟨p, hp⟩ := old k o hk
      obtain ⟨q, hq⟩ := old k' o' hk'
      exact r.inj k k' p q l l' b hp hq hl hl' hb hb' }
end
/-- A cell that holds a nil slice gets an empty row. -/
theorem hsub_ownc {C : Ctx} {n clk : Nat} {tm : List (Nat × TV)} {hp : List (Nat × HObj)} (id0 j0 id sz : Nat) (ty : TypeId) (f : Nat → Nat → HV) {g0 m0 : Nat} {ty0 : TypeId} {f0 : Nat → Nat → HV} (f' : Nat → Nat → HV) (ho : hget hp id0 = some ⟨g0, 1, m0, ty0, 0, f0⟩) (hf0 : f0 0 j0 = .imm (.slice none 0 0)) (hf' : ∀ j, j < m0 → (j = j0 ∧ f' 0 j = .os id clk 0 0) ∨ f' 0 j = f0 0 j) (hid : id0 ≠ id) (hsz : 0 < sz) {c' : Nat} (hc : clk + 1 = c') :
    HSub C ⟨n, tm, hp, clk⟩ ⟨n, tm, (id0, ⟨g0, 1, m0, ty0, 0, f'⟩) :: (id, ⟨clk, 0, sz, ty, 0, f⟩) :: hp, c'⟩ := by
  subst hc
  intro a w ⟨E, e0, r, hG, hsz', hdf, htm⟩
  have hg : ¬ E.G clk := fun h => absurd (hG _ h) (Nat.lt_irrefl _)
  obtain ⟨e, r'⟩ := r.newNil id clk sz ty f hg hsz
  have r2 := r'.tell id0 (g := g0) (n := 1) (sz := m0) (ty := ty0) (fl := 0) (f' := f') (by rw [hset_ne _ _ hid]; exact ho) (fun l b cs hl hA hB i j u hi hj hu hr => by
    obtain rfl : i = 0 := by omega
    rcases hf' j hj with ⟨rfl, h2⟩ | h2
    · rw [h2]
      rw [hf0] at hr
      rw [hr.imm_inv]
      refine .os none 0 0 id clk 0 (.inr rfl) (Nat.le_refl _) (Nat.zero_le _) (fun h => absurd h (Nat.lt_irrefl _)) (fun l hl _ _ => ?_)
      rw [Env.place_L] at hl; injection hl with hl; subst hl
      exact ⟨rfl, rfl⟩
    · rw [h2]; exact hr)
  refine ⟨_, e0.trans e, by simp only [hget_cons]; exact r2, fun g hg => ?_, hsz', hdf.ext e, fun t x hx => (htm t x hx).ext e⟩
  rcases hg with hg | hg
  · exact Nat.lt_succ_of_lt (hG g hg)
  · rw [hg]; exact Nat.lt_succ_self _
end Go.Proofs.YtijpdbjcmnpobaaDoor
