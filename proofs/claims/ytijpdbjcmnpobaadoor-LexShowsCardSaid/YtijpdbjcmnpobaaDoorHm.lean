/-
  Operations on memory, in the reader's words. Plain lemmas, no program in sight.
-/
import Derived.Test.YtijpdbjcmnpobaaDoorHo
namespace Go.Proofs.YtijpdbjcmnpobaaDoor
set_option linter.unusedSimpArgs false
set_option linter.unusedVariables false
open Go.RowKit

/-- Is the type an aggregate's, and its cells. -/
def tyOf (P : Program) (T : TypeId) : Option (Bool × Nat) :=
  match P.underlying T, P.info? T with
  | some d, some i => some (match d with | .struct _ | .array _ _ => true | _ => false, i.size)
  | _, _ => none
section
variable {P : Program}
theorem tyOf_spec {T : TypeId} {b : Bool} {s : Nat} (h : tyOf P T = some (b, s)) : (∀ w, (isAgg T).run P w = .ok b w) ∧ (∀ w, (sizeOf T).run P w = .ok s w) ∧ (P.info? T).map (·.size) = some s := by
  unfold tyOf at h
  split at h
  · rename_i d i hd hi
    injection h with h
    injection h with h1 h2
    subst h2
    refine ⟨fun w => ?_, fun w => ?_, by rw [hi]; rfl⟩
    · unfold isAgg
      simp only [Sem.run_bind, run_underlying hd, Result.andThen_ok]
      subst h1
      cases d <;> rfl
    · simp [sizeOf, typeInfo, hi]
  · cases h
theorem run_loadVar_one {T : TypeId} {s : Nat} (h : tyOf P T = some (false, s)) (w : World) (a : Addr) (v : Value) (hv : w.cell? a = some v) : (loadVar T a).run P w = .ok v w := by
  unfold loadVar
  simp only [Sem.run_bind, (tyOf_spec h).1, Result.andThen_ok, Bool.false_eq_true, if_false]
  simp [load, Sem.run, hv]
def ldv (b : Bool) (s : Nat) (f : Nat → HV) (off : Nat) : HV := match b with | true => .agg s (match off with | 0 => f | k + 1 => fun j => f (k + 1 + j)) | false => f off
theorem getD_ofFn {α : Type} (n : Nat) (f : Nat → α) (i : Nat) (h : i < n) : (Array.ofFn (n := n) fun i => f i.1)[i]? = some (f i) := by simp [h]
/-- A load where the cells are known. -/
theorem run_loadVar_cells {T : TypeId} {b : Bool} {s : Nat} (h : tyOf P T = some (b, s)) (hs : b = false → s = 1) (w : World) (E : Env) (bl o : Nat) (vs : Nat → Value) (f : Nat → HV) (hc : ∀ j, j < s → w.cell? ⟨bl, o + j, none⟩ = some (vs j) ∧ (vs j).oneCell' = true ∧ Rep w E (vs j) (f j)) :
    ∃ v, (loadVar T ⟨bl, o, none⟩).run P w = .ok v w ∧ Rep w E v (ldv b s f 0) := by
  cases b with
  | false =>
    obtain rfl := hs rfl
    obtain ⟨h1, h2, h3⟩ := hc 0 (by omega)
    exact ⟨vs 0, run_loadVar_one h w _ _ h1, h3⟩
  | true =>
    have hrd : rd w ⟨bl, o, none⟩ s = some ((List.range s).map vs) := by
      refine rd_of_each (by simp) (fun i hi => ?_)
      rw [Addr.add_mid, (hc i hi).1]
      simp [hi]
    refine ⟨_, run_loadVar_rd T (tyOf_spec h).1 s (tyOf_spec h).2.1 w _ _ hrd, ?_⟩
    exact .agg _ s _ vs (by simp) (fun i hi => ⟨by simp [hi], (hc i hi).2.1⟩) (fun i hi => (hc i hi).2.2)
end
section
variable {P : Program} {ops : Array Oper} {ov : Nat → Option HV} {g : Nat}
variable {d : Option Tmp} {ty : TypeId} {pos : String} {af : Array Edge} {gd : Option (Nat × Bool)} {T yT : TypeId} {x y z : Operand} {hx hy : HV}
theorem hop_load {id gg i off s : Nat} {b : Bool} {o : HObj} (hT : tyOf P T = some (b, s)) (h1 : ovl ov x = some (.pt id gg i off)) (hg : o.g = gg) (hi : i < o.n) (hoff : off + s ≤ o.sz) (hs : b = false → s = 1) : HOp P ⟨d, .load T x, ty, pos, af, gd⟩ ov g [(id, o)] (ldv b s (o.f i) off) [] :=
  hop_read fun K w0 F0 E hh w ρ r ho hr => by
    subst hg
    have h := hr x _ (by simp [Op.operands]) h1
    obtain ⟨l, bl, cs, hl, hlg, hlsz, hA, hB, hcs, hn, hm, vs, hv⟩ := r.objAt ho (by omega)
    generalize hρ : ρ x = u at h
    cases h with
    | pt b' k' _ _ _ _ hg hh =>
      obtain ⟨hb', rfl⟩ := hh l hl hlg
      rw [hA] at hb'; injection hb' with hb'; subst hb'
      obtain ⟨v, hrun, hrep⟩ := run_loadVar_cells hT hs w E bl (i * l.sz + off) (fun j => vs i (off + j)) (fun j => o.f i (off + j)) (fun j hj => by
        have hlt : off + j < o.sz := by omega
        rw [hB.cell, hlsz, show i * o.sz + off + j = i * o.sz + (off + j) from by omega]
        exact hv i (off + j) hi hlt)
      refine ⟨v, ?_, ?_⟩
      · simp only [execOp, hρ, Instr.loadAt, Instr.sureAddr, Sem.run_bind, Sem.run_pure, Result.andThen_ok, hrun]
      · cases b
        · simpa [ldv] using hrep
        · cases off with
          | zero => simpa [ldv] using hrep
          | succ k => exact hrep
theorem hop_load_fp {n s : Nat} {b : Bool} {f : Nat → HV} (hT : tyOf P T = some (b, s)) (h1 : ovl ov x = some (.fp n f)) (hoff : s ≤ n) (hs : b = false → s = 1) : HOp P ⟨d, .load T x, ty, pos, af, gd⟩ ov g [] (ldv b s f 0) [] :=
  hop_pure fun w E ρ hr => by
    have h := hr x _ (by simp [Op.operands]) h1
    generalize hρ : ρ x = u at h
    cases h with
    | fp bl o _ _ vs hA h =>
      obtain ⟨v, hrun, hrep⟩ := run_loadVar_cells hT hs w E bl o vs f (fun j hj => ⟨(hA j (by omega)).2.1, (hA j (by omega)).2.2, h j (by omega)⟩)
      exact ⟨v, by simp only [execOp, hρ, Instr.loadAt, Instr.sureAddr, Sem.run_bind, Sem.run_pure, Result.andThen_ok, hrun], hrep⟩
/-- A struct's field: where it lies, and whether it has cells. -/
def fdOf (P : Program) (T : TypeId) (k : Nat) : Option Nat :=
  match P.underlying T with
  | some (.struct fs) => (fs[k]?).bind fun f => (P.info? f.type).bind fun i => match i.size with | 0 => none | _ + 1 => some f.offset
  | _ => none
theorem fdOf_spec {T : TypeId} {k fo : Nat} (h : fdOf P T k = some fo) (a : Addr) (w : World) : (Instr.fieldAt T (.pointer (some a)) k).run P w = .ok (.pointer (some (a.add fo))) w := by
  unfold fdOf at h
  split at h
  · rename_i fs hu
    obtain ⟨f, hf, h⟩ := Option.bind_eq_some_iff.1 h
    obtain ⟨i, hi, h⟩ := Option.bind_eq_some_iff.1 h
    split at h
    · cases h
    · rename_i n hn
      injection h with h
      subst h
      simp [Instr.fieldAt, run_underlying hu, hf, Instr.sureAddr, fieldPlace, sizeOf, typeInfo, hi, hn]
  · cases h
theorem add_off (b o k : Nat) : (⟨b, o, none⟩ : Addr).add k = ⟨b, o + k, none⟩ := Addr.add_mid b o k
theorem hop_fa {id gg i off k fo : Nat} (hT : fdOf P T k = some fo) (h1 : ovl ov x = some (.pt id gg i off)) : HOp P ⟨d, .fieldAddr T x k, ty, pos, af, gd⟩ ov g [] (.pt id gg i (off + fo)) [] :=
  hop_pure fun w E ρ hr => by
    have h := hr x _ (by simp [Op.operands]) h1
    generalize hρ : ρ x = u at h
    cases h with
    | pt b' k' _ _ _ _ hgg hh =>
      refine ⟨.pointer (some ⟨b', k' + fo, none⟩), ?_, ?_⟩
      · simp only [execOp, hρ, fdOf_spec hT, Sem.run_bind, Result.andThen_ok, Sem.run_pure, add_off]
      · refine .pt b' (k' + fo) id gg i (off + fo) hgg (fun l hl hlg => ?_)
        obtain ⟨h1, rfl⟩ := hh l hl hlg
        exact ⟨h1, by rw [Nat.add_assoc]⟩
theorem hop_fa_fp {n k fo : Nat} {f : Nat → HV} (hT : fdOf P T k = some fo) (h1 : ovl ov x = some (.fp n f)) (hn : fo ≤ n) : HOp P ⟨d, .fieldAddr T x k, ty, pos, af, gd⟩ ov g [] (.fp (n - fo) (fun j => f (fo + j))) [] :=
  hop_pure fun w E ρ hr => by
    have h := hr x _ (by simp [Op.operands]) h1
    generalize hρ : ρ x = u at h
    cases h with
    | fp bl o _ _ vs hA h =>
      refine ⟨.pointer (some ⟨bl, o + fo, none⟩), ?_, ?_⟩
      · simp only [execOp, hρ, fdOf_spec hT, Sem.run_bind, Result.andThen_ok, Sem.run_pure, add_off]
      · refine .fp bl (o + fo) _ _ (fun j => vs (fo + j)) (fun j hj => ?_) (fun j hj => h _ (by omega))
        rw [Nat.add_assoc]
        exact hA (fo + j) (by omega)
/-- A slice's elements: their type, its cells. -/
def elOf (P : Program) (T : TypeId) : Option (TypeId × Nat) :=
  match P.underlying T with
  | some (.slice e) => (P.info? e).map fun i => (e, i.size)
  | _ => none
theorem elOf_spec {T e : TypeId} {s : Nat} (h : elOf P T = some (e, s)) : P.underlying T = some (.slice e) ∧ (∀ w, (sizeOf e).run P w = .ok s w) := by
  unfold elOf at h
  split at h
  · rename_i e' hu
    obtain ⟨i, hi, h⟩ := Option.map_eq_some_iff.1 h
    injection h with h1 h2
    subst h1; subst h2
    exact ⟨hu, fun w => by simp [sizeOf, typeInfo, hi]⟩
  · cases h
theorem run_indexAt_sl {T e : TypeId} {s : Nat} (hT : elOf P T = some (e, s)) (k : IntKind) (i : Int) (a : Addr) (n c : Nat) (h0 : 0 ≤ i) (h1 : i < n) (w : World) :
    (Instr.indexAt T (.slice (some a) n c) (.int k i)).run P w = .ok (.pointer (some (a.add (i.toNat * s)))) w := by
  obtain ⟨hu, hs⟩ := elOf_spec hT
  unfold Instr.indexAt
  simp [asIntOf, run_underlying hu, h0, h1, hs]
theorem hop_ia_sl {e : TypeId} {s n : Nat} {f : Nat → Nat → HV} {k : IntKind} {i : Int} (hT : elOf P T = some (e, s)) (h1 : ovl ov x = some (.sl s n f)) (h2 : ovl ov y = some (.imm (.int k i))) (hi0 : 0 ≤ i) (hi : i < n) (hs : 0 < s) :
    HOp P ⟨d, .indexAddr T x y, ty, pos, af, gd⟩ ov g [] (.fp s (f i.toNat)) [] :=
  hop_pure fun w E ρ hr => by
    have h := hr x _ (by simp [Op.operands]) h1
    have e2 := Rep.imm_inv (hr y _ (by simp [Op.operands]) h2)
    generalize hρ : ρ x = u at h
    cases h with
    | sl A _ c _ _ vs hc hm hA h =>
      obtain ⟨b, o, rfl, hlt, hcell⟩ := hA (by omega)
      refine ⟨.pointer (some ⟨b, o + i.toNat * s, none⟩), ?_, ?_⟩
      · simp only [execOp, hρ, e2, Sem.run_bind, run_indexAt_sl hT k i _ n c hi0 hi, Result.andThen_ok, Sem.run_pure, add_off]
      · refine .fp b _ s _ (vs i.toNat) (fun j hj => ?_) (fun j hj => h _ _ (by omega) hj)
        rw [Nat.add_assoc]
        exact hcell _ j (by omega) hj
theorem hop_ia_os {id gg lo n s : Nat} {k : IntKind} {i : Int} {e : TypeId} {o : HObj} (hT : elOf P T = some (e, s)) (h1 : ovl ov x = some (.os id gg lo n)) (h2 : ovl ov y = some (.imm (.int k i))) (hg : o.g = gg) (hsz : o.sz = s) (hi0 : 0 ≤ i) (hi : i < n) :
    HOp P ⟨d, .indexAddr T x y, ty, pos, af, gd⟩ ov g [(id, o)] (.pt id gg (lo + i.toNat) 0) [] :=
  hop_read fun K w0 F0 E hh w ρ r ho hr => by
    have h := hr x _ (by simp [Op.operands]) h1
    have e2 := Rep.imm_inv (hr y _ (by simp [Op.operands]) h2)
    obtain ⟨l, hl, a⟩ := r.obj id o ho
    generalize hρ : ρ x = u at h
    cases h with
    | os A _ c _ _ _ hgg hc hm hA _ =>
      obtain ⟨b, k', rfl, hl2⟩ := hA (by omega)
      obtain ⟨hb, rfl⟩ := hl2 l hl (a.g.trans hg)
      have hls : l.sz = s := a.sz.trans hsz
      refine ⟨.pointer (some ⟨b, lo * l.sz + i.toNat * s, none⟩), ?_, ?_⟩
      · simp only [execOp, hρ, e2, Sem.run_bind, run_indexAt_sl hT k i _ n c hi0 hi, Result.andThen_ok, Sem.run_pure, add_off]
      · refine .pt b _ id gg _ 0 hgg (fun l' hl' _ => ?_)
        rw [hl] at hl'; injection hl' with hl'; subst hl'
        exact ⟨hb, by rw [Nat.add_mul, hls, Nat.add_zero]⟩
theorem hop_len_sl {s n : Nat} {f : Nat → Nat → HV} {e : TypeId} {at_ : Array TypeId} (hT : at_[0]? = some T) (hE : P.underlying T = some (.slice e)) (h1 : ovl ov x = some (.sl s n f)) :
    HOp P ⟨d, .call ⟨.builtin .len, #[x], at_⟩, ty, pos, af, gd⟩ ov g [] (.imm (.int .i64 (n : Int))) [] :=
  hop_pure fun w E ρ hr => by
    have h := hr x _ (by simp [Op.operands, Call.operands]) h1
    generalize hρ : ρ x = u at h
    cases h with
    | sl A _ c _ _ vs hc hm hA h => exact ⟨_, by simp [execOp, resolve, invoke, builtin, Builtin.len_, hT, run_underlying hE, hρ, goInt], .imm _⟩
theorem hop_len_os {id gg lo n : Nat} {e : TypeId} {at_ : Array TypeId} (hT : at_[0]? = some T) (hE : P.underlying T = some (.slice e)) (h1 : ovl ov x = some (.os id gg lo n)) :
    HOp P ⟨d, .call ⟨.builtin .len, #[x], at_⟩, ty, pos, af, gd⟩ ov g [] (.imm (.int .i64 (n : Int))) [] :=
  hop_pure fun w E ρ hr => by
    have h := hr x _ (by simp [Op.operands, Call.operands]) h1
    generalize hρ : ρ x = u at h
    cases h with
    | os A _ c _ _ _ hgg hc hm hA _ => exact ⟨_, by simp [execOp, resolve, invoke, builtin, Builtin.len_, hT, run_underlying hE, hρ, goInt], .imm _⟩
theorem hop_len_nil {A : Option Addr} {n c : Nat} {e : TypeId} {at_ : Array TypeId} (hT : at_[0]? = some T) (hE : P.underlying T = some (.slice e)) (h1 : ovl ov x = some (.imm (.slice A n c))) :
    HOp P ⟨d, .call ⟨.builtin .len, #[x], at_⟩, ty, pos, af, gd⟩ ov g [] (.imm (.int .i64 (n : Int))) [] :=
  hop_pure fun w E ρ hr => by
    have e1 := Rep.imm_inv (hr x _ (by simp [Op.operands, Call.operands]) h1)
    exact ⟨_, by simp [execOp, resolve, invoke, builtin, Builtin.len_, hT, run_underlying hE, e1, goInt], .imm _⟩
theorem hop_len_str {sb : ByteArray} {at_ : Array TypeId} (hT : at_[0]? = some T) (hE : P.underlying T = some .string) (h1 : ovl ov x = some (.imm (.string sb))) :
    HOp P ⟨d, .call ⟨.builtin .len, #[x], at_⟩, ty, pos, af, gd⟩ ov g [] (.imm (.int .i64 (sb.size : Int))) [] :=
  hop_pure fun w E ρ hr => by
    have e1 := Rep.imm_inv (hr x _ (by simp [Op.operands, Call.operands]) h1)
    exact ⟨_, by simp [execOp, resolve, invoke, builtin, Builtin.len_, hT, run_underlying hE, e1, goInt], .imm _⟩
/-- s[i], a string's byte. -/
theorem hop_ix_str {sb : ByteArray} {k : IntKind} {i : Int} (hT : P.underlying T = some .string) (h1 : ovl ov x = some (.imm (.string sb))) (h2 : ovl ov y = some (.imm (.int k i))) (hi0 : 0 ≤ i) (hi : i < (sb.size : Int)) :
    HOp P ⟨d, .index T x y, ty, pos, af, gd⟩ ov g [] (.imm (.int .u8 ((sb.data.toList.getD i.toNat 0).toNat : Int))) [] :=
  hop_pure fun w E ρ hr => by
    have e1 := Rep.imm_inv (hr x _ (by simp [Op.operands]) h1)
    have e2 := Rep.imm_inv (hr y _ (by simp [Op.operands]) h2)
    refine ⟨_, ?_, .imm _⟩
    have hlt : i.toNat < sb.size := by omega
    have hb : sb[i.toNat]? = some (sb.data.toList.getD i.toNat 0) := by
      rw [getElem?_pos sb i.toNat hlt]
      have h2 : i.toNat < sb.data.toList.length := by simpa using hlt
      simp [List.getD, List.getElem?_eq_getElem h2]
      rfl
    simp [execOp, e1, e2, Instr.index, asIntOf, run_underlying hT, hi0, hb]

/-! Making. -/
theorem hop_box {id sz : Nat} {hv : HV} (h1 : ovl ov x = some hv) (hf : hv.flat = true) (hw : hv.wid = sz) (hp : 0 < sz) (hm : sz ≤ 1000000) : HOp P ⟨d, .box T x, ty, pos, af, gd⟩ ov g [] (.pt id g 0 0) [(id, ⟨g, 1, sz, T, 0, fun _ j => hv.cell j⟩)] := by
  intro K w0 F0 E hh a w Q N r ht hG hBd hpre hN
  have h := ht x _ (by simp [Op.operands]) h1
  obtain ⟨hs, vs, hvs⟩ := h.cells hf
  have hnew := r.new id g 1 sz T (a.eval x).cells (fun _ j => hv.cell j) 1 (fun _ j => vs j) hG hp (by rw [hs, hw]; omega) (Nat.le_refl _) (by unfold maxLen; omega) (fun i j hi hj => by
    obtain rfl : i = 0 := by omega
    rw [Nat.zero_mul, Nat.zero_add]
    exact hvs j (by rw [hw]; exact hj))
  refine wp_val (v := .pointer (some ⟨w.heap.size, 0, none⟩)) (w' := w.alloc (.cells (a.eval x).cells T)) rfl (hN _ _ _ hnew.1 hnew.2 (fun g' hg' => hg'.imp (fun h => h) fun h => ⟨by simp, h⟩) ?_)
  refine .pt _ _ id g 0 0 (.inr rfl) (fun l hl _ => ?_)
  rw [Env.new_L] at hl; injection hl with hl; subst hl
  exact ⟨rfl, by simp⟩
/-- The zero value's cells. -/
def zcs (P : Program) (T : TypeId) : Option (List Value) := ((P.info? T).bind (·.zero)).map fun z => z.cells.toList
theorem hop_alloc {id sz : Nat} {cs : List Value} (hz : zcs P T = some cs) (hsz : cs.length = sz) (h1 : cs.all (·.oneCell') = true) (hp : 0 < sz) (hm : sz ≤ 1000000) : HOp P ⟨d, .alloc T, ty, pos, af, gd⟩ ov g [] (.pt id g 0 0) [(id, ⟨g, 1, sz, T, 0, fun _ j => .imm (cs.getD j undef)⟩)] := by
  intro K w0 F0 E hh a w Q N r ht hG hBd hpre hN
  obtain ⟨z, hz1, hz2⟩ := Option.map_eq_some_iff.1 hz
  obtain ⟨i, hi, hz3⟩ := Option.bind_eq_some_iff.1 hz1
  have hcs : z.cells = cs.toArray := by rw [← hz2]
  have hnew := r.new id g 1 sz T z.cells (fun _ j => .imm (cs.getD j undef)) 1 (fun _ j => cs.getD j undef) hG hp (by rw [hcs, List.size_toArray, hsz]; omega) (Nat.le_refl _) (by unfold maxLen; omega) (fun i j hi hj => by
    obtain rfl : i = 0 := by omega
    rw [Nat.zero_mul, Nat.zero_add, hcs]
    have hjl : j < cs.length := by omega
    have hg : cs.getD j undef = cs[j] := by simp [List.getD, List.getElem?_eq_getElem hjl]
    rw [hg]
    exact ⟨by simp [hjl], List.all_eq_true.1 h1 _ (List.getElem_mem hjl), .imm _⟩)
  refine wp_val (v := .pointer (some ⟨w.heap.size, 0, none⟩)) (w' := w.alloc (.cells z.cells T)) ?_ (hN _ _ _ hnew.1 hnew.2 (fun g' hg' => hg'.imp (fun h => h) fun h => ⟨by simp, h⟩) ?_)
  · simp [execOp, Instr.alloc, zeroValue, typeInfo, hi, hz3, newVar, newRow]
  · refine .pt _ _ id g 0 0 (.inr rfl) (fun l hl _ => ?_)
    rw [Env.new_L] at hl; injection hl with hl; subst hl
    exact ⟨rfl, by simp⟩
/-- A store into an object of the call's own. -/
theorem hop_store {id i off s : Nat} {b : Bool} {gg : Nat} {o : HObj} {hv : HV} (hT : tyOf P T = some (b, s)) (h1 : ovl ov x = some (.pt id gg i off)) (h2 : ovl ov y = some hv) (hg : o.g = gg) (hf : hv.flat = true) (hw : hv.wid = s) (hi : i < o.n) (hfl : o.fl ≤ i) (hoff : off + s ≤ o.sz) :
    HOp P ⟨d, .store T x y, ty, pos, af, gd⟩ ov g [(id, o)] (.imm undef) [(id, { o with f := upd o.f i off s (fun j => hv.cell j) })] := by
  subst hg
  intro K w0 F0 E hh a w Q N r ht hG hBd hpre hN
  have ho := hpre _ (List.mem_cons_self ..)
  simp only at ho
  have hX := ht x _ (by simp [Op.operands]) h1
  have hY := ht y _ (by simp [Op.operands]) h2
  obtain ⟨hs, vs, hvs⟩ := hY.cells hf
  obtain ⟨l, bl, cs, hl, hlg, hlsz, hA, hB, hcs, hn, hm, _⟩ := r.objAt ho (by omega)
  generalize hρ : a.eval x = u at hX
  cases hX with
  | pt b' k' _ _ _ _ hg hh' =>
    obtain ⟨hb', rfl⟩ := hh' l hl hlg
    rw [hA] at hb'; injection hb' with hb'; subst hb'
    have hlen : (a.eval y).cells.toList.length = s := by rw [Array.length_toList, hs, hw]
    have hst := r.store id o l bl ho hl hA i off (a.eval y).cells.toList (fun j => hv.cell j) hi hfl (by rw [hlen]; exact hoff) (fun j u hu => by
      have hj : j < hv.wid := by
        rcases Nat.lt_or_ge j hv.wid with h | h
        · exact h
        · rw [List.getElem?_eq_none (by rw [hlen, ← hw]; exact h)] at hu; cases hu
      rw [Array.getElem?_toList, (hvs j hj).1] at hu
      injection hu with hu; subst hu
      exact (hvs j hj).2)
    rw [hlen] at hst
    have hall : ∀ u ∈ (a.eval y).cells.toList, u.oneCell' = true := by
      intro u hu
      obtain ⟨j, hj, rfl⟩ := List.mem_iff_getElem.1 hu
      have hj' : j < hv.wid := by rw [hlen] at hj; rw [hw]; exact hj
      have := hvs j hj'
      have e1 : (a.eval y).cells.toList[j]? = some (vs j) := by rw [Array.getElem?_toList]; exact this.1
      rw [List.getElem?_eq_getElem hj] at e1
      injection e1 with e1
      rw [e1]; exact this.2.1
    have hle : i * o.sz + off + s ≤ cs.size := by
      have := Nat.mul_le_mul_right o.sz (show i + 1 ≤ l.cap from by omega)
      rw [Nat.add_mul] at this
      rw [hcs]; omega
    have hrun : (Instr.storeAt T (.pointer (some ⟨bl, i * l.sz + off, none⟩)) (a.eval y)).run P w = .ok () (w.setCells bl (i * o.sz + off) (a.eval y).cells.toList) := by
      have hsz := (tyOf_spec hT).2.1 w
      have hc : (a.eval y).cells.size = s := by rw [hs, hw]
      have hsc := run_storeCells_cells (P := P) bl (i * o.sz + off) (a.eval y).cells.toList 0 w (fun j hj => by
        rw [Nat.add_zero, hB.cell, Array.getElem?_eq_getElem (by rw [hlen] at hj; omega)]; rfl) (fun j hj => by rw [Nat.add_zero]; exact hB.frozen _) hall
      rw [Nat.add_zero] at hsc
      rw [hlsz]
      simp [Instr.storeAt, Instr.sureAddr, storeVar, hsz, hc, hsc]
    refine wp_skp (w' := w.setCells bl (i * o.sz + off) (a.eval y).cells.toList) ?_ (hN _ _ _ hst.1 hst.2 (fun g' hg' => .inl hg') (.imm _))
    simp only [execOp, hρ, Sem.run_bind, hrun, Result.andThen_ok, Sem.run_pure]
/-- A whole variable, put anew. -/
theorem hop_storeW {id gg s : Nat} {b : Bool} {o : HObj} {hv : HV} (hT : tyOf P T = some (b, s)) (h1 : ovl ov x = some (.pt id gg 0 0)) (h2 : ovl ov y = some hv) (hg : o.g = gg) (hf : hv.flat = true) (hw : hv.wid = s) (hn : o.n = 1) (hfl : o.fl = 0) (hsz : o.sz = s) :
    HOp P ⟨d, .store T x y, ty, pos, af, gd⟩ ov g [(id, o)] (.imm undef) [(id, { o with f := fun _ j => hv.cell j })] := by
  have h := hop_store (P := P) (g := g) (d := d) (ty := ty) (pos := pos) (af := af) (gd := gd) hT h1 h2 hg hf hw (by omega) (by omega) (by omega)
  intro K w0 F0 E hh a w Q N r ht hG hBd hpre hN
  refine h K w0 F0 E hh a w Q N r ht hG hBd hpre (fun val w' E' e r' hG' hv' => hN val w' E' e (r'.weak fun k o' ho' => ?_) (fun g' hg' => (hG' g' hg').imp (fun h => h) fun h => ⟨by simp, h.2⟩) hv')
  by_cases hk : k = id
  · subst hk
    simp only [hupd, List.foldr, hset_same] at ho' ⊢
    injection ho' with ho'
    subst ho'
    refine ⟨_, rfl, rfl, rfl, rfl, rfl, Nat.le_refl _, fun i j hi hj => ?_, fun h => by simp only at h; omega⟩
    simp only at hi hj
    obtain rfl : i = 0 := by omega
    simp only
    rw [upd_in ⟨rfl, Nat.zero_le _, by omega⟩]
    exact .refl _
  · simp only [hupd, List.foldr, hset_ne _ _ hk] at ho' ⊢
    exact ⟨o', ho', .refl _⟩
/-! The same, the object written out. -/
theorem hol_load {id gg i off s n sz fl : Nat} {b : Bool} {oty : TypeId} {f : Nat → Nat → HV} (hT : tyOf P T = some (b, s)) (h1 : ovl ov x = some (.pt id gg i off)) (hi : i < n) (hoff : off + s ≤ sz) (hs : b = false → s = 1) :
    HOp P ⟨d, .load T x, ty, pos, af, gd⟩ ov g [(id, ⟨gg, n, sz, oty, fl, f⟩)] (ldv b s (f i) off) [] := hop_load (o := ⟨gg, n, sz, oty, fl, f⟩) hT h1 rfl hi hoff hs
theorem hol_ia_os {id gg lo n s m fl : Nat} {k : IntKind} {i : Int} {e oty : TypeId} {f : Nat → Nat → HV} (hT : elOf P T = some (e, s)) (h1 : ovl ov x = some (.os id gg lo n)) (h2 : ovl ov y = some (.imm (.int k i))) (hi0 : 0 ≤ i) (hi : i < n) :
    HOp P ⟨d, .indexAddr T x y, ty, pos, af, gd⟩ ov g [(id, ⟨gg, m, s, oty, fl, f⟩)] (.pt id gg (lo + i.toNat) 0) [] := hop_ia_os (o := ⟨gg, m, s, oty, fl, f⟩) hT h1 h2 rfl rfl hi0 hi
theorem hol_store {id gg i off s n sz fl : Nat} {b : Bool} {oty : TypeId} {f : Nat → Nat → HV} {hv : HV} (hT : tyOf P T = some (b, s)) (h1 : ovl ov x = some (.pt id gg i off)) (h2 : ovl ov y = some hv) (hf : hv.flat = true) (hw : hv.wid = s) (hi : i < n) (hfl : fl ≤ i) (hoff : off + s ≤ sz) :
    HOp P ⟨d, .store T x y, ty, pos, af, gd⟩ ov g [(id, ⟨gg, n, sz, oty, fl, f⟩)] (.imm undef) [(id, ⟨gg, n, sz, oty, fl, upd f i off s (fun j => hv.cell j)⟩)] := hop_store (o := ⟨gg, n, sz, oty, fl, f⟩) hT h1 h2 rfl hf hw hi hfl hoff
theorem hol_storeW {id gg s : Nat} {b : Bool} {oty : TypeId} {f : Nat → Nat → HV} {hv : HV} (hT : tyOf P T = some (b, s)) (h1 : ovl ov x = some (.pt id gg 0 0)) (h2 : ovl ov y = some hv) (hf : hv.flat = true) (hw : hv.wid = s) :
    HOp P ⟨d, .store T x y, ty, pos, af, gd⟩ ov g [(id, ⟨gg, 1, s, oty, 0, f⟩)] (.imm undef) [(id, ⟨gg, 1, s, oty, 0, fun _ j => hv.cell j⟩)] := hop_storeW (o := ⟨gg, 1, s, oty, 0, f⟩) hT h1 h2 rfl hf hw rfl rfl rfl
end
end Go.Proofs.YtijpdbjcmnpobaaDoor
