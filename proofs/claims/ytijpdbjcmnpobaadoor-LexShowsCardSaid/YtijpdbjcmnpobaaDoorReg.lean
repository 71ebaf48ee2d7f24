/-
  Regions in one walk of the text's order: worlds that have grown, guards that are not decided. Plain lemmas, no program in sight.
-/
import Derived.Test.YtijpdbjcmnpobaaDoorMid
namespace Go.Proofs.YtijpdbjcmnpobaaDoor
set_option linter.unusedSimpArgs false
set_option linter.unusedVariables false
open Go.RowKit

/-- The worlds that have grown from W on: what was there is as it was. -/
structure GrT (W : World) where
  val : World
  below : Below W.heap.size W val

section
variable {W : World}
def GrT.start (W : World) : GrT W := ⟨W, Below.refl _ W⟩
theorem GrT.cell (u : GrT W) (b o : Nat) (h : b < W.heap.size) : u.val.cell? ⟨b, o, none⟩ = W.cell? ⟨b, o, none⟩ := u.below.cell h
theorem GrT.frozen (u : GrT W) (b o : Nat) (h : b < W.heap.size) : u.val.frozen? ⟨b, o, none⟩ = W.frozen? ⟨b, o, none⟩ := u.below.frozen h
theorem GrT.rd (u : GrT W) (b o n : Nat) (h : b < W.heap.size) : rd u.val ⟨b, o, none⟩ n = rd W ⟨b, o, none⟩ n := rd_below u.below _ n h
theorem GrT.next (u : GrT W) {w' : World} (h : Below u.val.heap.size u.val w') : ∃ u' : GrT W, w' = u'.val := ⟨⟨w', u.below.trans (h.mono u.below.size)⟩, rfl⟩
theorem GrT.nextDrew (u : GrT W) (n : Nat) : ∃ u' : GrT W, u.val.drewN n = u'.val := ⟨⟨u.val.drewN n, below_drewN u.below n⟩, rfl⟩
end

section
variable {P : Program} {ops : Array Oper} {C : World → Prop}

/-- An operation whose guard is not decided: what it yields stands under the guard. -/
theorem wpQuiet_guard {Q : Act → Prop} {a : Act} {o : Oper} {rest : List Oper} (g : Bool) (hw : Region.wanted o (yielded ops a.tmps) = g)
    (h : ∀ K : Act → Prop, (∀ a, wpQuiet P ops C Q rest a → K a) → ∃ v, (g = true → ∀ w, C w → o.quietAt P a C w v) ∧ K (a.put o.dst (if g = true then v else undef))) : wpQuiet P ops C Q (o :: rest) a := by
  obtain ⟨v, h1, h2⟩ := h _ (fun _ h => h)
  unfold wpQuiet
  rw [hw]
  cases g
  · simpa using h2
  · simp only [if_true] at h2 ⊢
    exact ⟨v, h1 rfl, h2⟩

theorem wpOps_of_quiet {Q' : Exit → Act → World → Prop} {K : Act → Prop} (hK : ∀ a w, C w → K a → Q' .normal a w) : ∀ (l : List Oper) (k : Nat) (a : Act) (w : World), (∀ j, l[j]? = ops[k + j]?) → C w →
    wpQuiet P ops C K l a → wpOps P ops Q' (List.range' k l.length) a w
  | [], _, a, w, _, hC, h => hK a w hC h
  | o :: l, k, a, w, hl, hC, h => by
    have h0 : ops[k]? = some o := by simpa using (hl 0).symm
    rw [List.length_cons, List.range'_succ, wpOps_cons]
    have hst : qOp P ops C k (wpQuiet P ops C K l) a := by unfold qOp; simp only [h0]; exact h
    exact wpOp_of_qOp hC (fun a' w' hC' h' => wpOps_of_quiet hK l (k + 1) a' w' (fun j => by have := hl (j + 1); simpa [Nat.add_assoc, Nat.add_comm 1 j] using this) hC' h') hst

/-- A region in its text's order, in worlds that grow: drawn or not. -/
theorem wp_region_gr {id : Nat} {Q : Exit → Act → World → Prop} {a : Act} {w : World} {l : List Oper} (hm : P.follows .mixedOrders = true) (hB : Region.lexB .any l.toArray = true)
    (h : wpQuiet P l.toArray (fun w' => ∃ u : GrT w, w' = u.val) (fun a' => ∀ w', (∃ u : GrT w, w' = u.val) → Q .normal a' w') l a) : (Code.region id l.toArray true).wp P Q a w :=
  wp_region_quiet (C := fun w' => ∃ u : GrT w, w' = u.val) hm hB ⟨⟨w.drew, (Below.refl _ w).drew⟩, rfl⟩ (by simpa using h)
theorem wp_region_grn {id : Nat} {Q : Exit → Act → World → Prop} {a : Act} {w : World} {l : List Oper}
    (h : wpQuiet P l.toArray (fun w' => ∃ u : GrT w, w' = u.val) (fun a' => ∀ w', (∃ u : GrT w, w' = u.val) → Q .normal a' w') l a) : (Code.region id l.toArray false).wp P Q a w := by
  refine wp_region ?_
  have := wpOps_of_quiet (P := P) (ops := l.toArray) (C := fun w' => ∃ u : GrT w, w' = u.val) (Q' := Q) (K := fun a' => ∀ w', (∃ u : GrT w, w' = u.val) → Q .normal a' w') (fun a w' hC hK => hK w' hC) l 0 a w (by simp) ⟨GrT.start w, rfl⟩ h
  simpa [List.range_eq_range'] using this
/-- The same where nothing is made: the worlds differ by draws alone. -/
theorem wp_region_dr {id : Nat} {Q : Exit → Act → World → Prop} {a : Act} {w : World} {l : List Oper}
    (h : wpQuiet P l.toArray (fun w' => w' = w) (fun a' => ∀ w', w' = w → Q .normal a' w') l a) : (Code.region id l.toArray false).wp P Q a w := by
  refine wp_region ?_
  have := wpOps_of_quiet (P := P) (ops := l.toArray) (C := fun w' => w' = w) (Q' := Q) (K := fun a' => ∀ w', w' = w → Q .normal a' w') (fun a w' hC hK => hK w' hC) l 0 a w (by simp) rfl h
  simpa [List.range_eq_range'] using this

/-- A test's outcome gets a name. -/
theorem q_name {Q : Act → Prop} {rest : List Oper} {a : Act} (d : Nat) (t : Bool) (ht : a.tmps[d]? = some (.bool t)) (h : ∀ b, Hid (t = b) → wpQuiet P ops C Q rest (a.put (some d) (.bool b))) : wpQuiet P ops C Q rest a := by
  have h := h t rfl
  have e : a.put (some d) (.bool t) = a := by
    obtain ⟨tmps, defers⟩ := a
    simp only [Act.put] at ht ⊢
    congr 1
    apply Array.ext_getElem?
    intro i
    rw [Array.getElem?_setIfInBounds]
    by_cases hi : d = i
    · subst hi
      rw [if_pos rfl, ht]
      split
      · rfl
      · rename_i hlt
        rw [Array.getElem?_eq_none (by omega)] at ht
        cases ht
    · rw [if_neg hi]
  rwa [e] at h
theorem put_same {a : Act} {d : Nat} {v : Value} (ht : a.tmps[d]? = some v) : a.put (some d) v = a := by
  obtain ⟨tmps, defers⟩ := a
  simp only [Act.put] at ht ⊢
  congr 1
  apply Array.ext_getElem?
  intro i
  rw [Array.getElem?_setIfInBounds]
  by_cases hi : d = i
  · subst hi
    rw [if_pos rfl, ht]
    split
    · rfl
    · rename_i hlt
      rw [Array.getElem?_eq_none (by omega)] at ht
      cases ht
  · rw [if_neg hi]
theorem q_nameg {Q : Act → Prop} {rest : List Oper} {a : Act} (d : Nat) (t : Bool) (c : Prop) [Decidable c] (ht : a.tmps[d]? = some (if c then .bool t else undef)) (h : ∀ b, Hid (t = b) → wpQuiet P ops C Q rest (a.put (some d) (if c then .bool b else undef))) : wpQuiet P ops C Q rest a := by
  have h := h t rfl
  rwa [put_same ht] at h
/-- A slot that nobody reads any more. -/
theorem qf {Q : Act → Prop} {rest : List Oper} {a : Act} (d : Nat) {v : Value} (ht : a.tmps[d]? = some v) (h : ∀ v, wpQuiet P ops C Q rest (a.put (some d) v)) : wpQuiet P ops C Q rest a := by
  have h := h v
  rwa [put_same ht] at h
/-- An operation whose guard is a test that has a name. -/
theorem q_guard {Q : Act → Prop} {a : Act} {o : Oper} {rest : List Oper} (j : Nat) (want b : Bool) (hg : o.guard = some (j, want)) (hy : yielded ops a.tmps j = some b)
    (h : ∀ K : Act → Prop, (∀ a, wpQuiet P ops C Q rest a → K a) → ∃ v, (b = want → ∀ w, C w → o.quietAt P a C w v) ∧ K (a.put o.dst (if b = want then v else undef))) : wpQuiet P ops C Q (o :: rest) a := by
  have hw : Region.wanted o (yielded ops a.tmps) = decide (b = want) := by
    unfold Region.wanted
    rw [hg]
    simp only [hy]
    cases b <;> cases want <;> rfl
  refine wpQuiet_guard _ hw (fun K hK => ?_)
  obtain ⟨v, h1, h2⟩ := h K hK
  exact ⟨v, fun h => h1 (by simpa using h), by simpa using h2⟩
/-- The same in one world. -/
theorem qs_guard {Q : Act → Prop} {a : Act} {o : Oper} {rest : List Oper} {w : World} (j : Nat) (want b : Bool) (hg : o.guard = some (j, want)) (hy : yielded ops a.tmps j = some b)
    (h : ∀ K : Act → Prop, (∀ a, wpQuiet P ops (fun w' => w' = w) Q rest a → K a) → ∃ v, (b = want → o.quietAt P a (fun w' => w' = w) w v) ∧ K (a.put o.dst (if b = want then v else undef))) : wpQuiet P ops (fun w' => w' = w) Q (o :: rest) a := by
  refine q_guard j want b hg hy (fun K hK => ?_)
  obtain ⟨v, h1, h2⟩ := h K hK
  exact ⟨v, fun hb w' hw' => by rw [hw']; exact h1 hb, h2⟩
theorem qs_step {Q : Act → Prop} {a : Act} {o : Oper} {rest : List Oper} {w : World} (hg : o.guard = none)
    (h : ∀ K : Act → Prop, (∀ a, wpQuiet P ops (fun w' => w' = w) Q rest a → K a) → ∃ v, o.quietAt P a (fun w' => w' = w) w v ∧ K (a.put o.dst v)) : wpQuiet P ops (fun w' => w' = w) Q (o :: rest) a := by
  refine wpQuiet_step (fun K hK => ?_)
  obtain ⟨v, h1, h2⟩ := h K hK
  rw [if_pos (by unfold Region.wanted; rw [hg])]
  exact ⟨v, fun w' hw' => by rw [hw']; exact h1, h2⟩
/-- The same in all worlds that have grown. -/
theorem qg_guard {Q : Act → Prop} {a : Act} {o : Oper} {rest : List Oper} {w : World} (j : Nat) (want b : Bool) (hg : o.guard = some (j, want)) (hy : yielded ops a.tmps j = some b)
    (h : ∀ K : Act → Prop, (∀ a, wpQuiet P ops (fun w' => ∃ u : GrT w, w' = u.val) Q rest a → K a) → ∃ v, (b = want → ∀ u : GrT w, o.quietAt P a (fun w' => ∃ u : GrT w, w' = u.val) u.val v) ∧ K (a.put o.dst (if b = want then v else undef))) : wpQuiet P ops (fun w' => ∃ u : GrT w, w' = u.val) Q (o :: rest) a := by
  refine q_guard j want b hg hy (fun K hK => ?_)
  obtain ⟨v, h1, h2⟩ := h K hK
  exact ⟨v, fun hb w' ⟨u, hu⟩ => by rw [hu]; exact h1 hb u, h2⟩
theorem qg_step {Q : Act → Prop} {a : Act} {o : Oper} {rest : List Oper} {w : World} (hg : o.guard = none)
    (h : ∀ K : Act → Prop, (∀ a, wpQuiet P ops (fun w' => ∃ u : GrT w, w' = u.val) Q rest a → K a) → ∃ v, (∀ u : GrT w, o.quietAt P a (fun w' => ∃ u : GrT w, w' = u.val) u.val v) ∧ K (a.put o.dst v)) : wpQuiet P ops (fun w' => ∃ u : GrT w, w' = u.val) Q (o :: rest) a := by
  refine wpQuiet_step (fun K hK => ?_)
  obtain ⟨v, h1, h2⟩ := h K hK
  rw [if_pos (by unfold Region.wanted; rw [hg])]
  exact ⟨v, fun w' ⟨u, hu⟩ => by rw [hu]; exact h1 u, h2⟩
theorem qs_nil {a : Act} {w : World} {R : Act → World → Prop} (h : R a w) : wpQuiet P ops (fun w' => w' = w) (fun a' => ∀ w', w' = w → R a' w') [] a := fun w' hw' => by rw [hw']; exact h
theorem qg_nil {a : Act} {w : World} {R : Act → World → Prop} (h : ∀ w', Below w.heap.size w w' → R a w') : wpQuiet P ops (fun w' => ∃ u : GrT w, w' = u.val) (fun a' => ∀ w', (∃ u : GrT w, w' = u.val) → R a' w') [] a := fun w' ⟨u, hu⟩ => by rw [hu]; exact h _ u.below
theorem callgr {W : World} {u : GrT W} {f : FuncId} {args : Array Value} {v : Value} (h : Calls P f args u.val fun e w' => e = .returned v ∧ Below u.val.heap.size u.val w') : Calls P f args u.val fun e w'' => e = .returned v ∧ ∃ u' : GrT W, w'' = u'.val :=
  h.mono fun _ _ ⟨h1, h2⟩ => ⟨h1, u.next h2⟩
theorem calldr {W : World} {u : GrT W} {f : FuncId} {args : Array Value} {v : Value} (h : Calls P f args u.val fun e w' => e = .returned v ∧ ∃ n, w' = u.val.drewN n) : Calls P f args u.val fun e w'' => e = .returned v ∧ ∃ u' : GrT W, w'' = u'.val :=
  h.mono fun _ _ ⟨h1, n, h2⟩ => ⟨h1, by rw [h2]; exact u.nextDrew n⟩
theorem callsm {W : World} {u : GrT W} {f : FuncId} {args : Array Value} {v : Value} (h : Calls P f args u.val fun e w' => e = .returned v ∧ u.val = w') : Calls P f args u.val fun e w'' => e = .returned v ∧ ∃ u' : GrT W, w'' = u'.val :=
  h.mono fun _ _ ⟨h1, h2⟩ => ⟨h1, u, h2.symm⟩
theorem callsame {w : World} {f : FuncId} {args : Array Value} {v : Value} (h : Calls P f args w fun e w' => e = .returned v ∧ w = w') : Calls P f args w fun e w'' => e = .returned v ∧ w'' = w :=
  h.mono fun _ _ ⟨h1, h2⟩ => ⟨h1, h2.symm⟩
/-! A region that is not drawn, its operations one by one, the world threaded. -/
def wpSeq (P : Program) (ops : Array Oper) (Q : Exit → Act → World → Prop) : List Oper → Act → World → Prop
  | [], a, w => Q .normal a w
  | o :: rest, a, w => if Region.wanted o (yielded ops a.tmps) then o.wp P a w (wpSeq P ops Q rest) Q else wpSeq P ops Q rest (a.put o.dst undef) w
theorem wpOps_of_seq {Q : Exit → Act → World → Prop} : ∀ (l : List Oper) (k : Nat) (a : Act) (w : World), (∀ j, l[j]? = ops[k + j]?) → wpSeq P ops Q l a w → wpOps P ops Q (List.range' k l.length) a w
  | [], _, a, w, _, h => h
  | o :: l, k, a, w, hl, h => by
    have h0 : ops[k]? = some o := by simpa using (hl 0).symm
    rw [List.length_cons, List.range'_succ, wpOps_cons]
    have hn : ∀ a w, wpSeq P ops Q l a w → wpOps P ops Q (List.range' (k + 1) l.length) a w := fun a w => wpOps_of_seq l (k + 1) a w (fun j => by have := hl (j + 1); simpa [Nat.add_assoc, Nat.add_comm 1 j] using this)
    unfold wpOp
    simp only [h0]
    unfold wpSeq at h
    split
    · rename_i hw; simp only [hw, if_true] at h; exact .inl (Oper.wp_mono hn h)
    · rename_i hw; simp only [hw] at h; exact hn _ _ h
theorem wp_region_seq {id : Nat} {Q : Exit → Act → World → Prop} {a : Act} {w : World} {l : List Oper} (h : wpSeq P l.toArray Q l a w) : (Code.region id l.toArray false).wp P Q a w := by
  refine wp_region ?_
  have := wpOps_of_seq (P := P) (ops := l.toArray) (Q := Q) l 0 a w (by simp) h
  simpa [List.range_eq_range'] using this
section
variable {Q : Exit → Act → World → Prop} {a : Act} {o : Oper} {rest : List Oper} {w : World}
theorem ss_nil (h : Q .normal a w) : wpSeq P ops Q [] a w := h
theorem ss_any (hg : o.guard = none) (h : ∀ K : Act → World → Prop, (∀ a w, wpSeq P ops Q rest a w → K a w) → o.wp P a w K Q) : wpSeq P ops Q (o :: rest) a w := by
  unfold wpSeq
  rw [if_pos (by unfold Region.wanted; rw [hg])]
  exact h _ (fun _ _ h => h)
theorem ss_val (hg : o.guard = none) (h : ∀ K : Act → World → Prop, (∀ a w, wpSeq P ops Q rest a w → K a w) → ∃ v w', (execOp a.eval o).run P w = .ok (.value v) w' ∧ K (a.put o.dst v) w') : wpSeq P ops Q (o :: rest) a w := by
  refine ss_any hg (fun K hK => ?_)
  obtain ⟨v, w', h1, h2⟩ := h K hK
  unfold Oper.wp
  rw [h1]
  exact h2
theorem ss_skip (hg : o.guard = none) (h : ∀ K : Act → World → Prop, (∀ a w, wpSeq P ops Q rest a w → K a w) → ∃ w', (execOp a.eval o).run P w = .ok .skip w' ∧ K (a.put o.dst undef) w') : wpSeq P ops Q (o :: rest) a w := by
  refine ss_any hg (fun K hK => ?_)
  obtain ⟨w', h1, h2⟩ := h K hK
  unfold Oper.wp
  rw [h1]
  exact h2
/-- Under a guard that is decided. -/
theorem ss_yes (hw : Region.wanted o (yielded ops a.tmps) = true) (h : wpSeq P ops Q ({ o with guard := none } :: rest) a w) : wpSeq P ops Q (o :: rest) a w := by
  unfold wpSeq at h ⊢
  rw [if_pos hw]
  rw [if_pos (by unfold Region.wanted; rfl)] at h
  exact h
theorem ss_no (hw : Region.wanted o (yielded ops a.tmps) = false) (h : wpSeq P ops Q rest (a.put o.dst undef) w) : wpSeq P ops Q (o :: rest) a w := by
  unfold wpSeq
  rw [hw]
  simpa using h
end
theorem pick_or (b c : Bool) : (if b = true then Value.bool true else if b = false then .bool c else undef) = .bool (b || c) := by cases b <;> rfl
theorem pick_and (b c : Bool) : (if b = true then (if b = true then Value.bool c else undef) else .bool false) = .bool (b && c) := by cases b <;> rfl
end

/-! Worlds that have grown from W on, but for one block g that may be written. -/
structure NrT (g : Nat) (W : World) where
  val : World
  size : W.heap.size ≤ val.heap.size
  block : ∀ k, k < W.heap.size → k ≠ g → val.heap[k]? = W.heap[k]?
section
variable {W w w' : World} {g : Nat}
def Nr (g : Nat) (W : World) (w : World) : Prop := ∃ u : NrT g W, w = u.val
theorem Nr.start (g : Nat) (W : World) : Nr g W W.drew := ⟨⟨W.drew, Nat.le_refl _, fun _ _ _ => rfl⟩, rfl⟩
theorem Nr.grow (h : Nr g W w) (hb : Below w.heap.size w w') : Nr g W w' := by
  obtain ⟨u, rfl⟩ := h
  exact ⟨⟨w', Nat.le_trans u.size hb.size, fun k hk hg => (hb.block k (Nat.lt_of_lt_of_le hk u.size)).trans (u.block k hk hg)⟩, rfl⟩
theorem Nr.alloc (h : Nr g W w) (o : Obj) : Nr g W (w.alloc o) := h.grow ((Below.refl _ _).alloc (Nat.le_refl _) _)
theorem Nr.drew (h : Nr g W w) : Nr g W w.drew := h.grow (Below.refl _ _).drew
theorem Nr.drewN (h : Nr g W w) (n : Nat) : Nr g W (w.drewN n) := h.grow (below_drewN (Below.refl _ _) n)
theorem Nr.heap (h : Nr g W w) (hs : w'.heap.size = w.heap.size) (hh : ∀ k, k ≠ g → w'.heap[k]? = w.heap[k]?) : Nr g W w' := by
  obtain ⟨u, rfl⟩ := h
  exact ⟨⟨w', by rw [hs]; exact u.size, fun k hk hg => (hh k hg).trans (u.block k hk hg)⟩, rfl⟩
theorem Nr.setCell (h : Nr g W w) (o : Nat) (v : Value) : Nr g W (w.setCell ⟨g, o, none⟩ v) := h.heap (by simp [World.setCell]) (fun k hk => Below.heap_setCell w _ v k hk)
theorem Nr.setRow (h : Nr g W w) (cs : Array Value) : Nr g W (w.setRow g cs) := h.heap (by simp) (fun k hk => heap_setRow_other _ _ _ _ hk)
theorem Nr.setCells (h : Nr g W w) (o : Nat) (vs : List Value) : Nr g W (w.setCells g o vs) := h.heap (size_setCells _ _ _ _) (fun k hk => heap_setCells_other _ _ _ _ _ hk)
theorem NrT.cell (u : NrT g W) (b o : Nat) (h : b < W.heap.size) (hg : b ≠ g) : u.val.cell? ⟨b, o, none⟩ = W.cell? ⟨b, o, none⟩ := World.cell?_of_block (w := W) (u.block b h hg)
theorem NrT.rd (u : NrT g W) (b o n : Nat) (h : b < W.heap.size) (hg : b ≠ g) : Go.Proofs.YtijpdbjcmnpobaaDoor.rd u.val ⟨b, o, none⟩ n = Go.Proofs.YtijpdbjcmnpobaaDoor.rd W ⟨b, o, none⟩ n := rd_heap (w := W) (u.block b h hg) n
end
end Go.Proofs.YtijpdbjcmnpobaaDoor
