/-
  The queue's row: Push, Pop.
-/
import Derived.Test.YtkeeipfglmpgjaaQueue
import Derived.Deep.RegionLaw
import Derived.RangeFuncOwn
namespace Go.Proofs.Ytkeeipfglmpgjaa
set_option linter.unusedSimpArgs false
set_option linter.unusedVariables false
open Go.RowKit
attribute [local go_sem ↓] run_load_one run_store_one
attribute [local go_sem] rd_drewN rd_drew aggLoad_ptr aggRes_some midStore_at thereB_setCells thereB_drew thereB_drewN cells_one One.cells_length thereB_new

theorem assert_one (v : Value) (w : World) : (Instr.typeAssert (.iface 93 v) 20 93 true).run Try.prog w = .ok (.tuple #[v, .bool true]) w := by kernel_rfl
attribute [local go_sem] assert_one

/-- A queue's block, and its row. -/
def QS (W : World) (base Q : Nat) (l : List One) (came : Int) : Prop := ∃ A n c, Blk W Q 55 #[.slice A n c, .int .i64 came] ∧ Own W base 93 3 One.cells (.slice A n c) l

/-- No queue's object, no row's. -/
def QFree (o : Obj) : Prop := ∀ (cs : Array Value) (t : TypeId) (z : Nat × Nat), o = Obj.cells cs t z → t ≠ 55 ∧ t ≠ 93
theorem QFree.cells {cs : Array Value} {t : TypeId} {z : Nat × Nat} (h1 : t ≠ 55) (h2 : t ≠ 93) : QFree (Obj.cells cs t z) := fun cs' t' z' e => by
  injection e with _ e2
  subst e2
  exact ⟨h1, h2⟩
theorem QFree.other {o : Obj} (h : o.isCells = false) : QFree o := fun cs t z e => by subst e; cases h
/-- What the queue's own work leaves alone: all below a base, and every object that is neither a queue's nor a row's. -/
def BF (base : Nat) (a w : World) : Prop := Below base a w ∧ ∀ (k : Nat) (o : Obj), a.heap[k]? = some o → QFree o → w.heap[k]? = a.heap[k]?
section
variable {base : Nat} {a w w' : World}
theorem lt_of_heap {w : World} {k : Nat} {o : Obj} (h : w.heap[k]? = some o) : k < w.heap.size := by
  rcases Nat.lt_or_ge k w.heap.size with hlt | hge
  · exact hlt
  · rw [Array.getElem?_eq_none hge] at h; cases h
theorem BF.refl (base : Nat) (w : World) : BF base w w := ⟨Below.refl _ _, fun _ _ _ _ => rfl⟩
theorem BF.trans (h : BF base a w) (k : BF base w w') : BF base a w' := ⟨h.1.trans k.1, fun i o hi h1 => by
  have e := h.2 i o hi h1
  rw [k.2 i o (e.trans hi) h1, e]⟩
theorem BF.alloc (h : BF base a w) (hb : base ≤ w.heap.size) (o : Obj) : BF base a (w.alloc o) := ⟨h.1.alloc hb o, fun i o' hi h1 => by
  rw [Below.heap_alloc w o i (Nat.lt_of_lt_of_le (lt_of_heap hi) h.1.size)]; exact h.2 i o' hi h1⟩
theorem BF.drew (h : BF base a w) : BF base a w.drew := ⟨h.1.drew, h.2⟩
theorem BF.drewN (h : BF base a w) (n : Nat) : BF base a (w.drewN n) := ⟨below_drewN h.1 n, h.2⟩
theorem BF.of_drewN {n : Nat} (h : BF base (a.drewN n) w) : BF base a w := ⟨below_of_drewN h.1, h.2⟩
theorem BF.setCells_new (h : BF base a w) {b : Nat} (hb : base ≤ b) (hn : a.heap.size ≤ b) (o : Nat) (vs : List Value) : BF base a (w.setCells b o vs) := ⟨bel_setCells h.1 hb _ _, fun i o' hi h1 => by
  rw [heap_setCells_other b vs o w i (by have := lt_of_heap hi; omega)]; exact h.2 i o' hi h1⟩
theorem BF.setQ (h : BF base a w) {Q : Nat} {cs0 : Array Value} (hq : Blk w Q 55 cs0) (hQ : base ≤ Q) (i : Nat) (u : Value) : BF base a (w.setCell ⟨Q, i, none⟩ u) := ⟨h.1.setCell hQ u, fun j o hj h1 => by
  have e := h.2 j o hj h1
  rw [Below.heap_setCell w ⟨Q, i, none⟩ u j (fun e2 => by
    have e3 : j = Q := e2
    subst e3
    rw [show w.heap[j]? = _ from hq] at e
    rw [hj] at e
    injection e with e
    exact (h1 _ _ _ e.symm).1 rfl)]
  exact e⟩
theorem BF.grown (h : BF base a w) (hb : base ≤ w.heap.size) {v : Value} {l : List One} (ho : Own w base 93 3 One.cells v l) (hg : w.grownBy w' v.ownBlock) : BF base a w' := ⟨ho.below_grown h.1 hg (Nat.le_refl _) hb, fun j o hj h1 => by
  have e := h.2 j o hj h1
  rw [hg.block j (lt_of_heap (e.trans hj)) (fun e2 => by
    rcases ho.2.2 with ⟨hv, _⟩ | ⟨g, cap, cur, hv, _, hh, _⟩
    · rw [hv] at e2; simp [Value.ownBlock] at e2
    · rw [hv] at e2
      have e3 : j = g := by simpa [Value.ownBlock] using e2
      subst e3
      rw [hh, hj] at e
      injection e with e
      exact (h1 _ _ _ e.symm).2 rfl)]
  exact e⟩
theorem BF.blk {g : Nat} {t : TypeId} {cs : Array Value} (h : BF base a w) (hb : Blk a g t cs) (h1 : t ≠ 55) (h2 : t ≠ 93) : Blk w g t cs := (h.2 g _ hb (QFree.cells h1 h2)).trans hb
theorem BF.own {α : Type} {b size : Nat} {e : TypeId} {enc : α → List Value} {v : Value} {l : List α} (h : BF base a w) (ho : Own a b e size enc v l) (h1 : e ≠ 55) (h2 : e ≠ 93) : Own w b e size enc v l := by
  refine ho.kept fun k hk => ?_
  rcases ho.2.2 with ⟨hv, _⟩ | ⟨g, cap, cur, hv, _, hh, _⟩
  · rw [hv] at hk; simp [Value.ownBlock] at hk
  · rw [hv] at hk
    have e3 : g = k := by simpa [Value.ownBlock] using hk
    subst e3
    exact h.2 g _ hh (QFree.cells h1 h2)
end

set_option maxHeartbeats 2000000 in
set_option maxRecDepth 20000 in
theorem Push_any (W : World) (base Q : Nat) (l : List One) (came : Int) (x : One) (h : QS W base Q l came) (hQ : base ≤ Q) (hbase : base ≤ W.heap.size) (hl : l.length ≤ 1000000) :
    Calls Try.prog 84 #[.pointer (some ⟨Q, 0, none⟩), .iface 93 (.agg x.cells.toArray)] W fun e W' => e = .returned (.tuple #[]) ∧ QS W' base Q (l ++ [x]) came ∧ BF base W W' := by
  obtain ⟨A, n, c, hq, ho⟩ := h
  have hc := hq.cell 0
  simp at hc
  have HQ := Lib.hid hq
  have HO := Lib.hid ho
  clear hq ho
  go_enter Try.func84, Try.ntmps84
  go_wp2
  obtain ⟨W1, hW1⟩ : ∃ W1, ((W.alloc (.cells #[.int .i64 0, .int .i64 0, .int .i64 0] 93)).setCells W.heap.size 0 x.cells) = W1 := ⟨_, rfl⟩
  have hQs : Q < W.heap.size := HQ.out.lt
  have b1 : Blk W1 Q 55 #[.slice A n c, .int .i64 came] := by rw [← hW1]; exact (HQ.out.alloc _).setCells_far (by omega) _ _
  have o1 : Own W1 base 93 3 One.cells (.slice A n c) l := by
    rw [← hW1]
    exact (HO.out.alloc _).kept fun k hk => heap_setCells_other _ _ _ _ _ (by have := (HO.out.lt k hk).2; omega)
  have r1 : rd W1 ⟨W.heap.size, 0, none⟩ 3 = some x.cells := by
    rw [← hW1]
    refine rd_of_each rfl fun i hi => ?_
    have := World.cell?_setCells_in W.heap.size x.cells 0 (W.alloc (.cells #[.int .i64 0, .int .i64 0, .int .i64 0] 93)) (fun j hj => by
      rw [cell_new]
      have : j < 3 := hj
      simp; omega) i hi
    rw [Addr.add_mid, this, List.getElem?_eq_getElem hi]
  have B1 : BF base W W1 := by rw [← hW1]; exact ((BF.refl _ _).alloc hbase _).setCells_new hbase (Nat.le_refl _) _ _
  have c1 : W1.cell? ⟨Q, 0, none⟩ = some (.slice A n c) := by simpa using b1.cell 0
  have hz1 : W1.heap.size = W.heap.size + 1 := by rw [← hW1, size_setCells]; simp
  rw [hW1]
  clear hW1 hc
  have HQ1 := Lib.hid b1
  have HO1 := Lib.hid o1
  have HB1 := Lib.hid B1
  have hn := Lib.hid o1.cap.2
  clear b1 o1 B1
  go_region_law (refine step_append_sl rfl (.tmp 15) (.tmp 17) 53 rfl oneElem base One.cells one_one (.slice A n c) l n hn.out (by simp [Act.eval, Act.put]) (HO1.out.alloc _) (W1.heap.size + 1) (some ⟨W1.heap.size, 0, none⟩) 1 1 [x] (by simp [Act.eval, Act.put]) rfl (Sl.new W1 One.cells 3 One.cells_length 93 x) (by have := hn.out; omega) (le_alloc (by omega) _) ?_; intro A2 c2 w2 ho2 hg2 hw2; have b2 := (HQ1.out.alloc _).drew.grown hg2 (fun e => HO1.out.ne_blk HQ1.out (by decide) e.symm); have q2 := b2.cell 0; have f2 := b2.frozen 0; simp only [List.getElem?_toArray, List.getElem?_cons_zero] at q2; have HB2 := Lib.hid b2; have HO2 := Lib.hid ho2; have HG2 := Lib.hid hg2; clear b2 ho2 hg2 hw2)
  all_goals
    go_end0
    refine ⟨rfl, ⟨A2, n + 1, c2, ?_, ?_⟩, ?_⟩
    · have := HB2.out.set_ 0 (.slice A2 (n + 1) c2)
      simpa using this
    · exact HO2.out.kept fun k hk => Below.heap_setCell _ _ _ _ (fun e => HO2.out.ne_blk HB2.out (by decide) (by rw [hk, e]))
    · exact (((HB1.out.alloc (by omega) _).drew).grown (le_alloc (by omega) _) ((HO1.out.alloc _).drew) HG2.out).setQ HB2.out hQ _ _

theorem run_slice_row (w : World) (ρ : Operand → Value) (x : Operand) (lo hi mx : Option Operand) (d : Option Tmp) (ty : TypeId) (pos : String) (af : Array _) (g : Option _) :
    (execOp ρ ⟨d, .slice 53 x lo hi mx, ty, pos, af, g⟩).run Try.prog w = cutRes Try.prog 53 3 w (ρ x) (lo.map ρ) (hi.map ρ) (mx.map ρ) := run_slice_op _ _ 3 Try.underlying53 one_size w ρ x lo hi mx d ty pos af g
attribute [local go_sem ↓] run_slice_row
attribute [local go_sem] cutRes_hi cutA_zero rd_box rd_setCells_same rd_setCells_far rd_setCell_far rd_alloc cell_setCells_far thereB_alloc size_setCells World.frozen?_setCells

set_option maxHeartbeats 1000000 in
set_option maxRecDepth 20000 in
theorem Pop_any (W : World) (base Q : Nat) (l : List One) (came : Int) (x : One) (h : QS W base Q (l ++ [x]) came) (hQ : base ≤ Q) (hbase : base ≤ W.heap.size) (hl : l.length ≤ 1000000) :
    Calls Try.prog 83 #[.pointer (some ⟨Q, 0, none⟩)] W fun e W' => e = .returned (.iface 93 (.agg x.cells.toArray)) ∧ QS W' base Q l came ∧ BF base W W' := by
  obtain ⟨A, n, c, hq, ho⟩ := h
  have hn := ho.cap.2
  obtain ⟨m, hm⟩ : ∃ m, l.length = m := ⟨_, rfl⟩
  simp only [List.length_append, hm, List.length_cons, List.length_nil] at hn
  rw [Nat.zero_add] at hn
  subst hn
  have hm1 : m ≤ 1000000 := by omega
  obtain ⟨g, rfl, hg, hgl⟩ := ho.addr0 (by omega)
  have hcap := ho.cap.1
  have hc := hq.cell 0
  have hf := hq.frozen 0
  simp at hc
  have r1 : rd W ⟨g, m * 3, none⟩ 3 = some x.cells := by
    have := ho.sl'.rd_ (k := m) (by simp [hm])
    simpa [hm] using this
  have t1 := ho.there_ m (by omega)
  have hQs : Q < W.heap.size := hq.lt
  have hgQ : g ≠ Q := fun e => ho.ne_blk hq (by decide) (by rw [e]; rfl)
  have hQg : Q ≠ g := fun e => hgQ e.symm
  have hgW : W.heap.size ≠ g := by omega
  have hQW : W.heap.size ≠ Q := by omega
  have hWg : g ≠ W.heap.size := by omega
  have hWQ : Q ≠ W.heap.size := by omega
  have HQ := Lib.hid hq
  have HO := Lib.hid ho
  have HM := Lib.hid hm
  clear hq ho hm
  go_enter Try.func83, Try.ntmps83
  go_wp2
  go_ret
  have o1 : Own ((W.alloc (.cells #[.int .i64 0, .int .i64 0, .int .i64 0] 93)).setCells W.heap.size 0 x.cells) base 93 3 One.cells (.slice (some ⟨g, 0, none⟩) (m + 1) c) (l ++ [x]) :=
    (HO.out.alloc _).kept fun k hk => heap_setCells_other _ _ _ _ _ (by have := (HO.out.lt k hk).2; omega)
  have o2 := (o1.set_ (by omega) m (by omega) ⟨0, 0, 0⟩).take_ m (by omega)
  rw [show ((l ++ [x]).set m ⟨0, 0, 0⟩).take m = l from by rw [List.take_set_of_le (Nat.le_refl _), ← HM.out, List.take_left]] at o2
  refine ⟨rfl, ⟨_, _, c, ?_, o2.kept fun k hk => Below.heap_setCell _ _ _ _ (fun e => hgQ (by injection hk with hk; exact hk.trans e))⟩, ?_⟩
  · have := (((HQ.out.alloc (.cells #[.int .i64 0, .int .i64 0, .int .i64 0] 93)).setCells_far (b := W.heap.size) (by omega) x.cells 0).setCells_far (b := g) hQg [.int .i64 0, .int .i64 0, .int .i64 0] (m * 3)).set_ 0 (.slice (some ⟨g, 0, none⟩) m c)
    simpa using this
  · exact ((((BF.refl _ _).alloc hbase _).setCells_new hbase (Nat.le_refl _) _ _).grown (by rw [size_setCells]; simp; omega) o1 (grown_setCells _ _ _ _)).setQ (((HQ.out.alloc _).setCells_far (by omega) _ _).setCells_far hQg _ _) hQ _ _
end Go.Proofs.Ytkeeipfglmpgjaa
