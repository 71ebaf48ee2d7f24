/-
  bag.All, List (slices.Collect), First: what they answer.
-/
import Derived.Test.YtkeeipfglmpgjaaDoorBagAll
import Derived.RangeFuncNested
import Derived.Test.YtkeeipfglmpgjaaDoorRef03
namespace Go.Proofs.YtkeeipfglmpgjaaDoor
set_option linter.unusedSimpArgs false
set_option linter.unusedVariables false
open Go.RowKit Go.Shelf
attribute [local go_sem ↓] run_load_bag run_store_bag run_load_arr
attribute [local go_sem] rd_drewN rd_drew aggLoad_ptr aggRes_some aggStore_row rd_new rd_alloc rd_row_far rd_row rowSz_set rowSz_at rowSz_lt rowSz_far rowSz_drewN rowSz_drew bag_one Bag.cells_length
attribute [local go_sem] Oper.semAt_some

theorem All_any (x : Bag) (w : World) : Calls Tryd.prog 8 #[.agg x.cells.toArray] w fun e w' =>
    e = .returned (.func (.func 22) #[] #[.pointer (some ⟨w.heap.size, 0, none⟩)]) ∧ w' = w.alloc (.cells x.cells.toArray 29) := by
  go_enter Tryd.func8, Tryd.ntmps8
  go_wp2
  go_ret
  exact ⟨rfl, rfl⟩

theorem all_stops (n : Nat) (hn : 1 ≤ n) (Bx n₀ : Nat) (x : Bag) (hx : x.ok) (hg : 0 < n₀) (w : World) (hn₀ : n₀ ≤ w.heap.size) (hB : Bx < w.heap.size) (hb : rd w ⟨Bx, 0, none⟩ 4 = some x.cells) (hT : TabAt w) :
    SeqStopsK Fence.wide n Tryd.prog 22 #[.pointer (some ⟨Bx, 0, none⟩)] (fun v : Int => #[Value.int .i64 v]) (Below n₀) (fun ys => ys = x.list) (fun pre => pre <+: x.list) x.list.length w := fun l J Jx W hW _ _ hY h0 =>
  All1_in n hn l Bx n₀ x hx hg J Jx hY W ((rd_below hW _ _ hB).trans hb) (hT.below hW (by omega)) h0

theorem list_le (x : Bag) : x.list.length ≤ 256 := by
  have key : ∀ k, (x.part k).length ≤ 64 * k := by
    intro k
    induction k with
    | zero => simp [Bag.part]
    | succ k ih =>
      show (x.part k ++ nums k (ones (x.word k))).length ≤ _
      have h1 : (nums k (ones (x.word k))).length ≤ 64 := by
        unfold nums; rw [List.length_map, ones_length]; exact pc_le 64 _
      rw [List.length_append]; omega
  have := key 4
  unfold Bag.list
  omega

set_option maxRecDepth 100000 in
set_option maxHeartbeats 2000000 in
theorem AppendSeq_in (n : Nat) (hn : 3 ≤ n) (Bx : Nat) (x : Bag) (hx : x.ok) (w : World) (hg : 0 < w.heap.size) (hB : Bx < w.heap.size) (hb : rd w ⟨Bx, 0, none⟩ 4 = some x.cells) (hT : TabAt w) :
    CallsIn Fence.wide n Tryd.prog 31 #[.slice none 0 0, .func (.func 22) #[] #[.pointer (some ⟨Bx, 0, none⟩)]] w (GivesSl 3 1 intC w x.list) := by
  have h1 : 1 ≤ n := by omega
  have hle := list_le x
  obtain ⟨i0, hi, hz0, hz1, hz2⟩ := info_parts (show (Tryd.prog.info? 3).map (fun i => (i.zero, i.size, i.bytes)) = some (some (.int .i64 0), 1, 8) from by kernel_rfl)
  refine callsIn_of_wp_marks Tryd.func31 rfl trivial ?_ rfl
  simp only [Tryd.ntmps31, List.size_toArray, List.length_cons, List.length_nil, Nat.reduceAdd, Nat.reduceSub, Array.replicate_succ, Array.replicate_zero, List.push_toArray, List.append_toArray, List.nil_append, List.cons_append]
  gi_wp2
  have bO := Boxed.new w 22 (.slice none 0 0)
  have hB0 : Below w.heap.size w (w.alloc (.cells #[.slice none 0 0] 22)) := (Below.refl _ w).alloc (Nat.le_refl _) _
  refine wpIn_rangeFunc_ownG rfl h1 (gf := 22) (lb := #[.pointer (some ⟨Bx, 0, none⟩)]) rfl trivial (enters_of Tryd.func22 (by kernel_rfl) rfl)
    (all_stops (n - 1) (by omega) Bx w.heap.size x hx hg _ (by simp) (by simp; omega) ((rd_below hB0 _ _ hB).trans hb) (hT.below hB0 hg)) belowK_t (belowK_b (by simp)) (Below.refl _ _) (fun _ => rfl)
    (fun pre W => (∃ v, Boxed W w.heap.size 22 v ∧ W.ownsRow w.heap.size 3 1 v pre.length (pre.flatMap intC) ∧ True) ∧ Below w.heap.size w W)
    (fun _ _ _ => False)
    (OwnFrom.and (Own.from (holdsRow_own w.heap.size w.heap.size 22 3 1 (fun pre : List Int => pre.length) (fun pre => pre.flatMap intC) (fun pre v => True)) _) (ownFrom_below (Nat.le_refl _) (by simp)))
    (fun _ _ _ _ _ hs _ _ => hs)
    ⟨⟨_, bO, World.ownsRow_nil _ _ _ _, trivial⟩, hB0⟩
    (fun v => { tmps := #[.slice none 0 0, .func (.func 22) #[] #[.pointer (some ⟨Bx, 0, none⟩)], .pointer (some ⟨w.heap.size, 0, none⟩), undef, .slice none 0 0, .int .i64 v, .func (.func 22) #[] #[.pointer (some ⟨Bx, 0, none⟩)], .int .i64 v, undef, undef, undef, undef, undef], defers := [] }) ?assign ?body ?done ?stop
  case assign =>
    intro l v W K hK
    gi_wp2
    exact hK
  case body =>
    rintro l pre v W ⟨⟨u, hv, hrow, _⟩, hB2⟩ hlt
    have hc := hv.cell
    gi_wp2_with (gi_at_builtin; refine wpListIn_append_own _ rfl _ _ 22 rfl w.heap.size 3 i0 (.int .i64 0) 1 8 Tryd.underlying22 hi hz0 hz1 hz2 rfl (by decide) _ _ _ rfl (hrow.alloc _) ⟨W.heap.size, 0, none⟩ 1 1 [.int .i64 v] rfl rfl (cell_one_new _ _ _) (by simp [Value.oneCell']) (by unfold maxLen; omega) (by omega) (by have := hB2.size; simp; omega) ?_; intro v' w1 hown' hgrow _; obtain ⟨g', cap', rfl⟩ := ownsRow_succ hown'; obtain ⟨hv1, hv2, hr2, hk2, hb2⟩ := hv.appended (by decide) hrow hB2.size (Nat.le_refl _) hown' hgrow; have hc1 := hv1.cell; have hf1 := hv1.frozen)
    exact ⟨hk2.from _, hb2, ⟨_, hv2, by rw [List.flatMap_append]; simpa [intC] using hr2, trivial⟩, hB2.trans hb2⟩
  case done =>
    rintro D ys W hD rfl ⟨⟨u, hv, hrow, _⟩, hB2⟩ hK
    have hc := hv.cell
    gi_wp2
    refine ⟨by simp, .inl ⟨_, _, rfl, run_takeDeferred hK, ?_⟩⟩
    refine ⟨_, results_tmp rfl _ _ _, ?_⟩
    have ho : Own W w.heap.size 3 1 intC u x.list := ⟨int_len, hrow⟩
    have ho2 : Own (W.putObj D (.deferred none)) w.heap.size 3 1 intC u x.list := ⟨int_len, ownsRow_putObj hrow _ hK rfl⟩
    obtain ⟨A, c, rfl, _⟩ := ho.form
    exact GivesSl.of rfl rfl ho2 (hB2.trans (belowK_b (w := w) (Nat.le_refl _) W D _ _ (by simp at hD; omega) hK rfl rfl))
  case stop =>
    rintro D c pre W _ _ h _
    exact h.elim

theorem AppendSeq_any (Bx : Nat) (x : Bag) (hx : x.ok) (w : World) (hg : 0 < w.heap.size) (hB : Bx < w.heap.size) (hb : rd w ⟨Bx, 0, none⟩ 4 = some x.cells) (hT : TabAt w) :
    Calls Tryd.prog 31 #[.slice none 0 0, .func (.func 22) #[] #[.pointer (some ⟨Bx, 0, none⟩)]] w (GivesSl 3 1 intC w x.list) :=
  callsIn_wide.1 (AppendSeq_in 3 (by omega) Bx x hx w hg hB hb hT)
theorem Collect_any (Bx : Nat) (x : Bag) (hx : x.ok) (w : World) (hg : 0 < w.heap.size) (hB : Bx < w.heap.size) (hb : rd w ⟨Bx, 0, none⟩ 4 = some x.cells) (hT : TabAt w) :
    Calls Tryd.prog 26 #[.func (.func 22) #[] #[.pointer (some ⟨Bx, 0, none⟩)]] w (GivesSl 3 1 intC w x.list) := by
  have HA := AppendSeq_any Bx x hx w hg hB hb hT
  clear hT hb
  go_enter Tryd.func26, Tryd.ntmps26
  go_wp2_with (go_at_call 31; refine HA.mono ?_; rintro e w1 ⟨A', c', rfl, ho, hb1⟩)
  go_ret
  exact GivesSl.of rfl rfl ho hb1
theorem List_any (x : Bag) (hx : x.ok) (w : World) (hg : 0 < w.heap.size) (hT : TabAt w) :
    Calls Tryd.prog 16 #[.agg x.cells.toArray] w (GivesSl 3 1 intC w x.list) := by
  have HX := Lib.hid hx
  have hb0 : Below w.heap.size w ((w.alloc (.cells x.cells.toArray 29)).alloc (.cells x.cells.toArray 29)) := ((Below.refl _ w).alloc (Nat.le_refl _) _).alloc (by simp) _
  have HC := Collect_any (w.heap.size + 1) x hx ((w.alloc (.cells x.cells.toArray 29)).alloc (.cells x.cells.toArray 29)) (by have := hb0.size; omega) (by simp) (rd_new _ _ _ _ _ (by simp) rfl) (hT.below hb0 hg)
  have HB := Lib.hid hb0
  clear hT hb0
  go_enter Tryd.func16, Tryd.ntmps16
  have HA := All_any x
  go_wp2_with (first
    | (go_at_call 8; refine (HA _).mono ?_; rintro e w1 ⟨rfl, rfl⟩)
    | (go_at_call 26; refine HC.mono ?_; rintro e w1 ⟨A', c', rfl, ho, hb1⟩))
  go_ret
  refine GivesSl.of rfl rfl (ho.base_le (by simp; omega)) (HB.out.trans (hb1.mono (by simp; omega)))

/-- Behind the loop: two boxes hold the results. -/
theorem first_end (n : Nat) (x : Bag) (w W : World) (D : Nat) (v : Int) (b : Bool) (tmps : Array Value) (hv : v = x.list.headD 0) (hb : b = !x.list.isEmpty) (hD : w.heap.size ≤ D)
    (hc1 : Boxed W (w.heap.size + 1) 3 (.int .i64 v)) (hc2 : Boxed W (w.heap.size + 1 + 1) 4 (.bool b)) (hB : Below w.heap.size w W) (hK : W.heap[D]? = some (.deferred (some [])))
    (t1 : tmps[2]?.getD undef = .pointer (some ⟨w.heap.size + 1, 0, none⟩)) (t2 : tmps[3]?.getD undef = .pointer (some ⟨w.heap.size + 1 + 1, 0, none⟩)) :
    bodyPostM Fence.wide n Tryd.prog Tryd.f12 (fun e w' => e = .returned (.tuple #[.int .i64 (x.list.headD 0), .bool (!x.list.isEmpty)]) ∧ Below w.heap.size w w') Exit.ret
      { tmps, defers := [{ target := .collected D, args := #[] }] } W := by
  subst hv; subst hb
  refine ⟨by simp, .inl ⟨_, _, rfl, run_takeDeferred hK, ?_⟩⟩
  have h1 : Boxed (W.putObj D (.deferred none)) (w.heap.size + 1) 3 (.int .i64 (x.list.headD 0)) := hc1.kept (grownBy_putObj' _ D (.deferred none)) (fun e => by cases e; rw [show W.heap[w.heap.size + 1]? = _ from hc1] at hK; cases hK)
  have h2 : Boxed (W.putObj D (.deferred none)) (w.heap.size + 1 + 1) 4 (.bool (!x.list.isEmpty)) := hc2.kept (grownBy_putObj' _ D (.deferred none)) (fun e => by cases e; rw [show W.heap[w.heap.size + 1 + 1]? = _ from hc2] at hK; cases hK)
  have e1 := h1.cell
  have e2 := h2.cell
  refine ⟨.tuple #[.int .i64 (x.list.headD 0), .bool (!x.list.isEmpty)], ?_, rfl, hB.trans (belowK_b (w := w) (Nat.le_refl _) W D _ _ hD hK rfl rfl)⟩
  simp [results, Tryd.f12, go_sem, e1, e2, t1, t2]

set_option maxRecDepth 100000 in
set_option maxHeartbeats 2000000 in
/-- The first number, or none. -/
theorem First_in (n : Nat) (hn : 3 ≤ n) (x : Bag) (hx : x.ok) (w : World) (hg : 0 < w.heap.size) (hT : TabAt w) :
    CallsIn Fence.wide n Tryd.prog 12 #[.agg x.cells.toArray] w fun e w' => e = .returned (.tuple #[.int .i64 (x.list.headD 0), .bool (!x.list.isEmpty)]) ∧ Below w.heap.size w w' := by
  have h1 : 1 ≤ n := by omega
  refine callsIn_of_wp_marks Tryd.func12 rfl trivial ?_ rfl
  simp only [Tryd.ntmps12, List.size_toArray, List.length_cons, List.length_nil, Nat.reduceAdd, Nat.reduceSub, Array.replicate_succ, Array.replicate_zero, List.push_toArray, List.append_toArray, List.nil_append, List.cons_append]
  have HA := All_any x
  gi_wp2_with (refine ⟨trivial, ?_⟩; gi_at_call 8; refine (callsIn_wide.2 (HA _)).mono ?_; rintro e w1 ⟨rfl, rfl⟩)
  obtain ⟨W0, hW0⟩ : ∃ W0, ((((w.alloc (.cells x.cells.toArray 29)).alloc (.cells #[.int .i64 0] 3)).alloc (.cells #[.bool false] 4)).alloc (.cells x.cells.toArray 29)) = W0 := ⟨_, rfl⟩
  have b1 : Boxed W0 (w.heap.size + 1) 3 (.int .i64 0) := by
    have h := Boxed.new (w.alloc (.cells x.cells.toArray 29)) 3 (.int .i64 0)
    rw [World.size_alloc] at h
    rw [← hW0]; exact (h.alloc _).alloc _
  have b2 : Boxed W0 (w.heap.size + 1 + 1) 4 (.bool false) := by
    have h := Boxed.new ((w.alloc (.cells x.cells.toArray 29)).alloc (.cells #[.int .i64 0] 3)) 4 (.bool false)
    rw [World.size_alloc, World.size_alloc] at h
    rw [← hW0]; exact h.alloc _
  have hr0 : rd W0 ⟨w.heap.size + 1 + 1 + 1, 0, none⟩ 4 = some x.cells := by rw [← hW0]; exact rd_new _ _ _ _ _ (by simp) rfl
  have hB0 : Below w.heap.size w W0 := by rw [← hW0]; exact ((((Below.refl _ w).alloc (Nat.le_refl _) _).alloc (by simp) _).alloc (by simp; omega) _).alloc (by simp; omega) _
  have hsz : W0.heap.size = w.heap.size + 4 := by rw [← hW0]; simp
  rw [hW0]
  clear hW0
  refine wpIn_rangeFunc_ownF rfl h1 (gf := 22) (lb := #[.pointer (some ⟨w.heap.size + 1 + 1 + 1, 0, none⟩)]) rfl trivial (enters_of Tryd.func22 (by kernel_rfl) rfl)
    (all_stops (n - 1) (by omega) (w.heap.size + 1 + 1 + 1) w.heap.size x hx hg W0 hB0.size (by omega) hr0 (hT.below hB0 hg)) belowK_t (belowK_b hB0.size) (Below.refl _ _) (fun _ => rfl)
    (fun pre W => (pre = [] ∧ Boxed W (w.heap.size + 1) 3 (.int .i64 0) ∧ Boxed W (w.heap.size + 1 + 1) 4 (.bool false)) ∧ Below w.heap.size w W)
    (fun c pre W => (c = .ret ∧ Boxed W (w.heap.size + 1) 3 (.int .i64 (pre.headD 0)) ∧ Boxed W (w.heap.size + 1 + 1) 4 (.bool true) ∧ pre ≠ []) ∧ Below w.heap.size w W)
    (OwnFrom.and (Own.from (fun s A B row hs hg hr => ⟨hs.1, boxed_own _ _ (fun _ : List Int => _) s A B row hs.2.1 hg hr, boxed_own _ _ (fun _ : List Int => _) s A B row hs.2.2 hg hr⟩) _) (ownFrom_below (Nat.le_refl _) hB0.size))
    (fun c => OwnFrom.and (Own.from (fun s A B row hs hg hr => ⟨hs.1, boxed_own _ _ (fun s : List Int => Value.int .i64 (s.headD 0)) s A B row hs.2.1 hg hr, boxed_own _ _ (fun _ : List Int => _) s A B row hs.2.2.1 hg hr, hs.2.2.2⟩) _) (ownFrom_below (Nat.le_refl _) hB0.size))
    ⟨⟨rfl, b1, b2⟩, hB0⟩
    (fun v => { tmps := #[.agg x.cells.toArray, .pointer (some ⟨w.heap.size, 0, none⟩), .pointer (some ⟨w.heap.size + 1, 0, none⟩), .pointer (some ⟨w.heap.size + 1 + 1, 0, none⟩), .int .i64 v, .agg x.cells.toArray, .func (.func 22) #[] #[.pointer (some ⟨w.heap.size + 1 + 1 + 1, 0, none⟩)], .int .i64 v, undef], defers := [] }) ?assign ?body ?done ?stop
  case assign =>
    intro l v W K hK
    gi_wp2
    exact hK
  case body =>
    rintro l pre v W ⟨⟨rfl, hc1, hc2⟩, hB⟩ _
    have e1 := hc1.cell
    have e2 := hc2.cell
    have e3 := hc1.frozen
    have e4 := hc2.frozen
    gi_wp2
    refine ⟨(KeepsOthers.setCell _ _ _).trans (KeepsOthers.setCell _ _ _), ⟨rfl, (hc1.set _).other (by omega) _, (hc2.other (by omega) _).set _, by simp⟩, (hB.setCell (by simp) _).setCell (by simp; omega) _⟩
  case done =>
    rintro D ys W hD rfl ⟨⟨h0, hc1, hc2⟩, hB⟩ hK
    have e1 := hc1.cell
    have e2 := hc2.cell
    have e3 := hc1.frozen
    have e4 := hc2.frozen
    gi_wp2
    have hK' := ((KeepsOthers.setCell W ⟨w.heap.size + 1, 0, none⟩ (.int .i64 0)).trans (KeepsOthers.setCell _ ⟨w.heap.size + 1 + 1, 0, none⟩ (.bool false))).same D _ hK rfl
    exact first_end n x w _ D 0 false _ (by rw [h0]; rfl) (by rw [h0]; rfl) (by omega) ((hc1.set _).other (by omega) _) ((hc2.other (by omega) _).set _) ((hB.setCell (by simp) _).setCell (by simp; omega) _) hK' rfl rfl
  case stop =>
    rintro D c pre W hD hpre ⟨⟨rfl, hc1, hc2, hne⟩, hB⟩ hK
    have e1 := hc1.cell
    have e2 := hc2.cell
    have e3 := hc1.frozen
    have e4 := hc2.frozen
    gi_wp2
    obtain ⟨v, pre', rfl⟩ : ∃ v pre', pre = v :: pre' := by cases pre with | nil => exact absurd rfl hne | cons v p => exact ⟨v, p, rfl⟩
    obtain ⟨t, ht⟩ := hpre
    exact first_end n x w W D v true _ (by rw [← ht]; rfl) (by rw [← ht]; rfl) (by omega) hc1 hc2 hB hK rfl rfl
theorem First_any (x : Bag) (hx : x.ok) (w : World) (hg : 0 < w.heap.size) (hT : TabAt w) :
    Calls Tryd.prog 12 #[.agg x.cells.toArray] w fun e w' => e = .returned (.tuple #[.int .i64 (x.list.headD 0), .bool (!x.list.isEmpty)]) ∧ Below w.heap.size w w' :=
  callsIn_wide.1 (First_in 3 (by omega) x hx w hg hT)
end Go.Proofs.YtkeeipfglmpgjaaDoor
