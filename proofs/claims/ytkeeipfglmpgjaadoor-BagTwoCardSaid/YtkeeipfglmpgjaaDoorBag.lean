/-
  Bags: their cells, With, Has, in.
-/
import Derived.Test.YtkeeipfglmpgjaaDoorBits
namespace Go.Proofs.YtkeeipfglmpgjaaDoor
set_option linter.unusedSimpArgs false
set_option linter.unusedVariables false
open Go.RowKit

structure Bag where
  a : Nat
  b : Nat
  c : Nat
  d : Nat
def Bag.cells (x : Bag) : List Value := [.int .u64 x.a, .int .u64 x.b, .int .u64 x.c, .int .u64 x.d]
def Bag.ok (x : Bag) : Prop := x.a < 18446744073709551616 ∧ x.b < 18446744073709551616 ∧ x.c < 18446744073709551616 ∧ x.d < 18446744073709551616
theorem bag_agg : ∀ w, (isAgg 29).run Tryd.prog w = .ok true w := fun w => by kernel_rfl
theorem bag_size : ∀ w, (sizeOf 29).run Tryd.prog w = .ok 4 w := fun w => by kernel_rfl
theorem run_load_bag (w : World) (ρ : Operand → Value) (x : Operand) (d : Option Tmp) (ty : TypeId) (pos : String) (af : Array _) (g : Option _) :
    (execOp ρ ⟨d, .load 29 x, ty, pos, af, g⟩).run Tryd.prog w = aggLoad Tryd.prog 29 4 w (ρ x) := run_load_agg _ bag_agg 4 bag_size w ρ x d ty pos af g
theorem run_store_bag (w : World) (ρ : Operand → Value) (p x : Operand) (d : Option Tmp) (ty : TypeId) (pos : String) (af : Array _) (g : Option _) :
    (execOp ρ ⟨d, .store 29 p x, ty, pos, af, g⟩).run Tryd.prog w = aggStore Tryd.prog 29 4 w (ρ p) (ρ x) := run_store_agg _ 4 (by kernel_rfl) w ρ p x d ty pos af g
theorem arr_agg : ∀ w, (isAgg 27).run Tryd.prog w = .ok true w := fun w => by kernel_rfl
theorem arr_size : ∀ w, (sizeOf 27).run Tryd.prog w = .ok 4 w := fun w => by kernel_rfl
theorem run_load_arr (w : World) (ρ : Operand → Value) (x : Operand) (d : Option Tmp) (ty : TypeId) (pos : String) (af : Array _) (g : Option _) :
    (execOp ρ ⟨d, .load 27 x, ty, pos, af, g⟩).run Tryd.prog w = aggLoad Tryd.prog 27 4 w (ρ x) := run_load_agg _ arr_agg 4 arr_size w ρ x d ty pos af g

theorem Bag.cells_length (x : Bag) : x.cells.length = 4 := rfl
theorem bag_one (x : Bag) : (∀ u, u ∈ x.cells → u.oneCell' = true) = True := by simp [Bag.cells]; exact ⟨rfl, rfl, rfl, rfl⟩
theorem rd_new (w : World) (cs : Array Value) (t : TypeId) (g n : Nat) (hg : g = w.heap.size) (h : cs.size = n) : rd (w.alloc (.cells cs t)) ⟨g, 0, none⟩ n = some cs.toList := by
  subst h; subst hg; exact (Blk.new w t cs).rd_
theorem rd_row (w : World) (g g' : Nat) (cs : Array Value) (n : Nat) (hg : g = g') (hr : rowSz w g' = some n) (h : cs.size = n) : rd (w.setRow g' cs) ⟨g, 0, none⟩ n = some cs.toList := by
  obtain ⟨cur, t, h1, h2⟩ := rowSz_some hr
  subst hg; subst h
  exact (Blk.setRow (t := t) (cs := cur) h1 cs).rd_
theorem rd_set (w : World) (g i n : Nat) (u : Value) (cs : List Value) (hr : rowSz w g = some n) (h : rd w ⟨g, 0, none⟩ n = some cs) : rd (w.setCell ⟨g, i, none⟩ u) ⟨g, 0, none⟩ n = some (cs.set i u) := by
  obtain ⟨cur, t, h1, h2⟩ := rowSz_some hr
  have hb : Blk w g t cur := h1
  have e1 := hb.rd_
  rw [h2, h] at e1
  have e2 := (hb.set_ i u).rd_
  simp only [Array.size_setIfInBounds, h2] at e2
  rw [e2]
  have : cs = cur.toList := Option.some.inj e1
  rw [this]
  simp
theorem rowSz_set (w : World) (a : Addr) (u : Value) (g : Nat) : rowSz (w.setCell a u) g = rowSz w g := by
  unfold rowSz World.setCell
  simp only [Array.getElem?_modify]
  by_cases hg : a.block = g
  · subst hg
    cases h : w.heap[a.block]? with
    | none => simp
    | some o =>
      cases o with
      | cells cur t z => obtain ⟨z1, z2⟩ := z; rcases z1 with _ | z1 <;> rcases z2 with _ | z2 <;> simp <;> split <;> simp
      | _ => simp
  · rw [if_neg hg]
theorem rowSz_heap {w w' : World} {g : Nat} (h : w'.heap[g]? = w.heap[g]?) : rowSz w' g = rowSz w g := by unfold rowSz; rw [h]
theorem rowSz_at (w : World) (cs : Array Value) (t : TypeId) (g : Nat) (hg : g = w.heap.size) : rowSz (w.alloc (.cells cs t)) g = some cs.size := by subst hg; exact rowSz_new w cs t
theorem rowSz_lt (w : World) (o : Obj) (g : Nat) (hg : g < w.heap.size) : rowSz (w.alloc o) g = rowSz w g := rowSz_heap (Below.heap_alloc w o g hg)
theorem rowSz_far (w : World) (g g' : Nat) (cs : Array Value) (hg : g ≠ g') : rowSz (w.setRow g' cs) g = rowSz w g := rowSz_heap (heap_setRow_other w g' cs g hg)
theorem rowSz_drewN (w : World) (k g : Nat) : rowSz (w.drewN k) g = rowSz w g := rowSz_heap rfl
theorem rowSz_drew (w : World) (g : Nat) : rowSz w.drew g = rowSz w g := rowSz_heap rfl
theorem rd_row_far (w : World) (g : Nat) (cs : Array Value) (a : Addr) (n : Nat) (h : a.block ≠ g) : rd (w.setRow g cs) a n = rd w a n := rd_heap (heap_setRow_other w g cs _ h) n
attribute [local go_sem ↓] run_load_bag run_store_bag run_load_arr
attribute [local go_sem] rd_drewN rd_drew aggLoad_ptr aggRes_some aggStore_row rd_new rd_alloc rd_row_far rd_row rowSz_set rowSz_at rowSz_lt rowSz_far rowSz_drewN rowSz_drew bag_one Bag.cells_length

theorem in_any (n : Int) (w : World) : Calls Tryd.prog 25 #[.int .i64 n] w fun e w' => e = .returned (.bool (decide (0 ≤ n ∧ n < 256))) ∧ w' = w := by
  go_enter Tryd.func25, Tryd.ntmps25
  by_cases h0 : 0 ≤ n
  · by_cases h1 : n < 256
    · have d0 : decide (0 ≤ n) = true := by simp [h0]
      have d1 : decide (n < 256) = true := by simp [h1]
      have he : decide (0 ≤ n ∧ n < 256) = true := by simp [h0, h1]
      clear h0 h1
      go_wp2
      go_ret
      exact ⟨ret_bool he.symm, rfl⟩
    · have d0 : decide (0 ≤ n) = true := by simp [h0]
      have d1 : decide (n < 256) = false := by simp [h1]
      have he : decide (0 ≤ n ∧ n < 256) = false := by simp [h1]
      clear h0 h1
      go_wp2
      go_ret
      exact ⟨ret_bool he.symm, rfl⟩
  · have d0 : decide (0 ≤ n) = false := by simp [h0]
    have he : decide (0 ≤ n ∧ n < 256) = false := by simp [h0]
    clear h0
    go_wp2
    go_ret
    exact ⟨ret_bool he.symm, rfl⟩

set_option maxHeartbeats 1000000 in
theorem With_out (x : Bag) (n : Int) (hn : ¬ (0 ≤ n ∧ n < 256)) (w : World) : Calls Tryd.prog 17 #[.agg x.cells.toArray, .int .i64 n] w fun e w' => e = .returned (.agg x.cells.toArray) ∧ Below w.heap.size w w' := by
  have he : decide (0 ≤ n ∧ n < 256) = false := by simpa using hn
  have hb := in_any n
  rw [he] at hb
  clear he hn
  go_enter Tryd.func17, Tryd.ntmps17
  go_wp2_with (go_at_call 25; refine (hb _).mono ?_; rintro e w' ⟨rfl, rfl⟩)
  refine bodyPost_ret (results_cell1 rfl bag_agg 4 bag_size _ _ ⟨w.heap.size + 1, 0, none⟩ x.cells rfl ?_) rfl ?_
  · exact rd_row _ _ _ _ _ rfl (by simp [go_sem]) rfl
  · exact ⟨rfl, bel_setRow ((Below.refl _ _).alloc (Nat.le_refl _) _ |>.alloc (by simp) _) (by simp) _⟩

def Bag.word (x : Bag) : Nat → Nat | 0 => x.a | 1 => x.b | 2 => x.c | _ => x.d
def Bag.put (x : Bag) : Nat → Nat → Bag
  | 0, m => { x with a := x.a ||| m }
  | 1, m => { x with b := x.b ||| m }
  | 2, m => { x with c := x.c ||| m }
  | _, m => { x with d := x.d ||| m }
theorem wrap_u64_nat (m : Nat) (h : m < 18446744073709551616) : IntKind.u64.wrap (m : Int) = (m : Int) := by rw [IntKind.wrap_u64]; omega
theorem q4 {q : Nat} (h : q < 4) : q = 0 ∨ q = 1 ∨ q = 2 ∨ q = 3 := by omega
theorem Bag.cell_at (x : Bag) (q : Nat) (hq : q < 4) (h : q < x.cells.length) : x.cells[q] = .int .u64 (x.word q) := by
  rcases q4 hq with rfl | rfl | rfl | rfl <;> rfl
theorem Bag.set_at (x : Bag) (q m : Nat) (hq : q < 4) : x.cells.set q (.int .u64 (x.word q ||| m : Nat)) = (x.put q m).cells := by
  rcases q4 hq with rfl | rfl | rfl | rfl <;> rfl
theorem Bag.word_lt (x : Bag) (hx : x.ok) (q : Nat) : x.word q < 18446744073709551616 := by
  obtain ⟨h1, h2, h3, h4⟩ := hx
  unfold Bag.word; split <;> assumption
theorem i64_and63 (n : Int) (h0 : 0 ≤ n) (h1 : n < 256) : bits .and .i64 n 63 = n % 64 := bits_mask .i64 63 (by decide) (fun n h0 h1 => by rw [IntKind.wrap_i64]; omega) 6 (by decide) n h0 (by omega)
theorem pow_lt64 (r : Nat) (hr : r < 64) : 2 ^ r < 18446744073709551616 := Nat.pow_lt_pow_right (m := r) (n := 64) (by decide) hr

set_option maxHeartbeats 1000000 in
theorem With_in (x : Bag) (hx : x.ok) (q r : Nat) (hq : q < 4) (hr : r < 64) (w : World) : Calls Tryd.prog 17 #[.agg x.cells.toArray, .int .i64 (64 * q + r : Nat)] w fun e w' =>
    e = .returned (.agg (x.put q (2 ^ r)).cells.toArray) ∧ Below w.heap.size w w' := by
  have hb := in_any (64 * q + r : Nat)
  rw [show decide (0 ≤ ((64 * q + r : Nat) : Int) ∧ ((64 * q + r : Nat) : Int) < 256) = true from by simp; omega] at hb
  obtain ⟨n, hn⟩ : ∃ n : Int, n = ((64 * q + r : Nat) : Int) := ⟨_, rfl⟩
  rw [← hn] at hb ⊢
  have h6 : n / 64 = (q : Int) := by omega
  have h63 : bits .and .i64 n 63 = (r : Int) := by rw [i64_and63 n (by omega) (by omega)]; omega
  have hp := pow_lt64 r hr
  have h2 : IntKind.u64.wrap (2 ^ r) = ((2 ^ r : Nat) : Int) := by
    have e : ((2 : Int) ^ r) = ((2 ^ r : Nat) : Int) := by simp
    rw [e]; exact wrap_u64_nat _ hp
  obtain ⟨m, hm⟩ : ∃ m, 2 ^ r = m := ⟨_, rfl⟩
  rw [hm] at hp h2 ⊢
  have hor := bits_or_u64_nat (x.word q) m (x.word_lt hx q) hp
  have hc := x.cell_at q hq
  have hs := x.set_at q m hq
  have HX := Lib.hid hx
  have HN := Lib.hid hn
  clear hn hx hm
  go_enter Tryd.func17, Tryd.ntmps17
  go_wp2_with (go_at_call 25; refine (hb _).mono ?_; rintro e w' ⟨rfl, rfl⟩)
  refine bodyPost_ret (results_cell1 rfl bag_agg 4 bag_size _ _ ⟨w.heap.size + 1, 0, none⟩ (x.put q m).cells rfl ?_) rfl ?_
  · exact rd_row _ _ _ _ _ rfl (by simp [go_sem]) rfl
  · refine ⟨rfl, bel_setRow ((Below.refl _ _).alloc (Nat.le_refl _) _ |>.alloc (by simp) _) (by simp) _⟩

def Bag.has (x : Bag) (n : Nat) : Bool := (x.word (n / 64)).testBit (n % 64)
theorem Bag.has_at (x : Bag) (q r : Nat) (hr : r < 64) : x.has (64 * q + r) = (x.word q).testBit r := by
  unfold Bag.has
  rw [show (64 * q + r) / 64 = q from by omega, show (64 * q + r) % 64 = r from by omega]
theorem bit_and1 (y r : Nat) (hy : y < 18446744073709551616) : ∀ h : y / 2 ^ r < 18446744073709551616, decide (bits .and .u64 ((y / 2 ^ r : Nat) : Int) 1 = 1) = y.testBit r := by
  intro h
  have e := bits_and_u64_nat (y / 2 ^ r) 1 h (by omega)
  rw [show ((1 : Nat) : Int) = 1 from rfl] at e
  rw [e, nat_mask1]
  rw [Nat.testBit_eq_decide_div_mod_eq]
  by_cases hh : y / 2 ^ r % 2 = 1
  · simp [hh]
  · have : y / 2 ^ r % 2 = 0 := by omega
    simp [this]

set_option maxHeartbeats 1000000 in
theorem Has_out (x : Bag) (n : Int) (hn : ¬ (0 ≤ n ∧ n < 256)) (w : World) : Calls Tryd.prog 14 #[.agg x.cells.toArray, .int .i64 n] w fun e w' => e = .returned (.bool false) ∧ Below w.heap.size w w' := by
  have he : decide (0 ≤ n ∧ n < 256) = false := by simpa using hn
  have hb := in_any n
  rw [he] at hb
  clear he hn
  go_enter Tryd.func14, Tryd.ntmps14
  go_wp2_with (go_at_call 25; refine (hb _).mono ?_; rintro e w' ⟨rfl, rfl⟩)
  go_ret
  exact ⟨rfl, (Below.refl _ _).alloc (Nat.le_refl _) _⟩

set_option maxHeartbeats 1000000 in
theorem Has_in (x : Bag) (hx : x.ok) (q r : Nat) (hq : q < 4) (hr : r < 64) (w : World) : Calls Tryd.prog 14 #[.agg x.cells.toArray, .int .i64 (64 * q + r : Nat)] w fun e w' =>
    e = .returned (.bool (x.has (64 * q + r))) ∧ Below w.heap.size w w' := by
  rw [x.has_at q r hr]
  have hb := in_any (64 * q + r : Nat)
  rw [show decide (0 ≤ ((64 * q + r : Nat) : Int) ∧ ((64 * q + r : Nat) : Int) < 256) = true from by simp; omega] at hb
  obtain ⟨n, hn⟩ : ∃ n : Int, n = ((64 * q + r : Nat) : Int) := ⟨_, rfl⟩
  rw [← hn] at hb ⊢
  have h6 : n / 64 = (q : Int) := by omega
  have h63 : bits .and .i64 n 63 = (r : Int) := by rw [i64_and63 n (by omega) (by omega)]; omega
  have hc := x.cell_at q hq
  have HX := Lib.hid hx
  have HN := Lib.hid hn
  clear hn hx
  go_enter Tryd.func14, Tryd.ntmps14
  go_wp2_with (go_at_call 25; refine (hb _).mono ?_; rintro e w' ⟨rfl, rfl⟩)
  go_ret
  refine ⟨ret_bool ?_, (Below.refl _ _).alloc (Nat.le_refl _) _⟩
  have hl := x.word_lt HX.out q
  have e : ((x.word q : Int) / 2 ^ r) = ((x.word q / 2 ^ r : Nat) : Int) := by simp
  rw [← bit_and1 (x.word q) r hl (Nat.lt_of_le_of_lt (Nat.div_le_self _ _) hl), ← e]
  first | rfl | (apply Bool.eq_iff_iff.2; simp)

/-- What With does, whatever the number. -/
def Bag.with_ (x : Bag) (n : Int) : Bag := if 0 ≤ n ∧ n < 256 then x.put (n.toNat / 64) (2 ^ (n.toNat % 64)) else x
theorem With_any (x : Bag) (hx : x.ok) (n : Int) (w : World) : Calls Tryd.prog 17 #[.agg x.cells.toArray, .int .i64 n] w fun e w' =>
    e = .returned (.agg (x.with_ n).cells.toArray) ∧ Below w.heap.size w w' := by
  unfold Bag.with_
  by_cases h : 0 ≤ n ∧ n < 256
  · rw [if_pos h]
    have := With_in x hx (n.toNat / 64) (n.toNat % 64) (by omega) (by omega) w
    rw [show ((64 * (n.toNat / 64) + n.toNat % 64 : Nat) : Int) = n from by omega] at this
    exact this
  · rw [if_neg h]; exact With_out x n h w
theorem Has_any (x : Bag) (hx : x.ok) (n : Int) (w : World) : Calls Tryd.prog 14 #[.agg x.cells.toArray, .int .i64 n] w fun e w' =>
    e = .returned (.bool (decide (0 ≤ n ∧ n < 256) && x.has n.toNat)) ∧ Below w.heap.size w w' := by
  by_cases h : 0 ≤ n ∧ n < 256
  · have := Has_in x hx (n.toNat / 64) (n.toNat % 64) (by omega) (by omega) w
    rw [show 64 * (n.toNat / 64) + n.toNat % 64 = n.toNat from by omega, show ((n.toNat : Nat) : Int) = n from by omega] at this
    rw [show decide (0 ≤ n ∧ n < 256) = true from by simpa using h, Bool.true_and]
    exact this
  · rw [show decide (0 ≤ n ∧ n < 256) = false from by simpa using h, Bool.false_and]; exact Has_out x n h w

theorem or_lt (a b : Nat) (ha : a < 18446744073709551616) (hb : b < 18446744073709551616) : a ||| b < 18446744073709551616 := Nat.or_lt_two_pow (n := 64) ha hb
theorem Bag.put_ok (x : Bag) (hx : x.ok) (q m : Nat) (hm : m < 18446744073709551616) : (x.put q m).ok := by
  obtain ⟨h1, h2, h3, h4⟩ := hx
  unfold Bag.put
  split
  · exact ⟨or_lt _ _ h1 hm, h2, h3, h4⟩
  · exact ⟨h1, or_lt _ _ h2 hm, h3, h4⟩
  · exact ⟨h1, h2, or_lt _ _ h3 hm, h4⟩
  · exact ⟨h1, h2, h3, or_lt _ _ h4 hm⟩
theorem Bag.with_ok (x : Bag) (hx : x.ok) (n : Int) : (x.with_ n).ok := by
  unfold Bag.with_; split
  · exact x.put_ok hx _ _ (pow_lt64 _ (by omega))
  · exact hx
theorem Bag.put_has (x : Bag) (q r : Nat) (hq : q < 4) (hr : r < 64) (k : Nat) (hk : k < 256) : (x.put q (2 ^ r)).has k = (decide (k = 64 * q + r) || x.has k) := by
  have key : ∀ i, i < 4 → (x.put q (2 ^ r)).word i = if i = q then x.word q ||| 2 ^ r else x.word i := by
    intro i hi
    rcases q4 hq with rfl | rfl | rfl | rfl <;> rcases q4 hi with rfl | rfl | rfl | rfl <;> rfl
  unfold Bag.has
  rw [key _ (by omega)]
  by_cases h : k / 64 = q
  · rw [if_pos h, Nat.testBit_or, Nat.testBit_two_pow, h]
    have : (r = k % 64) ↔ (k = 64 * q + r) := by omega
    by_cases h2 : r = k % 64
    · simp [h2]; omega
    · have h3 : ¬ (k = 64 * q + r) := fun e => h2 (this.2 e)
      simp [h2, h3]
  · rw [if_neg h]
    have : ¬ (k = 64 * q + r) := by omega
    simp [this]
theorem Bag.with_has (x : Bag) (n : Int) (k : Nat) (hk : k < 256) : (x.with_ n).has k = (decide ((k : Int) = n) || x.has k) := by
  unfold Bag.with_; split
  · rename_i h
    rw [x.put_has _ _ (by omega) (by omega) k hk]
    congr 1
    apply decide_eq_decide.2
    omega
  · have : ¬ ((k : Int) = n) := by omega
    simp [this]
def Bag.zero : Bag := ⟨0, 0, 0, 0⟩
theorem Bag.zero_ok : Bag.zero.ok := by unfold Bag.ok Bag.zero; simp
theorem Bag.zero_has (k : Nat) : Bag.zero.has k = false := by
  unfold Bag.has Bag.zero Bag.word; split <;> simp
/-- The bag of a list. -/
def bagOf (l : List Int) : Bag := l.foldl Bag.with_ Bag.zero
theorem bagOf_snoc (l : List Int) (n : Int) : bagOf (l ++ [n]) = (bagOf l).with_ n := by simp [bagOf]
theorem bagOf_ok_has (l : List Int) : (bagOf l).ok ∧ ∀ k, k < 256 → (bagOf l).has k = decide ((k : Int) ∈ l) := by
  have : ∀ m : List Int, (bagOf m.reverse).ok ∧ ∀ k, k < 256 → (bagOf m.reverse).has k = decide ((k : Int) ∈ m) := by
    intro m
    induction m with
    | nil => exact ⟨Bag.zero_ok, fun k _ => by simp [bagOf, Bag.zero_has]⟩
    | cons n m ih =>
      rw [List.reverse_cons, bagOf_snoc]
      refine ⟨Bag.with_ok _ ih.1 _, fun k hk => ?_⟩
      rw [Bag.with_has _ _ _ hk, ih.2 k hk]
      simp
  have h := this l.reverse
  rw [List.reverse_reverse] at h
  refine ⟨h.1, fun k hk => ?_⟩
  rw [h.2 k hk]
  simp
end Go.Proofs.YtkeeipfglmpgjaaDoor
