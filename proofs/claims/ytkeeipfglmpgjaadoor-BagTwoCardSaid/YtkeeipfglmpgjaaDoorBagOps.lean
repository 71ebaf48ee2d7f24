/-
  bag.Or, And, Not: what they answer.
-/
import Derived.Test.YtkeeipfglmpgjaaDoorBagM2
import Derived.Laws.BitsAllLaws
namespace Go.Proofs.YtkeeipfglmpgjaaDoor
set_option linter.unusedSimpArgs false
set_option linter.unusedVariables false
open Go.RowKit
attribute [local go_sem ↓] run_load_bag run_store_bag run_load_arr
attribute [local go_sem] rd_drewN rd_drew aggLoad_ptr aggRes_some aggStore_row rd_new rd_alloc rd_row_far rd_row rowSz_set rowSz_at rowSz_lt rowSz_far rowSz_drewN rowSz_drew bag_one Bag.cells_length

/-- Two bags, word by word: the first k words done. -/
def Bag.mix (f : Nat → Nat → Nat) (x y : Bag) (k : Nat) : Bag := ⟨if 0 < k then f x.a y.a else x.a, if 1 < k then f x.b y.b else x.b, if 2 < k then f x.c y.c else x.c, if 3 < k then f x.d y.d else x.d⟩
theorem mix_zero (f : Nat → Nat → Nat) (x y : Bag) : x.mix f y 0 = x := rfl
theorem mix_cell (f : Nat → Nat → Nat) (x y : Bag) (k : Nat) (hk : k < 4) : (x.mix f y k).cells.toArray[k]? = some (.int .u64 (x.word k)) := by
  rcases q4 hk with rfl | rfl | rfl | rfl <;> rfl
theorem mix_set (f : Nat → Nat → Nat) (x y : Bag) (k : Nat) (hk : k < 4) : (x.mix f y k).cells.toArray.setIfInBounds k (.int .u64 (f (x.word k) (y.word k) : Nat)) = (x.mix f y (k + 1)).cells.toArray := by
  rcases q4 hk with rfl | rfl | rfl | rfl <;> rfl
theorem mix_word (f : Nat → Nat → Nat) (x y : Bag) (k : Nat) (hk : k < 4) : (x.mix f y 4).word k = f (x.word k) (y.word k) := by
  rcases q4 hk with rfl | rfl | rfl | rfl <;> rfl
def andNot (a b : Nat) : Nat := a &&& (18446744073709551615 - b)
def orF (a b : Nat) : Nat := a ||| b
def andF (a b : Nat) : Nat := a &&& b
theorem andNot_bit (a b j : Nat) (hb : b < 18446744073709551616) (hj : j < 64) : (andNot a b).testBit j = (a.testBit j && !b.testBit j) := by
  unfold andNot
  rw [Nat.testBit_and]
  congr 1
  have := Nat.testBit_two_pow_sub_succ (n := 64) (x := b) (by simpa using hb) j
  rw [show (18446744073709551615 - b) = 2 ^ 64 - (b + 1) from by omega, this]
  simp [hj]

theorem orW_lt (a b : Nat) (ha : a < 18446744073709551616) (hb : b < 18446744073709551616) : orF a b < 18446744073709551616 := Nat.or_lt_two_pow (n := 64) ha hb
theorem orW_ok (x y : Bag) (hx : x.ok) (hy : y.ok) : (x.mix orF y 4).ok := by
  obtain ⟨h1, h2, h3, h4⟩ := hx
  obtain ⟨g1, g2, g3, g4⟩ := hy
  exact ⟨orW_lt _ _ h1 g1, orW_lt _ _ h2 g2, orW_lt _ _ h3 g3, orW_lt _ _ h4 g4⟩
theorem orW_do (a b : Nat) (ha : a < 18446744073709551616) (hb : b < 18446744073709551616) (w : World) : Calls Tryd.prog 28 #[.int .u64 a, .int .u64 b] w fun e w' => e = .returned (.int .u64 (orF a b : Nat)) ∧ w = w' := by
  have hb : bits .or .u64 (a : Int) (b : Int) = ((orF a b : Nat) : Int) := bits_or_u64_nat a b ha hb
  go_enter Tryd.func28, Tryd.ntmps28
  go_wp2
  go_ret
  exact ⟨rfl, rfl⟩

set_option maxHeartbeats 1000000 in
theorem both_orW (x y : Bag) (hx : x.ok) (hy : y.ok) (w : World) : Calls Tryd.prog 27 #[.agg x.cells.toArray, .agg y.cells.toArray, .func (.func 28) #[] #[]] w fun e w' =>
    e = .returned (.agg (x.mix orF y 4).cells.toArray) ∧ Below w.heap.size w w' := by
  go_enter Tryd.func27, Tryd.ntmps27
  go_wp2
  go_loopw [11] (fun i wr => ∃ k : Nat, k ≤ 4 ∧ i = .int .i64 k ∧ Blk wr w.heap.size 29 (x.mix orF y k).cells.toArray ∧ (∃ cs, Blk wr (w.heap.size + 1 + 1) 29 cs ∧ cs.size = 4) ∧ Below w.heap.size w wr) (fun i _ => 4 - (intOf i).toNat)
  case atStart =>
    refine ⟨0, by omega, rfl, ((Blk.new w _ _).alloc _).alloc _, ⟨Bag.zero.cells.toArray, ?_, rfl⟩, (((Below.refl _ _).alloc (Nat.le_refl _) _).alloc (by simp) _).alloc (by simp; omega) _⟩
    have := Blk.new ((w.alloc (.cells x.cells.toArray 29)).alloc (.cells y.cells.toArray 29)) 29 Bag.zero.cells.toArray
    rw [World.size_alloc, World.size_alloc] at this
    exact this
  case round =>
    obtain ⟨k, hk, rfl, h1, ⟨cs, h2, h3⟩, hb⟩ := hrel
    by_cases hlt : k < 4
    · have hi := run_index_bag y k hlt
      have hc : wr.cell? ⟨w.heap.size, k, none⟩ = some (.int .u64 (x.word k)) := by rw [h1.cell k]; exact mix_cell orF x y k hlt
      have hf := h1.frozen k
      have HD := orW_do (x.word k) (y.word k) (x.word_lt hx k) (y.word_lt hy k)
      have HS := Lib.hid (mix_set orF x y k hlt)
      have HH := Lib.hid (And.intro h1 h2)
      have HB := Lib.hid hb
      have H3 := Lib.hid h3
      obtain ⟨r, hr⟩ : ∃ r, orF (x.word k) (y.word k) = r := ⟨_, rfl⟩
      rw [hr] at HD HS
      clear h1 h2 hb h3 hr
      go_wp2_with (go_at_call 28; refine (HD _).mono ?_; rintro e w' ⟨rfl, rfl⟩)
      go_roundw
      case rel =>
        refine ⟨k + 1, by omega, by go_num, ?_, ⟨cs, HH.out.2.far (by simp; omega) _, H3.out⟩, HB.out.setCell (by simp) _⟩
        rw [← HS.out]
        exact HH.out.1.set_ k _
      case measure => simp [intOf]; omega
    · obtain rfl : k = 4 := by omega
      have r1 : rd wr ⟨w.heap.size, 0, none⟩ 4 = some (x.mix orF y 4).cells := h1.rd_
      have s2 := rowSz_of h2
      rw [h3] at s2
      have HB := Lib.hid hb
      clear hb h1 h2
      go_wp2
      refine bodyPost_ret (results_cell1 rfl bag_agg 4 bag_size _ _ ⟨w.heap.size + 1 + 1, 0, none⟩ (x.mix orF y 4).cells rfl ?_) rfl ?_
      · exact rd_row _ _ _ _ _ rfl s2 rfl
      · exact ⟨rfl, bel_setRow HB.out (by omega) _⟩

set_option maxHeartbeats 1000000 in
theorem Or_any (x y : Bag) (hx : x.ok) (hy : y.ok) (w : World) : Calls Tryd.prog 18 #[.agg x.cells.toArray, .agg y.cells.toArray] w fun e w' => e = .returned (.agg (x.mix orF y 4).cells.toArray) ∧ Below w.heap.size w w' := by
  have HC := both_orW x y hx hy
  obtain ⟨z, hz⟩ : ∃ z, x.mix orF y 4 = z := ⟨_, rfl⟩
  rw [hz] at HC ⊢
  clear hz
  have hB0 : Below w.heap.size w (((w.alloc (.cells x.cells.toArray 29)).alloc (.cells y.cells.toArray 29)).alloc (.cells Bag.zero.cells.toArray 29)) := (((Below.refl _ w).alloc (Nat.le_refl _) _).alloc (by simp) _).alloc (by simp; omega) _
  have hblk : Blk (((w.alloc (.cells x.cells.toArray 29)).alloc (.cells y.cells.toArray 29)).alloc (.cells Bag.zero.cells.toArray 29)) (w.heap.size + 1 + 1) 29 Bag.zero.cells.toArray := by
    have := Blk.new ((w.alloc (.cells x.cells.toArray 29)).alloc (.cells y.cells.toArray 29)) 29 Bag.zero.cells.toArray
    rw [World.size_alloc, World.size_alloc] at this
    exact this
  have HB0 := Lib.hid hB0
  have HK := Lib.hid hblk
  clear hB0 hblk
  go_enter Tryd.func18, Tryd.ntmps18
  go_wp2_with (go_at_call 27; refine (HC _).mono ?_; rintro e w1 ⟨rfl, hb1⟩; have s1 := rowSz_of (HK.out.below hb1 HK.out.lt); rw [show Bag.zero.cells.toArray.size = 4 from rfl] at s1; have HB1 := Lib.hid hb1; clear hb1)
  refine bodyPost_ret (results_cell1 rfl bag_agg 4 bag_size _ _ ⟨w.heap.size + 1 + 1, 0, none⟩ z.cells rfl ?_) rfl ?_
  · exact rd_row _ _ _ _ _ rfl s1 rfl
  · exact ⟨rfl, bel_setRow (HB0.out.trans (HB1.out.mono (by simp; omega))) (by omega) _⟩

theorem andW_lt (a b : Nat) (ha : a < 18446744073709551616) (hb : b < 18446744073709551616) : andF a b < 18446744073709551616 := Nat.lt_of_le_of_lt Nat.and_le_left ha
theorem andW_ok (x y : Bag) (hx : x.ok) (hy : y.ok) : (x.mix andF y 4).ok := by
  obtain ⟨h1, h2, h3, h4⟩ := hx
  obtain ⟨g1, g2, g3, g4⟩ := hy
  exact ⟨andW_lt _ _ h1 g1, andW_lt _ _ h2 g2, andW_lt _ _ h3 g3, andW_lt _ _ h4 g4⟩
theorem andW_do (a b : Nat) (ha : a < 18446744073709551616) (hb : b < 18446744073709551616) (w : World) : Calls Tryd.prog 29 #[.int .u64 a, .int .u64 b] w fun e w' => e = .returned (.int .u64 (andF a b : Nat)) ∧ w = w' := by
  have hb : bits .and .u64 (a : Int) (b : Int) = ((andF a b : Nat) : Int) := bits_and_u64_nat a b ha hb
  go_enter Tryd.func29, Tryd.ntmps29
  go_wp2
  go_ret
  exact ⟨rfl, rfl⟩

set_option maxHeartbeats 1000000 in
theorem both_andW (x y : Bag) (hx : x.ok) (hy : y.ok) (w : World) : Calls Tryd.prog 27 #[.agg x.cells.toArray, .agg y.cells.toArray, .func (.func 29) #[] #[]] w fun e w' =>
    e = .returned (.agg (x.mix andF y 4).cells.toArray) ∧ Below w.heap.size w w' := by
  go_enter Tryd.func27, Tryd.ntmps27
  go_wp2
  go_loopw [11] (fun i wr => ∃ k : Nat, k ≤ 4 ∧ i = .int .i64 k ∧ Blk wr w.heap.size 29 (x.mix andF y k).cells.toArray ∧ (∃ cs, Blk wr (w.heap.size + 1 + 1) 29 cs ∧ cs.size = 4) ∧ Below w.heap.size w wr) (fun i _ => 4 - (intOf i).toNat)
  case atStart =>
    refine ⟨0, by omega, rfl, ((Blk.new w _ _).alloc _).alloc _, ⟨Bag.zero.cells.toArray, ?_, rfl⟩, (((Below.refl _ _).alloc (Nat.le_refl _) _).alloc (by simp) _).alloc (by simp; omega) _⟩
    have := Blk.new ((w.alloc (.cells x.cells.toArray 29)).alloc (.cells y.cells.toArray 29)) 29 Bag.zero.cells.toArray
    rw [World.size_alloc, World.size_alloc] at this
    exact this
  case round =>
    obtain ⟨k, hk, rfl, h1, ⟨cs, h2, h3⟩, hb⟩ := hrel
    by_cases hlt : k < 4
    · have hi := run_index_bag y k hlt
      have hc : wr.cell? ⟨w.heap.size, k, none⟩ = some (.int .u64 (x.word k)) := by rw [h1.cell k]; exact mix_cell andF x y k hlt
      have hf := h1.frozen k
      have HD := andW_do (x.word k) (y.word k) (x.word_lt hx k) (y.word_lt hy k)
      have HS := Lib.hid (mix_set andF x y k hlt)
      have HH := Lib.hid (And.intro h1 h2)
      have HB := Lib.hid hb
      have H3 := Lib.hid h3
      obtain ⟨r, hr⟩ : ∃ r, andF (x.word k) (y.word k) = r := ⟨_, rfl⟩
      rw [hr] at HD HS
      clear h1 h2 hb h3 hr
      go_wp2_with (go_at_call 29; refine (HD _).mono ?_; rintro e w' ⟨rfl, rfl⟩)
      go_roundw
      case rel =>
        refine ⟨k + 1, by omega, by go_num, ?_, ⟨cs, HH.out.2.far (by simp; omega) _, H3.out⟩, HB.out.setCell (by simp) _⟩
        rw [← HS.out]
        exact HH.out.1.set_ k _
      case measure => simp [intOf]; omega
    · obtain rfl : k = 4 := by omega
      have r1 : rd wr ⟨w.heap.size, 0, none⟩ 4 = some (x.mix andF y 4).cells := h1.rd_
      have s2 := rowSz_of h2
      rw [h3] at s2
      have HB := Lib.hid hb
      clear hb h1 h2
      go_wp2
      refine bodyPost_ret (results_cell1 rfl bag_agg 4 bag_size _ _ ⟨w.heap.size + 1 + 1, 0, none⟩ (x.mix andF y 4).cells rfl ?_) rfl ?_
      · exact rd_row _ _ _ _ _ rfl s2 rfl
      · exact ⟨rfl, bel_setRow HB.out (by omega) _⟩

set_option maxHeartbeats 1000000 in
theorem And_any (x y : Bag) (hx : x.ok) (hy : y.ok) (w : World) : Calls Tryd.prog 20 #[.agg x.cells.toArray, .agg y.cells.toArray] w fun e w' => e = .returned (.agg (x.mix andF y 4).cells.toArray) ∧ Below w.heap.size w w' := by
  have HC := both_andW x y hx hy
  obtain ⟨z, hz⟩ : ∃ z, x.mix andF y 4 = z := ⟨_, rfl⟩
  rw [hz] at HC ⊢
  clear hz
  have hB0 : Below w.heap.size w (((w.alloc (.cells x.cells.toArray 29)).alloc (.cells y.cells.toArray 29)).alloc (.cells Bag.zero.cells.toArray 29)) := (((Below.refl _ w).alloc (Nat.le_refl _) _).alloc (by simp) _).alloc (by simp; omega) _
  have hblk : Blk (((w.alloc (.cells x.cells.toArray 29)).alloc (.cells y.cells.toArray 29)).alloc (.cells Bag.zero.cells.toArray 29)) (w.heap.size + 1 + 1) 29 Bag.zero.cells.toArray := by
    have := Blk.new ((w.alloc (.cells x.cells.toArray 29)).alloc (.cells y.cells.toArray 29)) 29 Bag.zero.cells.toArray
    rw [World.size_alloc, World.size_alloc] at this
    exact this
  have HB0 := Lib.hid hB0
  have HK := Lib.hid hblk
  clear hB0 hblk
  go_enter Tryd.func20, Tryd.ntmps20
  go_wp2_with (go_at_call 27; refine (HC _).mono ?_; rintro e w1 ⟨rfl, hb1⟩; have s1 := rowSz_of (HK.out.below hb1 HK.out.lt); rw [show Bag.zero.cells.toArray.size = 4 from rfl] at s1; have HB1 := Lib.hid hb1; clear hb1)
  refine bodyPost_ret (results_cell1 rfl bag_agg 4 bag_size _ _ ⟨w.heap.size + 1 + 1, 0, none⟩ z.cells rfl ?_) rfl ?_
  · exact rd_row _ _ _ _ _ rfl s1 rfl
  · exact ⟨rfl, bel_setRow (HB0.out.trans (HB1.out.mono (by simp; omega))) (by omega) _⟩

theorem notW_lt (a b : Nat) (ha : a < 18446744073709551616) (hb : b < 18446744073709551616) : andNot a b < 18446744073709551616 := Nat.lt_of_le_of_lt Nat.and_le_left ha
theorem notW_ok (x y : Bag) (hx : x.ok) (hy : y.ok) : (x.mix andNot y 4).ok := by
  obtain ⟨h1, h2, h3, h4⟩ := hx
  obtain ⟨g1, g2, g3, g4⟩ := hy
  exact ⟨notW_lt _ _ h1 g1, notW_lt _ _ h2 g2, notW_lt _ _ h3 g3, notW_lt _ _ h4 g4⟩
theorem notW_do (a b : Nat) (ha : a < 18446744073709551616) (hb : b < 18446744073709551616) (w : World) : Calls Tryd.prog 30 #[.int .u64 a, .int .u64 b] w fun e w' => e = .returned (.int .u64 (andNot a b : Nat)) ∧ w = w' := by
  have hb : bits .andNot .u64 (a : Int) (b : Int) = ((andNot a b : Nat) : Int) := u64_andNot_nat a b ha hb
  go_enter Tryd.func30, Tryd.ntmps30
  go_wp2
  go_ret
  exact ⟨rfl, rfl⟩

set_option maxHeartbeats 1000000 in
theorem both_notW (x y : Bag) (hx : x.ok) (hy : y.ok) (w : World) : Calls Tryd.prog 27 #[.agg x.cells.toArray, .agg y.cells.toArray, .func (.func 30) #[] #[]] w fun e w' =>
    e = .returned (.agg (x.mix andNot y 4).cells.toArray) ∧ Below w.heap.size w w' := by
  go_enter Tryd.func27, Tryd.ntmps27
  go_wp2
  go_loopw [11] (fun i wr => ∃ k : Nat, k ≤ 4 ∧ i = .int .i64 k ∧ Blk wr w.heap.size 29 (x.mix andNot y k).cells.toArray ∧ (∃ cs, Blk wr (w.heap.size + 1 + 1) 29 cs ∧ cs.size = 4) ∧ Below w.heap.size w wr) (fun i _ => 4 - (intOf i).toNat)
  case atStart =>
    refine ⟨0, by omega, rfl, ((Blk.new w _ _).alloc _).alloc _, ⟨Bag.zero.cells.toArray, ?_, rfl⟩, (((Below.refl _ _).alloc (Nat.le_refl _) _).alloc (by simp) _).alloc (by simp; omega) _⟩
    have := Blk.new ((w.alloc (.cells x.cells.toArray 29)).alloc (.cells y.cells.toArray 29)) 29 Bag.zero.cells.toArray
    rw [World.size_alloc, World.size_alloc] at this
    exact this
  case round =>
    obtain ⟨k, hk, rfl, h1, ⟨cs, h2, h3⟩, hb⟩ := hrel
    by_cases hlt : k < 4
    · have hi := run_index_bag y k hlt
      have hc : wr.cell? ⟨w.heap.size, k, none⟩ = some (.int .u64 (x.word k)) := by rw [h1.cell k]; exact mix_cell andNot x y k hlt
      have hf := h1.frozen k
      have HD := notW_do (x.word k) (y.word k) (x.word_lt hx k) (y.word_lt hy k)
      have HS := Lib.hid (mix_set andNot x y k hlt)
      have HH := Lib.hid (And.intro h1 h2)
      have HB := Lib.hid hb
      have H3 := Lib.hid h3
      obtain ⟨r, hr⟩ : ∃ r, andNot (x.word k) (y.word k) = r := ⟨_, rfl⟩
      rw [hr] at HD HS
      clear h1 h2 hb h3 hr
      go_wp2_with (go_at_call 30; refine (HD _).mono ?_; rintro e w' ⟨rfl, rfl⟩)
      go_roundw
      case rel =>
        refine ⟨k + 1, by omega, by go_num, ?_, ⟨cs, HH.out.2.far (by simp; omega) _, H3.out⟩, HB.out.setCell (by simp) _⟩
        rw [← HS.out]
        exact HH.out.1.set_ k _
      case measure => simp [intOf]; omega
    · obtain rfl : k = 4 := by omega
      have r1 : rd wr ⟨w.heap.size, 0, none⟩ 4 = some (x.mix andNot y 4).cells := h1.rd_
      have s2 := rowSz_of h2
      rw [h3] at s2
      have HB := Lib.hid hb
      clear hb h1 h2
      go_wp2
      refine bodyPost_ret (results_cell1 rfl bag_agg 4 bag_size _ _ ⟨w.heap.size + 1 + 1, 0, none⟩ (x.mix andNot y 4).cells rfl ?_) rfl ?_
      · exact rd_row _ _ _ _ _ rfl s2 rfl
      · exact ⟨rfl, bel_setRow HB.out (by omega) _⟩

set_option maxHeartbeats 1000000 in
theorem Not_any (x y : Bag) (hx : x.ok) (hy : y.ok) (w : World) : Calls Tryd.prog 21 #[.agg x.cells.toArray, .agg y.cells.toArray] w fun e w' => e = .returned (.agg (x.mix andNot y 4).cells.toArray) ∧ Below w.heap.size w w' := by
  have HC := both_notW x y hx hy
  obtain ⟨z, hz⟩ : ∃ z, x.mix andNot y 4 = z := ⟨_, rfl⟩
  rw [hz] at HC ⊢
  clear hz
  have hB0 : Below w.heap.size w (((w.alloc (.cells x.cells.toArray 29)).alloc (.cells y.cells.toArray 29)).alloc (.cells Bag.zero.cells.toArray 29)) := (((Below.refl _ w).alloc (Nat.le_refl _) _).alloc (by simp) _).alloc (by simp; omega) _
  have hblk : Blk (((w.alloc (.cells x.cells.toArray 29)).alloc (.cells y.cells.toArray 29)).alloc (.cells Bag.zero.cells.toArray 29)) (w.heap.size + 1 + 1) 29 Bag.zero.cells.toArray := by
    have := Blk.new ((w.alloc (.cells x.cells.toArray 29)).alloc (.cells y.cells.toArray 29)) 29 Bag.zero.cells.toArray
    rw [World.size_alloc, World.size_alloc] at this
    exact this
  have HB0 := Lib.hid hB0
  have HK := Lib.hid hblk
  clear hB0 hblk
  go_enter Tryd.func21, Tryd.ntmps21
  go_wp2_with (go_at_call 27; refine (HC _).mono ?_; rintro e w1 ⟨rfl, hb1⟩; have s1 := rowSz_of (HK.out.below hb1 HK.out.lt); rw [show Bag.zero.cells.toArray.size = 4 from rfl] at s1; have HB1 := Lib.hid hb1; clear hb1)
  refine bodyPost_ret (results_cell1 rfl bag_agg 4 bag_size _ _ ⟨w.heap.size + 1 + 1, 0, none⟩ z.cells rfl ?_) rfl ?_
  · exact rd_row _ _ _ _ _ rfl s1 rfl
  · exact ⟨rfl, bel_setRow (HB0.out.trans (HB1.out.mono (by simp; omega))) (by omega) _⟩
end Go.Proofs.YtkeeipfglmpgjaaDoor
