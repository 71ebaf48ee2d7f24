/-
  BagAll: the walk.
-/
import Derived.Test.YtkeeipfglmpgjaaDoorBagFn
import Derived.Test.YtkeeipfglmpgjaaDoorSame03
import Derived.Test.YtkeeipfglmpgjaaDoorArgsB
namespace Go.Proofs.YtkeeipfglmpgjaaDoor
set_option linter.unusedSimpArgs false
set_option linter.unusedVariables false
open Go.RowKit
attribute [local go_sem ↓] run_load_bag run_store_bag run_load_arr
attribute [local go_sem] rd_drewN rd_drew aggLoad_ptr aggRes_some aggStore_row rd_new rd_alloc rd_row_far rd_row rowSz_set rowSz_at rowSz_lt rowSz_far rowSz_drewN rowSz_drew bag_one Bag.cells_length

theorem run_eql_func (f : Fn) (t : Array Value) (b : Array Value) (w : World) : (binOp .eql 25 (.func f t b) .nilFunc).run Tryd.prog w = .ok (.bool false) w := by kernel_rfl
attribute [local go_sem] run_eql_func
theorem int_size : ∀ w, (sizeOf 3).run Tryd.prog w = .ok 1 w := fun w => by kernel_rfl
theorem run_slice_int (w : World) (ρ : Operand → Value) (x : Operand) (lo hi mx : Option Operand) (d : Option Tmp) (ty : TypeId) (pos : String) (af : Array _) (g : Option _) :
    (execOp ρ ⟨d, .slice 22 x lo hi mx, ty, pos, af, g⟩).run Tryd.prog w = cutRes Tryd.prog 22 1 w (ρ x) (lo.map ρ) (hi.map ρ) (mx.map ρ) := run_slice_op _ _ 1 Tryd.underlying22 int_size w ρ x lo hi mx d ty pos af g
attribute [local go_sem ↓] run_slice_int
attribute [local go_sem] cutRes_hi cutA_zero

/-- What lies behind the calls of BagAll's own function. -/
def GotBox (W : World) (n₀ b7 b3 most : Nat) (pre : List Int) : Prop :=
  ∃ n A c, pre.length = n ∧ Boxed W b7 22 (.slice A n c) ∧ Own W n₀ 3 1 intC (.slice A n c) pre ∧ Boxed W b3 5 (.int .u8 most)
theorem got_yield (W w0 : World) (n₀ b7 b3 most : Nat) (pre : List Int) (v : Int) (h : GotBox W n₀ b7 b3 most pre) (hB : Below n₀ w0 W) (hz : n₀ ≤ w0.heap.size) (hlt : pre.length < most) (hl : pre.length < 256) (hne : b7 ≠ b3) (hle : n₀ ≤ b7) (hm : most < 256) :
    Calls Tryd.prog 10 #[.int .i64 v, .pointer (some ⟨b7, 0, none⟩), .pointer (some ⟨b3, 0, none⟩)] W fun e W' =>
      (e = .returned (.bool true) ∧ (GotBox W' n₀ b7 b3 most (pre ++ [v]) ∧ Below n₀ w0 W' ∧ (pre ++ [v]).length < most) ∧ Below n₀ W W') ∨ (e = .returned (.bool false) ∧ (GotBox W' n₀ b7 b3 most (pre ++ [v]) ∧ Below n₀ w0 W' ∧ (pre ++ [v]).length = most)) := by
  obtain ⟨n, A, c, hn, h1, h2, h3⟩ := h
  refine (yield_any W n₀ b7 b3 n A c pre v most hn h1 h2 h3 hne hle (Nat.le_trans hz hB.size) (by omega) hm).mono ?_
  rintro e W' ⟨rfl, A', c', k1, k2, k3, k4⟩
  have hg : GotBox W' n₀ b7 b3 most (pre ++ [v]) := ⟨n + 1, A', c', by simp [hn], k1, k2, k3⟩
  by_cases ht : n + 1 < most
  · exact .inl ⟨by simp [ht]; omega, ⟨hg, hB.trans k4, by simp [hn, ht]⟩, k4⟩
  · exact .inr ⟨by simp [ht], hg, hB.trans k4, by simp; omega⟩

set_option maxHeartbeats 1000000 in
theorem BagAll_long (A : Option Addr) (n c most : Nat) (w : World) (hn : 300 < n) (hn2 : n ≤ 9223372036854775807) (hg : 0 < w.heap.size) (hT : TabAt w) :
    Calls Tryd.prog 3 #[.slice A n c, .int .u8 most] w fun e w' => e = .returned (.bool true) ∧ Below w.heap.size w w' := by
  have hl := live03 (w.alloc (.cells #[.int .u8 most] 5)) (by simp) (hT.below ((Below.refl _ w).alloc (Nat.le_refl _) _) hg)
  clear hT
  go_enter Tryd.func3, Tryd.ntmps3
  go_wp2_with (go_at_call 6; refine hl.mono ?_; rintro e w1 ⟨rfl, hb⟩)
  go_ret
  exact ⟨rfl, ((Below.refl _ w).alloc (Nat.le_refl _) _).trans (hb.mono (by simp))⟩

set_option maxHeartbeats 1000000 in
theorem BagAll_main (A : Option Addr) (n c B most : Nat) (l : List Int) (w : World) (hn : l.length = n) (h : Sl w B 1 intC A l) (hB : B ≤ w.heap.size) (hn2 : n ≤ 300) (hm : most < 256) (hg : 0 < w.heap.size) (hT : TabAt w) :
    Calls Tryd.prog 3 #[.slice A n c, .int .u8 most] w fun e w' => e = .returned (.bool true) ∧ Below w.heap.size w w' := by
  have HT := Lib.hid hT
  have HN := Lib.hid hn
  have HH := Lib.hid h
  clear hT h
  have hok := (bagOf_ok_has l).1
  go_enter Tryd.func3, Tryd.ntmps3
  go_wp2_with fail
  refine (Of_any A n c B l _ hn (HH.out.alloc hB _) (by simp; omega) (by omega)).mono ?_
  rintro e w2 ⟨rfl, hb2⟩
  have hB2 : Below w.heap.size w w2 := ((Below.refl _ w).alloc (Nat.le_refl _) _).trans (hb2.mono (by simp))
  have b32 : Boxed w2 w.heap.size 5 (.int .u8 most) := by
    have h := Boxed.new w 5 (.int .u8 most)
    exact (hb2.block _ (by simp)).trans h
  have HB2 := Lib.hid hB2
  have H32 := Lib.hid b32
  have hz2 := hB2.size
  clear hb2 hB2 b32
  have HA := All_any (bagOf l)
  go_wp2_with fail
  refine (HA _).mono ?_
  rintro e w3 ⟨rfl, hw3⟩
  have r3 : rd w3 ⟨w2.heap.size, 0, none⟩ 4 = some (bagOf l).cells := by rw [hw3]; exact rd_new _ _ _ _ _ rfl rfl
  have hB3 : Below w.heap.size w w3 := by rw [hw3]; exact HB2.out.alloc hz2 _
  have b33 : Boxed w3 w.heap.size 5 (.int .u8 most) := by rw [hw3]; exact H32.out.alloc _
  have hz3 : w3.heap.size = w2.heap.size + 1 := by rw [hw3]; simp
  have HB3 := Lib.hid hB3
  have H33 := Lib.hid b33
  have R3 := Lib.hid r3
  clear hw3 HA hB3 b33 r3 H32 HB2
  go_wp2_with fail
  refine (List03_any A n c B l w3 hn (HH.out.below (HB3.out.mono hB)) (Nat.le_trans hB HB3.out.size) (by omega)).mono ?_
  rintro e w4 ⟨A4, c4, rfl, ho4, hb4⟩
  have hlen : (inList l 256).length ≤ 256 := inList_le l 256
  have hLx : (bagOf l).list = inList l 256 := list_bagOf l
  obtain ⟨L, hL⟩ : ∃ L, inList l 256 = L := ⟨_, rfl⟩
  rw [hL] at ho4 hlen hLx ⊢
  clear hL
  obtain ⟨m, hmL⟩ : ∃ m, L.length = m := ⟨_, rfl⟩
  rw [hmL] at ho4 hlen ⊢
  have hz4 : w3.heap.size ≤ w4.heap.size := hb4.size
  have hB5 : Below w.heap.size w (w4.alloc (.cells #[.slice none 0 0] 22)) := (HB3.out.trans (hb4.mono (by omega))).alloc (by omega) _
  have R5 := Lib.hid ((rd_below (hb4.trans ((Below.refl _ w4).alloc hz4 (.cells #[.slice none 0 0] 22))) _ _ (by simp; omega)).trans R3.out)
  have b35 : Boxed (w4.alloc (.cells #[.slice none 0 0] 22)) w.heap.size 5 (.int .u8 most) := Boxed.alloc (show Boxed w4 w.heap.size 5 (.int .u8 most) from (hb4.block _ (by omega)).trans H33.out) _
  have hG0 : GotBox (w4.alloc (.cells #[.slice none 0 0] 22)) w4.heap.size w4.heap.size w.heap.size most [] := ⟨0, none, 0, rfl, Boxed.new w4 _ _, Own.nil _ _ _ int_len, b35⟩
  obtain ⟨w5, hw5⟩ : ∃ w5, w4.alloc (.cells #[.slice none 0 0] 22) = w5 := ⟨_, rfl⟩
  have ho5 : Own w5 w3.heap.size 3 1 intC (.slice A4 m c4) L := by rw [← hw5]; exact ho4.alloc _
  have hz5 : w5.heap.size = w4.heap.size + 1 := by rw [← hw5]; simp
  rw [hw5] at hB5 R5 b35 hG0
  have v35 := b35.cell
  have HO5 := Lib.hid ho5
  have HO4 := Lib.hid ho4
  have HB5 := Lib.hid hB5
  have HG0 := Lib.hid hG0
  have HLx := Lib.hid hLx
  have HmL := Lib.hid hmL
  have HT5 := Lib.hid (HT.out.below hB5 hg)
  clear ho4 hb4 ho5 hB5 hG0 b35 hLx hmL HT HB3 H33 R3
  have hm0 : (0 : Nat) < 256 := by omega
  by_cases hmost : most = 0
  · have dz : decide (0 < most) = false := by simp [hmost]
    have dz2 : decide (0 < (most : Int)) = false := by simp [hmost]
    obtain ⟨got, hgt⟩ : ∃ got : List Int, got = [] := ⟨_, rfl⟩
    have hgot : got = L.take most := by rw [hgt, hmost]; simp
    have HG : Hid (GotBox w5 w4.heap.size w4.heap.size w.heap.size most got) := by rw [hgt]; exact HG0
    have hB6 := HB5.out
    have HT6 := HT5.out
    have HW6 := HO5.out
    obtain ⟨W6, hW6⟩ : ∃ W6, w5 = W6 := ⟨_, rfl⟩
    rw [hW6] at HG hB6 HT6 HW6 hw5 v35
    clear hgt hmost HG0 HB5 HT5 HO5 R5
    obtain ⟨gn, gA, gc, hgn, hg7, hgo, hg3⟩ := HG.out
    have v7 := hg7.cell
    have v3 := hg3.cell
    have hTW : TabAt W6 := HT6
    have hgs : Sl W6 W6.heap.size 1 intC gA got := hgo.sl'
    have hws : Sl W6 W6.heap.size 1 intC A4 L := HW6.sl'
    have hcap := HW6.cap.1
    have hlgot : gn ≤ 256 := by have := HmL.out; rw [← hgn, hgot, List.length_take]; omega
    have hsz6 := hB6.size
    have HB6 := Lib.hid hB6
    clear hg7 hgo hg3 hB6 HG HT6
    by_cases ht : most < m
    · have d1 : decide (most < m) = true := by simp [ht]
      have d2 : decide ((most : Int) < (m : Int)) = true := by simp; omega
      have hws2 : Sl W6 W6.heap.size 1 intC A4 (L.take most) := by
        have h := hws.cutA (lo := 0) (hi := most) (M := c4) (by omega) (by have := HmL.out; omega) (by omega)
        rw [cutA_zero] at h
        simpa using h
      have HS := Same03_any gA A4 gn most gc c4 W6.heap.size W6.heap.size got (L.take most) W6 hgn (by rw [List.length_take]; have := HmL.out; omega) hgs hws2 (by omega) (by omega)
      rw [show decide (got = L.take most) = true from by simp [hgot]] at HS
      have HL := fun k => live03 (W6.drewN k) (by show _ < W6.heap.size; omega) (hTW.below (below_drewN (Below.refl _ _) k) (by omega))
      clear hws hws2 hgs hTW
      go_wp2_with (first
        | (go_at_call 11; refine HS.mono ?_; rintro e w7 ⟨rfl, k, rfl⟩)
        | (go_at_call 6; refine (HL _).mono ?_; rintro e w8 ⟨rfl, hb8⟩))
      go_ret
      exact ⟨rfl, HB6.out.trans ((below_of_drewN hb8).mono hsz6)⟩
    · have d1 : decide (most < m) = false := by simp [ht]
      have d2 : decide ((most : Int) < (m : Int)) = false := by simp; omega
      have HS := Same03_any gA A4 gn m gc c4 W6.heap.size W6.heap.size got L W6 hgn HmL.out hgs hws (by omega) (by omega)
      rw [show decide (got = L) = true from by rw [hgot, List.take_of_length_le (by have := HmL.out; omega)]; simp] at HS
      have HL := fun k => live03 (W6.drewN k) (by show _ < W6.heap.size; omega) (hTW.below (below_drewN (Below.refl _ _) k) (by omega))
      clear hws hgs hTW
      go_wp2_with (first
        | (go_at_call 11; refine HS.mono ?_; rintro e w7 ⟨rfl, k, rfl⟩)
        | (go_at_call 6; refine (HL _).mono ?_; rintro e w8 ⟨rfl, hb8⟩))
      go_ret
      exact ⟨rfl, HB6.out.trans ((below_of_drewN hb8).mono hsz6)⟩
  · have dz : decide (0 < most) = true := by simp; omega
    have dz2 : decide (0 < (most : Int)) = true := by simp; omega
    clear hm0
    go_wp2_with (first | (simp only [hw5]) | fail)
    refine (All1_fn (.pointer (some ⟨w4.heap.size, 0, none⟩)) (.pointer (some ⟨w.heap.size, 0, none⟩)) w2.heap.size w4.heap.size (bagOf l) hok (by omega)
      (fun pre W => GotBox W w4.heap.size w4.heap.size w.heap.size most pre ∧ Below w4.heap.size w5 W ∧ pre.length < most)
      (fun pre W => GotBox W w4.heap.size w4.heap.size w.heap.size most pre ∧ Below w4.heap.size w5 W ∧ pre.length = most)
      (fun pre v W hJ hlt => got_yield W w5 w4.heap.size w4.heap.size w.heap.size most pre v hJ.1 hJ.2.1 (by omega) hJ.2.2 (by have h1 := HLx.out; have h2 := HmL.out; rw [h1, h2] at hlt; omega) (by omega) (Nat.le_refl _) hm)
      w5 R5.out HT5.out ⟨HG0.out, Below.refl _ _, by simp; omega⟩).mono ?_
    rintro e W6 ⟨⟨u, rfl⟩, hend⟩
    obtain ⟨got, hgot, hG, hb6⟩ : ∃ got, got = L.take most ∧ GotBox W6 w4.heap.size w4.heap.size w.heap.size most got ∧ Below w4.heap.size w5 W6 := by
      rcases hend with ⟨ys, hys, h1, h2, h3⟩ | ⟨pre, hp, h1, h2, h3⟩
      · refine ⟨ys, ?_, h1, h2⟩
        rw [HLx.out] at hys
        rw [hys] at h3 ⊢
        rw [List.take_of_length_le (by omega)]
      · refine ⟨pre, ?_, h1, h2⟩
        rw [HLx.out] at hp
        rw [← h3]
        exact List.prefix_iff_eq_take.1 hp
    have HG := Lib.hid hG
    have hB6 : Below w.heap.size w W6 := HB5.out.trans (hb6.mono (by omega))
    have HT6 : TabAt W6 := HT5.out.below hb6 (by omega)
    have HW6 : Own W6 w3.heap.size 3 1 intC (.slice A4 m c4) L := HO4.out.below ((show Below w4.heap.size w4 w5 from by rw [← hw5]; exact (Below.refl _ _).alloc (Nat.le_refl _) _).trans hb6) (Nat.le_refl _)
    clear hend hb6 hG HG0 HB5 HT5 HO5 R5 v35 hw5
    obtain ⟨gn, gA, gc, hgn, hg7, hgo, hg3⟩ := HG.out
    have v7 := hg7.cell
    have v3 := hg3.cell
    have hTW : TabAt W6 := HT6
    have hgs : Sl W6 W6.heap.size 1 intC gA got := hgo.sl'
    have hws : Sl W6 W6.heap.size 1 intC A4 L := HW6.sl'
    have hcap := HW6.cap.1
    have hlgot : gn ≤ 256 := by have := HmL.out; rw [← hgn, hgot, List.length_take]; omega
    have hsz6 := hB6.size
    have HB6 := Lib.hid hB6
    clear hg7 hgo hg3 hB6 HG HT6
    by_cases ht : most < m
    · have d1 : decide (most < m) = true := by simp [ht]
      have d2 : decide ((most : Int) < (m : Int)) = true := by simp; omega
      have hws2 : Sl W6 W6.heap.size 1 intC A4 (L.take most) := by
        have h := hws.cutA (lo := 0) (hi := most) (M := c4) (by omega) (by have := HmL.out; omega) (by omega)
        rw [cutA_zero] at h
        simpa using h
      have HS := Same03_any gA A4 gn most gc c4 W6.heap.size W6.heap.size got (L.take most) W6 hgn (by rw [List.length_take]; have := HmL.out; omega) hgs hws2 (by omega) (by omega)
      rw [show decide (got = L.take most) = true from by simp [hgot]] at HS
      have HL := fun k => live03 (W6.drewN k) (by show _ < W6.heap.size; omega) (hTW.below (below_drewN (Below.refl _ _) k) (by omega))
      clear hws hws2 hgs hTW
      go_wp2_with (first
        | (go_at_call 11; refine HS.mono ?_; rintro e w7 ⟨rfl, k, rfl⟩)
        | (go_at_call 6; refine (HL _).mono ?_; rintro e w8 ⟨rfl, hb8⟩))
      go_ret
      exact ⟨rfl, HB6.out.trans ((below_of_drewN hb8).mono hsz6)⟩
    · have d1 : decide (most < m) = false := by simp [ht]
      have d2 : decide ((most : Int) < (m : Int)) = false := by simp; omega
      have HS := Same03_any gA A4 gn m gc c4 W6.heap.size W6.heap.size got L W6 hgn HmL.out hgs hws (by omega) (by omega)
      rw [show decide (got = L) = true from by rw [hgot, List.take_of_length_le (by have := HmL.out; omega)]; simp] at HS
      have HL := fun k => live03 (W6.drewN k) (by show _ < W6.heap.size; omega) (hTW.below (below_drewN (Below.refl _ _) k) (by omega))
      clear hws hgs hTW
      go_wp2_with (first
        | (go_at_call 11; refine HS.mono ?_; rintro e w7 ⟨rfl, k, rfl⟩)
        | (go_at_call 6; refine (HL _).mono ?_; rintro e w8 ⟨rfl, hb8⟩))
      go_ret
      exact ⟨rfl, HB6.out.trans ((below_of_drewN hb8).mono hsz6)⟩

theorem BagAll_walk (W : World) (hfact : TabAt W ∧ 0 < W.heap.size) (a : Option Addr) (n c : Nat) (l : List Int) (hn : l.length = n) (sl : Sl W W.heap.size 1 intC a l) (_ : n ≤ c) (hm : c ≤ 9223372036854775807) (_ : ∀ x ∈ l, okInt x) (m : Int) (hw : (Lit.int .u8 m).wf = true) :
    Calls Tryd.prog 3 #[.slice a n c, .int .u8 m] W fun e w' => e = .returned (.bool true) ∧ Below W.heap.size W w' := by
  have hb := bounds_u8 hw
  obtain ⟨most, rfl⟩ : ∃ k : Nat, m = (k : Int) := ⟨m.toNat, by omega⟩
  by_cases h : n ≤ 300
  · exact BagAll_main a n c _ most l W hn sl (Nat.le_refl _) h (by omega) hfact.2 hfact.1
  · exact BagAll_long a n c most W (by omega) (by omega) hfact.2 hfact.1
end Go.Proofs.YtkeeipfglmpgjaaDoor
