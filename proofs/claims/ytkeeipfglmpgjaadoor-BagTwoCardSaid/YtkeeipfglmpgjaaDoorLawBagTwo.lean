/-
  BagTwo: the walk.
-/
import Derived.Test.YtkeeipfglmpgjaaDoorLaw03
import Derived.Test.YtkeeipfglmpgjaaDoorSame03
import Derived.Test.YtkeeipfglmpgjaaDoorArgsB
import Derived.Test.YtkeeipfglmpgjaaDoorBagOps
import Derived.Test.YtkeeipfglmpgjaaDoorRefTwo
namespace Go.Proofs.YtkeeipfglmpgjaaDoor
set_option linter.unusedSimpArgs false
set_option linter.unusedVariables false
open Go.RowKit
attribute [local go_sem ↓] run_load_bag run_store_bag run_load_arr
attribute [local go_sem] rd_drewN rd_drew aggLoad_ptr aggRes_some aggStore_row rd_new rd_alloc rd_row_far rd_row rowSz_set rowSz_at rowSz_lt rowSz_far rowSz_drewN rowSz_drew bag_one Bag.cells_length
attribute [local go_sem ↓] run_eqbag run_nebag

theorem mix_list (f : Nat → Nat → Nat) (p : Bool → Bool → Bool) (hf : ∀ a b j, a < 18446744073709551616 → b < 18446744073709551616 → j < 64 → (f a b).testBit j = p (a.testBit j) (b.testBit j)) (x y : Bag) (hx : x.ok) (hy : y.ok) :
    (x.mix f y 4).list = twoL p x.list y.list 256 := by
  rw [Bag.list_eq]
  unfold twoL
  congr 1
  apply List.filter_congr
  intro k hk
  have hk := List.mem_range.1 hk
  have e1 : (decide ((k : Int) ∈ x.list)) = x.has k := by
    have := x.mem_list k hk
    by_cases h : x.has k = true
    · rw [h]; simpa using this.2 h
    · simp only [Bool.not_eq_true] at h; rw [h]; simp only [h] at this; simpa using this
  have e2 : (decide ((k : Int) ∈ y.list)) = y.has k := by
    have := y.mem_list k hk
    by_cases h : y.has k = true
    · rw [h]; simpa using this.2 h
    · simp only [Bool.not_eq_true] at h; rw [h]; simp only [h] at this; simpa using this
  rw [e1, e2]
  unfold Bag.has
  rw [mix_word f x y _ (by omega)]
  exact hf _ _ _ (x.word_lt hx _) (y.word_lt hy _) (by omega)
theorem or_list (x y : Bag) (hx : x.ok) (hy : y.ok) : (x.mix orF y 4).list = twoL por x.list y.list 256 := mix_list orF por (fun a b j _ _ _ => by simp [orF, por]) x y hx hy
theorem and_list (x y : Bag) (hx : x.ok) (hy : y.ok) : (x.mix andF y 4).list = twoL pand x.list y.list 256 := mix_list andF pand (fun a b j _ _ _ => by simp [andF, pand]) x y hx hy
theorem not_list (x y : Bag) (hx : x.ok) (hy : y.ok) : (x.mix andNot y 4).list = twoL pnot x.list y.list 256 := mix_list andNot pnot (fun a b j _ hb hj => andNot_bit a b j hb hj) x y hx hy
theorem has_mix (f : Nat → Nat → Nat) (x y : Bag) (k : Nat) (hk : k < 256) : (x.mix f y 4).has k = (f (x.word (k / 64)) (y.word (k / 64))).testBit (k % 64) := by
  unfold Bag.has; rw [mix_word f x y _ (by omega)]
theorem and_or_not (x y : Bag) (hx : x.ok) (hy : y.ok) : (x.mix andF y 4).mix orF (x.mix andNot y 4) 4 = x :=
  Bag.ext_has _ _ (orW_ok _ _ (andW_ok x y hx hy) (notW_ok x y hx hy)) hx fun k hk => by
    rw [has_mix _ _ _ _ hk, mix_word _ _ _ _ (by omega), mix_word _ _ _ _ (by omega)]
    show (orF _ _).testBit _ = (x.word _).testBit _
    rw [show orF = fun a b => a ||| b from rfl]
    simp only [Nat.testBit_or]
    rw [andNot_bit _ _ _ (y.word_lt hy _) (by omega), show andF = fun a b => a &&& b from rfl]
    simp only [Nat.testBit_and]
    cases (x.word (k / 64)).testBit (k % 64) <;> cases (y.word (k / 64)).testBit (k % 64) <;> rfl
theorem and_and_not (x y : Bag) (hx : x.ok) (hy : y.ok) : (x.mix andF y 4).mix andF (x.mix andNot y 4) 4 = Bag.zero :=
  Bag.ext_has _ _ (andW_ok _ _ (andW_ok x y hx hy) (notW_ok x y hx hy)) Bag.zero_ok fun k hk => by
    rw [has_mix _ _ _ _ hk, mix_word _ _ _ _ (by omega), mix_word _ _ _ _ (by omega), Bag.zero_has]
    rw [show andF = fun a b => a &&& b from rfl]
    simp only [Nat.testBit_and]
    rw [andNot_bit _ _ _ (y.word_lt hy _) (by omega)]
    cases (x.word (k / 64)).testBit (k % 64) <;> cases (y.word (k / 64)).testBit (k % 64) <;> rfl

set_option maxHeartbeats 1000000 in
theorem BagTwo_long (A1 : Option Addr) (n1 c1 : Nat) (A2 : Option Addr) (n2 c2 : Nat) (w : World) (h1 : n1 ≤ 9223372036854775807) (h2 : n2 ≤ 9223372036854775807) (hn : 300 < n1 ∨ 300 < n2) (hg : 0 < w.heap.size) (hT : TabAt w) :
    Calls Tryd.prog 5 #[.slice A1 n1 c1, .slice A2 n2 c2] w fun e w' => e = .returned (.bool true) ∧ Below w.heap.size w w' := by
  have hl := live03 w hg hT
  clear hT
  by_cases h : 300 < n1
  · clear hn
    have hd : decide (300 < (n1 : Int)) = true := by simp; omega
    go_enter Tryd.func5, Tryd.ntmps5
    go_wp2_with (go_at_call 6; refine hl.mono ?_; rintro e w1 ⟨rfl, hb⟩)
    go_ret
    exact ⟨rfl, hb⟩
  · have h3 : 300 < n2 := by omega
    have hd : decide (300 < (n1 : Int)) = false := by simp; omega
    have hd : decide (300 < (n2 : Int)) = true := by simp; omega
    clear hn
    go_enter Tryd.func5, Tryd.ntmps5
    go_wp2_with (go_at_call 6; refine hl.mono ?_; rintro e w1 ⟨rfl, hb⟩)
    go_ret
    exact ⟨rfl, hb⟩

set_option maxHeartbeats 2000000 in
theorem BagTwo_main (A1 : Option Addr) (n1 c1 : Nat) (l : List Int) (A2 : Option Addr) (n2 c2 : Nat) (k : List Int) (B : Nat) (w : World) (hn1 : l.length = n1) (hs1 : Sl w B 1 intC A1 l) (hn2 : k.length = n2) (hs2 : Sl w B 1 intC A2 k) (hB : B ≤ w.heap.size) (h1 : n1 ≤ 300) (h2 : n2 ≤ 300) (hg : 0 < w.heap.size) (hT : TabAt w) :
    Calls Tryd.prog 5 #[.slice A1 n1 c1, .slice A2 n2 c2] w fun e w' => e = .returned (.bool true) ∧ Below w.heap.size w w' := by
  have HT := Lib.hid hT
  have HN1 := Lib.hid hn1
  have HN2 := Lib.hid hn2
  have HS1 := Lib.hid hs1
  have HS2 := Lib.hid hs2
  have oka := (bagOf_ok_has l).1
  have okb := (bagOf_ok_has k).1
  clear hT hs1 hs2
  have hd1 : decide (300 < (n1 : Int)) = false := by simp; omega
  have hd2 : decide (300 < (n2 : Int)) = false := by simp; omega
  go_enter Tryd.func5, Tryd.ntmps5
  go_wp2_with fail
  refine (Of_any A1 n1 c1 B l _ hn1 HS1.out hB (by omega)).mono ?_
  rintro e w1 ⟨rfl, hb1⟩
  have HB1 := Lib.hid hb1
  have hz1 := hb1.size
  clear hb1
  go_wp2_with fail
  refine (Of_any A2 n2 c2 B k _ hn2 (HS2.out.below (HB1.out.mono hB)) (Nat.le_trans hB hz1) (by omega)).mono ?_
  rintro e w2 ⟨rfl, hb2⟩
  have hz2 := hb2.size
  have HB2 := Lib.hid (HB1.out.trans (hb2.mono hz1))
  clear hb2 HB1
  go_wp2_with fail
  obtain ⟨w3, hw3⟩ : ∃ w3, ((((w2.alloc (.cells #[.int .u64 0, .int .u64 0, .int .u64 0, .int .u64 0] 29)).alloc (.cells #[.int .u64 0, .int .u64 0, .int .u64 0, .int .u64 0] 29)).setRow w2.heap.size (bagOf l).cells.toArray).setRow (w2.heap.size + 1) (bagOf k).cells.toArray) = w3 := ⟨_, rfl⟩
  have hB3 : Below w.heap.size w w3 := by
    rw [← hw3]
    exact bel_setRow (bel_setRow ((HB2.out.alloc (by omega) _).alloc (by simp; omega) _) (by omega) _) (by omega) _
  have ha3 : Blk w3 w2.heap.size 29 (bagOf l).cells.toArray := by
    rw [← hw3]
    exact (((Blk.new w2 _ _).alloc _).setRow _).setRow_far (by omega) _
  have hb3 : Blk w3 (w2.heap.size + 1) 29 (bagOf k).cells.toArray := by
    rw [← hw3]
    have := Blk.new (w2.alloc (.cells #[.int .u64 0, .int .u64 0, .int .u64 0, .int .u64 0] 29)) 29 Bag.zero.cells.toArray
    rw [World.size_alloc] at this
    exact (this.setRow_far (by omega) _).setRow _
  have hz3 := hb3.lt
  rw [hw3]
  clear hw3 HB2
  have HB3 := Lib.hid hB3
  have HK3 := Lib.hid (And.intro ha3 hb3)
  have hz03 := hB3.size
  clear hB3 ha3 hb3
  refine (List03_any A1 n1 c1 B l w3 hn1 (HS1.out.below (HB3.out.mono hB)) (Nat.le_trans hB hz03) (by omega)).mono ?_
  rintro e w4 ⟨A4, c4, rfl, ho4, hb4⟩
  have HLx := Lib.hid (list_bagOf l)
  have hlenX : (inList l 256).length ≤ 256 := inList_le l 256
  obtain ⟨X, hX⟩ : ∃ X, inList l 256 = X := ⟨_, rfl⟩
  rw [hX] at ho4 hlenX HLx ⊢
  obtain ⟨m1, hm1⟩ : ∃ m1, X.length = m1 := ⟨_, rfl⟩
  rw [hm1] at ho4 hlenX ⊢
  have Hm1 := Lib.hid hm1
  have HO4 := Lib.hid ho4
  have HB4 := Lib.hid hb4
  have hz4 := hb4.size
  clear ho4 hb4 hm1 hX
  go_wp2_with fail
  refine (List03_any A2 n2 c2 B k w4 hn2 (HS2.out.below ((HB3.out.trans (HB4.out.mono hz03)).mono hB)) (by omega) (by omega)).mono ?_
  rintro e w5 ⟨A5, c5, rfl, ho5, hb5⟩
  have HLy := Lib.hid (list_bagOf k)
  have hlenY : (inList k 256).length ≤ 256 := inList_le k 256
  obtain ⟨Y, hY⟩ : ∃ Y, inList k 256 = Y := ⟨_, rfl⟩
  rw [hY] at ho5 hlenY HLy ⊢
  obtain ⟨m2, hm2⟩ : ∃ m2, Y.length = m2 := ⟨_, rfl⟩
  rw [hm2] at ho5 hlenY ⊢
  have Hm2 := Lib.hid hm2
  have HO5 := Lib.hid ho5
  have hz5 := hb5.size
  have HO45 := Lib.hid (HO4.out.below hb5 (Nat.le_refl _))
  have HB5 := Lib.hid ((HB3.out.trans (HB4.out.mono hz03)).trans (hb5.mono (by omega)))
  have HK5 := Lib.hid (And.intro ((HK3.out.1.below HB4.out (by omega)).below hb5 (by omega)) ((HK3.out.2.below HB4.out (by omega)).below hb5 (by omega)))
  have HT5 := Lib.hid (HT.out.below HB5.out hg)
  have hg5 : 0 < w5.heap.size := by omega
  clear ho5 hb5 hm2 hY HB3 HB4 HK3 HO4 HT
  -- the bags by their own names
  have hla := HLx.out
  have hlb := HLy.out
  have hof : bagOf X = bagOf l := by rw [← hla]; exact Bag.of_list _ oka
  obtain ⟨a, ha⟩ : ∃ a, bagOf l = a := ⟨_, rfl⟩
  obtain ⟨b, hb⟩ : ∃ b, bagOf k = b := ⟨_, rfl⟩
  rw [ha] at hla oka HK5 hof ⊢
  rw [hb] at hlb okb HK5 ⊢
  clear ha hb HLx HLy
  have HLIST0 := List_any a oka
  have HOR := Or_any a b oka okb
  have HAND := And_any a b oka okb
  have HNOT := Not_any a b oka okb
  have h_or := or_list a b oka okb
  have h_and := and_list a b oka okb
  have h_not := not_list a b oka okb
  have ok_or := orW_ok a b oka okb
  have ok_and := andW_ok a b oka okb
  have ok_not := notW_ok a b oka okb
  have e_or := and_or_not a b oka okb
  have e_and := and_and_not a b oka okb
  rw [hla, hlb] at h_or h_and h_not
  rw [hla] at HLIST0
  obtain ⟨zo, hzo⟩ : ∃ z, a.mix orF b 4 = z := ⟨_, rfl⟩
  obtain ⟨za, hza⟩ : ∃ z, a.mix andF b 4 = z := ⟨_, rfl⟩
  obtain ⟨zn, hzn⟩ : ∃ z, a.mix andNot b 4 = z := ⟨_, rfl⟩
  rw [hzo] at HOR h_or ok_or
  rw [hza] at HAND h_and ok_and e_or e_and
  rw [hzn] at HNOT h_not ok_not e_or e_and
  clear hzo hza hzn
  have HLO := List_any zo ok_or
  have HLA := List_any za ok_and
  have HLN := List_any zn ok_not
  have HOR2 := Or_any za zn ok_and ok_not
  have HAND2 := And_any za zn ok_and ok_not
  rw [e_or] at HOR2
  rw [e_and] at HAND2
  rw [h_or] at HLO
  rw [h_and] at HLA
  rw [h_not] at HLN
  have le0 := twoL_le por X Y 256
  have le1 := twoL_le pand X Y 256
  have le2 := twoL_le pnot X Y 256
  have H0 := fun W h1 h2 hB => Two0_any A4 A5 m1 m2 c4 c5 w5.heap.size X Y W Hm1.out Hm2.out h1 h2 hB (by omega) (by omega)
  have H1 := fun W h1 h2 hB => Two1_any A4 A5 m1 m2 c4 c5 w5.heap.size X Y W Hm1.out Hm2.out h1 h2 hB (by omega) (by omega)
  have H2 := fun W h1 h2 hB => Two2_any A4 A5 m1 m2 c4 c5 w5.heap.size X Y W Hm1.out Hm2.out h1 h2 hB (by omega) (by omega)
  obtain ⟨T0, hT0⟩ : ∃ T, twoL por X Y 256 = T := ⟨_, rfl⟩
  obtain ⟨T1, hT1⟩ : ∃ T, twoL pand X Y 256 = T := ⟨_, rfl⟩
  obtain ⟨T2, hT2⟩ : ∃ T, twoL pnot X Y 256 = T := ⟨_, rfl⟩
  rw [hT0] at HLO le0
  rw [hT1] at HLA le1
  rw [hT2] at HLN le2
  simp only [hT0] at H0
  simp only [hT1] at H1
  simp only [hT2] at H2
  clear hT0 hT1 hT2 h_or h_and h_not e_or e_and
  obtain ⟨t0, ht0⟩ : ∃ n, T0.length = n := ⟨_, rfl⟩
  obtain ⟨t1, ht1⟩ : ∃ n, T1.length = n := ⟨_, rfl⟩
  obtain ⟨t2, ht2⟩ : ∃ n, T2.length = n := ⟨_, rfl⟩
  rw [ht0] at le0
  rw [ht1] at le1
  rw [ht2] at le2
  have Ht0 := Lib.hid ht0
  have Ht1 := Lib.hid ht1
  have Ht2 := Lib.hid ht2
  have HLa := Lib.hid hla
  have HLb := Lib.hid hlb
  clear ht0 ht1 ht2 hla hlb
  have HST : Hid (∀ x y : World, Hid (Below w5.heap.size w5 x) → Below x.heap.size x y → Hid (Below w5.heap.size w5 y)) := fun x y h hb => h.out.trans (hb.mono h.out.size)
  have HRA : Hid (∀ x : World, Hid (Below w5.heap.size w5 x) → rd x ⟨w2.heap.size, 0, none⟩ 4 = some a.cells) := fun x h => (HK5.out.1.below h.out HK5.out.1.lt).rd_
  have HRB : Hid (∀ x : World, Hid (Below w5.heap.size w5 x) → rd x ⟨w2.heap.size + 1, 0, none⟩ 4 = some b.cells) := fun x h => (HK5.out.2.below h.out HK5.out.2.lt).rd_
  have HTT : Hid (∀ x : World, Hid (Below w5.heap.size w5 x) → TabAt x ∧ 0 < x.heap.size) := fun x h => ⟨HT5.out.below h.out hg5, Nat.lt_of_lt_of_le hg5 h.out.size⟩
  have HSX : Hid (∀ x : World, Hid (Below w5.heap.size w5 x) → Sl x w5.heap.size 1 intC A4 X) := fun x h => HO45.out.sl'.below h.out
  have HSY : Hid (∀ x : World, Hid (Below w5.heap.size w5 x) → Sl x w5.heap.size 1 intC A5 Y) := fun x h => HO5.out.sl'.below h.out
  have HSZ : Hid (∀ x : World, Hid (Below w5.heap.size w5 x) → w5.heap.size ≤ x.heap.size) := fun x h => h.out.size
  have HF : Hid (∀ x : World, Hid (Below w5.heap.size w5 x) → Below w.heap.size w x) := fun x h => HB5.out.trans (h.out.mono HB5.out.size)
  have B5 : Hid (Below w5.heap.size w5 w5) := Below.refl _ _
  have r5 := HRA.out _ B5
  have q5 := HRB.out _ B5
  go_wp2_with (first
    | (go_at_call 18; (with_reducible refine (HOR _).mono ?_); rintro e w6 ⟨rfl, hb6⟩; have B6 := HST.out _ _ B5 hb6; clear hb6)
    | (go_at_call 16; (with_reducible refine (HLO _ (HTT.out _ B6).2 (HTT.out _ B6).1).mono ?_); rintro e w7 ⟨A7, c7, rfl, ho7, hb7⟩; rw [Ht0.out] at ho7 ⊢; have B7 := HST.out _ _ B6 hb7; have O7 := Lib.hid ho7; clear hb7 ho7)
    | (go_at_call 19; (with_reducible refine (H0 _ (HSX.out _ B7) (HSY.out _ B7) (HSZ.out _ B7)).mono ?_); rintro e w8 ⟨A8, c8, rfl, ho8, hb8⟩; rw [Ht0.out] at ho8 ⊢; have B8 := HST.out _ _ B7 hb8; have O8 := Lib.hid ho8.sl'; have O78 := Lib.hid ((O7.out.below hb8 (Nat.le_refl _)).sl'); clear hb8 ho8)
    | (go_at_call 11; (with_reducible refine (Same03_any A7 A8 _ _ c7 c8 _ _ T0 T0 _ Ht0.out Ht0.out O78.out O8.out (by omega) (by omega)).mono ?_); rintro e w9 ⟨rfl, k9, rfl⟩; rw [show decide (T0 = T0) = true from by simp]; have B9 : Hid (Below w5.heap.size w5 (w8.drewN k9)) := below_drewN B8.out _; have r9 := HRA.out _ B9; have q9 := HRB.out _ B9)
    | (go_at_call 20; (with_reducible refine (HAND _).mono ?_); rintro e w10 ⟨rfl, hb⟩; have B10 := HST.out _ _ B9 hb; clear hb)
    | (go_at_call 16; (with_reducible refine (HLA _ (HTT.out _ B10).2 (HTT.out _ B10).1).mono ?_); rintro e w11 ⟨A11, c11, rfl, ho, hb⟩; rw [Ht1.out] at ho ⊢; have B11 := HST.out _ _ B10 hb; have O11 := Lib.hid ho; clear hb ho)
    | (go_at_call 19; (with_reducible refine (H1 _ (HSX.out _ B11) (HSY.out _ B11) (HSZ.out _ B11)).mono ?_); rintro e w12 ⟨A12, c12, rfl, ho, hb⟩; rw [Ht1.out] at ho ⊢; have B12 := HST.out _ _ B11 hb; have O12 := Lib.hid ho.sl'; have P11 := Lib.hid ((O11.out.below hb (Nat.le_refl _)).sl'); clear hb ho)
    | (go_at_call 11; (with_reducible refine (Same03_any A11 A12 _ _ c11 c12 _ _ T1 T1 _ Ht1.out Ht1.out P11.out O12.out (by omega) (by omega)).mono ?_); rintro e w13 ⟨rfl, k13, rfl⟩; rw [show decide (T1 = T1) = true from by simp]; have B13 : Hid (Below w5.heap.size w5 (w12.drewN k13)) := below_drewN B12.out _; have r13 := HRA.out _ B13; have q13 := HRB.out _ B13)
    | (go_at_call 21; (with_reducible refine (HNOT _).mono ?_); rintro e w14 ⟨rfl, hb⟩; have B14 := HST.out _ _ B13 hb; clear hb)
    | (go_at_call 16; (with_reducible refine (HLN _ (HTT.out _ B14).2 (HTT.out _ B14).1).mono ?_); rintro e w15 ⟨A15, c15, rfl, ho, hb⟩; rw [Ht2.out] at ho ⊢; have B15 := HST.out _ _ B14 hb; have O15 := Lib.hid ho; clear hb ho)
    | (go_at_call 19; (with_reducible refine (H2 _ (HSX.out _ B15) (HSY.out _ B15) (HSZ.out _ B15)).mono ?_); rintro e w16 ⟨A16, c16, rfl, ho, hb⟩; rw [Ht2.out] at ho ⊢; have B16 := HST.out _ _ B15 hb; have O16 := Lib.hid ho.sl'; have P15 := Lib.hid ((O15.out.below hb (Nat.le_refl _)).sl'); clear hb ho)
    | (go_at_call 11; (with_reducible refine (Same03_any A15 A16 _ _ c15 c16 _ _ T2 T2 _ Ht2.out Ht2.out P15.out O16.out (by omega) (by omega)).mono ?_); rintro e w17 ⟨rfl, k17, rfl⟩; rw [show decide (T2 = T2) = true from by simp]; have B17 : Hid (Below w5.heap.size w5 (w16.drewN k17)) := below_drewN B16.out _; have r17 := HRA.out _ B17; have q17 := HRB.out _ B17)
    | fail)
  have B17 := B17
  obtain ⟨wv, hwv⟩ : ∃ v, w16.drewN k17 = v := ⟨_, rfl⟩
  rw [hwv] at B17 r17 q17 ⊢
  clear hwv
  have HSAMEXY := fun W h1 h2 => Same03_any A4 A5 m1 m2 c4 c5 w5.heap.size w5.heap.size X Y W Hm1.out Hm2.out h1 h2 (by omega) (by omega)
  have hexy : decide (X = Y) = decide (a = b) := by
    apply decide_eq_decide.2
    exact ⟨fun h => Bag.ext_list a b oka okb (by rw [HLa.out, HLb.out, h]), fun h => by rw [← HLa.out, ← HLb.out, h]⟩
  simp only [hexy] at HSAMEXY
  obtain ⟨ee, hee⟩ : ∃ ee, decide (a = b) = ee := ⟨_, rfl⟩
  simp only [hee] at HSAMEXY
  have hzero : ∀ w, (binOp .neq 29 (.agg Bag.zero.cells.toArray) (.agg #[.int .u64 0, .int .u64 0, .int .u64 0, .int .u64 0])).run Tryd.prog w = .ok (.bool false) w := fun w => by
    have := run_nebag w Bag.zero Bag.zero
    simpa [Bag.zero, Bag.cells] using this
  have KS : Hid (∀ x : World, Hid (Below w5.heap.size w5 x) → (rd x ⟨w2.heap.size, 0, none⟩ 4 = some a.cells ∧ rd x ⟨w2.heap.size + 1, 0, none⟩ 4 = some b.cells ∧ Below w5.heap.size w5 x)) := fun x h => ⟨HRA.out x h, HRB.out x h, h.out⟩
  have BD : Hid (Below w5.heap.size w5 wv.drew) := B17.out.drew
  have Hof := Lib.hid hof
  have HL0 := Lib.hid HLIST0
  clear HOR HLO HLA HLN H0 H1 H2 HLIST0 hexy r5 q5 r9 q9 r13 q13 r17 q17 hof
  go_region_held3 (fun x => rd x ⟨w2.heap.size, 0, none⟩ 4 = some a.cells ∧ rd x ⟨w2.heap.size + 1, 0, none⟩ 4 = some b.cells ∧ Below w5.heap.size w5 x) (exact KS.out _ (by assumption)) (first
    | (go_simp; go_at_call 11; refine (HSAMEXY _ (HSX.out _ BD) (HSY.out _ BD)).mono ?_; rintro e w18 ⟨rfl, k18, rfl⟩; have B18 : Hid (Below w5.heap.size w5 (wv.drewN (1 + k18))) := below_drewN B17.out _)
    | (go_simp; go_at_call 21; (with_reducible refine (HNOT _).mono ?_); rintro e w19 ⟨rfl, hb⟩; have hB := HST.out _ _ (by assumption) hb; clear hb)
    | (go_simp; go_at_call 20; (with_reducible refine (HAND _).mono ?_); rintro e w19 ⟨rfl, hb⟩; have hB := HST.out _ _ (by assumption) hb; clear hb)
    | (go_simp; go_at_call 20; (with_reducible refine (HAND2 _).mono ?_); rintro e w19 ⟨rfl, hb⟩; have hB := HST.out _ _ (by assumption) hb; clear hb)
    | (go_simp; go_at_call 18; (with_reducible refine (HOR2 _).mono ?_); rintro e w19 ⟨rfl, hb⟩; have hB := HST.out _ _ (by assumption) hb; clear hb)
    | fail)
  have BL : Hid (Below w5.heap.size w5 w19) := by assumption
  clear HSAMEXY HNOT HAND HAND2 HOR2 hzero
  have HLIST0 := HL0.out
  go_wp2_with fail
  have BLD : Hid (Below w5.heap.size w5 w19.drew) := BL.out.drew
  have RA := HRA.out _ BL
  have RB := HRB.out _ BL
  have haa : decide (a = a) = true := by simp
  go_region_held3 (fun x => rd x ⟨w2.heap.size, 0, none⟩ 4 = some a.cells ∧ rd x ⟨w2.heap.size + 1, 0, none⟩ 4 = some b.cells ∧ Below w5.heap.size w5 x) (exact KS.out _ (by assumption)) (first
    | (go_simp; go_at_call 16; (with_reducible refine (HLIST0 _ (HTT.out _ BLD).2 (HTT.out _ BLD).1).mono ?_); rintro e w20 ⟨A20, c20, rfl, ho, hb⟩; rw [Hm1.out] at ho ⊢; have B20 := HST.out _ _ BLD hb; have O20 := Lib.hid ho.sl'; clear hb ho)
    | (go_simp; go_at_call 7; refine (Of_any A20 m1 c20 _ X w20 Hm1.out O20.out (Nat.le_refl _) (by rw [Hm1.out]; omega)).mono ?_; rw [Hof.out]; rintro e w21 ⟨rfl, hb⟩; have B21 := HST.out _ _ B20 hb; clear hb)
    | (go_simp; go_at_call 6; refine (live03 w21 (HTT.out _ B21).2 (HTT.out _ B21).1).mono ?_; rintro e w22 ⟨rfl, hb⟩; have B22 := HST.out _ _ B21 hb; clear hb)
    | fail)
  go_wp2
  go_ret
  exact ⟨rfl, HF.out _ B22⟩

theorem BagTwo_walk (W : World) (hfact : TabAt W ∧ 0 < W.heap.size) (a : Option Addr) (n c : Nat) (l : List Int) (hn : l.length = n) (sl : Sl W W.heap.size 1 intC a l) (_ : n ≤ c) (hm : c ≤ 9223372036854775807) (_ : ∀ x ∈ l, okInt x)
    (a2 : Option Addr) (n2 c2 : Nat) (l2 : List Int) (hn2 : l2.length = n2) (sl2 : Sl W W.heap.size 1 intC a2 l2) (_ : n2 ≤ c2) (hm2 : c2 ≤ 9223372036854775807) (_ : ∀ x ∈ l2, okInt x) :
    Calls Tryd.prog 5 #[.slice a n c, .slice a2 n2 c2] W fun e w' => e = .returned (.bool true) ∧ Below W.heap.size W w' := by
  by_cases h : n ≤ 300 ∧ n2 ≤ 300
  · exact BagTwo_main a n c l a2 n2 c2 l2 _ W hn sl hn2 sl2 (Nat.le_refl _) h.1 h.2 hfact.2 hfact.1
  · exact BagTwo_long a n c a2 n2 c2 W (by omega) (by omega) (by omega) hfact.2 hfact.1
end Go.Proofs.YtkeeipfglmpgjaaDoor
