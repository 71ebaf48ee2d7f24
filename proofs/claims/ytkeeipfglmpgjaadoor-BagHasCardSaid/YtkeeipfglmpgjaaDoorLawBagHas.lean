/-
  BagHas: the walk.
-/
import Derived.Test.YtkeeipfglmpgjaaDoorLaw03
import Derived.Test.YtkeeipfglmpgjaaDoorSame03
import Derived.Test.YtkeeipfglmpgjaaDoorArgsB
namespace Go.Proofs.YtkeeipfglmpgjaaDoor
set_option linter.unusedSimpArgs false
set_option linter.unusedVariables false
open Go.RowKit
attribute [local go_sem ↓] run_load_bag run_store_bag run_load_arr
attribute [local go_sem] rd_drewN rd_drew aggLoad_ptr aggRes_some aggStore_row rd_new rd_alloc rd_row_far rd_row rowSz_set rowSz_at rowSz_lt rowSz_far rowSz_drewN rowSz_drew bag_one Bag.cells_length

set_option maxHeartbeats 1000000 in
theorem BagHas_long (A : Option Addr) (n c : Nat) (x : Int) (w : World) (hn : 300 < n) (hn2 : n ≤ 9223372036854775807) (hg : 0 < w.heap.size) (hT : TabAt w) :
    Calls Tryd.prog 4 #[.slice A n c, .int .i64 x] w fun e w' => e = .returned (.bool true) ∧ Below w.heap.size w w' := by
  have hl := live03 w hg hT
  clear hT
  go_enter Tryd.func4, Tryd.ntmps4
  go_wp2_with (go_at_call 6; refine hl.mono ?_; rintro e w1 ⟨rfl, hb⟩)
  go_ret
  exact ⟨rfl, hb⟩

set_option maxHeartbeats 2000000 in
theorem BagHas_main (A : Option Addr) (n c B : Nat) (x : Int) (l : List Int) (w : World) (hn : l.length = n) (h : Sl w B 1 intC A l) (hB : B ≤ w.heap.size) (hn2 : n ≤ 300) (hg : 0 < w.heap.size) (hT : TabAt w) :
    Calls Tryd.prog 4 #[.slice A n c, .int .i64 x] w fun e w' => e = .returned (.bool true) ∧ Below w.heap.size w w' := by
  have HT := Lib.hid hT
  have HN := Lib.hid hn
  have HH := Lib.hid h
  clear hT h
  have hok := (bagOf_ok_has l).1
  go_enter Tryd.func4, Tryd.ntmps4
  go_wp2_with fail
  refine (Of_any A n c B l _ hn HH.out hB (by omega)).mono ?_
  rintro e w1 ⟨rfl, hb1⟩
  have hz1 := hb1.size
  have HB1 := Lib.hid hb1
  clear hb1
  go_wp2_with fail
  obtain ⟨w2, hw2⟩ : ∃ w2, (w1.alloc (.cells #[.int .u64 0, .int .u64 0, .int .u64 0, .int .u64 0] 29)).setRow w1.heap.size (bagOf l).cells.toArray = w2 := ⟨_, rfl⟩
  have hB2 : Below w.heap.size w w2 := by rw [← hw2]; exact bel_setRow (HB1.out.alloc hz1 _) hz1 _
  have hblk : Blk w2 w1.heap.size 29 (bagOf l).cells.toArray := by rw [← hw2]; exact (Blk.new w1 _ _).setRow _
  rw [hw2]
  clear hw2 HB1
  have HB2 := Lib.hid hB2
  have HK2 := Lib.hid hblk
  have hz2 := hblk.lt
  clear hB2 hblk
  refine (List03_any A n c B l w2 hn (HH.out.below (HB2.out.mono hB)) (Nat.le_trans hB HB2.out.size) (by omega)).mono ?_
  rintro e w3 ⟨A3, c3, rfl, ho3, hb3⟩
  have hlen3 : (inList l 256).length ≤ 256 := inList_le l 256
  have HLx := Lib.hid (list_bagOf l)
  obtain ⟨L, hL⟩ : ∃ L, inList l 256 = L := ⟨_, rfl⟩
  rw [hL] at ho3 hlen3 HLx ⊢
  obtain ⟨m, hmL⟩ : ∃ m, L.length = m := ⟨_, rfl⟩
  rw [hmL] at ho3 hlen3 ⊢
  have HL := Lib.hid hL
  have HmL := Lib.hid hmL
  have HO3 := Lib.hid ho3
  have HB3 := Lib.hid hb3
  have hz3 := hb3.size
  have hB3 : Below w.heap.size w w3 := HB2.out.trans (hb3.mono (by omega))
  have HBB3 := Lib.hid hB3
  have hz03 := hB3.size
  clear ho3 hb3 hL hmL hB3
  go_wp2_with (first
    | (at_builtin; refine wpList_append_sl rfl (.tmp 18) (.tmp 19) 22 rfl intElem w3.heap.size intC int_one (.slice (some ⟨w3.heap.size, 0, none⟩) 0 0) [] 0 rfl rfl (Own.empty w3 3 int_len (Nat.le_refl _)) B A n c l rfl HN.out ((HH.out.below (HBB3.out.mono hB)).alloc (by omega) _) (by omega) (by simp) ?_; intro A4 c4 w4 ho4 hg4 _; rw [Nat.zero_add, List.nil_append] at ho4; have HO4 := Lib.hid ho4; have HB4 := Lib.hid (((Below.refl w3.heap.size w3).alloc (Nat.le_refl _) _).grown hg4 (by simp) (by intro k hk; simp [Value.ownBlock] at hk; omega)); clear ho4 hg4)
    | (at_builtin; refine wpList_append_sl rfl (.tmp 20) (.tmp 22) 22 rfl intElem w3.heap.size intC int_one (.slice A4 n c4) l n HN.out rfl (HO4.out.alloc _) (w4.heap.size + 1) (some ⟨w4.heap.size, 0, none⟩) 1 1 [x] rfl rfl (Sl.new w4 intC 1 int_len 3 x) (by omega) (le_alloc HB4.out.size _) ?_; intro A5 c5 w5 ho5 hg5 _; have HO5 := Lib.hid ho5; have HB5 := Lib.hid ((HO4.out.alloc _).below_grown (HB4.out.alloc HB4.out.size _) hg5 (Nat.le_refl _) (le_alloc HB4.out.size _)); clear ho5 hg5)
    | fail)
  have hB5 : Below w.heap.size w w5 := HBB3.out.trans (HB5.out.mono hz03)
  refine (List03_any A5 (n + 1) c5 w5.heap.size (l ++ [x]) w5 (by rw [List.length_append, HN.out]; rfl) HO5.out.sl' (Nat.le_refl _) (by rw [List.length_append, HN.out]; simp; omega)).mono ?_
  rintro e w6 ⟨A6, c6, rfl, ho6, hb6⟩
  have HLy := Lib.hid (list_bagOf (l ++ [x]))
  have hlen6 : (inList (l ++ [x]) 256).length ≤ 256 := inList_le (l ++ [x]) 256
  obtain ⟨Y, hY⟩ : ∃ Y, inList (l ++ [x]) 256 = Y := ⟨_, rfl⟩
  rw [hY] at ho6 hlen6 HLy ⊢
  obtain ⟨p, hpY⟩ : ∃ p, Y.length = p := ⟨_, rfl⟩
  rw [hpY] at ho6 hlen6 ⊢
  have hz6 := hb6.size
  have hz5 := HB5.out.size
  have hB6 : Below w3.heap.size w3 w6 := HB5.out.trans (hb6.mono hz5)
  have HBB6 := Lib.hid (HBB3.out.trans (hB6.mono hz03))
  have HO36 := Lib.hid (HO3.out.below hB6 (Nat.le_refl _))
  have HO6 := Lib.hid ho6
  have HpY := Lib.hid hpY
  have HY := Lib.hid hY
  have HK6 := Lib.hid ((HK2.out.below HB3.out hz2).below hB6 (by omega))
  have hz36 := hB6.size
  clear ho6 hb6 hY hpY hB6 hB5 HO5 HO4 HB4 HB5 HO3 HB3 HBB3 HB2 HK2
  have r6 : rd w6 ⟨w1.heap.size, 0, none⟩ 4 = some (bagOf l).cells := HK6.out.rd_
  have HT6 := Lib.hid (HT.out.below HBB6.out hg)
  go_wp2_with fail
  refine (First_any (bagOf l) hok w6 (by have := HBB6.out.size; omega) HT6.out).mono ?_
  rintro e w7 ⟨rfl, hb7⟩
  rw [HLx.out]
  have hB7 : Below w.heap.size w w7 := HBB6.out.trans (hb7.mono HBB6.out.size)
  have hz7 := hb7.size
  have hK7 := HK6.out.below hb7 (by omega)
  have HO37 := Lib.hid (HO36.out.below hb7 (Nat.le_refl _))
  have HO7 := Lib.hid (HO6.out.below hb7 (Nat.le_refl _))
  have r7 : rd w7 ⟨w1.heap.size, 0, none⟩ 4 = some (bagOf l).cells := hK7.rd_
  have HB7 := Lib.hid hB7
  have HK7 := Lib.hid hK7
  have HT7 := Lib.hid (HT6.out.below hb7 (by have := HBB6.out.size; omega))
  clear hB7 hK7 hb7 r6 HO36 HO6 HK6 HBB6 HT6
  have HLEN := Len_any (bagOf l) hok
  rw [show (bagOf l).len = m from by rw [Bag.len_eq, HLx.out, HmL.out]] at HLEN
  have HHAS := Has_any (bagOf l) hok x
  rw [show (decide (0 ≤ x ∧ x < 256) && (bagOf l).has x.toNat) = decide (x ∈ L) from by
    have h1 := inList_mem l x
    rw [HL.out] at h1
    by_cases hx : 0 ≤ x ∧ x < 256
    · have h2 := (bagOf_ok_has l).2 x.toNat (by omega)
      rw [show ((x.toNat : Nat) : Int) = x from by omega] at h2
      rw [h2, show decide (0 ≤ x ∧ x < 256) = true from by simpa using hx, Bool.true_and]
      apply decide_eq_decide.2
      rw [h1]; exact ⟨fun h => ⟨hx.1, hx.2, h⟩, fun h => h.2.2⟩
    · rw [show decide (0 ≤ x ∧ x < 256) = false from by simpa using hx, Bool.false_and]
      have : ¬ x ∈ L := fun h => hx ⟨(h1.1 h).1, (h1.1 h).2.1⟩
      simp [this]] at HHAS
  have HHAS3 := fun W hW => Has03_any A3 m c3 w7.heap.size L x W HmL.out hW (by have := HmL.out; omega)
  obtain ⟨hv, hhv⟩ : ∃ hv, decide (x ∈ L) = hv := ⟨_, rfl⟩
  rw [hhv] at HHAS
  simp only [hhv] at HHAS3
  clear hhv
  have HWITH := With_any (bagOf l) hok x
  have hok2 : ((bagOf l).with_ x).ok := Bag.with_ok _ hok x
  have HLIST := List_any (bagOf l) hok
  have HLIST2 := List_any ((bagOf l).with_ x) hok2
  rw [HLx.out] at HLIST
  rw [show ((bagOf l).with_ x).list = Y from by rw [← bagOf_snoc]; exact HLy.out] at HLIST2
  obtain ⟨y, hy⟩ : ∃ y, (bagOf l).with_ x = y := ⟨_, rfl⟩
  rw [hy] at HWITH HLIST2
  clear hy hok2
  have hB37 : w3.heap.size ≤ w7.heap.size := by omega
  have hstep : ∀ a b : World, Hid (Below w7.heap.size w7 a) → Below a.heap.size a b → Hid (Below w7.heap.size w7 b) := fun a b h hb => h.out.trans (hb.mono h.out.size)
  have hrd : ∀ a : World, Hid (Below w7.heap.size w7 a) → rd a ⟨w1.heap.size, 0, none⟩ 4 = some (bagOf l).cells := fun a h => (HK7.out.below h.out HK7.out.lt).rd_
  have htab : ∀ a : World, Hid (Below w7.heap.size w7 a) → TabAt a ∧ 0 < a.heap.size := fun a h => ⟨HT7.out.below h.out (by have := HB7.out.size; omega), by have := HB7.out.size; have := h.out.size; omega⟩
  have hL3 : ∀ a : World, Hid (Below w7.heap.size w7 a) → Sl a w7.heap.size 1 intC A3 L := fun a h => HO37.out.sl'.below h.out
  have hL6 : ∀ a : World, Hid (Below w7.heap.size w7 a) → Sl a w7.heap.size 1 intC A6 Y := fun a h => HO7.out.sl'.below h.out
  have B7 : Hid (Below w7.heap.size w7 w7) := Below.refl _ _
  have fin : ∀ a : World, Hid (Below w7.heap.size w7 a) → Below w.heap.size w a := fun a h => HB7.out.trans (h.out.mono HB7.out.size)
  have HR7 := Lib.hid hrd
  have HT77 := Lib.hid htab
  have HL3 := Lib.hid hL3
  have HL6 := Lib.hid hL6
  have HST := Lib.hid hstep
  have HF := Lib.hid fin
  clear hrd htab hL3 hL6 hstep fin
  by_cases hm0 : m = 0
  · subst hm0
    have hLe : L = [] := List.eq_nil_of_length_eq_zero HmL.out
    rw [show L.headD 0 = 0 from by rw [hLe]; rfl, show (!L.isEmpty) = false from by rw [hLe]; rfl]
    clear hLe
    go_wp2_with (first
      | (go_at_call 13; refine (HLEN _).mono ?_; rintro e w8 ⟨rfl, hb8⟩; have B8 := HST.out _ _ B7 hb8; have r8 := HR7.out _ B8; clear hb8)
      | (go_at_call 14; refine (HHAS _).mono ?_; rintro e w9 ⟨rfl, hb9⟩; have B9 := HST.out _ _ B8 hb9; have r9 := HR7.out _ B9; clear hb9)
      | (go_at_call 15; refine (HHAS3 _ (HL3.out _ B9)).mono ?_; rintro e w10 ⟨rfl, rfl⟩)
      | (go_at_call 16; (with_reducible refine (HLIST _ (HT77.out _ B9).2 (HT77.out _ B9).1).mono ?_); rintro e w11 ⟨A11, c11, rfl, ho11, hb11⟩; rw [HmL.out] at ho11 ⊢; have B11 := HST.out _ _ B9 hb11; have O11 := Lib.hid ho11.sl'; clear hb11 ho11)
      | (go_at_call 11; (with_reducible refine (Same03_any A11 A3 _ _ c11 c3 _ _ L L _ HmL.out HmL.out O11.out (HL3.out _ B11) (by omega) (by omega)).mono ?_); rintro e w12 ⟨rfl, k12, rfl⟩; rw [show decide (L = L) = true from by simp]; have B12 : Hid (Below w7.heap.size w7 (w11.drewN k12)) := below_drewN B11.out _; have r12 := HR7.out _ B12)
      | (go_at_call 17; (with_reducible refine (HWITH _).mono ?_); rintro e w13 ⟨rfl, hb13⟩; have B13 := HST.out _ _ B12 hb13; clear hb13)
      | (go_at_call 16; (with_reducible refine (HLIST2 _ (HT77.out _ B13).2 (HT77.out _ B13).1).mono ?_); rintro e w14 ⟨A14, c14, rfl, ho14, hb14⟩; rw [HpY.out] at ho14 ⊢; have B14 := HST.out _ _ B13 hb14; have O14 := Lib.hid ho14.sl'; clear hb14 ho14)
      | (go_at_call 11; (with_reducible refine (Same03_any A14 A6 _ _ c14 c6 _ _ Y Y _ HpY.out HpY.out O14.out (HL6.out _ B14) (by omega) (by omega)).mono ?_); rintro e w15 ⟨rfl, k15, rfl⟩; rw [show decide (Y = Y) = true from by simp]; have B15 : Hid (Below w7.heap.size w7 (w14.drewN k15)) := below_drewN B14.out _)
      | (go_at_call 6; refine (live03 _ (HT77.out _ B15).2 (HT77.out _ B15).1).mono ?_; rintro e w16 ⟨rfl, hb16⟩; have B16 := HST.out _ _ B15 hb16; clear hb16)
      | fail)
    go_ret
    exact ⟨rfl, HF.out _ B16⟩
  · obtain ⟨v, L', hLe⟩ : ∃ v L', L = v :: L' := by
      cases L with
      | nil => exact absurd HmL.out.symm hm0
      | cons v L' => exact ⟨v, L', rfl⟩
    rw [show L.headD 0 = v from by rw [hLe]; rfl, show (!L.isEmpty) = true from by rw [hLe]; rfl]
    have hlt : 0 < L.length := by rw [HmL.out]; omega
    obtain ⟨b, o, rfl, hbb⟩ := HO37.out.sl'.addr hlt (by omega)
    have HV : ∀ a : World, Hid (Below w7.heap.size w7 a) → a.cell? ⟨b, o, none⟩ = some (.int .i64 v) := fun a h => by
      have h1 := (HL3.out _ h).cell1 hlt
      rw [Nat.add_zero] at h1
      rw [h1]
      simp [hLe, intC]
    have HV := Lib.hid HV
    have dz : decide (0 < m) = true := by simp; omega
    have dz2 : decide (0 < (m : Int)) = true := by simp; omega
    have dm : 0 < m := by omega
    clear hLe hm0 hlt
    go_wp2_with (first
      | (go_at_call 13; refine (HLEN _).mono ?_; rintro e w8 ⟨rfl, hb8⟩; have B8 := HST.out _ _ B7 hb8; have r8 := HR7.out _ B8; have v8 := HV.out _ B8; clear hb8)
      | (go_at_call 14; refine (HHAS _).mono ?_; rintro e w9 ⟨rfl, hb9⟩; have B9 := HST.out _ _ B8 hb9; have r9 := HR7.out _ B9; clear hb9)
      | (go_at_call 15; refine (HHAS3 _ (HL3.out _ B9)).mono ?_; rintro e w10 ⟨rfl, rfl⟩)
      | (go_at_call 16; (with_reducible refine (HLIST _ (HT77.out _ B9).2 (HT77.out _ B9).1).mono ?_); rintro e w11 ⟨A11, c11, rfl, ho11, hb11⟩; rw [HmL.out] at ho11 ⊢; have B11 := HST.out _ _ B9 hb11; have O11 := Lib.hid ho11.sl'; clear hb11 ho11)
      | (go_at_call 11; (with_reducible refine (Same03_any A11 (some ⟨b, o, none⟩) _ _ c11 c3 _ _ L L _ HmL.out HmL.out O11.out (HL3.out _ B11) (by omega) (by omega)).mono ?_); rintro e w12 ⟨rfl, k12, rfl⟩; rw [show decide (L = L) = true from by simp]; have B12 : Hid (Below w7.heap.size w7 (w11.drewN k12)) := below_drewN B11.out _; have r12 := HR7.out _ B12)
      | (go_at_call 17; (with_reducible refine (HWITH _).mono ?_); rintro e w13 ⟨rfl, hb13⟩; have B13 := HST.out _ _ B12 hb13; clear hb13)
      | (go_at_call 16; (with_reducible refine (HLIST2 _ (HT77.out _ B13).2 (HT77.out _ B13).1).mono ?_); rintro e w14 ⟨A14, c14, rfl, ho14, hb14⟩; rw [HpY.out] at ho14 ⊢; have B14 := HST.out _ _ B13 hb14; have O14 := Lib.hid ho14.sl'; clear hb14 ho14)
      | (go_at_call 11; (with_reducible refine (Same03_any A14 A6 _ _ c14 c6 _ _ Y Y _ HpY.out HpY.out O14.out (HL6.out _ B14) (by omega) (by omega)).mono ?_); rintro e w15 ⟨rfl, k15, rfl⟩; rw [show decide (Y = Y) = true from by simp]; have B15 : Hid (Below w7.heap.size w7 (w14.drewN k15)) := below_drewN B14.out _)
      | (go_at_call 6; refine (live03 _ (HT77.out _ B15).2 (HT77.out _ B15).1).mono ?_; rintro e w16 ⟨rfl, hb16⟩; have B16 := HST.out _ _ B15 hb16; clear hb16)
      | fail)
    go_ret
    exact ⟨rfl, HF.out _ B16⟩

theorem BagHas_walk (W : World) (hfact : TabAt W ∧ 0 < W.heap.size) (a : Option Addr) (n c : Nat) (l : List Int) (hn : l.length = n) (sl : Sl W W.heap.size 1 intC a l) (_ : n ≤ c) (hm : c ≤ 9223372036854775807) (_ : ∀ x ∈ l, okInt x) (x : Int) (_ : (Lit.int .i64 x).wf = true) :
    Calls Tryd.prog 4 #[.slice a n c, .int .i64 x] W fun e w' => e = .returned (.bool true) ∧ Below W.heap.size W w' := by
  by_cases h : n ≤ 300
  · exact BagHas_main a n c _ x l W hn sl (Nat.le_refl _) h hfact.2 hfact.1
  · exact BagHas_long a n c x W (by omega) (by omega) hfact.2 hfact.1
end Go.Proofs.YtkeeipfglmpgjaaDoor
