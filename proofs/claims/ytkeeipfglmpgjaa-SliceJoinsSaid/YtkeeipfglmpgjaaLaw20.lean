/-
  The law SliceJoins: two slices as one are as open as their tokens say; and what is shut is as the document says, whatever leads.
-/
import Derived.Test.YtkeeipfglmpgjaaJoin
import Derived.Test.YtkeeipfglmpgjaaSlice
import Derived.Test.YtkeeipfglmpgjaaArgs
namespace Go.Proofs.Ytkeeipfglmpgjaa
set_option linter.unusedSimpArgs false
set_option linter.unusedVariables false
open Go.RowKit

def tok (k t : Int) (r : Int) : Tok := ⟨k, t, 0, r, 0, 0, 0, 0, 0, 0, 0, 0⟩
def l20 : List Tok := [tok 2 0 0, tok 1 2 0, tok 4 0 97]
def w20 : List Tok := [tok 1 1 0] ++ l20 ++ List.replicate 1 closeT
theorem l20_flat : decide ((sc l20).1 = 0 ∧ (sc l20).2 = 0) = false := by decide
theorem w20_flat : decide ((sc w20).1 = 0 ∧ (sc w20).2 = 0) = true := by decide

set_option maxHeartbeats 1000000 in
set_option maxRecDepth 100000 in
theorem live20 (w : World) : Calls Try.prog 10 #[] w fun e w' => e = .returned (.bool true) ∧ Below w.heap.size w w' := by
  go_enter Try.func10, Try.ntmps10
  have hl := (Sl.newl w Tok.cells 12 Tok.cells_length 43 l20 #[.int .i64 2, .int .i64 0, .int .i64 0, .int .i32 0, .int .u16 0, .int .u16 0, .int .u16 0, .int .u16 0, .int .u16 0, .int .u16 0, .int .u16 0, .int .u16 0, .int .i64 1, .int .i64 2, .int .i64 0, .int .i32 0, .int .u16 0, .int .u16 0, .int .u16 0, .int .u16 0, .int .u16 0, .int .u16 0, .int .u16 0, .int .u16 0, .int .i64 4, .int .i64 0, .int .i64 0, .int .i32 97, .int .u16 0, .int .u16 0, .int .u16 0, .int .u16 0, .int .u16 0, .int .u16 0, .int .u16 0, .int .u16 0] rfl).alloc (by simp) (.cells #[.int .i64 1, .int .i64 1, .int .i64 0, .int .i32 0, .int .u16 0, .int .u16 0, .int .u16 0, .int .u16 0, .int .u16 0, .int .u16 0, .int .u16 0, .int .u16 0] 43)
  have hd := Sl.newl (w.alloc (.cells #[.int .i64 2, .int .i64 0, .int .i64 0, .int .i32 0, .int .u16 0, .int .u16 0, .int .u16 0, .int .u16 0, .int .u16 0, .int .u16 0, .int .u16 0, .int .u16 0, .int .i64 1, .int .i64 2, .int .i64 0, .int .i32 0, .int .u16 0, .int .u16 0, .int .u16 0, .int .u16 0, .int .u16 0, .int .u16 0, .int .u16 0, .int .u16 0, .int .i64 4, .int .i64 0, .int .i64 0, .int .i32 97, .int .u16 0, .int .u16 0, .int .u16 0, .int .u16 0, .int .u16 0, .int .u16 0, .int .u16 0, .int .u16 0] 43)) Tok.cells 12 Tok.cells_length 43 [tok 1 1 0] #[.int .i64 1, .int .i64 1, .int .i64 0, .int .i32 0, .int .u16 0, .int .u16 0, .int .u16 0, .int .u16 0, .int .u16 0, .int .u16 0, .int .u16 0, .int .u16 0] rfl
  have hbw := ((Below.refl w.heap.size w).alloc (Nat.le_refl _) (.cells #[.int .i64 2, .int .i64 0, .int .i64 0, .int .i32 0, .int .u16 0, .int .u16 0, .int .u16 0, .int .u16 0, .int .u16 0, .int .u16 0, .int .u16 0, .int .u16 0, .int .i64 1, .int .i64 2, .int .i64 0, .int .i32 0, .int .u16 0, .int .u16 0, .int .u16 0, .int .u16 0, .int .u16 0, .int .u16 0, .int .u16 0, .int .u16 0, .int .i64 4, .int .i64 0, .int .i64 0, .int .i32 97, .int .u16 0, .int .u16 0, .int .u16 0, .int .u16 0, .int .u16 0, .int .u16 0, .int .u16 0, .int .u16 0] 43)).alloc (by simp) (.cells #[.int .i64 1, .int .i64 1, .int .i64 0, .int .i32 0, .int .u16 0, .int .u16 0, .int .u16 0, .int .u16 0, .int .u16 0, .int .u16 0, .int .u16 0, .int .u16 0] 43)
  have hw := Whole_yes (some ⟨w.heap.size, 0, none⟩) (some ⟨w.heap.size + 1, 0, none⟩) 3 3 1 1 (w.heap.size + 2) 1 1 l20 [tok 1 1 0] _ rfl (hl.more (by simp)) rfl (by simpa using hd) (by simp) (by omega) (by omega) (by decide) rfl
  have HBW := Lib.hid hbw
  have HL := Lib.hid hl
  have HW := Lib.hid hw
  clear hd hbw hl hw
  go_wp2_with fail
  refine HW.out.mono ?_
  rintro e w1 ⟨A1, c1, rfl, ho, hb⟩
  have hl1 := (HL.out.more (B' := w.heap.size + 2) (by simp)).keep (w' := w1) (fun p hp => hb.cell (by simpa using hp))
  have hs1 := hb.size
  have HB := Lib.hid (HBW.out.trans (hb.mono (by simp; omega)))
  have hz : w.heap.size + 2 ≤ w1.heap.size := by simpa using hs1
  have HO := Lib.hid ho
  clear ho hb hs1
  go_wp2_with fail
  refine (Flat_any _ 3 3 _ l20 w1 rfl hl1 hz (by omega)).mono ?_
  rintro e w2 ⟨rfl, hb2⟩
  rw [l20_flat]
  have HO2 := Lib.hid (HO.out.below hb2 (Nat.le_refl _))
  have HB2 := Lib.hid (HB.out.trans (hb2.mono HB.out.size))
  clear hl1 hb2
  go_wp2_with fail
  refine (Flat_any _ 5 c1 _ w20 w2 rfl HO2.out.sl' (Nat.le_refl _) (by omega)).mono ?_
  rintro e w3 ⟨rfl, hb3⟩
  rw [w20_flat]
  have HB3 := Lib.hid (HB2.out.trans (hb3.mono HB2.out.size))
  clear hb3 hz
  go_wp2
  go_ret
  exact ⟨rfl, HB3.out⟩

/-- What the law's slice bears: its tokens, and how open they are. -/
def boxC (A : Option Addr) (n c L R : Nat) : Array Value := #[.slice A n c, .int .i64 L, .int .i64 R]
theorem openN_le (l : List Tok) (k : Int) : openN l k ≤ l.length := by
  unfold openN
  have := List.length_filter_le (loose l k) (List.range l.length)
  simpa using this
def opens (l : List Tok) : Nat := (l.filter fun t => t.kind == 1).length
theorem opens_take (l : List Tok) (k : Nat) (hk : k < l.length) : opens (l.take (k + 1)) = opens (l.take k) + if l[k].kind = 1 then 1 else 0 := by
  unfold opens
  rw [List.take_succ_eq_append_getElem hk, List.filter_append, List.length_append]
  by_cases h : l[k].kind = 1 <;> simp [h]
theorem opens_le (l : List Tok) : opens l ≤ l.length := List.length_filter_le _ _
theorem opens_odd (l : List Tok) : isOdd l = true ↔ opens l ≠ l.length := by
  unfold isOdd opens
  have := List.length_filter_eq_length_iff (l := l) (p := fun t => t.kind == 1)
  simp only [Bool.not_eq_true', decide_eq_false_iff_not, ne_eq, this, beq_iff_eq]

set_option maxHeartbeats 2000000 in
set_option maxRecDepth 100000 in
theorem SliceJoins_main (A1 A2 A3 : Option Addr) (n1 n2 n3 c1 c2 c3 : Nat) (l k lead : List Tok) (w : World) (hn1 : l.length = n1) (h1 : Sl w w.heap.size 12 Tok.cells A1 l) (hn2 : k.length = n2) (h2 : Sl w w.heap.size 12 Tok.cells A2 k)
    (hn3 : lead.length = n3) (h3 : Sl w w.heap.size 12 Tok.cells A3 lead) (b1 : n1 ≤ 150) (b2 : n2 ≤ 150) (b3 : n3 ≤ 50) :
    Calls Try.prog 4 #[.slice A1 n1 c1, .slice A2 n2 c2, .slice A3 n3 c3] w fun e w' => e = .returned (.bool true) ∧ Below w.heap.size w w' := by
  obtain ⟨L1, hL1⟩ : ∃ L, openN l 2 = L := ⟨_, rfl⟩
  obtain ⟨R1, hR1⟩ : ∃ L, openN l 1 = L := ⟨_, rfl⟩
  obtain ⟨L2, hL2⟩ : ∃ L, openN k 2 = L := ⟨_, rfl⟩
  obtain ⟨R2, hR2⟩ : ∃ L, openN k 1 = L := ⟨_, rfl⟩
  have d1 := openN_le l 2
  have d2 := openN_le l 1
  have d3 := openN_le k 2
  have d4 := openN_le k 1
  rw [hL1, hn1] at d1
  rw [hR1, hn1] at d2
  rw [hL2, hn2] at d3
  rw [hR2, hn2] at d4
  obtain ⟨JL, hJ1⟩ : ∃ J, J = (joinP (L1, R1) (L2, R2)).1 := ⟨_, rfl⟩
  obtain ⟨JR, hJ2⟩ : ∃ J, J = (joinP (L1, R1) (L2, R2)).2 := ⟨_, rfl⟩
  have HJ1 := Lib.hid hJ1
  have HJ2 := Lib.hid hJ2
  have hjL : openN (l ++ k) 2 = JL := by
    rw [hJ1, openN_close, sc_append, ← hL1, ← hR1, ← hL2, ← hR2, openN_close, openN_open, openN_close, openN_open]
  have hjR : openN (l ++ k) 1 = JR := by
    rw [hJ2, openN_open, sc_append, ← hL1, ← hR1, ← hL2, ← hR2, openN_close, openN_open, openN_close, openN_open]
  have g1 : decide ((150 : Int) < (n1 : Int)) = false := by simp; omega
  have g2 : decide ((150 : Int) < (n2 : Int)) = false := by simp; omega
  have g3 : decide ((50 : Int) < (n3 : Int)) = false := by simp; omega
  have HN1 := Lib.hid hn1
  have HN2 := Lib.hid hn2
  have HN3 := Lib.hid hn3
  have HL1 := Lib.hid hL1
  have HR1 := Lib.hid hR1
  have HL2 := Lib.hid hL2
  have HR2 := Lib.hid hR2
  have HJL := Lib.hid hjL
  have HJR := Lib.hid hjR
  clear hn1 hn2 hn3 hL1 hR1 hL2 hR2 hjL hjR hJ1 hJ2
  go_enter Try.func4, Try.ntmps4
  go_wp2_with fail
  refine (Open_eq A1 n1 c1 _ L1 l 2 w HN1.out h1 (by omega) HL1.out).mono ?_
  rintro e w' ⟨rfl, rfl⟩
  go_wp2_with fail
  refine (Open_eq A1 n1 c1 _ R1 l 1 w HN1.out h1 (by omega) HR1.out).mono ?_
  rintro e w' ⟨rfl, rfl⟩
  have h2a := h2.alloc (Nat.le_refl _) (.cells #[.slice A1 n1 c1, .int .i64 L1, .int .i64 R1] 34)
  go_wp2_with fail
  refine (Open_eq A2 n2 c2 _ L2 k 2 _ HN2.out h2a (by omega) HL2.out).mono ?_
  rintro e w' ⟨rfl, rfl⟩
  go_wp2_with fail
  refine (Open_eq A2 n2 c2 _ R2 k 1 _ HN2.out h2a (by omega) HR2.out).mono ?_
  rintro e w' ⟨rfl, rfl⟩
  have hbel := (((Below.refl w.heap.size w).alloc (Nat.le_refl _) (.cells #[.slice A1 n1 c1, .int .i64 L1, .int .i64 R1] 34)).alloc (by simp) (.cells #[.slice A2 n2 c2, .int .i64 L2, .int .i64 R2] 34)).alloc (by simp; omega) (.cells #[] 43)
  have hle0 : w.heap.size ≤ ((w.alloc (.cells #[.slice A1 n1 c1, .int .i64 L1, .int .i64 R1] 34)).alloc (.cells #[.slice A2 n2 c2, .int .i64 L2, .int .i64 R2] 34)).heap.size := by simp; omega
  have xa := (((Blk.new w 34 #[.slice A1 n1 c1, .int .i64 L1, .int .i64 R1]).alloc (.cells #[.slice A2 n2 c2, .int .i64 L2, .int .i64 R2] 34)).alloc (.cells #[] 43))
  have xb := ((Blk.new (w.alloc (.cells #[.slice A1 n1 c1, .int .i64 L1, .int .i64 R1] 34)) 34 #[.slice A2 n2 c2, .int .i64 L2, .int .i64 R2]).alloc (.cells #[] 43))
  rw [World.size_alloc] at xb
  have ho0 := Own.empty (α := Tok) (enc := Tok.cells) ((w.alloc (.cells #[.slice A1 n1 c1, .int .i64 L1, .int .i64 R1] 34)).alloc (.cells #[.slice A2 n2 c2, .int .i64 L2, .int .i64 R2] 34)) 43 Tok.cells_length (Nat.le_refl _)
  rw [World.size_alloc, World.size_alloc] at ho0
  have HBel := Lib.hid hbel
  have XA := Lib.hid xa
  have XB := Lib.hid xb
  have HO0 := Lib.hid ho0
  clear hbel xa xb ho0
  go_wp2_with (first
    | (at_builtin; refine wpList_append_sl rfl (.tmp 43) (.tmp 44) _ rfl tokElem (w.heap.size + 1 + 1) Tok.cells tok_one (.slice (some ⟨w.heap.size + 1 + 1, 0, none⟩) 0 0) [] 0 rfl rfl HO0.out w.heap.size A1 n1 c1 l rfl HN1.out (h1.below HBel.out) (by omega) (by simp) ?_; intro Aa ca wa owna hga hata; simp only [Nat.zero_add, List.nil_append] at owna; have XAa := Lib.hid (XA.out.grown hga (by simp [Value.ownBlock]; omega)); have XBa := Lib.hid (XB.out.grown hga (by simp [Value.ownBlock])); have HBa := Lib.hid (HO0.out.below_grown HBel.out hga (by omega) HBel.out.size); have HSa := Lib.hid hga.size; clear hga hata)
    | (at_builtin; refine wpList_append_sl rfl (.tmp 45) (.tmp 46) _ rfl tokElem (w.heap.size + 1 + 1) Tok.cells tok_one (.slice Aa n1 ca) l n1 HN1.out rfl owna w.heap.size A2 n2 c2 k rfl HN2.out (h2.below HBa.out) (by omega) (by have := HSa.out; simp at this; omega) ?_; intro Ab cb wb ownb hgb hatb; have XAb := Lib.hid (XAa.out.grown hgb (fun e => owna.ne_blk XAa.out (by decide) e.symm)); have XBb := Lib.hid (XBa.out.grown hgb (fun e => owna.ne_blk XBa.out (by decide) e.symm)); have HBb := Lib.hid (owna.below_grown HBa.out hgb (by omega) HBa.out.size); have HSb := Lib.hid (Nat.le_trans HSa.out hgb.size); have qa0 := XAb.out.cell 0; have qa1 := XAb.out.cell 1; have qa2 := XAb.out.cell 2; have qb0 := XBb.out.cell 0; have qb1 := XBb.out.cell 1; have qb2 := XBb.out.cell 2; simp at qa0 qa1 qa2 qb0 qb1 qb2; clear hgb hatb)
    | fail)
  have hltw : w.heap.size + 1 + 1 ≤ wb.heap.size := by have := HSb.out; simp at this; omega
  refine (Join_any ⟨A1, n1, c1, l⟩ ⟨A2, n2, c2, k⟩ w.heap.size L1 R1 L2 R2 wb ⟨HN1.out, h1.below HBb.out⟩ ⟨HN2.out, h2.below HBb.out⟩ HBb.out.size (by show n1 + n2 ≤ _; omega) (by omega) (by omega) (by omega) (by omega)).mono ?_
  rintro e wj ⟨Aj, cj, rfl, hoj, hbj⟩
  rw [← HJ1.out, ← HJ2.out]
  have XAj := Lib.hid (XAb.out.below hbj (by omega))
  have OBj := Lib.hid (ownb.below hbj (Nat.le_refl _))
  have HBj := Lib.hid (HBb.out.trans (hbj.mono HBb.out.size))
  have hszj := hbj.size
  have HOj := Lib.hid hoj
  have hbl := (Below.refl wj.heap.size wj).alloc (Nat.le_refl _) (.cells #[.slice Aj (n1 + n2) cj, .int .i64 JL, .int .i64 JR] 34)
  have HBc := Lib.hid hbl
  clear hoj hbj hbl ownb owna qa0 qa1 qa2 qb0 qb1 qb2 XAa XBa HBa HSa XAb XBb HSb HO0 HBel XA XB h2a
  go_wp2_with fail
  refine (same20_true Aj Ab (n1 + n2) cj cb wj.heap.size JL JR (l ++ k) (wj.alloc (.cells #[.slice Aj (n1 + n2) cj, .int .i64 JL, .int .i64 JR] 34)) (by rw [List.length_append, HN1.out, HN2.out]) ((HOj.out.sl').below HBc.out) ((OBj.out.sl').below HBc.out) HBc.out.size (by omega) HJL.out HJR.out).mono ?_
  rintro e ws ⟨rfl, hbs⟩
  have HBs := Lib.hid ((HBj.out.trans (HBc.out.mono HBj.out.size)).trans (hbs.mono (Nat.le_trans HBj.out.size HBc.out.size)))
  have hwj : w.heap.size < wj.heap.size := by omega
  have XAs := Lib.hid ((XAj.out.alloc (.cells #[.slice Aj (n1 + n2) cj, .int .i64 JL, .int .i64 JR] 34)).below hbs (Nat.lt_of_lt_of_le hwj HBc.out.size))
  have q0 := XAs.out.cell 0
  have q1 := XAs.out.cell 1
  have q2 := XAs.out.cell 2
  simp at q0 q1 q2
  clear hbs HBc XAj OBj HOj hszj hltw
  have s1 := h1.below HBs.out
  have s3 := h3.below HBs.out
  by_cases hyes : isOdd lead = false ∧ n3 = L1
  · obtain ⟨hno, hL⟩ := hyes
    have hopn : opens lead = n3 := by
      rw [← HN3.out]
      refine Decidable.byContradiction fun h => ?_
      have := (opens_odd lead).2 h
      rw [hno] at this; cases this
    have HOP := Lib.hid hopn
    have HNO := Lib.hid hno
    clear hopn hno
    subst hL
    go_wp2_with fail
    refine (Whole_yes A1 A3 n1 c1 n3 c3 w.heap.size n3 R1 l lead ws HN1.out s1 HN3.out s3 HBs.out.size (by omega) (by omega) HNO.out rfl).mono ?_
    rintro e ww ⟨Aw, cw, rfl, how, hbw⟩
    have HBw := Lib.hid (HBs.out.trans (hbw.mono HBs.out.size))
    have XAw := Lib.hid (XAs.out.below hbw (by have := HBs.out.size; have := XAs.out.lt; omega))
    have HOw := Lib.hid how
    have HZw := Lib.hid hbw.size
    have r1 := XAw.out.cell 1
    have r2 := XAw.out.cell 2
    simp at r1 r2
    have t3 := h3.below HBw.out
    clear how hbw q0 q1 q2
    go_wp2_with fail
    go_loop [13, 14] (fun m i => ∃ j : Nat, j ≤ n3 ∧ i = .int .i64 j ∧ m = .int .i64 (opens (lead.take j))) (fun _ i => n3 - (intOf i).toNat)
    case atStart => exact ⟨0, by omega, rfl, rfl⟩
    case round =>
      obtain ⟨j, hj, rfl, rfl⟩ := hrel
      by_cases hlt : j < n3
      · have hjl : j < lead.length := by rw [HN3.out]; exact hlt
        obtain ⟨b, o, rfl, _⟩ := t3.addr (by omega) (by omega)
        have r : ww.cell? ⟨b, o + j * 12, none⟩ = some (.int .i64 lead[j].kind) := by
          have := t3.cell_ hjl 0 (by omega)
          simpa [Tok.cells] using this
        have hst := opens_take lead j hjl
        have hle := opens_le (lead.take j)
        have hle2 : (lead.take j).length ≤ j := List.length_take_le _ _
        by_cases hk1 : lead[j].kind = 1
        · have hb1 : (lead[j].kind == 1) = true := by simp [hk1]
          rw [if_pos hk1] at hst
          have HS := Lib.hid hst
          clear hst hk1
          go_wp2
          go_round
          case rel => exact ⟨j + 1, by omega, by go_num, by rw [HS.out]; go_num⟩
          case measure => simp [intOf]; omega
        · have hb1 : (lead[j].kind == 1) = false := by simp [hk1]
          rw [if_neg hk1] at hst
          have HS := Lib.hid hst
          clear hst hk1
          go_wp2
          go_round
          case rel => exact ⟨j + 1, by omega, by go_num, by rw [HS.out]; go_num⟩
          case measure => simp [intOf]; omega
      · obtain rfl : j = n3 := by omega
        have hop : opens (lead.take j) = j := by rw [List.take_of_length_le (by rw [HN3.out]; exact Nat.le_refl _)]; exact HOP.out
        rw [hop]
        clear hop hlt
        have e1 : ((j : Int) != (j : Int)) = false := by simp
        have o0 := Own.empty (α := Tok) (enc := Tok.cells) ww 43 Tok.cells_length (Nat.le_refl _)
        have bb0 := HBw.out.alloc HBw.out.size (.cells #[] 43)
        have xx0 := XAw.out.alloc (.cells #[] 43)
        have ow0 := HOw.out.alloc (.cells #[] 43)
        have HO0 := Lib.hid o0
        have HB0 := Lib.hid bb0
        have HX0 := Lib.hid xx0
        have HW0 := Lib.hid ow0
        clear o0 bb0 xx0 ow0
        go_wp2_with (first
          | (at_builtin; refine wpList_append_sl rfl (.tmp 95) (.tmp 96) _ rfl tokElem ww.heap.size Tok.cells tok_one (.slice (some ⟨ww.heap.size, 0, none⟩) 0 0) [] 0 rfl rfl HO0.out w.heap.size A3 j c3 lead rfl HN3.out (h3.below HB0.out) (by omega) (by simp) ?_; intro Ac cc wc ownc hgc hatc; simp only [Nat.zero_add, List.nil_append] at ownc; have XAc := Lib.hid (HX0.out.grown hgc (fun e => HO0.out.ne_blk HX0.out (by decide) e.symm)); have HBc := Lib.hid (HO0.out.below_grown HB0.out hgc HBw.out.size HB0.out.size); have HZc := Lib.hid hgc.size; have hbl := HO0.out.below_grown ((Below.refl ww.heap.size ww).alloc (Nat.le_refl _) _) hgc (Nat.le_refl _) (le_alloc (Nat.le_refl _) _); have HBL := Lib.hid hbl; clear hgc hatc hbl)
          | (at_builtin; refine wpList_append_sl rfl (.tmp 97) (.tmp 98) _ rfl tokElem ww.heap.size Tok.cells tok_one (.slice Ac j cc) lead j HN3.out rfl ownc w.heap.size A1 n1 c1 l rfl HN1.out (h1.below HBc.out) (by omega) (by have := HZc.out; simp at this; omega) ?_; intro Ad cd wd ownd hgd hatd; go_must (have XAd := Lib.hid (XAc.out.grown hgd (fun e => ownc.ne_blk XAc.out (by decide) e.symm)); have HBd := Lib.hid (ownc.below_grown HBc.out hgd HBw.out.size HBc.out.size); have HZd := Lib.hid (Nat.le_trans HZc.out hgd.size); have HBLd := Lib.hid (ownc.below_grown HBL.out hgd (Nat.le_refl _) HBL.out.size); clear hatd hgd))
          | fail)
        have HXw := Lib.hid XAw.out.lt
        have hlj : lead.length = j := HN3.out
        have HD0 := Lib.hid ownd
        clear ownd ownc r1 r2 hlj
        go_loopw [15, 16] (fun v i wr => ∃ m A c, m ≤ R1 ∧ i = .int .i64 (m : Nat) ∧ v = .slice A (j + n1 + m) c ∧ Own wr ww.heap.size 43 12 Tok.cells (.slice A (j + n1 + m) c) (lead ++ l ++ List.replicate m closeT) ∧ Below w.heap.size w wr ∧ Below ww.heap.size ww wr) (fun _ i _ => R1 - (intOf i).toNat)
        case atStart => exact ⟨0, Ad, cd, by omega, rfl, rfl, by simpa using HD0.out, HBd.out, HBLd.out⟩
        case round =>
          obtain ⟨m, A, c, hm, rfl, rfl, hown, hb, hb2⟩ := hrel
          have xr := (XAw.out.below hb2 HXw.out).cell 2
          simp at xr
          by_cases hlt : m < R1
          · have hln := hown.cap.2
            have HLN := Lib.hid hln
            have hrp : lead ++ l ++ List.replicate (m + 1) closeT = lead ++ l ++ List.replicate m closeT ++ [closeT] := by rw [List.replicate_succ', List.append_assoc (lead ++ l)]
            have HRP := Lib.hid hrp
            clear hln hrp
            go_wp2_with (at_builtin; refine wpList_append_sl rfl _ _ _ rfl tokElem ww.heap.size Tok.cells tok_one _ (lead ++ l ++ List.replicate m closeT) (j + n1 + m) HLN.out rfl (hown.alloc _) _ _ 1 _ [closeT] rfl rfl (Sl.new _ Tok.cells 12 Tok.cells_length _ _) (by omega) (le_alloc hb2.size _) ?_; intro A2 c2 w2 hown2 hg2 hat2)
            go_roundw
            case rel => exact ⟨m + 1, _, _, by omega, by go_num, rfl, by rw [HRP.out]; exact hown2, (hown.alloc _).below_grown (hb.alloc hb.size _) hg2 HBw.out.size (le_alloc hb.size _), (hown.alloc _).below_grown (hb2.alloc hb2.size _) hg2 (Nat.le_refl _) (le_alloc hb2.size _)⟩
            case measure => simp [intOf]; omega
          · obtain rfl : m = R1 := by omega
            have hw2 := HOw.out.below hb2 (Nat.le_refl _)
            have hlen := hw2.cap.2
            have HLEN := Lib.hid hlen
            have HOx := Lib.hid hown
            have HWx := Lib.hid hw2
            have HBx := Lib.hid hb
            clear hown hw2 hb hlen hb2 hlt
            go_wp2_with fail
            refine (Same13_true Aw A (j + n1 + m) (j + n1 + m) cw c _ _ _ _ wr HLEN.out HLEN.out HWx.out.sl' HOx.out.sl' (by omega) (by omega) rfl).mono ?_
            rintro e w5 ⟨rfl, nd, rfl⟩
            go_wp2_with fail
            refine (live20 _).mono ?_
            rintro e w6 ⟨rfl, hb6⟩
            have HB6 := Lib.hid (HBx.out.trans (below_of_drewN (hb6.mono HBx.out.size)))
            clear hb6
            go_wp2
            go_ret
            exact ⟨rfl, HB6.out⟩
  · have hno : isOdd lead = true ∨ n3 ≠ L1 := by
      cases hq : isOdd lead
      · exact .inr fun h => hyes ⟨hq, h⟩
      · exact .inl rfl
    have hop : opens lead ≠ n3 ∨ opens lead ≠ L1 := by
      rcases hno with h | h
      · exact .inl (by rw [← HN3.out]; exact (opens_odd lead).1 h)
      · by_cases h2 : opens lead = n3
        · exact .inr (by omega)
        · exact .inl h2
    have HNO := Lib.hid hno
    have HOP := Lib.hid hop
    have hol := opens_le lead
    have HOL := Lib.hid hol
    clear hno hop hol hyes
    go_wp2_with fail
    refine (Whole_no A1 A3 n1 c1 n3 c3 w.heap.size L1 R1 lead ws HN3.out s3 HBs.out.size (by omega) (by omega) HNO.out).mono ?_
    rintro e ww ⟨rfl, hbw⟩
    have HBw := Lib.hid (HBs.out.trans (hbw.mono HBs.out.size))
    have XAw := Lib.hid (XAs.out.below hbw (by have := HBs.out.size; have := XAs.out.lt; omega))
    have r1 := XAw.out.cell 1
    simp at r1
    have t3 := h3.below HBw.out
    clear hbw q0 q1 q2
    go_wp2_with fail
    go_loop [13, 14] (fun m i => ∃ j : Nat, j ≤ n3 ∧ i = .int .i64 j ∧ m = .int .i64 (opens (lead.take j))) (fun _ i => n3 - (intOf i).toNat)
    case atStart => exact ⟨0, by omega, rfl, rfl⟩
    case round =>
      obtain ⟨j, hj, rfl, rfl⟩ := hrel
      by_cases hlt : j < n3
      · have hjl : j < lead.length := by rw [HN3.out]; exact hlt
        obtain ⟨b, o, rfl, _⟩ := t3.addr (by omega) (by omega)
        have r : ww.cell? ⟨b, o + j * 12, none⟩ = some (.int .i64 lead[j].kind) := by
          have := t3.cell_ hjl 0 (by omega)
          simpa [Tok.cells] using this
        have hst := opens_take lead j hjl
        have hle := opens_le (lead.take j)
        have hle2 : (lead.take j).length ≤ j := List.length_take_le _ _
        by_cases hk1 : lead[j].kind = 1
        · have hb1 : (lead[j].kind == 1) = true := by simp [hk1]
          rw [if_pos hk1] at hst
          have HS := Lib.hid hst
          clear hst hk1
          go_wp2
          go_round
          case rel => exact ⟨j + 1, by omega, by go_num, by rw [HS.out]; go_num⟩
          case measure => simp [intOf]; omega
        · have hb1 : (lead[j].kind == 1) = false := by simp [hk1]
          rw [if_neg hk1] at hst
          have HS := Lib.hid hst
          clear hst hk1
          go_wp2
          go_round
          case rel => exact ⟨j + 1, by omega, by go_num, by rw [HS.out]; go_num⟩
          case measure => simp [intOf]; omega
      · have hjl : lead.take j = lead := List.take_of_length_le (by rw [HN3.out]; omega)
        rw [hjl]
        obtain ⟨O, hO⟩ : ∃ O, O = opens lead := ⟨_, rfl⟩
        have ho1 := HOP.out
        have ho2 := HOL.out
        rw [HN3.out] at ho2
        rw [← hO] at ho1 ho2 ⊢
        clear hO hjl
        by_cases h0 : O = n3
        · have hne : O ≠ L1 := by
            rcases ho1 with h | h
            · exact absurd h0 h
            · exact h
          have e1 : ((O : Int) != (n3 : Int)) = false := by simp [h0]
          have e2 : ((O : Int) != (L1 : Int)) = true := by simp; omega
          clear h0 hne ho1
          go_wp2_with fail
          refine (live20 _).mono ?_
          rintro e w6 ⟨rfl, hb6⟩
          have HB6 := Lib.hid (HBw.out.trans (hb6.mono HBw.out.size))
          clear hb6
          go_wp2
          go_ret
          exact ⟨rfl, HB6.out⟩
        · have e1 : ((O : Int) != (n3 : Int)) = true := by simp; omega
          clear h0 ho1
          go_wp2_with fail
          refine (live20 _).mono ?_
          rintro e w6 ⟨rfl, hb6⟩
          have HB6 := Lib.hid (HBw.out.trans (hb6.mono HBw.out.size))
          clear hb6
          go_wp2
          go_ret
          exact ⟨rfl, HB6.out⟩

set_option maxHeartbeats 1000000 in
set_option maxRecDepth 100000 in
theorem SliceJoins_long (A1 A2 A3 : Option Addr) (n1 n2 n3 c1 c2 c3 : Nat) (w : World) (h : 150 < n1 ∨ 150 < n2 ∨ 50 < n3) (m1 : n1 ≤ 9223372036854775807) (m2 : n2 ≤ 9223372036854775807) (m3 : n3 ≤ 9223372036854775807) :
    Calls Try.prog 4 #[.slice A1 n1 c1, .slice A2 n2 c2, .slice A3 n3 c3] w fun e w' => e = .returned (.bool true) ∧ Below w.heap.size w w' := by
  by_cases h1 : 150 < n1
  · have g1 : decide ((150 : Int) < (n1 : Int)) = true := by simp; omega
    clear h
    go_enter Try.func4, Try.ntmps4
    go_wp2_with fail
    refine (live20 _).mono ?_
    rintro e w6 ⟨rfl, hb6⟩
    go_wp2
    go_ret
    exact ⟨rfl, hb6⟩
  · have g1 : decide ((150 : Int) < (n1 : Int)) = false := by simp; omega
    by_cases h2 : 150 < n2
    · have g2 : decide ((150 : Int) < (n2 : Int)) = true := by simp; omega
      clear h
      go_enter Try.func4, Try.ntmps4
      go_wp2_with fail
      refine (live20 _).mono ?_
      rintro e w6 ⟨rfl, hb6⟩
      go_wp2
      go_ret
      exact ⟨rfl, hb6⟩
    · have g2 : decide ((150 : Int) < (n2 : Int)) = false := by simp; omega
      have g3 : decide ((50 : Int) < (n3 : Int)) = true := by simp; omega
      clear h
      go_enter Try.func4, Try.ntmps4
      go_wp2_with fail
      refine (live20 _).mono ?_
      rintro e w6 ⟨rfl, hb6⟩
      go_wp2
      go_ret
      exact ⟨rfl, hb6⟩

theorem SliceJoins_walk (W : World) (A0 : Option Addr) (n0 c0 : Nat) (l0 : List Tok) (hn0 : l0.length = n0) (s0 : Sl W W.heap.size 12 Tok.cells A0 l0) (hc0 : n0 ≤ c0) (hm0 : c0 ≤ 9223372036854775807) (_ok0 : ∀ a ∈ l0, Tok.ok a)
    (A1 : Option Addr) (n1 c1 : Nat) (l1 : List Tok) (hn1 : l1.length = n1) (s1 : Sl W W.heap.size 12 Tok.cells A1 l1) (hc1 : n1 ≤ c1) (hm1 : c1 ≤ 9223372036854775807) (_ok1 : ∀ a ∈ l1, Tok.ok a)
    (A2 : Option Addr) (n2 c2 : Nat) (l2 : List Tok) (hn2 : l2.length = n2) (s2 : Sl W W.heap.size 12 Tok.cells A2 l2) (hc2 : n2 ≤ c2) (hm2 : c2 ≤ 9223372036854775807) (_ok2 : ∀ a ∈ l2, Tok.ok a) :
    Calls Try.prog 4 #[.slice A0 n0 c0, .slice A1 n1 c1, .slice A2 n2 c2] W fun e w' => e = .returned (.bool true) ∧ Below W.heap.size W w' := by
  by_cases h : 150 < n0 ∨ 150 < n1 ∨ 50 < n2
  · exact SliceJoins_long A0 A1 A2 n0 n1 n2 c0 c1 c2 W h (by omega) (by omega) (by omega)
  · exact SliceJoins_main A0 A1 A2 n0 n1 n2 c0 c1 c2 l0 l1 l2 W hn0 s0 hn1 s1 hn2 s2 (by omega) (by omega) (by omega)
end Go.Proofs.Ytkeeipfglmpgjaa
