/-
  QueueDrains: the walk.
-/
import Derived.Test.YtkeeipfglmpgjaaDrainsFn
import Derived.Deep.RegionHeld3
namespace Go.Proofs.Ytkeeipfglmpgjaa
set_option linter.unusedSimpArgs false
set_option linter.unusedVariables false
open Go.RowKit

/-- Two rows of different types are two blocks. -/
theorem Own.apart {α β : Type} {w : World} {b1 s1 b2 s2 : Nat} {e1 e2 : TypeId} {c1 : α → List Value} {c2 : β → List Value} {v1 v2 : Value} {l1 : List α} {l2 : List β} (h1 : Own w b1 e1 s1 c1 v1 l1) (h2 : Own w b2 e2 s2 c2 v2 l2) (hne : e1 ≠ e2) : v1.ownBlock = v2.ownBlock → v2.ownBlock = none := by
  intro e
  rcases h2.2.2 with ⟨hv, _⟩ | ⟨g, cap, cur, hv, _, hh, _⟩
  · rw [hv]; rfl
  · exfalso
    have hb : Blk w g e2 cur := hh
    exact own_blk_ne h1.2 hb hne (by rw [e, hv]; rfl)
theorem apart_ir {w : World} {b1 b2 : Nat} {v1 v2 : Value} {l1 : List Int} {l2 : List (Int × Int)} (h1 : Own w b1 3 1 intC v1 l1) (h2 : Own w b2 60 2 pairC v2 l2) : v1.ownBlock = v2.ownBlock → v2.ownBlock = none := Own.apart h1 h2 (by decide)
theorem apart_ri {w : World} {b1 b2 : Nat} {v1 v2 : Value} {l1 : List Int} {l2 : List (Int × Int)} (h1 : Own w b1 3 1 intC v1 l1) (h2 : Own w b2 60 2 pairC v2 l2) : v2.ownBlock = v1.ownBlock → v1.ownBlock = none := Own.apart h2 h1 (by decide)
/-- The numbers below k. -/
def pl (k : Nat) : List Int := (List.range k).map fun i : Nat => (i : Int)
theorem pl_succ (k : Nat) : pl (k + 1) = pl k ++ [(k : Int)] := by simp [pl, List.range_succ]
theorem pl_length (k : Nat) : (pl k).length = k := by simp [pl]
theorem pl_at (k i : Nat) (h : i < k) : (pl k)[i]? = some (i : Int) := by simp [pl, h]
theorem pl_mem (k : Nat) (x : Int) (h : x ∈ pl k) : ∃ i : Nat, i < k ∧ x = i := by
  simp only [pl, List.mem_map, List.mem_range] at h
  obtain ⟨i, hi, e⟩ := h
  exact ⟨i, hi, e.symm⟩
theorem run_eql_func2 (f : Fn) (t : Array Value) (b : Array Value) (w : World) : (binOp .eql 69 (.func f t b) .nilFunc).run Try.prog w = .ok (.bool false) w := by kernel_rfl
attribute [local go_sem] run_eql_func2
def fk (keys : List Int) (x : Int) : Int := keys.getD x.toNat 0
theorem fk_at (keys : List Int) (i : Nat) (h : i < keys.length) : fk keys (i : Int) = keys[i] := by simp [fk, h]

set_option maxHeartbeats 4000000 in
set_option maxRecDepth 100000 in
theorem Drains_main (A : Option Addr) (n c B most : Nat) (keys : List Int) (w : World) (hn : keys.length = n) (h : Sl w B 1 intC A keys) (hB : B ≤ w.heap.size) (hn2 : n ≤ 200) (hm : most < 256) :
    Calls Try.prog 6 #[.slice A n c, .int .u8 most] w fun e w' => e = .returned (.bool true) ∧ Below w.heap.size w w' := by
  have HN := Lib.hid hn
  have HS := Lib.hid h
  have hd200 : decide (200 < (n : Int)) = false := by simp; omega
  obtain ⟨base, hbase⟩ : ∃ b, w.heap.size + 1 + 1 = b := ⟨_, rfl⟩
  obtain ⟨W0, hW0⟩ : ∃ W0, (((w.alloc (.cells #[.slice A n c] 64)).alloc (.cells #[.int .u8 most] 5)).alloc (.cells #[.slice none 0 0, .int .i64 0] 55)) = W0 := ⟨_, rfl⟩
  have hq0 : QH W0 base base [] 0 := by
    rw [← hW0]
    refine QH.new _ _ _ (Nat.le_refl _) (by simp; omega) ?_
    have := Blk.new ((w.alloc (.cells #[.slice A n c] 64)).alloc (.cells #[.int .u8 most] 5)) 55 #[.slice none 0 0, .int .i64 0]
    rw [World.size_alloc, World.size_alloc, hbase] at this
    exact this
  have hk0 : Boxed W0 w.heap.size 64 (.slice A n c) := by rw [← hW0]; exact ((Boxed.new w _ _).alloc _).alloc _
  have hm0 : Boxed W0 (w.heap.size + 1) 5 (.int .u8 most) := by
    rw [← hW0]
    have := (Boxed.new (w.alloc (.cells #[.slice A n c] 64)) 5 (.int .u8 most)).alloc (.cells #[.slice none 0 0, .int .i64 0] 55)
    rwa [World.size_alloc] at this
  have hb0 : Below w.heap.size w W0 := by rw [← hW0]; exact (((Below.refl _ w).alloc (Nat.le_refl _) _).alloc (by simp) _).alloc (by simp; omega) _
  have hz0 : W0.heap.size = base + 1 := by rw [← hW0]; simp; omega
  have Q0 := Lib.hid hq0
  have K0 := Lib.hid hk0
  have M0 := Lib.hid hm0
  have BB0 := Lib.hid hb0
  have HBASE := Lib.hid hbase
  have hwb : w.heap.size + 2 = base := by omega
  clear hq0 hk0 hm0 hb0 hn h
  -- what a later world still holds
  have hlat : ∀ W', Below base W0 W' → Boxed W' w.heap.size 64 (.slice A n c) ∧ Boxed W' (w.heap.size + 1) 5 (.int .u8 most) ∧ Sl W' B 1 intC A keys ∧ Below w.heap.size w W' := fun W' hb =>
    ⟨(hb.block _ (by omega)).trans K0.out, (hb.block _ (by omega)).trans M0.out, (HS.out.below (BB0.out.mono hB)).below (hb.mono (by omega)), BB0.out.trans (hb.mono (by omega))⟩
  have HLAT := Lib.hid hlat
  clear hlat hwb
  go_enter Try.func6, Try.ntmps6
  go_wp2_with fail
  clear hW0 hbase
  go_loopw [6, 7, 8] (fun v6 v7 v8 wr => ∃ k : Nat, ∃ A1 c1 A2 c2, k ≤ n ∧ v8 = .int .i64 k ∧ v6 = .slice A1 k c1 ∧ v7 = .slice A2 k c2 ∧ Hid (QH wr base base (qOf (fk keys) (pl k)) k) ∧ Hid (Own wr base 60 2 pairC (.slice A1 k c1) ((qOf (fk keys) (pl k)).map kt)) ∧ Hid (Own wr base 3 1 intC (.slice A2 k c2) (pl k)) ∧ Hid (Below base W0 wr)) (fun _ _ v8 _ => n - (intOf v8).toNat)
  case atStart => exact ⟨0, none, 0, none, 0, Nat.zero_le _, rfl, rfl, rfl, Q0, Own.nil _ _ _ pair_len, Own.nil _ _ _ int_len, Below.refl _ _⟩
  case round =>
    obtain ⟨k, A1, c1, A2, c2, hk, rfl, rfl, rfl, HQ, HO1, HO2, HB⟩ := hrel
    obtain ⟨l1, l2, l3, l4⟩ := HLAT.out wr HB.out
    have k1 := l1.cell
    have hsz := HQ.out.size
    by_cases hlt : k < n
    · have hkl : k < keys.length := by rw [HN.out]; exact hlt
      obtain ⟨b, o, rfl, hbB⟩ := HS.out.addr (by omega) (by omega)
      have r0 : wr.cell? ⟨b, o + k, none⟩ = some (.int .i64 (keys[k]'hkl)) := l3.cell1 hkl
      have HE : Hid (qOf (fk keys) (pl k) ++ [⟨keys[k]'hkl, (k : Int), (k : Int)⟩] = qOf (fk keys) (pl (k + 1))) := by
        show _ = _
        rw [pl_succ, qOf_snoc, pl_length, fk_at keys k hkl]
      have HOLDK : Hid (∀ W', Below base W0 W' → W'.cell? ⟨w.heap.size, 0, none⟩ = some (.slice (some ⟨b, o, none⟩) n c) ∧ W'.cell? ⟨b, o + k, none⟩ = some (.int .i64 (keys[k]'hkl))) := fun W' hb => ⟨(HLAT.out W' hb).1.cell, (HLAT.out W' hb).2.2.1.cell1 hkl⟩
      have hP := fun hq => Put_any wr base base (qOf (fk keys) (pl k)) k (keys[k]'hkl) k hq (by rw [qOf_length, pl_length]; omega) (by omega) (by omega)
      have HP := hP HQ.out
      clear hP
      rw [HE.out] at HP
      have HLQ : Hid (((qOf (fk keys) (pl k)).map kt).length = k) := by show _ = _; rw [List.length_map, qOf_length, pl_length]
      obtain ⟨x, hx⟩ : ∃ x, keys[k]'hkl = x := ⟨_, rfl⟩
      rw [hx] at r0 HE HOLDK HP
      have hk1 : k + 1 ≤ 2000000000 := by omega
      clear hx hkl l1 l2 l3 l4
      go_wp2_with (first
        | (go_at_call 16; refine HP.mono ?_; rintro e w1 ⟨rfl, hq1, hb1⟩; have HQ1 := Lib.hid hq1; have HO11 := Lib.hid (hb1.own HO1.out (by decide) (by decide)); have HO21 := Lib.hid (hb1.own HO2.out (by decide) (by decide)); have HB1 := Lib.hid (HB.out.trans hb1.1); have g1 := (HOLDK.out w1 HB1.out).1; have g2 := (HOLDK.out w1 HB1.out).2; have hz1 := hq1.size; clear hq1 hb1)
        | (at_builtin; refine wpList_append_sl rfl (.tmp 33) (.tmp 40) 56 rfl r4Elem base pairC pair_one (.slice A1 k c1) ((qOf (fk keys) (pl k)).map kt) k HLQ.out rfl (HO11.out.alloc _) (w1.heap.size + 1) (some ⟨w1.heap.size, 0, none⟩) 1 1 [(x, (k : Int))] rfl rfl (Sl.new w1 pairC 2 pair_len 60 (x, (k : Int))) hk1 (le_alloc HQ1.out.size _) ?_; intro A3 c3 w2 ho2 hg2 _; have HQ2 := Lib.hid ((HQ1.out.alloc _).grown (HO11.out.alloc _) (by decide) (by decide) hg2); have HB2 := Lib.hid ((HO11.out.alloc _).below_grown (HB1.out.alloc HQ1.out.size _) hg2 (Nat.le_refl _) (le_alloc HQ1.out.size _)); have HO12 := Lib.hid ho2; have HO22 := Lib.hid ((HO21.out.alloc _).grown hg2 (apart_ir HO21.out HO11.out)); have hz2 := HQ2.out.size; clear ho2 hg2)
        | (at_builtin; refine wpList_append_sl rfl (.tmp 42) (.tmp 44) 64 rfl intElem base intC int_one (.slice A2 k c2) (pl k) k (pl_length k) rfl (HO22.out.alloc _) (w2.heap.size + 1) (some ⟨w2.heap.size, 0, none⟩) 1 1 [(k : Int)] rfl rfl (Sl.new w2 intC 1 int_len 3 (k : Int)) hk1 (le_alloc HQ2.out.size _) ?_; intro A4 c4 w3 ho3 hg3 _; have HQ3 := Lib.hid ((HQ2.out.alloc _).grown (HO22.out.alloc _) (by decide) (by decide) hg3); have HB3 := Lib.hid ((HO22.out.alloc _).below_grown (HB2.out.alloc HQ2.out.size _) hg3 (Nat.le_refl _) (le_alloc HQ2.out.size _)); have HO23 := Lib.hid ho3; have HO13 := Lib.hid ((HO12.out.alloc _).grown hg3 (apart_ri HO22.out HO12.out)); clear ho3 hg3)
        | fail)
      go_roundw
      case rel =>
        refine ⟨k + 1, A3, c3, A4, c4, by omega, by go_num, rfl, rfl, ?_, ?_, ?_, HB3⟩
        · have := HQ3.out
          show QH _ _ _ _ _
          rw [show ((k + 1 : Nat) : Int) = (k : Int) + 1 from by omega]
          exact this
        · have := HO13.out
          show Own _ _ _ _ _ _ _
          rw [← HE.out, List.map_append]
          exact this
        · show Own _ _ _ _ _ _ _
          rw [pl_succ]
          exact HO23.out
      case measure => simp [intOf]; omega
    · obtain rfl : k = n := by omega
      have hcm : Came (qOf (fk keys) (pl k)) k := by have := qOf_came (fk keys) (pl k); rwa [pl_length] at this
      have hxl : (qOf (fk keys) (pl k)).length = k := by rw [qOf_length, pl_length]
      have HKEY : Hid (∀ x ∈ pl k, ∀ W', Below base W0 W' → Calls Try.prog 25 #[.int .i64 x, .pointer (some ⟨w.heap.size, 0, none⟩)] W' fun e W'' => e = .returned (.int .i64 (fk keys x)) ∧ W' = W'') := fun x hx W' hb => by
        obtain ⟨i, hi, rfl⟩ := pl_mem k x hx
        obtain ⟨m1, m2, m3, m4⟩ := HLAT.out W' hb
        exact Key_any W' w.heap.size A k c B keys i m1 HN.out m3 hi (by omega) _ (by rw [fk_at keys i (by rw [HN.out]; exact hi)]; exact List.getElem?_eq_getElem _)
      have HSK := fun W' h1 h2 h3 => SortedK_any (fk keys) w.heap.size A2 k c2 W'.heap.size (pl k) W' (pl_length k) h1 h2 (by omega) h3
      obtain ⟨X, hX⟩ : ∃ X, qOf (fk keys) (pl k) = X := ⟨_, rfl⟩
      simp only [hX] at HSK
      rw [hX] at HQ HO1 hcm hxl
      have hdl : ((drain X).map kt).length = k := by rw [List.length_map, drain_length, hxl]
      have hdl2 : ((drain X).map (·.thing)).length = k := by rw [List.length_map, drain_length, hxl]
      have HXL := Lib.hid hxl
      have HCM := Lib.hid hcm
      have HDL := Lib.hid hdl
      have HDL2 := Lib.hid hdl2
      clear hX hxl hcm hdl hdl2 l1 l2 l3 l4
      go_wp2_with fail
      refine (Sorted04_any A1 k c1 _ X k wr HXL.out HO1.out.sl' (Nat.le_refl _) (by omega) HCM.out).mono ?_
      rintro e w1 ⟨A5, c5, rfl, ho5, hb5⟩
      rw [HDL.out] at ho5 ⊢
      have hz1 := hb5.size
      have HB1 := Lib.hid hb5
      have HO5 := Lib.hid ho5
      clear ho5 hb5
      go_wp2_with fail
      obtain ⟨w2, hw2⟩ : ∃ w2, w1.alloc (.cells #[.slice A5 k c5] 56) = w2 := ⟨_, rfl⟩
      have b9 : Boxed w2 w1.heap.size 56 (.slice A5 k c5) := by rw [← hw2]; exact Boxed.new w1 _ _
      have hb2 : Below wr.heap.size wr w2 := by rw [← hw2]; exact HB1.out.alloc hz1 _
      have o52 : Own w2 wr.heap.size 60 2 pairC (.slice A5 k c5) ((drain X).map kt) := by rw [← hw2]; exact HO5.out.alloc _
      have hz2 : w2.heap.size = w1.heap.size + 1 := by rw [← hw2]; simp
      rw [hw2]
      clear hw2
      have B9 := Lib.hid b9
      have HB2 := Lib.hid hb2
      have HO52 := Lib.hid o52
      have HW2 := Lib.hid (HB.out.trans (hb2.mono (by omega)))
      clear b9 hb2 o52
      refine (HSK w2 ((HO2.out.below HB2.out (Nat.le_refl _)).sl') (Nat.le_refl _) (fun x hx W' hW' => HKEY.out x hx W' (HW2.out.trans (hW'.mono (by omega))))).mono ?_
      rintro e w3 ⟨A6, c6, rfl, ho6, hb6⟩
      rw [HDL2.out] at ho6 ⊢
      have hz3 := hb6.size
      have HO6 := Lib.hid ho6
      have HB3 := Lib.hid hb6
      clear ho6 hb6 HSK
      go_wp2_with fail
      refine (SortedN_any A2 k c2 _ (pl k) w3 (pl_length k) (((HO2.out.below HB2.out (Nat.le_refl _)).below HB3.out (by omega)).sl') (Nat.le_refl _) (by omega)).mono ?_
      rintro e w4 ⟨A7, c7, rfl, ho7, hb7⟩
      rw [drain_zero] at ho7 ⊢
      rw [pl_length] at ho7 ⊢
      have hz4 := hb7.size
      have HO7 := Lib.hid ho7
      have hb24 : Below w2.heap.size w2 w4 := HB3.out.trans (hb7.mono hz3)
      have b94 : Boxed w4 w1.heap.size 56 (.slice A5 k c5) := (hb24.block _ (by omega)).trans B9.out
      have B94 := Lib.hid b94
      have c9 := b94.cell
      have HO54 := Lib.hid (HO52.out.below hb24 (Nat.le_refl _))
      have HO64 := Lib.hid (HO6.out.below hb7 (Nat.le_refl _))
      have hwr4 : Below wr.heap.size wr w4 := HB2.out.trans (hb24.mono (by omega))
      have HQ4 := Lib.hid (HQ.out.below hwr4)
      have HB4 := Lib.hid (HB.out.trans (hwr4.mono (by omega)))
      obtain ⟨ob, HO54⟩ : ∃ ob, Hid (Own w4 ob 60 2 pairC (.slice A5 k c5) ((drain X).map kt)) := ⟨_, HO54⟩
      clear ho7 hb7 hb24 b94 hwr4 HQ HO1 HO2 HB HB1 HO5 B9 HB2 HO52 HW2 HO6 HB3
      go_wp2_with fail
      go_loopw [12] (fun v wr => ∃ i d : Nat, i ≤ k ∧ v = .int .i64 i ∧ wr = w4.drewN d) (fun v _ => k - (intOf v).toNat)
      case atStart => exact ⟨0, 0, Nat.zero_le _, rfl, rfl⟩
      case round =>
        obtain ⟨i, d, hi, rfl, hwd⟩ := hrel
        obtain ⟨wv, hwv⟩ : ∃ wv, w4.drewN d = wv := ⟨_, rfl⟩
        rw [hwv] at hwd
        subst hwd
        have b9v : Boxed wr w1.heap.size 56 (.slice A5 k c5) := by rw [← hwv]; exact B94.out
        have c9v := b9v.cell
        by_cases hik : i < k
        · have hix : i < (drain X).length := by rw [drain_length, HXL.out]; exact hik
          have hwant : ((drain X).map kt)[i]? = some (kt ((drain X)[i]'hix)) := by simp [hix]
          have hs : ((drain X).map (·.thing))[i]? = some ((drain X)[i]'hix).thing := by simp [hix]
          obtain ⟨y, hy⟩ : ∃ y, (drain X)[i]'hix = y := ⟨_, rfl⟩
          rw [hy] at hwant hs
          obtain ⟨g5, rfl, _⟩ := HO54.out.addr0 (by omega)
          obtain ⟨g6, rfl, _⟩ := HO64.out.addr0 (by omega)
          obtain ⟨g7, rfl, _⟩ := HO7.out.addr0 (by omega)
          have q1 : wr.cell? ⟨g5, i * 2 + 1, none⟩ = some (.int .i64 y.thing) := by
            rw [← hwv]
            have := (rd_cell (HO54.out.sl'.rd_at hwant)).2 1 (by omega)
            simpa [Addr.add, pairC, kt] using this
          have q2 : wr.cell? ⟨g6, i, none⟩ = some (.int .i64 y.thing) := by
            rw [← hwv]
            have := (rd_cell (HO64.out.sl'.rd_at hs)).2 0 (by omega)
            simpa [Addr.add, intC] using this
          have q3 : wr.cell? ⟨g7, i, none⟩ = some (.int .i64 (i : Int)) := by
            rw [← hwv]
            have := (rd_cell (HO7.out.sl'.rd_at (pl_at k i hik))).2 0 (by omega)
            simpa [Addr.add, intC] using this
          have hdi : decide (i < k) = true := by simpa using hik
          have hdi2 : decide ((i : Int) < (k : Int)) = true := by simp; omega
          clear hix hwant hs hy b9v
          go_wp2_with (go_quiet (fail))
          exact ⟨⟨i + 1, d + nq, by omega, by go_num, by rw [← hwv, World.drewN_drewN]⟩, by simp [intOf]; omega⟩
        · obtain rfl : i = k := by omega
          clear hik
          have HQ5 : Hid (QH wr base base X i) := by rw [← hwv]; exact HQ4.out.drewN d
          have HB5 : Hid (Below base W0 wr) := by rw [← hwv]; exact Lib.hid (below_drewN HB4.out d)
          have ho5 := HO54.out.drewN d
          rw [hwv] at ho5
          have HO55 := Lib.hid ho5
          have B95 := Lib.hid b9v
          have c3v := (HLAT.out wr HB5.out).2.1.cell
          have hlt3 := (HLAT.out wr HB5.out).2.1.lt
          have hlt4 : w.heap.size + 1 < wr.heap.size + 1 := by omega
          have hlt5 : w.heap.size + 1 < wr.heap.size + 1 + 1 := by omega
          have hlt6 : w.heap.size < wr.heap.size := by omega
          have hlt7 : w.heap.size < wr.heap.size + 1 := by omega
          clear ho5 hwv b9v
          have hlt8 : w1.heap.size < wr.heap.size := B95.out.lt
          have hlt9 : w1.heap.size < wr.heap.size + 1 := by omega
          have hlta : w1.heap.size < wr.heap.size + 1 + 1 := by omega
          -- the world in which the drain begins
          have HX : Hid (∀ (p : Nat) (x : World), p = 0 → (((wr.alloc (.cells #[.pointer (some ⟨base, 0, none⟩)] 47)).alloc (.cells #[.int .i64 0] 3)).alloc (.cells #[.bool true] 4)) = x →
              GJ (wr.heap.size + 1 + 1) (wr.heap.size + 1) w1.heap.size (w.heap.size + 1) A5 i c5 most ob ((drain X).map kt) p x ∧ Below base W0 x ∧ DS x base base wr.heap.size X i) := by
            rintro _ x rfl rfl
            refine ⟨⟨?_, ?_, ((B95.out.alloc _).alloc _).alloc _, ((HO55.out.alloc _).alloc _).alloc _, (((HLAT.out wr HB5.out).2.1.alloc _).alloc _).alloc _⟩, ?_, ((HQ5.out.alloc _).alloc _).alloc _, ?_⟩
            · have := Boxed.new ((wr.alloc (.cells #[.pointer (some ⟨base, 0, none⟩)] 47)).alloc (.cells #[.int .i64 0] 3)) 4 (.bool true)
              simpa using this
            · have := (Boxed.new (wr.alloc (.cells #[.pointer (some ⟨base, 0, none⟩)] 47)) 3 (.int .i64 0)).alloc (.cells #[.bool true] 4)
              simpa using this
            · exact ((HB5.out.alloc HQ5.out.size _).alloc (le_alloc HQ5.out.size _) _).alloc (by simp; have := HQ5.out.size; omega) _
            · exact ((Blk.new wr 47 #[.pointer (some ⟨base, 0, none⟩)]).alloc _).alloc _
          have HTAIL : Hid (∀ q w6 ys, GJ (wr.heap.size + 1 + 1) (wr.heap.size + 1) w1.heap.size (w.heap.size + 1) A5 i c5 most ob ((drain X).map kt) q w6 → Below base W0 w6 → QH w6 base base ys i → ys.length = i - q → q ≤ i →
              (∀ x, Hid (Below w6.heap.size w6 x) → x.cell? ⟨wr.heap.size + 1, 0, none⟩ = some (.int .i64 (q : Int)) ∧ x.cell? ⟨wr.heap.size + 1 + 1, 0, none⟩ = some (.bool true) ∧ x.cell? ⟨w1.heap.size, 0, none⟩ = some (.slice A5 i c5) ∧ Below w6.heap.size w6 x) ∧
              (∀ x, Hid (Below w6.heap.size w6 x) → Calls Try.prog 19 #[.pointer (some ⟨base, 0, none⟩)] x fun e W' => e = .returned (.int .i64 ((i : Int) - (q : Int))) ∧ x = W') ∧
              (∀ x, Hid (Below w6.heap.size w6 x) → Calls Try.prog 20 #[] x fun e W' => e = .returned (.bool true) ∧ Hid (Below w6.heap.size w6 W')) ∧
              (∀ x, Hid (Below w6.heap.size w6 x) → Below w.heap.size w x)) := by
            intro q w6 ys g b6 hq hyl hqi
            obtain ⟨j1, j2, j3, j4, j5⟩ := g
            refine ⟨fun x hx => ⟨(hx.out.block _ j2.lt).trans j2 |> Blk.cell |> (· 0) , (hx.out.block _ j1.lt).trans j1 |> Blk.cell |> (· 0), (hx.out.block _ j3.lt).trans j3 |> Blk.cell |> (· 0), hx.out⟩, fun x hx => ?_, fun x hx => (live04 x).mono ?_, fun x hx => (HLAT.out x (b6.trans (hx.out.mono hq.size))).2.2.2⟩
            · have := QLen_any x base base ys i (hq.below hx.out) (i - q) hyl
              rwa [show ((i - q : Nat) : Int) = (i : Int) - (q : Int) from by omega] at this
            · rintro e W' ⟨rfl, hb⟩
              exact ⟨rfl, hx.out.trans (hb.mono hx.out.size)⟩
          rcases Nat.eq_zero_or_pos most with hm0 | hmp
          case' inl =>
            have hdm : decide (0 < most) = false := by simp; omega
            have hdm2 : decide ((0 : Int) < (most : Int)) = false := by simp; omega
            by_cases hmk : most < i
            case' pos =>
              have hdk : decide ((most : Int) < (i : Int)) = true := by simp; omega
              have hdk2 : decide (most < i) = true := by simpa using hmk
              have HXP := Lib.hid (fun x => HX.out most x hm0)
              have hyl : X.length = i - most := by rw [HXL.out]; omega
              have hqi : most ≤ i := by omega
            case' neg =>
              have hdk : decide ((most : Int) < (i : Int)) = false := by simp; omega
              have hdk2 : decide (most < i) = false := by simpa using hmk
              have HXP := Lib.hid (fun x => HX.out i x (by omega))
              have hyl : X.length = i - i := by rw [HXL.out]; omega
              have hqi : i ≤ i := Nat.le_refl _
            all_goals clear hm0
            all_goals go_wp2_with (go_at_call 26; refine (Drain_any wr base).mono ?_; rintro e w5 ⟨rfl, hw5⟩)
            all_goals
              obtain ⟨w6, hw6⟩ : ∃ w6, (((wr.alloc (.cells #[.pointer (some ⟨base, 0, none⟩)] 47)).alloc (.cells #[.int .i64 0] 3)).alloc (.cells #[.bool true] 4)) = w6 := ⟨_, rfl⟩
              rw [hw6]
              obtain ⟨hg6, hb6, hd6⟩ := HXP.out w6 hw6
              have hq6 := hd6.1
              clear hd6 hw6 HXP
          case' inr =>
            have hdm : decide (0 < most) = true := by simpa using hmp
            have hdm2 : decide ((0 : Int) < (most : Int)) = true := by simp; omega
            go_wp2_with (go_at_call 26; refine (Drain_any wr base).mono ?_; rintro e w5 ⟨rfl, hw5⟩)
            obtain ⟨wX, hwX⟩ : ∃ wX, (((wr.alloc (.cells #[.pointer (some ⟨base, 0, none⟩)] 47)).alloc (.cells #[.int .i64 0] 3)).alloc (.cells #[.bool true] 4)) = wX := ⟨_, rfl⟩
            obtain ⟨x1, x2, x3⟩ := HX.out 0 wX rfl hwX
            rw [hwX]
            have HD1 := Drain1_fn 27 #[.pointer (some ⟨wr.heap.size + 1 + 1, 0, none⟩), .pointer (some ⟨wr.heap.size + 1, 0, none⟩), .pointer (some ⟨w1.heap.size, 0, none⟩), .pointer (some ⟨w.heap.size + 1, 0, none⟩)] rfl rfl base base wr.heap.size
              (fun pre W => GJ (wr.heap.size + 1 + 1) (wr.heap.size + 1) w1.heap.size (w.heap.size + 1) A5 i c5 most ob ((drain X).map kt) pre.length W ∧ Below base W0 W ∧ pre.length < most)
              (fun pre W => GJ (wr.heap.size + 1 + 1) (wr.heap.size + 1) w1.heap.size (w.heap.size + 1) A5 i c5 most ob ((drain X).map kt) pre.length W ∧ Below base W0 W ∧ pre.length = most)
              (fun s A B h hb => ⟨⟨hb.blk h.1.1 (by decide) (by decide), hb.blk h.1.2.1 (by decide) (by decide), hb.blk h.1.2.2.1 (by decide) (by decide), hb.own h.1.2.2.2.1 (by decide) (by decide), hb.blk h.1.2.2.2.2 (by decide) (by decide)⟩, h.2.1.trans hb.1, h.2.2⟩)
              wX X i (by rw [HXL.out]; omega) (by
                intro pre x W1 hJ hpre
                have hat : ((drain X).map kt)[pre.length]? = some x := by
                  obtain ⟨t, ht⟩ := hpre
                  rw [← ht]
                  simp
                have hy := Yield_any W1 _ _ _ _ A5 i c5 most ob _ pre.length x hJ.1 hat (by omega) hm (by omega)
                refine hy.mono ?_
                rintro e W2 ⟨rfl, hg, rfl⟩
                have hk := Yield_KD W1 _ _ base base wr.heap.size (.bool true) _ hJ.1.1 hJ.1.2.1 (.bool true) (.int .i64 (pre.length + 1 : Nat))
                have hb2 : Below base W0 ((W1.setCell ⟨wr.heap.size + 1 + 1, 0, none⟩ (.bool true)).setCell ⟨wr.heap.size + 1, 0, none⟩ (.int .i64 (pre.length + 1 : Nat))) := (hJ.2.1.setCell (by have := HQ5.out.size; show base ≤ wr.heap.size + 1 + 1; omega) _).setCell (by have := HQ5.out.size; show base ≤ wr.heap.size + 1; omega) _
                have hl1 : (pre ++ [x]).length = pre.length + 1 := by simp
                by_cases hlt : pre.length + 1 < most
                · exact .inl ⟨by simp [hlt], ⟨by rw [hl1]; exact hg, hb2, by rw [hl1]; exact hlt⟩, hk⟩
                · exact .inr ⟨by simp [hlt], ⟨by rw [hl1]; exact hg, hb2, by rw [hl1]; have := hJ.2.2; omega⟩, hk⟩) x3 HCM.out ⟨x1, x2, hmp⟩
            clear x1 x2 x3
            refine HD1.mono ?_
            clear HD1
            rintro e w6 ⟨⟨v, rfl⟩, s, ys, hs1, hs2, hs3⟩
            have hsl : s.length + ys.length = i := by
              have := congrArg List.length hs1
              rw [List.length_append, List.length_map, drain_length] at this
              rw [this, HDL.out]
            have hq6 := hs2.1
            have hG : ∃ q : Nat, GJ (wr.heap.size + 1 + 1) (wr.heap.size + 1) w1.heap.size (w.heap.size + 1) A5 i c5 most ob ((drain X).map kt) q w6 ∧ Below base W0 w6 ∧ ys.length = i - q ∧ q ≤ i ∧ ((q = i ∧ ¬ most < i) ∨ (q = most ∧ most < i)) := by
              rcases hs3 with ⟨rfl, g, b, l⟩ | ⟨g, b, l⟩
              · exact ⟨s.length, g, b, by simp at hsl ⊢; omega, by omega, .inl ⟨by simpa using hsl, by simp at hsl; omega⟩⟩
              · exact ⟨s.length, g, b, by omega, by omega, by omega⟩
            obtain ⟨q, hg6, hb6, hyl, hqi, hqq⟩ := hG
            have c9x := hg6.2.2.1.cell
            have c3x := hg6.2.2.2.2.cell
            clear hs1 hs2 hs3 hwX hsl
            by_cases hmk : most < i
            case' pos =>
              have hdk : decide ((most : Int) < (i : Int)) = true := by simp; omega
              have hdk2 : decide (most < i) = true := by simpa using hmk
              obtain rfl : most = q := by omega
            case' neg =>
              have hdk : decide ((most : Int) < (i : Int)) = false := by simp; omega
              have hdk2 : decide (most < i) = false := by simpa using hmk
              obtain rfl : i = q := by omega
            all_goals go_wp2_with fail
          · obtain ⟨ks, hql0, hlv0, hfb⟩ := HTAIL.out _ _ _ hg6 hb6 hq6 hyl hqi
            have BD : Hid (Below w6.heap.size w6 w6.drew) := (Below.refl _ _).drew
            have KS := Lib.hid ks
            have HFB := Lib.hid hfb
            have hql := hql0 _ BD
            have HLV := Lib.hid (hlv0 _ BD)
            have hdq : (i : Int) - (i : Int) = 0 := by omega
            have hwd : IntKind.i64.wrap 0 = 0 := by rw [IntKind.wrap_i64]; omega
            rw [hdq] at hql
            have HQL := Lib.hid hql
            have hee : decide ((i : Int) = (i : Int)) = true := by simp
            clear ks hql0 hlv0 hfb hg6 hb6 hq6 hyl HTAIL HX HCM HQ5 HO55 B95 HKEY hql
            clear hB HS hz0 BB0 hsz hz1 hz2 hz3 hz4 HB4 HN hd200 HLAT hk hlt HXL HDL HDL2 HO7 B94 c9 HO64 HQ4 HO54 hi c9v HB5 c3v hlt3 hlt4 hlt5 hlt6 hlt7 hlt8 hlt9 hlta hdm hdm2 hmk hdk hdk2 hqi
            (try clear hm0)
            (try clear hqq)
            (try clear hw5)
            (try clear c9x)
            (try clear c3x)
            go_region_held3 (fun x => x.cell? ⟨wr.heap.size + 1, 0, none⟩ = some (.int .i64 (i : Int)) ∧ x.cell? ⟨wr.heap.size + 1 + 1, 0, none⟩ = some (.bool true) ∧ x.cell? ⟨w1.heap.size, 0, none⟩ = some (.slice A5 i c5) ∧ Below w6.heap.size w6 x) (exact KS.out _ (by assumption)) (first
              | (go_simp; go_at_call 19; refine HQL.out.mono ?_; rintro e w7 ⟨rfl, rfl⟩)
              | (go_simp; go_at_call 20; refine HLV.out.mono ?_; rintro e w7 ⟨rfl, B7⟩)
              | fail)
            go_wp2
            go_ret
            exact ⟨rfl, HFB.out _ B7⟩
          · obtain ⟨ks, hql0, hlv0, hfb⟩ := HTAIL.out _ _ _ hg6 hb6 hq6 hyl hqi
            have BD : Hid (Below w6.heap.size w6 w6.drew) := (Below.refl _ _).drew
            have KS := Lib.hid ks
            have HFB := Lib.hid hfb
            have hql := hql0 _ BD
            have HLV := Lib.hid (hlv0 _ BD)
            obtain ⟨dq, hdq⟩ : ∃ dq, (i : Int) - (most : Int) = dq := ⟨_, rfl⟩
            have hdd : decide (dq = dq) = true := by simp
            have hwd : IntKind.i64.wrap dq = dq := by rw [IntKind.wrap_i64]; omega
            rw [hdq] at hql
            have HQL := Lib.hid hql
            have hee : decide ((most : Int) = (most : Int)) = true := by simp
            clear ks hql0 hlv0 hfb hg6 hb6 hq6 hyl HTAIL HX HCM HQ5 HO55 B95 HKEY hql
            clear hB HS hz0 BB0 hsz hz1 hz2 hz3 hz4 HB4 HN hd200 HLAT hk hlt HXL HDL HDL2 HO7 B94 c9 HO64 HQ4 HO54 hi c9v HB5 c3v hlt3 hlt4 hlt5 hlt6 hlt7 hlt8 hlt9 hlta hdm hdm2 hmk hdk hdk2 hqi
            (try clear hm0)
            (try clear hqq)
            (try clear hw5)
            (try clear c9x)
            (try clear c3x)
            go_region_held3 (fun x => x.cell? ⟨wr.heap.size + 1, 0, none⟩ = some (.int .i64 (most : Int)) ∧ x.cell? ⟨wr.heap.size + 1 + 1, 0, none⟩ = some (.bool true) ∧ x.cell? ⟨w1.heap.size, 0, none⟩ = some (.slice A5 i c5) ∧ Below w6.heap.size w6 x) (exact KS.out _ (by assumption)) (first
              | (go_simp; go_at_call 19; refine HQL.out.mono ?_; rintro e w7 ⟨rfl, rfl⟩)
              | (go_simp; go_at_call 20; refine HLV.out.mono ?_; rintro e w7 ⟨rfl, B7⟩)
              | fail)
            go_wp2
            go_ret
            exact ⟨rfl, HFB.out _ B7⟩
          · obtain ⟨ks, hql0, hlv0, hfb⟩ := HTAIL.out _ _ _ hg6 hb6 hq6 hyl hqi
            have BD : Hid (Below w6.heap.size w6 w6.drew) := (Below.refl _ _).drew
            have KS := Lib.hid ks
            have HFB := Lib.hid hfb
            have hql := hql0 _ BD
            have HLV := Lib.hid (hlv0 _ BD)
            have hdq : (i : Int) - (i : Int) = 0 := by omega
            have hwd : IntKind.i64.wrap 0 = 0 := by rw [IntKind.wrap_i64]; omega
            rw [hdq] at hql
            have HQL := Lib.hid hql
            have hee : decide ((i : Int) = (i : Int)) = true := by simp
            clear ks hql0 hlv0 hfb hg6 hb6 hq6 hyl HTAIL HX HCM HQ5 HO55 B95 HKEY hql
            clear hB HS hz0 BB0 hsz hz1 hz2 hz3 hz4 HB4 HN hd200 HLAT hk hlt HXL HDL HDL2 HO7 B94 c9 HO64 HQ4 HO54 hi c9v HB5 c3v hlt3 hlt4 hlt5 hlt6 hlt7 hlt8 hlt9 hlta hdm hdm2 hmk hdk hdk2 hqi
            (try clear hm0)
            (try clear hqq)
            (try clear hw5)
            (try clear c9x)
            (try clear c3x)
            go_region_held3 (fun x => x.cell? ⟨wr.heap.size + 1, 0, none⟩ = some (.int .i64 (i : Int)) ∧ x.cell? ⟨wr.heap.size + 1 + 1, 0, none⟩ = some (.bool true) ∧ x.cell? ⟨w1.heap.size, 0, none⟩ = some (.slice A5 i c5) ∧ Below w6.heap.size w6 x) (exact KS.out _ (by assumption)) (first
              | (go_simp; go_at_call 19; refine HQL.out.mono ?_; rintro e w7 ⟨rfl, rfl⟩)
              | (go_simp; go_at_call 20; refine HLV.out.mono ?_; rintro e w7 ⟨rfl, B7⟩)
              | fail)
            go_wp2
            go_ret
            exact ⟨rfl, HFB.out _ B7⟩
          · obtain ⟨ks, hql0, hlv0, hfb⟩ := HTAIL.out _ _ _ hg6 hb6 hq6 hyl hqi
            have BD : Hid (Below w6.heap.size w6 w6.drew) := (Below.refl _ _).drew
            have KS := Lib.hid ks
            have HFB := Lib.hid hfb
            have hql := hql0 _ BD
            have HLV := Lib.hid (hlv0 _ BD)
            obtain ⟨dq, hdq⟩ : ∃ dq, (i : Int) - (most : Int) = dq := ⟨_, rfl⟩
            have hdd : decide (dq = dq) = true := by simp
            have hwd : IntKind.i64.wrap dq = dq := by rw [IntKind.wrap_i64]; omega
            rw [hdq] at hql
            have HQL := Lib.hid hql
            have hee : decide ((most : Int) = (most : Int)) = true := by simp
            clear ks hql0 hlv0 hfb hg6 hb6 hq6 hyl HTAIL HX HCM HQ5 HO55 B95 HKEY hql
            clear hB HS hz0 BB0 hsz hz1 hz2 hz3 hz4 HB4 HN hd200 HLAT hk hlt HXL HDL HDL2 HO7 B94 c9 HO64 HQ4 HO54 hi c9v HB5 c3v hlt3 hlt4 hlt5 hlt6 hlt7 hlt8 hlt9 hlta hdm hdm2 hmk hdk hdk2 hqi
            (try clear hm0)
            (try clear hqq)
            (try clear hw5)
            (try clear c9x)
            (try clear c3x)
            go_region_held3 (fun x => x.cell? ⟨wr.heap.size + 1, 0, none⟩ = some (.int .i64 (most : Int)) ∧ x.cell? ⟨wr.heap.size + 1 + 1, 0, none⟩ = some (.bool true) ∧ x.cell? ⟨w1.heap.size, 0, none⟩ = some (.slice A5 i c5) ∧ Below w6.heap.size w6 x) (exact KS.out _ (by assumption)) (first
              | (go_simp; go_at_call 19; refine HQL.out.mono ?_; rintro e w7 ⟨rfl, rfl⟩)
              | (go_simp; go_at_call 20; refine HLV.out.mono ?_; rintro e w7 ⟨rfl, B7⟩)
              | fail)
            go_wp2
            go_ret
            exact ⟨rfl, HFB.out _ B7⟩
end Go.Proofs.Ytkeeipfglmpgjaa
