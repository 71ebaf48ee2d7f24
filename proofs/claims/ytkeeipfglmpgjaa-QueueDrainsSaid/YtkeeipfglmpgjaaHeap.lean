/-
  container/heap at a queue's row: up, down, Push, Pop.
-/
import Derived.Test.YtkeeipfglmpgjaaQueue2
namespace Go.Proofs.Ytkeeipfglmpgjaa
set_option linter.unusedSimpArgs false
set_option linter.unusedVariables false
open Go.RowKit

theorem m_push (n : Nat) (Q : Nat) (w : World) : (method (n + 1) 91 (.pointer (some ⟨Q, 0, none⟩)) "Push").run Try.prog w = .ok (84, .pointer (some ⟨Q, 0, none⟩)) w := by kernel_rfl
theorem m_pop (n : Nat) (Q : Nat) (w : World) : (method (n + 1) 91 (.pointer (some ⟨Q, 0, none⟩)) "Pop").run Try.prog w = .ok (83, .pointer (some ⟨Q, 0, none⟩)) w := by kernel_rfl
theorem load_row (w : World) (Q : Nat) (v : Value) (h : w.cell? ⟨Q, 0, none⟩ = some v) : (loadVar 53 ⟨Q, 0, none⟩).run Try.prog w = .ok v w := by
  simp [loadVar, isAgg, go_sem, h]
theorem m_len (n : Nat) (Q : Nat) (w : World) (v : Value) (h : w.cell? ⟨Q, 0, none⟩ = some v) : (method (n + 1) 91 (.pointer (some ⟨Q, 0, none⟩)) "Len").run Try.prog w = .ok (80, v) w :=
  run_method_row n _ _ _ (by kernel_rfl) _ Try.underlying91 _ v w (load_row w Q v h)
theorem m_less (n : Nat) (Q : Nat) (w : World) (v : Value) (h : w.cell? ⟨Q, 0, none⟩ = some v) : (method (n + 1) 91 (.pointer (some ⟨Q, 0, none⟩)) "Less").run Try.prog w = .ok (81, v) w :=
  run_method_row n _ _ _ (by kernel_rfl) _ Try.underlying91 _ v w (load_row w Q v h)
theorem m_swap (n : Nat) (Q : Nat) (w : World) (v : Value) (h : w.cell? ⟨Q, 0, none⟩ = some v) : (method (n + 1) 91 (.pointer (some ⟨Q, 0, none⟩)) "Swap").run Try.prog w = .ok (82, v) w :=
  run_method_row n _ _ _ (by kernel_rfl) _ Try.underlying91 _ v w (load_row w Q v h)
attribute [local go_sem] m_push m_pop m_len m_less m_swap

theorem QS.cell {W : World} {base Q : Nat} {l : List One} {came : Int} (h : QS W base Q l came) : ∃ A c, W.cell? ⟨Q, 0, none⟩ = some (.slice A l.length c) ∧ Blk W Q 55 #[.slice A l.length c, .int .i64 came] ∧ Own W base 93 3 One.cells (.slice A l.length c) l := by
  obtain ⟨A, n, c, hq, ho⟩ := h
  obtain rfl := ho.cap.2
  have := hq.cell 0
  exact ⟨A, c, by simpa using this, hq, ho⟩
theorem QS.drewN {W : World} {base Q : Nat} {l : List One} {came : Int} (h : QS W base Q l came) (k : Nat) : QS (W.drewN k) base Q l came := h
/-- What a swap leaves. -/
theorem QS.swap {W W' : World} {base Q : Nat} {l l' : List One} {came : Int} {A : Option Addr} {n c : Nat} (hq : Blk W Q 55 #[.slice A n c, .int .i64 came]) (ho : Own W base 93 3 One.cells (.slice A n c) l)
    (ho' : Own W' base 93 3 One.cells (.slice A n c) l') (hg : W.grownBy W' (Value.slice A n c).ownBlock) : QS W' base Q l' came :=
  ⟨A, n, c, hq.grown hg (fun e => ho.ne_blk hq (by decide) e.symm), ho'⟩

set_option maxHeartbeats 1000000 in
set_option maxRecDepth 20000 in
theorem up_any (W : World) (base Q : Nat) (l : List One) (came : Int) (j : Nat) (h : QS W base Q l came) (hbase : base ≤ W.heap.size) (hl : l.length ≤ 1000000) (hj : j < l.length) (hu : UpInv (at_ l) l.length j) :
    Calls Try.prog 57 #[.iface 91 (.pointer (some ⟨Q, 0, none⟩)), .int .i64 j] W fun e W' => e = .returned (.tuple #[]) ∧ ∃ l', QS W' base Q l' came ∧ l'.Perm l ∧ HeapN (at_ l') l.length ∧ BF base W W' := by
  obtain ⟨N, hN⟩ : ∃ N, l.length = N := ⟨_, rfl⟩
  rw [hN] at hl hj hu ⊢
  have HN := Lib.hid hN
  have HQ0 := Lib.hid h
  have HU0 := Lib.hid hu
  clear hN h hu
  go_enter Try.func57, Try.ntmps57
  go_wp2
  go_loopw [1] (fun v wr => ∃ k : Nat, ∃ l' : List One, v = .int .i64 k ∧ k < N ∧ Hid (l'.length = N) ∧ Hid (QS wr base Q l' came) ∧ Hid (l'.Perm l) ∧ Hid (UpInv (at_ l') N k) ∧ Hid (BF base W wr) ∧ base ≤ wr.heap.size) (fun v _ => (intOf v).toNat)
  case atStart => exact ⟨j, l, rfl, hj, HN, HQ0, List.Perm.refl _, HU0, BF.refl _ _, hbase⟩
  case round =>
    obtain ⟨k, l', rfl, hk, HL, HQ, HP, HU, HB, hz⟩ := hrel
    obtain ⟨A, c, hc, hq, ho⟩ := HQ.out.cell
    rw [HL.out] at hc hq ho
    have HO := Lib.hid ho
    have HK := Lib.hid hq
    clear hq ho HQ0 HU0
    by_cases h0 : k = 0
    · subst h0
      go_wp2
      go_end0
      exact ⟨rfl, l', HQ.out, HP.out, up_root HU.out, HB.out⟩
    · obtain ⟨i, hi⟩ : ∃ i, (k - 1) / 2 = i := ⟨_, rfl⟩
      have hp : ((k : Int) - 1) / 2 = (i : Int) := by omega
      have hik : i < k := by omega
      have hne : ((i : Int) == (k : Int)) = false := by simp; omega
      have hLS := fun w' h => Less_any A N c w'.heap.size l' k i w' HL.out h (by rw [HL.out]; exact hk) (by rw [HL.out]; omega) (by omega)
      have HI := Lib.hid hi
      rw [← at_get (by rw [HL.out]; exact hk), ← at_get (by rw [HL.out]; omega)] at hLS
      cases hless : lessB (at_ l' k) (at_ l' i)
      · have HS := Lib.hid hless
        rw [hless] at hLS
        clear h0 hless hi
        go_wp2_with (go_at_call 81; refine (hLS _ HO.out.sl').mono ?_; rintro e w1 ⟨rfl, q, rfl⟩)
        go_end0
        exact ⟨rfl, l', HQ.out, HP.out, up_stop HU.out (by rw [HI.out]; exact HS.out), HB.out.drewN _⟩
      · have HS := Lib.hid hless
        rw [hless] at hLS
        clear h0 hless hi
        go_wp2_with (first
          | (go_at_call 81; refine (hLS _ HO.out.sl').mono ?_; rintro e w1 ⟨rfl, q, rfl⟩)
          | (go_at_call 82; refine (Swap_any A N c base l' i k _ (HO.out.drewN q) (by omega) hk (by omega)).mono ?_; rintro e w2 ⟨rfl, ho2, hg2⟩; have HO2 := Lib.hid ho2; have HG2 := Lib.hid hg2; clear ho2 hg2))
        go_roundw
        case rel =>
          refine ⟨i, swapL l' i k, rfl, by omega, (swapL_length _ _ _).trans HL.out, QS.swap (W := wr.drewN q) HK.out (HO.out.drewN q) HO2.out HG2.out, (swapL_perm l' i k (by rw [HL.out]; omega) (by rw [HL.out]; omega)).trans HP.out, ?_, ?_, Nat.le_trans hz HG2.out.size⟩
          · show UpInv _ _ _
            rw [swapL_at _ _ _ (by rw [HL.out]; omega) (by rw [HL.out]; omega)]
            have := up_step HU.out (by omega) hk (by rw [HI.out]; exact HS.out)
            rwa [HI.out] at this
          · exact (HB.out.drewN q).grown hz (HO.out.drewN q) HG2.out
        case measure => simp [intOf]; omega

set_option maxHeartbeats 1000000 in
set_option maxRecDepth 20000 in
theorem hPush_any (W : World) (base Q : Nat) (l : List One) (came : Int) (x : One) (h : QS W base Q l came) (hh : HeapN (at_ l) l.length) (hQ : base ≤ Q) (hbase : base ≤ W.heap.size) (hl : l.length ≤ 100000) :
    Calls Try.prog 43 #[.iface 91 (.pointer (some ⟨Q, 0, none⟩)), .iface 93 (.agg x.cells.toArray)] W fun e W' => e = .returned (.tuple #[]) ∧ ∃ l', QS W' base Q l' came ∧ l'.Perm (l ++ [x]) ∧ HeapN (at_ l') l'.length ∧ BF base W W' := by
  obtain ⟨n, hn⟩ : ∃ n, l.length = n := ⟨_, rfl⟩
  have hlen : (l ++ [x]).length = n + 1 := by rw [List.length_append, hn]; rfl
  have hu : UpInv (at_ (l ++ [x])) (l ++ [x]).length n := by
    rw [hlen]
    refine up_start (hh.congr_len hn fun k hk => ?_)
    rw [at_get (by omega), at_get (by omega), List.getElem_append_left]
  have HU := Lib.hid hu
  have HQ := Lib.hid h
  have HP := Push_any W base Q l came x h hQ hbase (by omega)
  have HN := Lib.hid hn
  have HLEN := Lib.hid hlen
  rw [hn] at hl
  clear h hh hn hu hlen
  go_enter Try.func43, Try.ntmps43
  go_wp2_with (first
    | (go_at_call 84; refine HP.mono ?_; rintro e W1 ⟨rfl, h1, hb1⟩; have hz1 := hb1.1.size; have HB1 := Lib.hid hb1; have H1 := Lib.hid h1; obtain ⟨A, c, c1, hq, ho⟩ := h1.cell; rw [HLEN.out] at c1; clear hb1 h1 hq ho)
    | (go_at_call 80; refine (RLen_any A (n + 1) c _).mono ?_; rintro e W2 ⟨rfl, rfl⟩)
    | (go_at_call 57; refine (up_any W1 base Q (l ++ [x]) came n H1.out (by omega) (by rw [HLEN.out]; omega) (by rw [HLEN.out]; omega) HU.out).mono ?_; rintro e W3 ⟨rfl, l', h3, h4, h5, h6⟩; have X3 := Lib.hid (And.intro h3 (And.intro h4 (And.intro h5 h6))); clear h3 h4 h5 h6)
    | fail)
  go_end0
  obtain ⟨h3, h4, h5, h6⟩ := X3.out
  exact ⟨rfl, l', h3, h4, by rw [h4.length_eq]; exact h5, HB1.out.trans h6⟩

set_option maxHeartbeats 2000000 in
set_option maxRecDepth 20000 in
theorem down_any (W : World) (base Q : Nat) (l : List One) (came : Int) (N : Nat) (h : QS W base Q l came) (hbase : base ≤ W.heap.size) (hl : l.length ≤ 1000000) (hN : N ≤ l.length) (hd : DownInv (at_ l) N 0) :
    Calls Try.prog 58 #[.iface 91 (.pointer (some ⟨Q, 0, none⟩)), .int .i64 0, .int .i64 N] W fun e W' => ∃ b l', e = .returned (.bool b) ∧ QS W' base Q l' came ∧ l'.Perm l ∧ HeapN (at_ l') N ∧ (∀ k, N ≤ k → at_ l' k = at_ l k) ∧ BF base W W' := by
  obtain ⟨M, hM⟩ : ∃ M, l.length = M := ⟨_, rfl⟩
  rw [hM] at hl hN
  have HM := Lib.hid hM
  have HQ0 := Lib.hid h
  have HD0 := Lib.hid hd
  clear hM h hd
  go_enter Try.func58, Try.ntmps58
  go_wp2
  go_loopw [7] (fun v wr => ∃ k : Nat, ∃ l' : List One, v = .int .i64 k ∧ (k = 0 ∨ k < N) ∧ Hid (l'.length = M) ∧ Hid (QS wr base Q l' came) ∧ Hid (l'.Perm l) ∧ Hid (DownInv (at_ l') N k) ∧ Hid (∀ k, N ≤ k → at_ l' k = at_ l k) ∧ Hid (BF base W wr) ∧ base ≤ wr.heap.size) (fun v _ => N - (intOf v).toNat)
  case atStart => exact ⟨0, l, rfl, .inl rfl, HM, HQ0, List.Perm.refl _, HD0, fun _ _ => rfl, BF.refl _ _, hbase⟩
  case round =>
    obtain ⟨k, l', rfl, hk, HL, HQ, HP, HD, HE, HB, hz⟩ := hrel
    obtain ⟨A, c, hc, hq, ho⟩ := HQ.out.cell
    rw [HL.out] at hc hq ho
    have HO := Lib.hid ho
    have HK := Lib.hid hq
    clear hq ho HQ0 HD0
    obtain ⟨j1, hj1⟩ : ∃ j1, 2 * k + 1 = j1 := ⟨_, rfl⟩
    obtain ⟨j2, hj2⟩ : ∃ j2, j1 + 1 = j2 := ⟨_, rfl⟩
    have hk0 : k ≤ M := by omega
    have e1 : 2 * (k : Int) + 1 = (j1 : Int) := by omega
    have e2 : (j1 : Int) + 1 = (j2 : Int) := by omega
    by_cases hA : j1 < N
    · have hLS : ∀ a b, a < M → b < M → ∀ w', Sl w' w'.heap.size 3 One.cells A l' → Calls Try.prog 81 #[.slice A M c, .int .i64 a, .int .i64 b] w' fun e w'' => e = .returned (.bool (lessB (at_ l' a) (at_ l' b))) ∧ ∃ k, w'' = w'.drewN k := fun a b ha hb w' h => by
        have := Less_any A M c w'.heap.size l' a b w' HL.out h (by rw [HL.out]; exact ha) (by rw [HL.out]; exact hb) (by omega)
        rwa [← at_get (by rw [HL.out]; exact ha), ← at_get (by rw [HL.out]; exact hb)] at this
      have d1 : decide (N ≤ j1) = false := by simp; omega
      have d2 : decide ((N : Int) ≤ (j1 : Int)) = false := by simp; omega
      have d3 : decide ((j1 : Int) < 0) = false := by simp
      have hj : ∃ j, (j = j1 ∨ j = j2) ∧ j < N ∧ (j - 1) / 2 = k ∧ (∀ c, 0 < c → c < N → (c - 1) / 2 = k → lessB (at_ l' c) (at_ l' j) = false) ∧ ((j = j2 ∧ j2 < N ∧ lessB (at_ l' j2) (at_ l' j1) = true) ∨ (j = j1 ∧ j2 < N ∧ lessB (at_ l' j2) (at_ l' j1) = false) ∨ (j = j1 ∧ ¬ j2 < N)) := by
        by_cases hB : j2 < N
        · cases hr : lessB (at_ l' j2) (at_ l' j1)
          · refine ⟨j1, .inl rfl, hA, by omega, fun c h0 hc hp => ?_, .inr (.inl ⟨rfl, hB, rfl⟩)⟩
            rcases (show c = j1 ∨ c = j2 from by omega) with rfl | rfl
            · exact less_self _
            · exact hr
          · refine ⟨j2, .inr rfl, hB, by omega, fun c h0 hc hp => ?_, .inl ⟨rfl, hB, rfl⟩⟩
            rcases (show c = j1 ∨ c = j2 from by omega) with rfl | rfl
            · exact less_asym hr
            · exact less_self _
        · refine ⟨j1, .inl rfl, hA, by omega, fun c h0 hc hp => ?_, .inr (.inr ⟨rfl, hB⟩)⟩
          obtain rfl : c = j1 := by omega
          exact less_self _
      obtain ⟨j, hjor, hjN, hjp, hmin, hway⟩ := hj
      have HMIN := Lib.hid hmin
      have HJP := Lib.hid hjp
      clear hmin hjp
      cases hs : lessB (at_ l' j) (at_ l' k)
      · have HS := Lib.hid hs
        have hL1 := hLS j k (by omega) (by omega)
        rw [hs] at hL1
        clear hs
        have fin : ∀ q : Nat, QS (wr.drewN q) base Q l' came ∧ l'.Perm l ∧ HeapN (at_ l') N ∧ (∀ k, N ≤ k → at_ l' k = at_ l k) ∧ BF base W (wr.drewN q) := fun q => ⟨HQ.out, HP.out, down_stop HD.out HS.out HMIN.out, HE.out, HB.out.drewN q⟩
        have FIN := Lib.hid fin
        clear fin
        rcases hway with ⟨rfl, hB, hr⟩ | ⟨rfl, hB, hr⟩ | ⟨rfl, hB⟩
        · have hL2 := hLS j j1 (by omega) (by omega)
          rw [hr] at hL2
          have d4 : decide (j < N) = true := by simp; omega
          have d5 : decide ((j : Int) < (N : Int)) = true := by simp; omega
          clear hLS hr hj1 hj2 hjor hB
          go_wp2_with (first
            | (go_at_call 81; (with_reducible refine (hL2 _ HO.out.sl').mono ?_); rintro e w1 ⟨rfl, q, rfl⟩)
            | (go_at_call 81; (with_reducible refine (hL1 _ (HO.out.sl'.drewN q)).mono ?_); rintro e w1 ⟨rfl, q2, rfl⟩))
          go_ret
          obtain ⟨f1, f2, f3, f4, f5⟩ := FIN.out (q + q2)
          exact ⟨_, l', rfl, f1, f2, f3, f4, f5⟩
        · have hL2 := hLS j2 j (by omega) (by omega)
          rw [hr] at hL2
          have d4 : decide (j2 < N) = true := by simp; omega
          have d5 : decide ((j2 : Int) < (N : Int)) = true := by simp; omega
          clear hLS hr hj1 hj2 hjor hB
          go_wp2_with (first
            | (go_at_call 81; (with_reducible refine (hL2 _ HO.out.sl').mono ?_); rintro e w1 ⟨rfl, q, rfl⟩)
            | (go_at_call 81; (with_reducible refine (hL1 _ (HO.out.sl'.drewN q)).mono ?_); rintro e w1 ⟨rfl, q2, rfl⟩))
          go_ret
          obtain ⟨f1, f2, f3, f4, f5⟩ := FIN.out (q + q2)
          exact ⟨_, l', rfl, f1, f2, f3, f4, f5⟩
        · have d4 : decide (j2 < N) = false := by simp; omega
          have d5 : decide ((j2 : Int) < (N : Int)) = false := by simp; omega
          clear hLS hj1 hj2 hjor hB
          go_wp2_with (first
            | (go_at_call 81; (with_reducible refine (hL1 _ HO.out.sl').mono ?_); rintro e w1 ⟨rfl, q2, rfl⟩))
          go_ret
          obtain ⟨f1, f2, f3, f4, f5⟩ := FIN.out q2
          exact ⟨_, l', rfl, f1, f2, f3, f4, f5⟩
      · have HS := Lib.hid hs
        have hL1 := hLS j k (by omega) (by omega)
        rw [hs] at hL1
        clear hs
        have HJ0 : Hid (0 < j) := by show 0 < j; omega
        have hkj : k < j := by omega
        rcases hway with ⟨rfl, hB, hr⟩ | ⟨rfl, hB, hr⟩ | ⟨rfl, hB⟩
        · have hL2 := hLS j j1 (by omega) (by omega)
          rw [hr] at hL2
          have d4 : decide (j < N) = true := by simp; omega
          have d5 : decide ((j : Int) < (N : Int)) = true := by simp; omega
          clear hLS hr hj1 hj2 hjor hB
          go_wp2_with (first
            | (go_at_call 81; (with_reducible refine (hL2 _ HO.out.sl').mono ?_); rintro e w1 ⟨rfl, q, rfl⟩)
            | (go_at_call 81; (with_reducible refine (hL1 _ (HO.out.sl'.drewN q)).mono ?_); rintro e w1 ⟨rfl, q2, rfl⟩)
            | (go_at_call 82; refine (Swap_any A M c base l' k j _ (HO.out.drewN (q + q2)) (by omega) (by omega) (by omega)).mono ?_; rintro e w2 ⟨rfl, ho2, hg2⟩; have HO2 := Lib.hid ho2; have HG2 := Lib.hid hg2; clear ho2 hg2))
          go_roundw
          case rel =>
            refine ⟨j, swapL l' k j, rfl, .inr hjN, (swapL_length _ _ _).trans HL.out, QS.swap (W := wr.drewN (q + q2)) HK.out (HO.out.drewN (q + q2)) HO2.out HG2.out, (swapL_perm l' k j (by rw [HL.out]; omega) (by rw [HL.out]; omega)).trans HP.out, ?_, ?_, ?_, Nat.le_trans hz HG2.out.size⟩
            · show DownInv _ _ _
              rw [swapL_at _ _ _ (by rw [HL.out]; omega) (by rw [HL.out]; omega)]
              exact down_step HD.out HJ0.out hjN HJP.out HS.out HMIN.out
            · show ∀ k, _
              intro x hx
              rw [swapL_at _ _ _ (by rw [HL.out]; omega) (by rw [HL.out]; omega), swapF_o _ _ _ _ (by omega) (by omega)]
              exact HE.out x hx
            · exact (HB.out.drewN (q + q2)).grown hz (HO.out.drewN (q + q2)) HG2.out
          case measure => simp [intOf]; omega
        · have hL2 := hLS j2 j (by omega) (by omega)
          rw [hr] at hL2
          have d4 : decide (j2 < N) = true := by simp; omega
          have d5 : decide ((j2 : Int) < (N : Int)) = true := by simp; omega
          clear hLS hr hj1 hj2 hjor hB
          go_wp2_with (first
            | (go_at_call 81; (with_reducible refine (hL2 _ HO.out.sl').mono ?_); rintro e w1 ⟨rfl, q, rfl⟩)
            | (go_at_call 81; (with_reducible refine (hL1 _ (HO.out.sl'.drewN q)).mono ?_); rintro e w1 ⟨rfl, q2, rfl⟩)
            | (go_at_call 82; refine (Swap_any A M c base l' k j _ (HO.out.drewN (q + q2)) (by omega) (by omega) (by omega)).mono ?_; rintro e w2 ⟨rfl, ho2, hg2⟩; have HO2 := Lib.hid ho2; have HG2 := Lib.hid hg2; clear ho2 hg2))
          go_roundw
          case rel =>
            refine ⟨j, swapL l' k j, rfl, .inr hjN, (swapL_length _ _ _).trans HL.out, QS.swap (W := wr.drewN (q + q2)) HK.out (HO.out.drewN (q + q2)) HO2.out HG2.out, (swapL_perm l' k j (by rw [HL.out]; omega) (by rw [HL.out]; omega)).trans HP.out, ?_, ?_, ?_, Nat.le_trans hz HG2.out.size⟩
            · show DownInv _ _ _
              rw [swapL_at _ _ _ (by rw [HL.out]; omega) (by rw [HL.out]; omega)]
              exact down_step HD.out HJ0.out hjN HJP.out HS.out HMIN.out
            · show ∀ k, _
              intro x hx
              rw [swapL_at _ _ _ (by rw [HL.out]; omega) (by rw [HL.out]; omega), swapF_o _ _ _ _ (by omega) (by omega)]
              exact HE.out x hx
            · exact (HB.out.drewN (q + q2)).grown hz (HO.out.drewN (q + q2)) HG2.out
          case measure => simp [intOf]; omega
        · have d4 : decide (j2 < N) = false := by simp; omega
          have d5 : decide ((j2 : Int) < (N : Int)) = false := by simp; omega
          clear hLS hj1 hj2 hjor hB
          go_wp2_with (first
            | (go_at_call 81; (with_reducible refine (hL1 _ HO.out.sl').mono ?_); rintro e w1 ⟨rfl, q2, rfl⟩)
            | (go_at_call 82; refine (Swap_any A M c base l' k j _ (HO.out.drewN q2) (by omega) (by omega) (by omega)).mono ?_; rintro e w2 ⟨rfl, ho2, hg2⟩; have HO2 := Lib.hid ho2; have HG2 := Lib.hid hg2; clear ho2 hg2))
          go_roundw
          case rel =>
            refine ⟨j, swapL l' k j, rfl, .inr hjN, (swapL_length _ _ _).trans HL.out, QS.swap (W := wr.drewN q2) HK.out (HO.out.drewN q2) HO2.out HG2.out, (swapL_perm l' k j (by rw [HL.out]; omega) (by rw [HL.out]; omega)).trans HP.out, ?_, ?_, ?_, Nat.le_trans hz HG2.out.size⟩
            · show DownInv _ _ _
              rw [swapL_at _ _ _ (by rw [HL.out]; omega) (by rw [HL.out]; omega)]
              exact down_step HD.out HJ0.out hjN HJP.out HS.out HMIN.out
            · show ∀ k, _
              intro x hx
              rw [swapL_at _ _ _ (by rw [HL.out]; omega) (by rw [HL.out]; omega), swapF_o _ _ _ _ (by omega) (by omega)]
              exact HE.out x hx
            · exact (HB.out.drewN q2).grown hz (HO.out.drewN q2) HG2.out
          case measure => simp [intOf]; omega
    · have d1 : decide (N ≤ j1) = true := by simp; omega
      have d2 : decide ((N : Int) ≤ (j1 : Int)) = true := by simp; omega
      have FIN := Lib.hid (down_leaf HD.out (by omega))
      clear hj1 hj2 hA
      go_wp2
      go_ret
      exact ⟨_, l', rfl, HQ.out, HP.out, FIN.out, HE.out, HB.out⟩
end Go.Proofs.Ytkeeipfglmpgjaa
