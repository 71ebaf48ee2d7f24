/-
  The document's number of a word, and word of a number.
-/
import Derived.Test.YtijpdbjcmnpobaaDoorNum
namespace Go.Proofs.YtijpdbjcmnpobaaDoor
set_option linter.unusedSimpArgs false
set_option linter.unusedVariables false
open Go.RowKit
open Go.Lib hiding intOf

theorem digits_i (v : Int) (h0 : 0 ≤ v) (h1 : v < 18446744073709551616) (w : World) :
    Calls Tryd.prog 44 #[.int .u64 v] w fun e w' => e = .returned (.string ⟨(decDigits v.toNat).toArray⟩) ∧ Below w.heap.size w w' := by
  have := digits_w v.toNat (by omega) w
  rwa [show ((v.toNat : Nat) : Int) = v by omega] at this
theorem minus_dec (l : List UInt8) : (⟨#[45]⟩ ++ ⟨l.toArray⟩ : ByteArray) = ⟨(45 :: l).toArray⟩ := by
  have : (⟨#[45]⟩ ++ ⟨l.toArray⟩ : ByteArray).data = (45 :: l).toArray := by
    apply Array.ext'
    rw [ByteArray.data_append, Array.toList_append]
    simp
  have h2 : (⟨#[45]⟩ ++ ⟨l.toArray⟩ : ByteArray) = ⟨(⟨#[45]⟩ ++ ⟨l.toArray⟩ : ByteArray).data⟩ := rfl
  rw [h2, this]
theorem refShow_w (n : Int) (h0 : -9223372036854775808 ≤ n) (h1 : n ≤ 9223372036854775807) (w : World) :
    Calls Tryd.prog 16 #[.int .i64 n] w fun e w' => e = .returned (.string ⟨(itoa n).toArray⟩) ∧ Below w.heap.size w w' := by
  by_cases hn : n < 0
  · have e : itoa n = 45 :: decDigits n.natAbs := by unfold itoa; rw [if_pos hn]
    have w1 : IntKind.i64.wrap (n + 1) = n + 1 := by rw [IntKind.wrap_i64]; omega
    have w2 : IntKind.i64.wrap (-(n + 1)) = -(n + 1) := by rw [IntKind.wrap_i64]; omega
    have w3 : IntKind.u64.wrap (-(n + 1)) = -(n + 1) := by rw [IntKind.wrap_u64]; omega
    have w4 : IntKind.u64.wrap (-(n + 1) + 1) = -(n + 1) + 1 := by rw [IntKind.wrap_u64]; omega
    have hd := fun w => digits_i (-(n + 1) + 1) (by omega) (by omega) w
    rw [show (-(n + 1) + 1).toNat = n.natAbs by omega] at hd
    have hl : (decDigits n.natAbs).length ≤ 20 := dec_len 19 n.natAbs (by omega)
    rw [e]
    have hnl : ¬ 9223372036854775807 < 1 + (decDigits n.natAbs).length := by omega
    have hm := minus_dec (decDigits n.natAbs)
    generalize decDigits n.natAbs = l at *
    go_enter Tryd.func16, Tryd.ntmps16
    go_wp2_with (go_at_call 44; refine (hd _).mono ?_; rintro e w1 ⟨rfl, b1⟩)
    go_ret
    exact ⟨rfl, b1⟩
  · have e : itoa n = decDigits n.toNat := by unfold itoa; rw [if_neg hn]
    have w3 : IntKind.u64.wrap n = n := by rw [IntKind.wrap_u64]; omega
    have hd := fun w => digits_i n (by omega) (by omega) w
    rw [e]
    generalize decDigits n.toNat = l at *
    go_enter Tryd.func16, Tryd.ntmps16
    go_wp2_with (go_at_call 44; refine (hd _).mono ?_; rintro e w1 ⟨rfl, b1⟩)
    go_ret
    exact ⟨rfl, b1⟩
set_option maxRecDepth 100000 in
set_option maxHeartbeats 600000 in
theorem refNum_w (s : ByteArray) (w : World) (hs : s.size ≤ 200) :
    Calls Tryd.prog 14 #[.string s] w fun e w' => e = .returned (numT (refV s.data.toList)) ∧ Below w.heap.size w w' := by
  have hlen : s.data.toList.length = s.size := by rw [Array.length_toList]; rfl
  by_cases hsz : s.size = 0 ∨ 20 < s.size
  · have hr : refV s.data.toList = none := by unfold refV; rw [if_pos (by omega)]
    rw [hr]
    clear hr hlen
    rcases Nat.eq_zero_or_pos s.size with h0 | h0
    · go_enter Tryd.func14, Tryd.ntmps14
      go_wp2
      go_ret2
      exact ⟨rfl, Below.refl _ _⟩
    · have h1 : ¬ s.size = 0 := by omega
      have h2 : (20 : Int) < s.size := by omega
      go_enter Tryd.func14, Tryd.ntmps14
      go_wp2
      go_ret2
      exact ⟨rfl, Below.refl _ _⟩
  · have h1 : ¬ s.size = 0 := by omega
    have h2 : ¬ 20 < s.size := by omega
    have h3 : ¬ (20 : Int) < s.size := by omega
    go_enter Tryd.func14, Tryd.ntmps14
    go_wp2
    go_loopw [4, 5] (fun xv iv wr => ∃ x k, xv = .int .u64 ((x : Nat) : Int) ∧ iv = .int .i64 ((k : Nat) : Int) ∧ k ≤ s.size ∧ x ≤ 9223372036854775809 ∧ ((k = 0 ∧ x = 0) ∨ (0 < k ∧ refGo x (s.data.toList.drop k) = refGo 0 (refBody s.data.toList))) ∧ wr = w) (fun _ iv _ => s.size - (RowKit.intOf iv).toNat)
    case atStart => exact ⟨0, 0, rfl, rfl, by omega, by omega, .inl ⟨rfl, rfl⟩, rfl⟩
    case round =>
      obtain ⟨x, k, rfl, rfl, hk, hx, hI, rfl⟩ := hrel
      by_cases hlt : k < s.size
      · have hlt2 : (k : Int) < s.size := by omega
        have hget : s.data.toList.drop k = s[k] :: s.data.toList.drop (k + 1) := by
          rw [List.drop_eq_getElem_cons (by omega)]
          rfl
        have h57 : s[k].toNat < 256 := s[k].toNat_lt
        rcases Nat.eq_zero_or_pos k with h0 | h0
        · subst h0
          have hx0 : x = 0 := by omega
          subst hx0
          clear hI
          have hhead : s.data.toList.head? = some s[0] := by
            rw [List.drop_zero] at hget; rw [hget]; rfl
          have hA : ((s[0].toNat : Int) == 45) = true → refGo 0 (s.data.toList.drop 1) = refGo 0 (refBody s.data.toList) := by
            intro h
            have h : s[0].toNat = 45 := by simp only [beq_iff_eq] at h; omega
            unfold refBody
            rw [hhead, if_pos (by simp [h]), List.drop_one]
          have hB : ¬ s[0].toNat = 45 → refBody s.data.toList = s[0] :: s.data.toList.drop 1 := by
            intro h
            unfold refBody
            rw [hhead, if_neg (by simp [h]), ← hget, List.drop_zero]
          have hbad : (s[0].toNat < 48 ∨ 57 < s[0].toNat) → ((s[0].toNat : Int) == 45) = false → refV s.data.toList = none := by
            intro h1 h2
            have h2 : ¬ s[0].toNat = 45 := by
              intro h; rw [h] at h2; simp at h2
            unfold refV
            rw [if_neg (by omega), hB h2]
            simp only [refGo]
            rw [if_pos (by omega)]
          have hgood : ¬ (s[0].toNat < 48 ∨ 57 < s[0].toNat) → refGo (10 * 0 + (s[0].toNat - 48)) (s.data.toList.drop 1) = refGo 0 (refBody s.data.toList) := by
            intro h1
            rw [hB (by omega)]
            simp only [refGo]
            rw [if_neg (by omega)]
          have HA := Lib.hid hA
          have HB := Lib.hid hbad
          have HG := Lib.hid hgood
          clear hA hB hbad hgood hhead hget
          go_wp2
          all_goals first
            | (refine ⟨⟨0, 1, rfl, rfl, by omega, by omega, .inr ⟨by omega, HA.out (by assumption)⟩, trivial⟩, by simp only [RowKit.intOf]; omega⟩)
            | (refine ⟨⟨10 * 0 + (s[0].toNat - 48), 1, by congr 1; omega, rfl, by omega, by omega, .inr ⟨by omega, HG.out (by omega)⟩, trivial⟩, by simp only [RowKit.intOf]; omega⟩)
            | (go_ret2; refine ⟨?_, Below.refl _ _⟩; rw [HB.out (by omega) (by assumption)]; rfl)
        · have hI : refGo x (s.data.toList.drop k) = refGo 0 (refBody s.data.toList) := by
            rcases hI with h | h
            · omega
            · exact h.2
          have hbad : (s[k].toNat < 48 ∨ 57 < s[k].toNat ∨ 922337203685477580 < x) → refV s.data.toList = none := by
            intro h1
            unfold refV
            rw [if_neg (by omega), ← hI, hget]
            simp only [refGo]
            rw [if_pos (by omega)]
          have hgood : ¬ (s[k].toNat < 48 ∨ 57 < s[k].toNat ∨ 922337203685477580 < x) → refGo (10 * x + (s[k].toNat - 48)) (s.data.toList.drop (k + 1)) = refGo 0 (refBody s.data.toList) := by
            intro h1
            rw [← hI, hget]
            simp only [refGo]
            rw [if_neg (by omega)]
          have hk0 : ¬ k = 0 := by omega
          have HB := Lib.hid hbad
          have HG := Lib.hid hgood
          clear hbad hgood hget hI
          go_wp2
          all_goals first
            | (refine ⟨⟨10 * x + (s[k].toNat - 48), k + 1, congrArg (Value.int IntKind.u64) (by omega), congrArg (Value.int IntKind.i64) (by omega), by omega, by omega, .inr ⟨by omega, HG.out (by omega)⟩, trivial⟩, by simp only [RowKit.intOf]; omega⟩)
            | (go_ret2; refine ⟨?_, Below.refl _ _⟩; rw [HB.out (by omega)]; rfl)
      · have hk1 : k = s.size := by omega
        have hI : refGo 0 (refBody s.data.toList) = some x := by
          rcases hI with h | h
          · omega
          · rw [← h.2, List.drop_eq_nil_of_le (by omega)]; rfl
        have hget : s.data.toList.head? = some s[0] := by
          have : s.data.toList.drop 0 = s[0] :: s.data.toList.drop 1 := by
            rw [List.drop_eq_getElem_cons (by omega)]
            rfl
          rw [List.drop_zero] at this; rw [this]; rfl
        have hV : refV s.data.toList = if itoa (refInt s.data.toList x) = s.data.toList then some (refInt s.data.toList x) else none := by
          unfold refV
          rw [if_neg (by omega), hI]
        have hb := refInt_bounds s.data.toList x
        have hst := ba_toList s
        obtain ⟨n, hn⟩ : ∃ n, refInt s.data.toList x = n := ⟨_, rfl⟩
        rw [hn] at hV hb
        have hk2 : ¬ (k : Int) < s.size := by omega
        have hlt0 : (0 : Int) < s.size := by omega
        have HS := fun w => refShow_w n hb.1 hb.2 w
        subst hk1
        have hx0 : (0 : Int) ≤ x := by omega
        have hx2 : (x : Int) ≤ 9223372036854775809 := by omega
        cases h45 : ((s[0].toNat : Int) == 45) with
        | true =>
          have hn2 : n = wrap64 (0 - (x : Int)) := by
            rw [← hn]; unfold refInt
            rw [hget, if_pos]
            have : s[0].toNat = 45 := by simp only [beq_iff_eq] at h45; omega
            simp [this]
          have hw2 : wrap64 (IntKind.u64.wrap (-(x : Int))) = n := by rw [hn2]; simp only [wrap64, IntKind.wrap_u64]; omega
          clear hI hn hget hn2
          cases hq : (itoa n == s.toList) with
          | true =>
            have hr : refV s.data.toList = some n := by rw [hV, if_pos]; rw [← hst]; simpa using hq
            clear hst hV
            have HR := Lib.hid hr
            clear hr
            go_wp2_with (go_at_call 16; rw [hw2]; refine (HS _).mono ?_; rintro e w1 ⟨rfl, b1⟩)
            go_ret2
            refine ⟨?_, b1⟩
            rw [HR.out]
            rfl
          | false =>
            have hr : refV s.data.toList = none := by rw [hV, if_neg]; rw [← hst]; simpa using hq
            clear hst hV
            have HR := Lib.hid hr
            clear hr
            go_wp2_with (go_at_call 16; rw [hw2]; refine (HS _).mono ?_; rintro e w1 ⟨rfl, b1⟩)
            go_ret2
            refine ⟨?_, b1⟩
            rw [HR.out]
            rfl
        | false =>
          have hn2 : n = wrap64 (x : Int) := by
            rw [← hn]; unfold refInt
            rw [hget, if_neg]
            have : ¬ s[0].toNat = 45 := by intro h; rw [h] at h45; simp at h45
            simp [this]
          have hw2 : wrap64 (x : Int) = n := by rw [hn2]
          clear hI hn hget hn2
          cases hq : (itoa n == s.toList) with
          | true =>
            have hr : refV s.data.toList = some n := by rw [hV, if_pos]; rw [← hst]; simpa using hq
            clear hst hV
            have HR := Lib.hid hr
            clear hr
            go_wp2_with (go_at_call 16; refine (HS _).mono ?_; rintro e w1 ⟨rfl, b1⟩)
            go_ret2
            refine ⟨?_, b1⟩
            rw [HR.out]
            rfl
          | false =>
            have hr : refV s.data.toList = none := by rw [hV, if_neg]; rw [← hst]; simpa using hq
            clear hst hV
            have HR := Lib.hid hr
            clear hr
            go_wp2_with (go_at_call 16; refine (HS _).mono ?_; rintro e w1 ⟨rfl, b1⟩)
            go_ret2
            refine ⟨?_, b1⟩
            rw [HR.out]
            rfl
end Go.Proofs.YtijpdbjcmnpobaaDoor
