/-
  The package slice, but for Join: Whole, Flat and what they call; the law's own same.
-/
import Derived.Test.YtkeeipfglmpgjaaConcat
import Derived.Test.YtkeeipfglmpgjaaOpen
import Derived.Test.YtkeeipfglmpgjaaSame13
namespace Go.Proofs.Ytkeeipfglmpgjaa
set_option linter.unusedSimpArgs false
set_option linter.unusedVariables false
open Go.RowKit

theorem Same13_true (A1 A2 : Option Addr) (n1 n2 c1 c2 B1 B2 : Nat) (l1 l2 : List Tok) (w : World) (hn1 : l1.length = n1) (hn2 : l2.length = n2) (h1 : Sl w B1 12 Tok.cells A1 l1) (h2 : Sl w B2 12 Tok.cells A2 l2) (hb1 : n1 ≤ 1000000000) (hb2 : n2 ≤ 1000000000) (he : l1 = l2) :
    Calls Try.prog 15 #[.slice A1 n1 c1, .slice A2 n2 c2] w fun e w' => e = .returned (.bool true) ∧ ∃ n, w' = w.drewN n :=
  (Same13_any A1 A2 n1 n2 c1 c2 B1 B2 l1 l2 w hn1 hn2 h1 h2 hb1 hb2).mono fun e w' ⟨h1, h2⟩ => ⟨by rw [h1]; exact ret_bool (by simp [he]), h2⟩
theorem Open_eq (A : Option Addr) (n c B L : Nat) (l : List Tok) (kd : Int) (w : World) (hn : l.length = n) (h : Sl w B 12 Tok.cells A l) (hl : n ≤ 1000000) (hL : openN l kd = L) :
    Calls Try.prog 11 #[.slice A n c, .int .i64 kd] w fun e w' => e = .returned (.int .i64 L) ∧ w = w' := by
  subst hL
  exact Open_any A n c B l kd w hn h hl

set_option maxHeartbeats 1000000 in
set_option maxRecDepth 100000 in
theorem same20_true (A1 A2 : Option Addr) (n c1 c2 B L R : Nat) (l : List Tok) (w : World) (hn : l.length = n) (h1 : Sl w B 12 Tok.cells A1 l) (h2 : Sl w B 12 Tok.cells A2 l) (hB : B ≤ w.heap.size) (hb : n ≤ 1000000) (hL : openN l 2 = L) (hR : openN l 1 = R) :
    Calls Try.prog 13 #[.agg #[.slice A1 n c1, .int .i64 L, .int .i64 R], .slice A2 n c2] w fun e w' => e = .returned (.bool true) ∧ Below w.heap.size w w' := by
  have k1 := h1.alloc hB (.cells #[.slice A1 n c1, .int .i64 L, .int .i64 R] 34)
  have k2 := h2.alloc hB (.cells #[.slice A1 n c1, .int .i64 L, .int .i64 R] 34)
  have HN := Lib.hid hn
  have HL := Lib.hid hL
  have HR := Lib.hid hR
  clear hn hL hR h1 h2
  go_enter Try.func13, Try.ntmps13
  go_wp2
  go_quiet (first
    | (go_at_call 15; exact Calls.quiet_of (Same13_true A1 A2 n n c1 c2 B B l l _ HN.out HN.out (k1.drewN _) (k2.drewN _) (by omega) (by omega) rfl))
    | (go_at_call_of 11 (2 : Int); exact quiet_left (Open_eq A2 n c2 B L l 2 _ HN.out (k2.drewN _) hb HL.out))
    | (go_at_call_of 11 (1 : Int); exact quiet_left (Open_eq A2 n c2 B R l 1 _ HN.out (k2.drewN _) hb HR.out)))
  go_wp2
  go_ret
  exact ⟨rfl, below_drewN ((Below.refl _ _).alloc (Nat.le_refl _) _) _⟩

attribute [local go_sem ↓] run_load_tok
attribute [local go_sem] rd_drewN rd_drew aggLoad_ptr aggRes_some

theorem odd_tok (t : Tok) (w : World) : Calls Try.prog 42 #[.agg t.cells.toArray] w fun e w' => e = .returned (.bool (t.kind != 1)) ∧ Below w.heap.size w w' := by
  obtain ⟨k, a1, a2, a3, a4, a5, a6, a7, a8, a9, a10, a11⟩ := t
  simp only [Tok.cells]
  go_enter Try.func42, Try.ntmps42
  go_wp2
  go_ret
  exact ⟨rfl, (Below.refl _ _).alloc (Nat.le_refl _) _⟩

/-- The place of the first token that isn't open; -1: none. -/
def oddAt (i : Nat) : List Tok → Int
  | [] => -1
  | t :: r => if t.kind = 1 then oddAt (i + 1) r else i
theorem oddAt_drop (l : List Tok) (k : Nat) (h : k < l.length) : oddAt k (l.drop k) = if l[k].kind = 1 then oddAt (k + 1) (l.drop (k + 1)) else (k : Int) := by
  rw [List.drop_eq_getElem_cons h, oddAt]

set_option maxHeartbeats 400000 in
theorem IndexOdd (A : Option Addr) (n c B : Nat) (l : List Tok) (w : World) (hn : l.length = n) (h : Sl w B 12 Tok.cells A l) (hB : B ≤ w.heap.size) (hb : n ≤ 1000000) :
    Calls Try.prog 56 #[.slice A n c, .func (.func 42) #[] #[]] w fun e w' => e = .returned (.int .i64 (oddAt 0 l)) ∧ Below w.heap.size w w' := by
  subst hn
  go_enter Try.func56, Try.ntmps56
  go_wp2_with fail
  go_loopw [5, 8] (fun _ i wr => ∃ k : Nat, k ≤ l.length ∧ i = .int .i64 k ∧ Hid (oddAt k (l.drop k) = oddAt 0 l) ∧ Below w.heap.size w wr) (fun _ i _ => l.length - (intOf i).toNat)
  case atStart => exact ⟨0, by omega, rfl, rfl, Below.refl _ _⟩
  case round =>
    obtain ⟨k, hk, rfl, HE, hb2⟩ := hrel
    by_cases hkl : k < l.length
    · obtain ⟨b, o, rfl, _⟩ := h.addr (by omega) (by omega)
      have r := (h.below (hb2.mono hB)).rd_ hkl
      have hst := oddAt_drop l k hkl
      by_cases hk1 : l[k].kind = 1
      · rw [if_pos hk1] at hst
        have HS := Lib.hid hst
        have hbk : (l[k].kind != 1) = false := by simp [hk1]
        clear hst hk1
        go_wp2_with fail
        refine (odd_tok l[k] wr).mono ?_
        rintro e w' ⟨rfl, hb3⟩
        rw [hbk]
        go_wp2
        go_roundw
        case rel => exact ⟨k + 1, by omega, by go_num, by rw [← HE.out, HS.out]; rfl, hb2.trans (hb3.mono hb2.size)⟩
        case measure => simp [intOf]; omega
      · rw [if_neg hk1] at hst
        have HS := Lib.hid hst
        have hbk : (l[k].kind != 1) = true := by simp [hk1]
        clear hst hk1
        go_wp2_with fail
        refine (odd_tok l[k] wr).mono ?_
        rintro e w' ⟨rfl, hb3⟩
        rw [hbk]
        go_wp2
        go_ret
        exact ⟨ret_int (by rw [← HE.out, HS.out]), hb2.trans (hb3.mono hb2.size)⟩
    · have hdr : l.drop k = [] := List.drop_eq_nil_of_le (by omega)
      have HE1 := HE.out
      rw [hdr] at HE1
      have HE2 := Lib.hid HE1
      clear HE1 HE hdr
      go_wp2
      go_ret
      exact ⟨ret_int (by rw [← HE2.out]; rfl), hb2⟩

theorem oddAt_iff (l : List Tok) : ∀ i : Nat, (0 ≤ oddAt i l) ↔ ¬ ∀ t ∈ l, t.kind = 1 := by
  induction l with
  | nil => intro i; simp [oddAt]
  | cons t l ih =>
    intro i
    simp only [oddAt, List.mem_cons, forall_eq_or_imp]
    by_cases h : t.kind = 1
    · rw [if_pos h, ih]; simp [h]
    · rw [if_neg h]; simp [h]

def isOdd (l : List Tok) : Bool := !decide (∀ t ∈ l, t.kind = 1)
theorem ContainsOdd (A : Option Addr) (n c B : Nat) (l : List Tok) (w : World) (hn : l.length = n) (h : Sl w B 12 Tok.cells A l) (hB : B ≤ w.heap.size) (hb : n ≤ 1000000) :
    Calls Try.prog 41 #[.slice A n c, .func (.func 42) #[] #[]] w fun e w' => e = .returned (.bool (isOdd l)) ∧ Below w.heap.size w w' := by
  have hio := oddAt_iff l 0
  have HI := Lib.hid hio
  clear hio
  go_enter Try.func41, Try.ntmps41
  go_wp2_with fail
  refine (IndexOdd A n c B l w hn h hB hb).mono ?_
  rintro e w' ⟨rfl, hb2⟩
  go_wp2
  go_ret
  refine ⟨ret_bool ?_, hb2⟩
  unfold isOdd
  have := HI.out
  by_cases hq : ∀ t ∈ l, t.kind = 1
  · have h0 : ¬ 0 ≤ oddAt 0 l := fun h0 => this.1 h0 hq
    rw [decide_eq_false h0, decide_eq_true hq]; rfl
  · have h0 := this.2 hq
    rw [decide_eq_true h0, decide_eq_false hq]; rfl

def closeT : Tok := ⟨2, 0, 0, 0, 0, 0, 0, 0, 0, 0, 0, 0⟩
def WholeYes (lead l : List Tok) (R n : Nat) (w : World) (e : Ending) (w' : World) : Prop :=
  ∃ A c, e = .returned (.tuple #[.slice A n c, .bool true]) ∧ Own w' w.heap.size 43 12 Tok.cells (.slice A n c) (lead ++ l ++ List.replicate R closeT) ∧ Below w.heap.size w w'

set_option maxHeartbeats 1000000 in
set_option maxRecDepth 100000 in
theorem Whole_no (A1 A2 : Option Addr) (n1 c1 n2 c2 B L R : Nat) (lead : List Tok) (w : World) (hn2 : lead.length = n2) (h2 : Sl w B 12 Tok.cells A2 lead) (hB : B ≤ w.heap.size) (hb2 : n2 ≤ 1000000) (_hb3 : L ≤ 1000000) (hno : isOdd lead = true ∨ n2 ≠ L) :
    Calls Try.prog 14 #[.agg #[.slice A1 n1 c1, .int .i64 L, .int .i64 R], .slice A2 n2 c2] w fun e w' => e = .returned (.tuple #[.slice none 0 0, .bool false]) ∧ Below w.heap.size w w' := by
  have k2 := h2.alloc hB (.cells #[.slice A1 n1 c1, .int .i64 L, .int .i64 R] 34)
  have hB2 : B ≤ (w.alloc (.cells #[.slice A1 n1 c1, .int .i64 L, .int .i64 R] 34)).heap.size := le_alloc hB _
  have hblk := Blk.new w 34 #[.slice A1 n1 c1, .int .i64 L, .int .i64 R]
  have hsz : w.heap.size < (w.alloc (.cells #[.slice A1 n1 c1, .int .i64 L, .int .i64 R] 34)).heap.size := by simp
  have hbw := (Below.refl w.heap.size w).alloc (Nat.le_refl _) (.cells #[.slice A1 n1 c1, .int .i64 L, .int .i64 R] 34)
  have HN := Lib.hid hn2
  have HW := Lib.hid hbw
  have HNO := Lib.hid hno
  clear hn2 h2 hbw hno
  go_enter Try.func14, Try.ntmps14
  go_wp2_with fail
  refine (ContainsOdd A2 n2 c2 B lead _ HN.out k2 hB2 hb2).mono ?_
  rintro e w1 ⟨rfl, hb⟩
  have HB := Lib.hid (HW.out.trans (hb.mono (Nat.le_of_lt hsz)))
  have hx := hblk.below hb hsz
  clear hblk hb
  cases ho : isOdd lead
  · have hne : n2 ≠ L := by
      rcases HNO.out with h | h
      · rw [ho] at h; cases h
      · exact h
    have hd : ((n2 : Int) != (L : Int)) = true := by simp; omega
    have q := hx.cell 1
    simp at q
    clear hx hne
    go_wp2
    go_ret2
    exact ⟨rfl, HB.out⟩
  · clear hx
    go_wp2
    go_ret2
    exact ⟨rfl, HB.out⟩

set_option maxHeartbeats 1000000 in
set_option maxRecDepth 100000 in
theorem Whole_yes (A1 A2 : Option Addr) (n1 c1 n2 c2 B L R : Nat) (l lead : List Tok) (w : World) (hn1 : l.length = n1) (h1 : Sl w B 12 Tok.cells A1 l) (hn2 : lead.length = n2) (h2 : Sl w B 12 Tok.cells A2 lead) (hB : B ≤ w.heap.size) (hb1 : n1 + n2 ≤ 1000000) (hb3 : R ≤ 1000000) (hno : isOdd lead = false) (hL : n2 = L) :
    Calls Try.prog 14 #[.agg #[.slice A1 n1 c1, .int .i64 L, .int .i64 R], .slice A2 n2 c2] w (WholeYes lead l R (n2 + n1 + R) w) := by
  subst hL
  have k2 := h2.alloc hB (.cells #[.slice A1 n1 c1, .int .i64 n2, .int .i64 R] 34)
  have k1 := h1.alloc hB (.cells #[.slice A1 n1 c1, .int .i64 n2, .int .i64 R] 34)
  have hB2 : B ≤ (w.alloc (.cells #[.slice A1 n1 c1, .int .i64 n2, .int .i64 R] 34)).heap.size := le_alloc hB _
  have hblk := Blk.new w 34 #[.slice A1 n1 c1, .int .i64 n2, .int .i64 R]
  have hsz : w.heap.size < (w.alloc (.cells #[.slice A1 n1 c1, .int .i64 n2, .int .i64 R] 34)).heap.size := by simp
  have hbw := (Below.refl w.heap.size w).alloc (Nat.le_refl _) (.cells #[.slice A1 n1 c1, .int .i64 n2, .int .i64 R] 34)
  have HN := Lib.hid hn2
  have HN1 := Lib.hid hn1
  have HW := Lib.hid hbw
  have HNO := Lib.hid hno
  clear hn2 hn1 h2 h1 hbw hno
  go_enter Try.func14, Try.ntmps14
  go_wp2_with fail
  refine (ContainsOdd A2 n2 c2 B lead _ HN.out k2 hB2 (by omega)).mono ?_
  rintro e w1 ⟨rfl, hb⟩
  rw [HNO.out]
  have hx := hblk.below hb hsz
  have j1 := k1.keep (w' := w1) (fun p hp => hb.cell (Nat.lt_of_lt_of_le hp hB2))
  have j2 := k2.keep (w' := w1) (fun p hp => hb.cell (Nat.lt_of_lt_of_le hp hB2))
  have hs1 := hb.size
  have hB1 := Nat.le_trans hB2 hs1
  have hbb := HW.out.trans (hb.mono (Nat.le_of_lt hsz))
  have hz1 : w.heap.size ≤ w1.heap.size := hbb.size
  have HB := Lib.hid hbb
  have q0 := hx.cell 0
  have q1 := hx.cell 1
  have q2 := hx.cell 2
  simp at q0 q1 q2
  have HX := Lib.hid hx
  have hlt1 : w.heap.size < w1.heap.size := Nat.lt_of_lt_of_le hsz hs1
  clear hblk hb k1 k2 hbb hx hs1 hsz hB2
  have hc := Concat_any (some ⟨w1.heap.size, 0, none⟩) 2 2 _ [⟨A2, n2, c2, lead⟩, ⟨A1, n1, c1, l⟩] (w1.alloc (.cells #[.slice A2 n2 c2, .slice A1 n1 c1] 26)) rfl
    (Sl.newl w1 SlT.cells 1 SlT.cells_length 26 _ #[.slice A2 n2 c2, .slice A1 n1 c1] rfl) (by simp) (fun z hz => by
      have hz' : z = ⟨A2, n2, c2, lead⟩ ∨ z = ⟨A1, n1, c1, l⟩ := by simpa using hz
      rcases hz' with rfl | rfl
      · exact ⟨HN.out, (j2.alloc hB1 _).more (Nat.le_trans hB1 (Nat.le_succ _))⟩
      · exact ⟨HN1.out, (j1.alloc hB1 _).more (Nat.le_trans hB1 (Nat.le_succ _))⟩) (by simp [SlT.sum]; omega) (by omega)
  have HC := Lib.hid hc
  clear hc
  go_wp2_with fail
  refine HC.out.mono ?_
  rintro e w2 ⟨A4, c4, rfl, ho4, hb4⟩
  have hall : SlT.all [⟨A2, n2, c2, lead⟩, ⟨A1, n1, c1, l⟩] = lead ++ l := by simp [SlT.all]
  rw [hall] at ho4 ⊢
  have hlen : (lead ++ l).length = n2 + n1 := by rw [List.length_append, HN.out, HN1.out]
  have hsw : w.heap.size < (w1.alloc (.cells #[.slice A2 n2 c2, .slice A1 n1 c1] 26)).heap.size := by simp; omega
  have hx2 := (HX.out.alloc (.cells #[.slice A2 n2 c2, .slice A1 n1 c1] 26)).below hb4 hsw
  have p2 := hx2.cell 2
  simp at p2
  have hown0 : Own w2 w.heap.size 43 12 Tok.cells (.slice A4 (n2 + n1) c4) (lead ++ l ++ List.replicate 0 closeT) := by
    rw [← hlen, List.replicate_zero, List.append_nil]
    exact ho4.base_le (Nat.le_of_lt hsw)
  have hbel0 : Below w.heap.size w w2 := HB.out.trans (((Below.refl _ _).alloc hz1 _).trans (hb4.mono (Nat.le_of_lt hsw)))
  rw [hlen]
  clear ho4 hb4 hx2 hlen hsw hall q0 q1 q2 HX HC
  go_wp2_with fail
  go_loopw [7, 25] (fun v i wr => ∃ k A c, k ≤ R ∧ i = .int .i64 (k : Nat) ∧ v = .slice A (n2 + n1 + k) c ∧ Own wr w.heap.size 43 12 Tok.cells (.slice A (n2 + n1 + k) c) (lead ++ l ++ List.replicate k closeT) ∧ Below w.heap.size w wr) (fun _ i _ => R - (intOf i).toNat)
  case atStart => exact ⟨0, A4, c4, by omega, rfl, rfl, hown0, hbel0⟩
  case round =>
    obtain ⟨k, A, c, hk, rfl, rfl, hown, hb⟩ := hrel
    by_cases hkl : k < R
    · have hln := hown.cap.2
      have HLN := Lib.hid hln
      have hrp : lead ++ l ++ List.replicate (k + 1) closeT = lead ++ l ++ List.replicate k closeT ++ [closeT] := by rw [List.replicate_succ', List.append_assoc (lead ++ l)]
      have HRP := Lib.hid hrp
      clear hln hrp
      go_wp2_with (at_builtin; go_must (refine wpList_append_sl rfl _ _ _ rfl tokElem w.heap.size Tok.cells tok_one _ (lead ++ l ++ List.replicate k closeT) (n2 + n1 + k) HLN.out rfl (hown.alloc _) _ _ 1 _ [closeT] rfl rfl (Sl.new _ Tok.cells 12 Tok.cells_length _ _) (by omega) (le_alloc hb.size _) ?_); intro A2 c2 w2 hown2 hg2 hat2)
      go_roundw
      case rel => exact ⟨k + 1, _, _, by omega, by go_num, rfl, by rw [HRP.out]; exact hown2, (hown.alloc _).below_grown (hb.alloc hb.size _) hg2 (Nat.le_refl _) (le_alloc hb.size _)⟩
      case measure => simp [intOf]; omega
    · obtain rfl : k = R := by omega
      have HO := Lib.hid hown
      clear hown
      go_wp2
      go_ret2
      exact ⟨A, c, rfl, HO.out, hb⟩

/-! How open a row is, by the program's own count. -/
theorem sc_take (l : List Tok) (k : Nat) (hk : k < l.length) : sc (l.take (k + 1)) = scStep (sc (l.take k)) l[k] := by
  rw [List.take_succ_eq_append_getElem hk, sc_snoc]
theorem sc_le (l : List Tok) : (sc l).1 + (sc l).2 ≤ l.length := by
  refine snoc_ind (p := fun l => (sc l).1 + (sc l).2 ≤ l.length) (by simp [sc]) ?_ l
  intro c t ih
  rw [sc_snoc, List.length_append, List.length_singleton]
  unfold scStep
  split
  · split <;> (try dsimp only) <;> omega
  · split <;> (try dsimp only) <;> omega

set_option maxHeartbeats 1000000 in
set_option maxRecDepth 100000 in
theorem count_any (A : Option Addr) (n c B : Nat) (l : List Tok) (w : World) (hn : l.length = n) (h : Sl w B 12 Tok.cells A l) (hB : B ≤ w.heap.size) (hb : n ≤ 1000000) :
    Calls Try.prog 54 #[.slice A n c] w fun e w' => e = .returned (.tuple #[.int .i64 (sc l).1, .int .i64 (sc l).2]) ∧ Below w.heap.size w w' := by
  subst hn
  go_enter Try.func54, Try.ntmps54
  go_wp2_with fail
  go_loopw [4, 5, 10] (fun x y i wr => ∃ (k L R : Nat), k ≤ l.length ∧ L + R ≤ k ∧ i = .int .i64 (k : Nat) ∧ x = .int .i64 (L : Nat) ∧ y = .int .i64 (R : Nat) ∧ Hid (sc (l.take k) = (L, R)) ∧ Below w.heap.size w wr) (fun _ _ i _ => l.length - (intOf i).toNat)
  case atStart => exact ⟨0, 0, 0, by omega, by omega, rfl, rfl, rfl, rfl, Below.refl _ _⟩
  case round =>
    obtain ⟨k, L, R, hk, hLR, rfl, rfl, rfl, HE, hb2⟩ := hrel
    by_cases hkl : k < l.length
    · obtain ⟨b, o, rfl, _⟩ := h.addr (by omega) (by omega)
      have r := (h.below (hb2.mono hB)).rd_ hkl
      have hst := sc_take l k hkl
      rw [HE.out] at hst
      obtain ⟨t, ht⟩ : ∃ t, t = l[k] := ⟨_, rfl⟩
      rw [← ht] at r hst
      clear ht
      obtain ⟨kd, a1, a2, a3, a4, a5, a6, a7, a8, a9, a10, a11⟩ := t
      simp only [Tok.cells] at r
      simp only [scStep] at hst
      by_cases h2 : kd = 2
      · subst h2
        rw [if_pos rfl] at hst
        by_cases h0 : R = 0
        · rw [if_pos h0] at hst
          subst h0
          have HS := Lib.hid hst
          clear hst
          go_wp2
          go_roundw
          case rel => exact ⟨k + 1, L + 1, 0, by omega, by omega, by go_num, by go_num, by first | rfl | go_num, HS, hb2.alloc hb2.size _⟩
          case measure => simp [intOf]; omega
        · rw [if_neg h0] at hst
          have HS := Lib.hid hst
          have hR0 : ((R : Int) == 0) = false := by simp; omega
          have hR1 : ¬ ((R : Int) - 1 < 0) := by omega
          obtain ⟨R, rfl⟩ : ∃ R', R = R' + 1 := ⟨R - 1, by omega⟩
          clear hst h0
          go_wp2
          go_roundw
          case rel => exact ⟨k + 1, L, R, by omega, by omega, by go_num, by go_num, by first | rfl | go_num, HS, hb2.alloc hb2.size _⟩
          case measure => simp [intOf]; omega
      · rw [if_neg h2] at hst
        have hb2' : (kd == 2) = false := by simp [h2]
        by_cases h1 : kd = 1
        · subst h1
          rw [if_pos rfl] at hst
          have HS := Lib.hid hst
          clear hst h2
          go_wp2
          go_roundw
          case rel => exact ⟨k + 1, L, R + 1, by omega, by omega, by go_num, by go_num, by go_num, HS, hb2.alloc hb2.size _⟩
          case measure => simp [intOf]; omega
        · rw [if_neg h1] at hst
          have hb1' : (kd == 1) = false := by simp [h1]
          have HS := Lib.hid hst
          clear hst h2 h1
          go_wp2
          go_roundw
          case rel => exact ⟨k + 1, L, R, by omega, by omega, by go_num, by go_num, by go_num, HS, hb2.alloc hb2.size _⟩
          case measure => simp [intOf]; omega
    · have HE1 := HE.out
      rw [List.take_of_length_le (by omega)] at HE1
      have HE2 := Lib.hid HE1
      clear HE1 HE
      go_wp2
      go_ret2
      exact ⟨by rw [HE2.out]; rfl, hb2⟩

theorem Flat_any (A : Option Addr) (n c B : Nat) (l : List Tok) (w : World) (hn : l.length = n) (h : Sl w B 12 Tok.cells A l) (hB : B ≤ w.heap.size) (hb : n ≤ 1000000) :
    Calls Try.prog 38 #[.slice A n c] w fun e w' => e = .returned (.bool (decide ((sc l).1 = 0 ∧ (sc l).2 = 0))) ∧ Below w.heap.size w w' := by
  obtain ⟨L, hL⟩ : ∃ L, L = (sc l).1 := ⟨_, rfl⟩
  obtain ⟨R, hR⟩ : ∃ R, R = (sc l).2 := ⟨_, rfl⟩
  have hc := count_any A n c B l w hn h hB hb
  rw [← hL, ← hR] at hc ⊢
  have HC := Lib.hid hc
  clear hc hL hR
  go_enter Try.func38, Try.ntmps38
  go_wp2_with fail
  refine HC.out.mono ?_
  rintro e w' ⟨rfl, hb2⟩
  by_cases h0 : L = 0
  · by_cases h1 : R = 0
    · have e0 : ((L : Int) == 0) = true := by simp [h0]
      have e1 : ((R : Int) == 0) = true := by simp [h1]
      have he : decide (L = 0 ∧ R = 0) = true := by simp [h0, h1]
      clear h0 h1
      go_wp2
      go_ret
      exact ⟨ret_bool he.symm, hb2⟩
    · have e0 : ((L : Int) == 0) = true := by simp [h0]
      have e1 : ((R : Int) == 0) = false := by simp [h1]
      have he : decide (L = 0 ∧ R = 0) = false := by simp [h1]
      clear h0 h1
      go_wp2
      go_ret
      exact ⟨ret_bool he.symm, hb2⟩
  · have e0 : ((L : Int) == 0) = false := by simp [h0]
    have he : decide (L = 0 ∧ R = 0) = false := by simp [h0]
    clear h0
    go_wp2
    go_ret
    exact ⟨ret_bool he.symm, hb2⟩
end Go.Proofs.Ytkeeipfglmpgjaa
