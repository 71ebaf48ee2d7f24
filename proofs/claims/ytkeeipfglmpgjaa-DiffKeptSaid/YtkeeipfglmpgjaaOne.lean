/-
  diff.One: the splice that makes one row of another one.
-/
import Derived.Test.YtkeeipfglmpgjaaText
namespace Go.Proofs.Ytkeeipfglmpgjaa
open Go.RowKit

/-- How many elements are the same at the beginning. -/
def pre {α : Type} [DecidableEq α] : List α → List α → Nat
  | x :: l, y :: m => if x = y then pre l m + 1 else 0
  | _, _ => 0
theorem pre_drop {α : Type} [DecidableEq α] (l m : List α) (k : Nat) (h1 : k < l.length) (h2 : k < m.length) : pre (l.drop k) (m.drop k) = if l[k] = m[k] then pre (l.drop (k + 1)) (m.drop (k + 1)) + 1 else 0 := by
  rw [List.drop_eq_getElem_cons h1, List.drop_eq_getElem_cons h2, pre]
theorem pre_end {α : Type} [DecidableEq α] (l m : List α) (k : Nat) (h : l.length ≤ k ∨ m.length ≤ k) : pre (l.drop k) (m.drop k) = 0 := by
  rcases h with h | h
  · rw [List.drop_eq_nil_of_le h]; cases m.drop k <;> rfl
  · rw [List.drop_eq_nil_of_le h]; cases l.drop k <;> rfl
theorem pre_le {α : Type} [DecidableEq α] : ∀ (l m : List α), pre l m ≤ l.length ∧ pre l m ≤ m.length
  | [], _ => by simp [pre]
  | _ :: _, [] => by simp [pre]
  | x :: l, y :: m => by
    have := pre_le l m
    simp only [pre, List.length_cons]
    split <;> omega

/-- How far one goes back from the ends, not below f. -/
def back {α : Type} [DecidableEq α] (l m : List α) (f : Nat) : Nat → Nat → Nat × Nat
  | t + 1, e + 1 => if f < t + 1 ∧ f < e + 1 ∧ l[t]? = m[e]? then back l m f t e else (t + 1, e + 1)
  | t, e => (t, e)
theorem back_stop {α : Type} [DecidableEq α] (l m : List α) (f t e : Nat) (h : ¬ (f < t ∧ f < e)) : back l m f t e = (t, e) := by
  cases t <;> cases e <;> simp [back]
  omega
theorem back_le {α : Type} [DecidableEq α] (l m : List α) (f : Nat) : ∀ t e, f ≤ t → f ≤ e → f ≤ (back l m f t e).1 ∧ (back l m f t e).1 ≤ t ∧ f ≤ (back l m f t e).2 ∧ (back l m f t e).2 ≤ e
  | t + 1, e + 1, h1, h2 => by
    rw [back]
    split
    · rename_i h
      have := back_le l m f t e (by omega) (by omega)
      omega
    · simp; omega
  | 0, e, h1, h2 => by simp [back]; omega
  | t + 1, 0, h1, h2 => by simp [back]; omega

attribute [local go_sem ↓] run_load_tok run_eql_tok run_neq_tok run_store_step run_slice_tok
attribute [local go_sem] rd_drewN rd_drew aggLoad_ptr aggRes_some aggStore_row rowSz_new World.setRow_alloc_new cutRes_lohi one_int one_bool one_slice

/-- What diff.One answers: the place of the change, and what is put there. -/
def oneF (a b : List Tok) : Nat := pre a b
def oneT (a b : List Tok) : Nat := (back a b (pre a b) a.length b.length).1
def oneE (a b : List Tok) : Nat := (back a b (pre a b) a.length b.length).2

def OneDiff (a b : List Tok) (w : World) (e : Ending) (w' : World) : Prop :=
  ∃ A c, e = .returned (.tuple #[.agg #[.int .i64 1, .int .i64 (oneF a b), .int .i64 (oneT a b), .int .i64 0, .int .i64 0, .int .i64 0, .int .i64 0, .int .i64 0, .slice A (oneE a b - oneF a b) c, .slice none 0 0], .bool true]) ∧
    Own w' w.heap.size 43 12 Tok.cells (.slice A (oneE a b - oneF a b) c) ((b.take (oneE a b)).drop (oneF a b)) ∧ Below w.heap.size w w'

set_option maxHeartbeats 1000000 in
set_option maxRecDepth 100000 in
theorem One_differ (A1 A2 : Option Addr) (c1 c2 B1 B2 : Nat) (a b : List Tok) (w : World) (h1 : Sl w B1 12 Tok.cells A1 a) (h2 : Sl w B2 12 Tok.cells A2 b) (hB1 : B1 ≤ w.heap.size) (hB2 : B2 ≤ w.heap.size) (ha : a.length ≤ 1000000) (hb : b.length ≤ 1000000) (hc : b.length ≤ c2) (hne : ¬ a = b) :
    Calls Try.prog 36 #[.slice A1 a.length c1, .slice A2 b.length c2] w (OneDiff a b w) := by
  have hd : decide (a = b) = false := by simp [hne]
  clear hne
  obtain ⟨Z, hZ⟩ : ∃ Z : Obj, Z = .cells #[.int .i64 0, .int .i64 0, .int .i64 0, .int .i64 0, .int .i64 0, .int .i64 0, .int .i64 0, .int .i64 0, .slice none 0 0, .slice none 0 0] 77 := ⟨_, rfl⟩
  have k1 := h1.alloc hB1 Z
  have k2 := h2.alloc hB2 Z
  subst hZ
  clear h1 h2
  go_enter Try.func36, Try.ntmps36
  go_upto_block 0 with (go_at_call 53; refine (Same_any A1 A2 c1 c2 B1 B2 a b _ k1 k2 (by omega) (by omega)).mono ?_; rintro e w' ⟨rfl, n, rfl⟩)
  go_cut [6] (fun i wx => ∃ n : Nat, i = .int .i64 (pre a b) ∧ wx = (w.alloc (.cells #[.int .i64 0, .int .i64 0, .int .i64 0, .int .i64 0, .int .i64 0, .int .i64 0, .int .i64 0, .int .i64 0, .slice none 0 0, .slice none 0 0] 77)).drewN n)
  case first =>
    go_wp2_with fail
    go_loopw [6] (fun i wr => ∃ k n : Nat, k ≤ a.length ∧ k ≤ b.length ∧ i = .int .i64 k ∧ wr = (w.alloc (.cells #[.int .i64 0, .int .i64 0, .int .i64 0, .int .i64 0, .int .i64 0, .int .i64 0, .int .i64 0, .int .i64 0, .slice none 0 0, .slice none 0 0] 77)).drewN n ∧ Hid (k + pre (a.drop k) (b.drop k) = pre a b)) (fun i _ => a.length - (intOf i).toNat)
    case atStart => exact ⟨0, n, by omega, by omega, rfl, rfl, by simp [Hid]⟩
    case round =>
      obtain ⟨k, n, hk1, hk2, rfl, rfl, HE⟩ := hrel
      by_cases hlt : k < a.length ∧ k < b.length
      · obtain ⟨hlt1, hlt2⟩ := hlt
        obtain ⟨b1, o1, rfl, _⟩ := k1.addr (by omega) (by omega)
        obtain ⟨b2, o2, rfl, _⟩ := k2.addr (by omega) (by omega)
        have r1 := k1.rd_ hlt1
        have r2 := k2.rd_ hlt2
        have hg : decide ((k : Int) < if b.length < a.length then (b.length : Int) else (a.length : Int)) = true := by simp only [decide_eq_true_eq]; split <;> omega
        have hp := pre_drop a b k hlt1 hlt2
        by_cases he : a[k] = b[k]
        · have hd : decide (a[k] = b[k]) = true := by simp [he]
          rw [if_pos he] at hp
          have HE' := Lib.hid hp; clear he hp
          go_wp2
          go_quiet (fail)
          go_wp2
          go_roundw
          case rel => exact ⟨k + 1, _, by omega, by omega, by go_num, rfl, by have := HE.out; rw [HE'.out] at this; unfold Hid; omega⟩
          case measure => simp [intOf]; omega
        · have hd : decide (a[k] = b[k]) = false := by simp [he]
          rw [if_neg he] at hp
          have HE' := Lib.hid hp; clear he hp
          go_wp2
          go_quiet (fail)
          go_wp2
          all_goals
            go_meet
            case rel => exact ⟨_, by have := HE.out; rw [HE'.out] at this; rw [← this]; simp, rfl⟩
      · have hg : decide ((k : Int) < if b.length < a.length then (b.length : Int) else (a.length : Int)) = false := by simp only [decide_eq_false_iff_not]; split <;> omega
        have hp := pre_end a b k (by omega)
        have HE' := Lib.hid hp; clear hp
        go_wp2
        go_quiet (fail)
        go_wp2
        all_goals
          go_meet
          case rel => exact ⟨_, by have := HE.out; rw [HE'.out] at this; rw [← this]; simp, rfl⟩
  case rest =>
    obtain ⟨n, rfl, rfl⟩ := hcut
    have hpl := pre_le a b
    obtain ⟨f, hf⟩ : ∃ f, f = pre a b := ⟨_, rfl⟩
    rw [← hf] at hpl ⊢
    have HF := Lib.hid hf; clear hf
    go_upto_block 2 with fail
    go_cut [7, 8] (fun t e wx => ∃ n : Nat, t = .int .i64 (oneT a b) ∧ e = .int .i64 (oneE a b) ∧ wx = (w.alloc (.cells #[.int .i64 0, .int .i64 0, .int .i64 0, .int .i64 0, .int .i64 0, .int .i64 0, .int .i64 0, .int .i64 0, .slice none 0 0, .slice none 0 0] 77)).drewN n)
    case first =>
      go_wp2_with fail
      go_loopw [7, 8] (fun t e wr => ∃ i j n : Nat, f ≤ i ∧ i ≤ a.length ∧ f ≤ j ∧ j ≤ b.length ∧ t = .int .i64 i ∧ e = .int .i64 j ∧ wr = (w.alloc (.cells #[.int .i64 0, .int .i64 0, .int .i64 0, .int .i64 0, .int .i64 0, .int .i64 0, .int .i64 0, .int .i64 0, .slice none 0 0, .slice none 0 0] 77)).drewN n ∧ Hid (back a b (pre a b) i j = back a b (pre a b) a.length b.length)) (fun t _ _ => (intOf t).toNat)
      case atStart => exact ⟨_, _, n, hpl.1, Nat.le_refl _, hpl.2, Nat.le_refl _, rfl, rfl, rfl, rfl⟩
      case round =>
        obtain ⟨i, j, n, hi1, hi2, hj1, hj2, rfl, rfl, rfl, HE⟩ := hrel
        by_cases hlt : f < i ∧ f < j
        · obtain ⟨hlt1, hlt2⟩ := hlt
          obtain ⟨i, rfl⟩ : ∃ i', i = i' + 1 := ⟨i - 1, by omega⟩
          obtain ⟨j, rfl⟩ : ∃ j', j = j' + 1 := ⟨j - 1, by omega⟩
          obtain ⟨b1, o1, rfl, _⟩ := k1.addr (by omega) (by omega)
          obtain ⟨b2, o2, rfl, _⟩ := k2.addr (by omega) (by omega)
          have r1 := k1.rd_ (k := i) (by omega)
          have r2 := k2.rd_ (k := j) (by omega)
          have hg1 : decide ((f : Int) < (i : Int) + 1) = true := by simp; omega
          have hg2 : decide ((f : Int) < (j : Int) + 1) = true := by simp; omega
          have HE1 := HE.out
          rw [back] at HE1
          by_cases he : a[i] = b[j]
          · have hd : decide (a[i] = b[j]) = true := by simp [he]
            rw [if_pos ⟨by rw [← HF.out]; omega, by rw [← HF.out]; omega, by rw [List.getElem?_eq_getElem (by omega), List.getElem?_eq_getElem (by omega), he]⟩] at HE1
            have HE' := Lib.hid HE1; clear HE1 he
            go_wp2
            go_quiet (fail)
            go_wp2
            go_roundw
            case rel => exact ⟨i, j, _, by omega, by omega, by omega, by omega, rfl, rfl, rfl, HE'⟩
            case measure => simp [intOf]
          · have hd : decide (a[i] = b[j]) = false := by simp [he]
            rw [if_neg (by rw [List.getElem?_eq_getElem (by omega), List.getElem?_eq_getElem (by omega)]; intro h; exact he (by simpa using h.2.2))] at HE1
            have HE' := Lib.hid HE1; clear HE1 he
            go_wp2
            go_quiet (fail)
            go_wp2
            all_goals
              go_meet
              case rel => exact ⟨n + nq, by unfold oneT; rw [← HE'.out]; try simp, by unfold oneE; rw [← HE'.out]; try simp, by first | rfl | rw [World.drewN_drewN]⟩
        · have HE1 := HE.out
          rw [back_stop _ _ _ _ _ (by rw [← HF.out]; exact hlt)] at HE1
          have HE' := Lib.hid HE1; clear HE1
          by_cases h3 : f < i
          · have hg1 : decide (f < i) = true := by simp; omega
            have hg2 : decide (f < j) = false := by simp; omega
            go_wp2
            go_quiet (fail)
            go_wp2
            all_goals
              go_meet
              case rel => exact ⟨n + nq, by unfold oneT; rw [← HE'.out], by unfold oneE; rw [← HE'.out], by first | rfl | rw [World.drewN_drewN]⟩
          · have hg1 : decide (f < i) = false := by simp; omega
            go_wp2
            go_quiet (fail)
            go_wp2
            all_goals
              go_meet
              case rel => exact ⟨n + nq, by unfold oneT; rw [← HE'.out], by unfold oneE; rw [← HE'.out], by first | rfl | rw [World.drewN_drewN]⟩
    case rest =>
      obtain ⟨n, rfl, rfl, rfl⟩ := hcut
      have hbl := back_le a b f a.length b.length hpl.1 hpl.2
      have e1 : (back a b f a.length b.length).1 = oneT a b := by unfold oneT; rw [HF.out]
      have e2 : (back a b f a.length b.length).2 = oneE a b := by unfold oneE; rw [HF.out]
      rw [e1, e2] at hbl
      clear e1 e2
      go_wp2_with fail
      have hlen : ((b.take (oneE a b)).drop f).length = oneE a b - f := by simp; omega
      refine (Clone_tok _ _ _ B2 ((b.take (oneE a b)).drop f) _ hlen ((k2.drewN n).cutA (by omega) (by omega) (by omega)) (by simp; omega) (by omega)).mono ?_
      rintro e w3 ⟨A3, c3, rfl, hown, hb3⟩
      rw [hlen] at hown ⊢
      have hz : w.heap.size < (w.alloc (.cells #[.int .i64 0, .int .i64 0, .int .i64 0, .int .i64 0, .int .i64 0, .int .i64 0, .int .i64 0, .int .i64 0, .slice none 0 0, .slice none 0 0] 77)).heap.size := by simp
      have hblk := ((Blk.new w 77 #[.int .i64 0, .int .i64 0, .int .i64 0, .int .i64 0, .int .i64 0, .int .i64 0, .int .i64 0, .int .i64 0, .slice none 0 0, .slice none 0 0]).drewN n).below hb3 hz
      have hrow : rowSz w3 w.heap.size = some 10 := rowSz_of hblk
      have HO := Lib.hid hown; have HB := Lib.hid hblk; have HB3 := Lib.hid hb3
      clear hown hblk hb3
      go_wp2
      have hblk2 := HB.out.setRow #[.int .i64 1, .int .i64 f, .int .i64 (oneT a b), .int .i64 0, .int .i64 0, .int .i64 0, .int .i64 0, .int .i64 0, .slice A3 (oneE a b - f) c3, .slice none 0 0]
      refine bodyPost_ret (results_cell_tmp2 rfl step_agg 10 step_size _ _ ⟨w.heap.size, 0, none⟩ _ rfl hblk2.rd_) rfl ?_
      refine ⟨A3, c3, ?_, ?_, ?_⟩
      · show Ending.returned _ = _
        unfold oneF
        rw [← HF.out]
        rfl
      · unfold oneF
        rw [← HF.out]
        exact (HO.out.setRow_far (HO.out.ne_blk HB.out (by decide)) _).base_le (Nat.le_of_lt hz)
      · exact bel_setRow (((Below.refl _ _).alloc (Nat.le_refl _) _).trans (below_of_drewN (HB3.out.mono (Nat.le_of_lt hz)))) (Nat.le_refl _) _
end Go.Proofs.Ytkeeipfglmpgjaa
