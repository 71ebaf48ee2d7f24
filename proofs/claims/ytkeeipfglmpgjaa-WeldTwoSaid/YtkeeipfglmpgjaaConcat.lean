/-
  slices.Grow of nil, slices.Concat at tokens.
-/
import Derived.Test.YtkeeipfglmpgjaaText
import Derived.Lib.AppendZeros
namespace Go.Proofs.Ytkeeipfglmpgjaa
set_option linter.unusedSimpArgs false
set_option linter.unusedVariables false
open Go.RowKit

attribute [local go_sem ↓] run_slice_tok
attribute [local go_sem] cutRes_hi cutA_zero

theorem tok_zero : (Try.prog.info? 43).map (fun i => (i.zero, i.size, i.bytes)) = some (some (.agg #[.int .i64 0, .int .i64 0, .int .i64 0, .int .i32 0, .int .u16 0, .int .u16 0, .int .u16 0, .int .u16 0, .int .u16 0, .int .u16 0, .int .u16 0, .int .u16 0]), 12, 48) := by kernel_rfl

set_option maxHeartbeats 400000 in
set_option maxRecDepth 100000 in
/-- slices.Grow of nil: a row of the call's own that holds nothing yet. -/
theorem Grow_nil (n : Nat) (w : World) (hn : n ≤ 1000000000) :
    Calls Try.prog 55 #[.slice none 0 0, .int .i64 n] w (GivesSl (α := Tok) 43 12 Tok.cells w []) := by
  obtain ⟨i, hi, hz, hsz, hby⟩ := info_parts tok_zero
  by_cases h0 : n = 0
  · subst h0
    go_enter Try.func55, Try.ntmps55
    go_wp2
    go_ret
    exact GivesSl.of rfl rfl (Own.nil _ _ _ Tok.cells_length) (Below.refl _ _)
  · have hr := Lib.run_append_nil_zeros (P := Try.prog) w 26 3 26 43 i _ .i64 .i64 Try.underlying26 Try.underlying3 hi hz n (by omega) (by omega) (by omega) (by rw [hby]; omega)
    have hge := grownCap_ge w n 0 43
    have hle := grownCap_le_maxLen w n 0 43 (by unfold maxLen; omega)
    obtain ⟨C, hC⟩ : ∃ C, C = grownCap w n 0 43 := ⟨_, rfl⟩
    rw [← hC] at hr hge hle
    clear hC
    obtain ⟨cs, hcs⟩ : ∃ cs, cs = Builtin.zeroCells (Value.cells (.agg #[.int .i64 0, .int .i64 0, .int .i64 0, .int .i32 0, .int .u16 0, .int .u16 0, .int .u16 0, .int .u16 0, .int .u16 0, .int .u16 0, .int .u16 0, .int .u16 0])) n ++ Builtin.zeroCells (Value.cells (.agg #[.int .i64 0, .int .i64 0, .int .i64 0, .int .i32 0, .int .u16 0, .int .u16 0, .int .u16 0, .int .u16 0, .int .u16 0, .int .u16 0, .int .u16 0, .int .u16 0])) (C - n) := ⟨_, rfl⟩
    rw [← hcs] at hr
    have hsize : cs.size = C * 12 := by
      rw [hcs, Array.size_append, size_zeroCells, size_zeroCells]
      simp only [Value.cells, List.size_toArray, List.length_cons, List.length_nil]
      omega
    have HS := Lib.hid hsize
    clear hcs hsize hi hz hsz hby
    have HR := Lib.hid hr
    clear hr
    go_enter Try.func55, Try.ntmps55
    go_wp2_with (at_builtin; go_must (refine Lib.wpList_append_run _ rfl _ _ _ _ rfl _ _ rfl rfl _ _ HR.out ?_))
    go_ret
    have ho : Own (α := Tok) (w.alloc (.cells cs 43)) w.heap.size 43 12 Tok.cells (.slice (some ⟨w.heap.size, 0, none⟩) 0 C) [] := ⟨Tok.cells_length, World.ownsRow_made w cs C (Nat.le_refl _) hle HS.out⟩
    exact GivesSl.of rfl rfl ho.drew ((Below.refl _ _).alloc (Nat.le_refl _) _).drew

/-- A slice of tokens, as an element. -/
structure SlT where
  A : Option Addr
  n : Nat
  c : Nat
  l : List Tok
def SlT.cells (x : SlT) : List Value := [.slice x.A x.n x.c]
theorem SlT.cells_length (x : SlT) : x.cells.length = 1 := rfl
def SlT.sum (xs : List SlT) : Nat := (xs.map SlT.n).sum
def SlT.all (xs : List SlT) : List Tok := xs.flatMap SlT.l
def SlT.Ok (w : World) (B : Nat) (x : SlT) : Prop := x.l.length = x.n ∧ Sl w B 12 Tok.cells x.A x.l
theorem SlT.sum_take (xs : List SlT) (k : Nat) (hk : k < xs.length) : SlT.sum (xs.take (k + 1)) = SlT.sum (xs.take k) + xs[k].n := by
  unfold SlT.sum
  rw [List.take_succ_eq_append_getElem hk, List.map_append, List.sum_append]; simp
theorem SlT.all_take (xs : List SlT) (k : Nat) (hk : k < xs.length) : SlT.all (xs.take (k + 1)) = SlT.all (xs.take k) ++ xs[k].l := by
  unfold SlT.all
  rw [List.take_succ_eq_append_getElem hk, List.flatMap_append]; simp
theorem SlT.sum_le (xs : List SlT) (k : Nat) : SlT.sum (xs.take k) ≤ SlT.sum xs := by
  conv => rhs; rw [← List.take_append_drop k xs]
  unfold SlT.sum
  rw [List.map_append, List.sum_append]; omega
theorem SlT.all_length (w : World) (B : Nat) (xs : List SlT) (h : ∀ x ∈ xs, x.Ok w B) : (SlT.all xs).length = SlT.sum xs := by
  induction xs with
  | nil => rfl
  | cons x xs ih =>
    have h1 := (h x (by simp)).1
    have h2 := ih (fun y hy => h y (by simp [hy]))
    simp only [SlT.all, SlT.sum, List.flatMap_cons, List.length_append, List.map_cons, List.sum_cons] at *
    omega

set_option maxHeartbeats 1000000 in
set_option maxRecDepth 100000 in
theorem Concat_any (A : Option Addr) (n c B : Nat) (xs : List SlT) (w : World) (hn : xs.length = n) (h : Sl w B 1 SlT.cells A xs) (hB : B ≤ w.heap.size) (hx : ∀ x ∈ xs, x.Ok w B) (hs : SlT.sum xs ≤ 1000000) (hnl : n ≤ 1000000) :
    Calls Try.prog 40 #[.slice A n c] w (GivesSl 43 12 Tok.cells w (SlT.all xs)) := by
  subst hn
  have HX := Lib.hid hx
  clear hx
  go_enter Try.func40, Try.ntmps40
  go_upto_block 0 with fail
  go_cut [3] (fun m wx => m = .int .i64 (SlT.sum xs) ∧ w = wx)
  case first =>
    go_wp2_with fail
    go_loop [3, 5, 11] (fun m _ i => ∃ k : Nat, k ≤ xs.length ∧ i = .int .i64 k ∧ m = .int .i64 (SlT.sum (xs.take k))) (fun _ _ i => xs.length - (intOf i).toNat)
    case atStart => exact ⟨0, by omega, rfl, rfl⟩
    case round =>
      obtain ⟨k, hk, rfl, rfl⟩ := hrel
      have hle := SlT.sum_le xs k
      by_cases hkl : k < xs.length
      · obtain ⟨b, o, rfl, _⟩ := h.addr (by omega) (by omega)
        have r : w.cell? ⟨b, o + k, none⟩ = some (.slice xs[k].A xs[k].n xs[k].c) := by
          have := h.cell1 hkl
          simpa [SlT.cells] using this
        have hle2 := SlT.sum_le xs (k + 1)
        have hst := SlT.sum_take xs k hkl
        have hle3 : SlT.sum (xs.take k) + xs[k].n ≤ 1000000 := by omega
        have HST := Lib.hid hst
        clear hst
        go_wp2
        go_round
        case rel => exact ⟨k + 1, by omega, by go_num, by rw [HST.out]; go_num⟩
        case measure => simp [intOf]; omega
      · obtain rfl : k = xs.length := by omega
        go_wp2
        go_meet
        case rel => exact ⟨by first | rfl | rw [List.take_length], rfl⟩
  case rest =>
    obtain ⟨rfl, rfl⟩ := hcut
    go_wp2_with fail
    refine (Grow_nil (SlT.sum xs) _ (by omega)).mono ?_
    rintro e w1 ⟨A1, c1, rfl, ho1, hb1⟩
    go_wp2_with fail
    go_loopw [6, 8, 27] (fun v _ i wr => ∃ k A' m c', k ≤ xs.length ∧ i = .int .i64 (k : Nat) ∧ v = .slice A' m c' ∧ m = SlT.sum (xs.take k) ∧ Own wr w.heap.size 43 12 Tok.cells (.slice A' m c') (SlT.all (xs.take k)) ∧ Below w.heap.size w wr) (fun _ _ i _ => xs.length - (intOf i).toNat)
    case atStart => exact ⟨0, A1, 0, c1, by omega, rfl, rfl, rfl, ho1, hb1⟩
    case round =>
      obtain ⟨k, A', m, c', hk, rfl, rfl, hm, hown, hb⟩ := hrel
      have hle := SlT.sum_le xs k
      by_cases hkl : k < xs.length
      · obtain ⟨b, o, rfl, _⟩ := h.addr (by omega) (by omega)
        have r : wr.cell? ⟨b, o + k, none⟩ = some (.slice xs[k].A xs[k].n xs[k].c) := by
          have := (h.below (hb.mono hB)).cell1 hkl
          simpa [SlT.cells] using this
        have hle2 := SlT.sum_le xs (k + 1)
        have hst := SlT.sum_take xs k hkl
        have hat := SlT.all_take xs k hkl
        have hle3 : m + xs[k].n ≤ 1000000 := by omega
        obtain ⟨hok1, hok2⟩ := HX.out xs[k] (List.getElem_mem _)
        have hok3 := hok2.below (hb.mono hB)
        have hlm : (SlT.all (xs.take k)).length = m := by rw [SlT.all_length w B _ (fun x hx => HX.out x (List.mem_of_mem_take hx)), hm]
        have HST := Lib.hid hst
        have HAT := Lib.hid hat
        have HLM := Lib.hid hlm
        have HM := Lib.hid hm
        have HOK := Lib.hid hok1
        clear hst hat hlm hm hok1 hok2
        go_wp2_with (at_builtin; go_must (refine wpList_append_sl rfl _ _ _ rfl tokElem w.heap.size Tok.cells tok_one _ (SlT.all (xs.take k)) m HLM.out rfl hown B _ _ _ xs[k].l rfl HOK.out hok3 (by omega) hb.size ?_); intro A2 c2 w2 hown2 hg2 hat2)
        go_roundw
        case rel => exact ⟨k + 1, _, _, _, by omega, by go_num, rfl, by rw [HST.out, HM.out], by rw [HAT.out]; exact hown2, hown.below_grown hb hg2 (Nat.le_refl _) hb.size⟩
        case measure => simp [intOf]; omega
      · obtain rfl : k = xs.length := by omega
        rw [List.take_length] at hown
        have HO := Lib.hid hown
        clear hown hm hle
        go_wp2
        go_ret
        exact GivesSl.of HO.out.cap.2 rfl HO.out hb
end Go.Proofs.Ytkeeipfglmpgjaa
