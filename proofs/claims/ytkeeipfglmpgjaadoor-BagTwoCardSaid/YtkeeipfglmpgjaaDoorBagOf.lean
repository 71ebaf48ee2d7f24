/-
  bag.Of, Len: what they answer.
-/
import Derived.Test.YtkeeipfglmpgjaaDoorBag
namespace Go.Proofs.YtkeeipfglmpgjaaDoor
set_option linter.unusedSimpArgs false
set_option linter.unusedVariables false
open Go.RowKit
attribute [local go_sem ↓] run_load_bag run_store_bag run_load_arr
attribute [local go_sem] rd_drewN rd_drew aggLoad_ptr aggRes_some aggStore_row rd_new rd_alloc rd_row_far rd_row rowSz_set rowSz_at rowSz_lt rowSz_far rowSz_drewN rowSz_drew bag_one Bag.cells_length

set_option maxHeartbeats 1000000 in
theorem Of_any (A : Option Addr) (n c B : Nat) (l : List Int) (w : World) (hn : l.length = n) (h : Sl w B 1 intC A l) (hB : B ≤ w.heap.size) (hl : l.length ≤ 1000000) :
    Calls Tryd.prog 7 #[.slice A n c] w fun e w' => e = .returned (.agg (bagOf l).cells.toArray) ∧ Below w.heap.size w w' := by
  subst hn
  go_enter Tryd.func7, Tryd.ntmps7
  go_wp2
  go_loopw [8] (fun i wr => ∃ k : Nat, k ≤ l.length ∧ i = .int .i64 k ∧ Blk wr (w.heap.size + 1) 29 (bagOf (l.take k)).cells.toArray ∧ (∃ cs, Blk wr w.heap.size 29 cs ∧ cs.size = 4) ∧ Below w.heap.size w wr) (fun i _ => l.length - (intOf i).toNat)
  case atStart =>
    refine ⟨0, Nat.zero_le _, rfl, ?_, ⟨_, Blk.new w _ _ |>.alloc _, rfl⟩, (Below.refl _ _).alloc (Nat.le_refl _) _ |>.alloc (by simp) _⟩
    have := Blk.new (w.alloc (.cells Bag.zero.cells.toArray 29)) 29 Bag.zero.cells.toArray
    rw [World.size_alloc] at this
    exact this
  case round =>
    obtain ⟨k, hk, rfl, h1, ⟨cs, h2, h3⟩, hb⟩ := hrel
    have r1 : rd wr ⟨w.heap.size + 1, 0, none⟩ 4 = some (bagOf (l.take k)).cells := h1.rd_
    by_cases hlt : k < l.length
    · obtain ⟨b, o, rfl, hbB⟩ := h.addr (by omega) (by omega)
      have r : wr.cell? ⟨b, o + k, none⟩ = some (.int .i64 l[k]) := ((h.below (hb.mono hB)).cell1 hlt)
      have hok := (bagOf_ok_has (l.take k)).1
      have HC := With_any (bagOf (l.take k)) hok l[k]
      have HB := Lib.hid hb
      have HT : Hid ((bagOf (l.take k)).with_ l[k] = bagOf (l.take (k + 1))) := by
        show _ = _
        rw [← bagOf_snoc, List.take_succ_eq_append_getElem hlt]
      obtain ⟨y, hy⟩ : ∃ y, (bagOf (l.take k)).with_ l[k] = y := ⟨_, rfl⟩
      rw [hy] at HC HT
      have HH := Lib.hid (And.intro h1 h2)
      clear hb hy h1 h2 hok
      go_wp2_with (go_at_call 17; refine (HC _).mono ?_; rintro e w1 ⟨rfl, hb1⟩; have s1 := rowSz_of (HH.out.1.below hb1 HH.out.1.lt); rw [show (bagOf (l.take k)).cells.toArray.size = 4 from rfl] at s1)
      go_roundw
      case rel =>
        refine ⟨k + 1, by omega, by go_num, ?_, ⟨cs, ?_, h3⟩, ?_⟩
        · have := (HH.out.1.below hb1 HH.out.1.lt).setRow y.cells.toArray
          rw [← HT.out]
          exact this
        · exact (HH.out.2.below hb1 HH.out.2.lt).setRow_far (by omega) _
        · exact bel_setRow (HB.out.trans (hb1.mono HB.out.size)) (by omega) _
      case measure => simp [intOf]; omega
    · have hk2 : k = l.length := by omega
      subst hk2
      rw [List.take_length] at r1
      have s2 := rowSz_of h2
      rw [h3] at s2
      have HB := Lib.hid hb
      clear hb h1 h2
      go_wp2
      refine bodyPost_ret (results_cell1 rfl bag_agg 4 bag_size _ _ ⟨w.heap.size, 0, none⟩ (bagOf l).cells rfl ?_) rfl ?_
      · exact rd_row _ _ _ _ _ rfl s2 rfl
      · exact ⟨rfl, bel_setRow HB.out (Nat.le_refl _) _⟩

/-- How many numbers: word by word. -/
def Bag.len (x : Bag) : Nat := pc 64 x.a + pc 64 x.b + pc 64 x.c + pc 64 x.d
def Bag.upto (x : Bag) : Nat → Nat | 0 => 0 | 1 => pc 64 x.a | 2 => pc 64 x.a + pc 64 x.b | 3 => pc 64 x.a + pc 64 x.b + pc 64 x.c | _ => x.len
theorem pc_le (n x : Nat) : pc n x ≤ n := by
  rw [← pc_eq]; exact Nat.le_trans (List.length_filter_le _ _) (by simp)
theorem Bag.upto_le (x : Bag) (k : Nat) : x.upto k ≤ 256 := by
  have := pc_le 64 x.a; have := pc_le 64 x.b; have := pc_le 64 x.c; have := pc_le 64 x.d
  unfold Bag.upto Bag.len; split <;> omega
theorem Bag.upto_succ (x : Bag) (k : Nat) (hk : k < 4) : x.upto (k + 1) = x.upto k + pc 64 (x.word k) := by
  rcases q4 hk with rfl | rfl | rfl | rfl <;> simp [Bag.upto, Bag.word, Bag.len]

theorem run_index_bag (x : Bag) (k : Nat) (hk : k < 4) (w : World) : (Instr.index 27 (.agg x.cells.toArray) (.int .i64 k)).run Tryd.prog w = .ok (.int .u64 (x.word k)) w := by
  rcases q4 hk with rfl | rfl | rfl | rfl <;> simp [Instr.index, asIntOf, run_underlying Tryd.underlying27, part, go_sem, Bag.cells, Bag.word]

set_option maxHeartbeats 1000000 in
theorem Len_any (x : Bag) (hx : x.ok) (w : World) : Calls Tryd.prog 13 #[.agg x.cells.toArray] w fun e w' => e = .returned (.int .i64 (x.len : Nat)) ∧ Below w.heap.size w w' := by
  go_enter Tryd.func13, Tryd.ntmps13
  go_wp2
  go_loopw [3, 8] (fun n i wr => ∃ k : Nat, k ≤ 4 ∧ i = .int .i64 k ∧ n = .int .i64 (x.upto k : Nat) ∧ Below w.heap.size w wr) (fun _ i _ => 4 - (intOf i).toNat)
  case atStart => exact ⟨0, by omega, rfl, rfl, (Below.refl _ _).alloc (Nat.le_refl _) _⟩
  case round =>
    obtain ⟨k, hk, rfl, rfl, hb⟩ := hrel
    have hu := x.upto_le k
    by_cases hlt : k < 4
    · have HC := OnesCount_any (x.word k) (x.word_lt hx k)
      have hc := run_index_bag x k hlt
      have hu2 := x.upto_le (k + 1)
      have HS := x.upto_succ k hlt
      obtain ⟨p, hp⟩ : ∃ p, pc 64 (x.word k) = p := ⟨_, rfl⟩
      obtain ⟨u, hu⟩ : ∃ u, x.upto k = u := ⟨_, rfl⟩
      rw [hu, hp] at HS
      rw [HS] at hu2
      rw [hp] at HC
      rw [hu]
      have HS := Lib.hid HS
      have HB := Lib.hid hb
      clear hb hu hp
      go_wp2_with (go_at_call 24; refine (HC _).mono ?_; rintro e w1 ⟨rfl, rfl⟩)
      go_roundw
      case rel => exact ⟨k + 1, by omega, by go_num, by rw [HS.out]; go_num, HB.out⟩
      case measure => simp [intOf]; omega
    · have hk2 : k = 4 := by omega
      subst hk2
      go_wp2
      go_ret
      exact ⟨rfl, hb⟩
end Go.Proofs.YtkeeipfglmpgjaaDoor
