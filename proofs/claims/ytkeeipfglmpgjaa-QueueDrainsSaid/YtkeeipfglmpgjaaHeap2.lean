/-
  container/heap.Pop at a queue's row; the queue's Put, Take, Peek, Len.
-/
import Derived.Test.YtkeeipfglmpgjaaHeap
import Derived.StillTailTactics
namespace Go.Proofs.Ytkeeipfglmpgjaa
set_option linter.unusedSimpArgs false
set_option linter.unusedVariables false
open Go.RowKit
attribute [local go_sem ↓] run_load_one run_store_one
attribute [local go_sem] rd_drewN rd_drew aggLoad_ptr aggRes_some midStore_at thereB_setCells thereB_drew thereB_drewN cells_one One.cells_length thereB_new
attribute [local go_sem] assert_one m_push m_pop m_len m_less m_swap

theorem pop_shape (l l' : List One) (n : Nat) (hn : l.length = n + 1) (h2 : l'.Perm (swapL l 0 n)) (h3 : HeapN (at_ l') n) (h4 : ∀ k, n ≤ k → at_ l' k = at_ (swapL l 0 n) k) :
    ∃ l'', l' = l'' ++ [at_ l 0] ∧ l''.length = n ∧ ((at_ l 0) :: l'').Perm l ∧ HeapN (at_ l'') l''.length := by
  have hlen : l'.length = n + 1 := by rw [h2.length_eq, swapL_length, hn]
  have e : at_ l' n = at_ l 0 := by rw [h4 n (Nat.le_refl _), swapL_at _ _ _ (by omega) (by omega), swapF_j]
  have hs : l' = l'.take n ++ [at_ l 0] := by
    rw [← e, at_get (by omega)]
    have h1 := (List.take_append_drop n l').symm
    have h5 : l'.drop n = [l'[n]] := by
      rw [List.drop_eq_getElem_cons (by omega), List.drop_eq_nil_of_le (by omega)]
    rw [h5] at h1
    exact h1
  have ht : (l'.take n).length = n := by rw [List.length_take]; omega
  refine ⟨l'.take n, hs, ht, ?_, ?_⟩
  · have h5 : ((at_ l 0) :: l'.take n).Perm l' := by
      conv => rhs; rw [hs]
      exact (List.perm_append_comm (l₁ := [at_ l 0]) (l₂ := l'.take n))
    exact (h5.trans h2).trans (swapL_perm l 0 n (by omega) (by omega))
  · rw [ht]
    refine h3.congr fun k hk => ?_
    rw [at_get (by omega), at_get (by omega), List.getElem_take]

set_option maxHeartbeats 1000000 in
set_option maxRecDepth 20000 in
theorem hPop_any (W : World) (base Q : Nat) (l : List One) (came : Int) (h : QS W base Q l came) (hh : HeapN (at_ l) l.length) (hQ : base ≤ Q) (hbase : base ≤ W.heap.size) (hl : l.length ≤ 100000) (h0 : 0 < l.length) :
    Calls Try.prog 44 #[.iface 91 (.pointer (some ⟨Q, 0, none⟩))] W fun e W' => e = .returned (.iface 93 (.agg (at_ l 0).cells.toArray)) ∧ ∃ l', QS W' base Q l' came ∧ ((at_ l 0) :: l').Perm l ∧ HeapN (at_ l') l'.length ∧ BF base W W' := by
  obtain ⟨n, hn⟩ : ∃ n, l.length = n + 1 := ⟨l.length - 1, by omega⟩
  have hd : DownInv (at_ (swapL l 0 n)) n 0 := by
    rw [swapL_at _ _ _ (by omega) (by omega)]
    exact down_start hh (by omega)
  have hsl : (swapL l 0 n).length = n + 1 := (swapL_length _ _ _).trans hn
  have hat : at_ (swapL l 0 n) n = at_ l 0 := by rw [swapL_at _ _ _ (by omega) (by omega), swapF_j]
  have hsp := swapL_perm l 0 n (by omega) (by omega)
  obtain ⟨A, c, c0, hq, ho⟩ := h.cell
  rw [hn] at c0 hq ho
  have HO := Lib.hid ho
  have HK := Lib.hid hq
  have HD := Lib.hid hd
  have HSL := Lib.hid hsl
  have HAT := Lib.hid hat
  have HSP := Lib.hid hsp
  have HN := Lib.hid hn
  have hnl : n ≤ 100000 := by omega
  clear h hh h0 hd hsl hat hsp hq ho hn hl
  go_enter Try.func44, Try.ntmps44
  go_wp2_with (first
    | (go_at_call 80; refine (RLen_any A (n + 1) c _).mono ?_; rintro e W2 ⟨rfl, rfl⟩)
    | (go_at_call 82; refine (Swap_any A (n + 1) c base l 0 n W HO.out (by omega) (by omega) (by omega)).mono ?_; rintro e w2 ⟨rfl, ho2, hg2⟩; have hz2 := hg2.size; have HQ2 := Lib.hid (QS.swap HK.out HO.out ho2 hg2); have HB2 := Lib.hid ((BF.refl base W).grown hbase HO.out hg2); clear ho2 hg2)
    | (go_at_call 58; refine (down_any w2 base Q (swapL l 0 n) came n HQ2.out (by omega) (by rw [HSL.out]; omega) (by rw [HSL.out]; omega) HD.out).mono ?_; rintro e w3 ⟨b, l', rfl, h1, h2, h3, h4, h5⟩; obtain ⟨l'', rfl, g1, g2, g3⟩ := pop_shape l l' n HN.out h2 h3 h4; have hz3 := h5.1.size; have X3 := Lib.hid (And.intro h1 (And.intro g2 (And.intro g3 h5))); have G1 := Lib.hid g1; clear h1 h2 h3 h4 h5 g1 g2 g3)
    | (go_at_call 83; refine (Pop_any w3 base Q l'' came (at_ l 0) X3.out.1 hQ (by omega) (by rw [G1.out]; omega)).mono ?_; rintro e w4 ⟨rfl, h1, h2⟩; have X4 := Lib.hid (And.intro h1 h2); clear h1 h2)
    | fail)
  go_ret
  exact ⟨rfl, l'', X4.out.1, X3.out.2.1, X3.out.2.2.1, HB2.out.trans (X3.out.2.2.2.trans X4.out.2)⟩

/-! The queue's own methods. -/
/-- A queue: its row is a heap of what waits. -/
def QH (W : World) (base Q : Nat) (xs : List One) (came : Int) : Prop := ∃ l, QS W base Q l came ∧ HeapN (at_ l) l.length ∧ l.Perm xs ∧ base ≤ Q ∧ base ≤ W.heap.size

set_option maxHeartbeats 1000000 in
set_option maxRecDepth 20000 in
theorem Put_any (W : World) (base Q : Nat) (xs : List One) (came key thing : Int) (h : QH W base Q xs came) (hl : xs.length ≤ 100000) (hc0 : 0 ≤ came) (hc1 : came ≤ 1000000000) :
    Calls Try.prog 16 #[.pointer (some ⟨Q, 0, none⟩), .int .i64 key, .int .i64 thing] W fun e W' => e = .returned (.tuple #[]) ∧ QH W' base Q (xs ++ [⟨key, came, thing⟩]) (came + 1) ∧ BF base W W' := by
  obtain ⟨l, hs, hh, hp, hQ, hbase⟩ := h
  obtain ⟨A, c, c0, hq, ho⟩ := hs.cell
  have c1 : W.cell? ⟨Q, 1, none⟩ = some (.int .i64 came) := by simpa using hq.cell 1
  have HP := hPush_any W.drew base Q l came ⟨key, came, thing⟩ hs hh hQ hbase (by rw [hp.length_eq]; exact hl)
  have HPP := Lib.hid hp
  clear hs hh hq ho c0
  go_enter Try.func16, Try.ntmps16
  go_wp2
  go_region_with (go_at_call 43; refine HP.mono ?_; rintro e W1 ⟨rfl, l', h1, h2, h3, h4⟩; have X1 := Lib.hid (And.intro h1 (And.intro h2 (And.intro h3 h4))); clear h1 h2 h3 h4)
  obtain ⟨h1, h2, h3, h4⟩ := X1.out
  obtain ⟨A', c', c0, hq, ho⟩ := h1.cell
  have d1 : W1.cell? ⟨Q, 1, none⟩ = some (.int .i64 came) := by simpa using hq.cell 1
  have d2 := hq.frozen 1
  have HO := Lib.hid ho
  have HK := Lib.hid hq
  have HR := Lib.hid (And.intro h2 (And.intro h3 h4))
  clear h1 h2 h3 h4 hq ho c0 c1 HP
  go_wp2
  go_end0
  obtain ⟨h2, h3, h4⟩ := HR.out
  refine ⟨rfl, ⟨l', ⟨A', _, c', ?_, HO.out.kept fun k hk => Below.heap_setCell _ _ _ _ (fun e => HO.out.ne_blk HK.out (by decide) (by rw [hk, e]))⟩, h3, h2.trans (HPP.out.append_right _), hQ, ?_⟩, (BF.of_drewN (n := 1) h4).setQ HK.out hQ _ _⟩
  · have := HK.out.set_ 1 (.int .i64 (came + 1))
    simpa using this
  · exact Nat.le_trans hbase (Nat.le_trans h4.1.size (by simp [World.setCell]))

theorem one_get0 (x : One) : x.cells[0]? = some (.int .i64 x.key) := rfl
theorem one_get2 (x : One) : x.cells[2]? = some (.int .i64 x.thing) := rfl
attribute [local go_sem] cell_box one_get0 one_get2

set_option maxHeartbeats 1000000 in
set_option maxRecDepth 20000 in
theorem Take_some (W : World) (base Q : Nat) (xs : List One) (came : Int) (h : QH W base Q xs came) (hl : xs.length ≤ 100000) (h0 : 0 < xs.length) :
    Calls Try.prog 17 #[.pointer (some ⟨Q, 0, none⟩)] W fun e W' => ∃ x, e = .returned (.tuple #[.int .i64 x.thing, .int .i64 x.key, .bool true]) ∧ x ∈ xs ∧ (∀ y ∈ xs, lessB y x = false) ∧ (∀ xs', (x :: xs').Perm xs → QH W' base Q xs' came) ∧ BF base W W' := by
  obtain ⟨l, hs, hh, hp, hQ, hbase⟩ := h
  obtain ⟨A, c, c0, hq, ho⟩ := hs.cell
  have hlen := hp.length_eq
  have hmem : at_ l 0 ∈ xs := by
    rw [at_get (by omega)]
    exact hp.mem_iff.1 (List.getElem_mem _)
  have hmin : ∀ y ∈ xs, lessB y (at_ l 0) = false := fun y hy => by
    obtain ⟨k, hk, rfl⟩ := List.mem_iff_getElem.1 (hp.mem_iff.2 hy)
    rw [← at_get hk]
    exact heap_root hh k hk
  have HP := hPop_any W base Q l came hs hh hQ hbase (by omega) (by omega)
  obtain ⟨x, hx⟩ : ∃ x, at_ l 0 = x := ⟨_, rfl⟩
  rw [hx] at hmem hmin HP
  have hne : ((l.length : Int) == 0) = false := by rw [beq_eq_false_iff_ne]; omega
  have HM := Lib.hid (And.intro hmem hmin)
  have HPP := Lib.hid hp
  clear hs hh hq ho hmem hmin hx
  go_enter Try.func17, Try.ntmps17
  go_wp2_with (go_at_call 44; refine HP.mono ?_; rintro e W1 ⟨rfl, l', h1, h2, h3, h4⟩; have X1 := Lib.hid (And.intro h1 (And.intro h2 (And.intro h3 h4))); clear h1 h2 h3 h4)
  go_quiet (fail)
  go_wp2
  go_ret3
  obtain ⟨h1, h2, h3, h4⟩ := X1.out
  have B1 : BF base W ((W1.alloc (.cells #[.int .i64 0, .int .i64 0, .int .i64 0] 93)).setCells W1.heap.size 0 x.cells) := (h4.alloc (Nat.le_trans hbase h4.1.size) _).setCells_new (Nat.le_trans hbase h4.1.size) h4.1.size _ _
  refine ⟨x, rfl, HM.out.1, HM.out.2, fun xs' hx => ⟨l', ?_, h3, ?_, hQ, ?_⟩, B1.drewN _⟩
  · obtain ⟨A', c', _, hq, ho⟩ := h1.cell
    exact ⟨A', _, c', ((hq.alloc _).setCells_far (by have := hq.lt; omega) _ _).drewN _, ((ho.alloc _).kept fun k hk => heap_setCells_other _ _ _ _ _ (by have := (ho.lt k hk).2; omega)).drewN _⟩
  · exact (List.Perm.cons_inv ((h2.trans HPP.out).trans hx.symm))
  · exact Nat.le_trans hbase B1.1.size

theorem QH.cell {W : World} {base Q : Nat} {xs : List One} {came : Int} (h : QH W base Q xs came) : ∃ A c, W.cell? ⟨Q, 0, none⟩ = some (.slice A xs.length c) := by
  obtain ⟨l, hs, hh, hp, _⟩ := h
  obtain ⟨A, c, c0, _⟩ := hs.cell
  rw [hp.length_eq] at c0
  exact ⟨A, c, c0⟩

theorem Take_empty (W : World) (base Q : Nat) (came : Int) (h : QH W base Q [] came) :
    Calls Try.prog 17 #[.pointer (some ⟨Q, 0, none⟩)] W fun e W' => e = .returned (.tuple #[.int .i64 0, .int .i64 0, .bool false]) ∧ W = W' := by
  obtain ⟨A, c, c0⟩ := h.cell
  simp at c0
  clear h
  go_enter Try.func17, Try.ntmps17
  go_wp2
  go_ret3
  exact ⟨rfl, rfl⟩
theorem Take_nil (W : World) : Calls Try.prog 17 #[.pointer none] W fun e W' => e = .returned (.tuple #[.int .i64 0, .int .i64 0, .bool false]) ∧ W = W' := by
  go_enter Try.func17, Try.ntmps17
  go_wp2
  go_ret3
  exact ⟨rfl, rfl⟩
theorem Put_nil (W : World) (a b : Int) : Calls Try.prog 16 #[.pointer none, .int .i64 a, .int .i64 b] W fun e W' => e = .returned (.tuple #[]) ∧ W = W' := by
  go_enter Try.func16, Try.ntmps16
  go_wp2
  exact bodyPost_ret (results_none rfl _ _ _) rfl ⟨rfl, rfl⟩
theorem Peek_nil (W : World) : Calls Try.prog 18 #[.pointer none] W fun e W' => e = .returned (.tuple #[.int .i64 0, .int .i64 0, .bool false]) ∧ W = W' := by
  go_enter Try.func18, Try.ntmps18
  go_wp2
  go_ret3
  exact ⟨rfl, rfl⟩
theorem Peek_empty (W : World) (base Q : Nat) (came : Int) (h : QH W base Q [] came) :
    Calls Try.prog 18 #[.pointer (some ⟨Q, 0, none⟩)] W fun e W' => e = .returned (.tuple #[.int .i64 0, .int .i64 0, .bool false]) ∧ W = W' := by
  obtain ⟨A, c, c0⟩ := h.cell
  simp at c0
  clear h
  go_enter Try.func18, Try.ntmps18
  go_wp2
  go_ret3
  exact ⟨rfl, rfl⟩
theorem QLen_nil (W : World) : Calls Try.prog 19 #[.pointer none] W fun e W' => e = .returned (.int .i64 0) ∧ W = W' := by
  go_enter Try.func19, Try.ntmps19
  go_wp2
  go_ret
  exact ⟨rfl, rfl⟩
theorem QLen_any (W : World) (base Q : Nat) (xs : List One) (came : Int) (h : QH W base Q xs came) (n : Nat) (hn : xs.length = n) :
    Calls Try.prog 19 #[.pointer (some ⟨Q, 0, none⟩)] W fun e W' => e = .returned (.int .i64 n) ∧ W = W' := by
  obtain ⟨A, c, c0⟩ := h.cell
  rw [hn] at c0
  clear h
  go_enter Try.func19, Try.ntmps19
  go_wp2
  go_ret
  exact ⟨rfl, rfl⟩
set_option maxHeartbeats 1000000 in
theorem Peek_some (W : World) (base Q : Nat) (xs : List One) (came : Int) (h : QH W base Q xs came) (hl : xs.length ≤ 100000) (h0 : 0 < xs.length) :
    Calls Try.prog 18 #[.pointer (some ⟨Q, 0, none⟩)] W fun e W' => ∃ x, e = .returned (.tuple #[.int .i64 x.thing, .int .i64 x.key, .bool true]) ∧ x ∈ xs ∧ (∀ y ∈ xs, lessB y x = false) ∧ ∃ k, W' = W.drewN k := by
  obtain ⟨l, hs, hh, hp, hQ, hbase⟩ := h
  obtain ⟨A, c, c0, hq, ho⟩ := hs.cell
  have hlen := hp.length_eq
  have hmem : at_ l 0 ∈ xs := by
    rw [at_get (by omega)]
    exact hp.mem_iff.1 (List.getElem_mem _)
  have hmin : ∀ y ∈ xs, lessB y (at_ l 0) = false := fun y hy => by
    obtain ⟨k, hk, rfl⟩ := List.mem_iff_getElem.1 (hp.mem_iff.2 hy)
    rw [← at_get hk]
    exact heap_root hh k hk
  obtain ⟨g, rfl, _⟩ := ho.addr0 (by omega)
  have g0 := ho.sl'.cell_ (k := 0) (by omega) 0 (by omega)
  have g2 := ho.sl'.cell_ (k := 0) (by omega) 2 (by omega)
  rw [← at_get (by omega)] at g0 g2
  simp only [Nat.zero_mul, Nat.zero_add, one_get0, one_get2] at g0 g2
  obtain ⟨x, hx⟩ : ∃ x, at_ l 0 = x := ⟨_, rfl⟩
  rw [hx] at hmem hmin g0 g2
  have hne : ((l.length : Int) == 0) = false := by rw [beq_eq_false_iff_ne]; omega
  have hpos : 0 < l.length := by omega
  have HM := Lib.hid (And.intro hmem hmin)
  clear hs hh hq ho hmem hmin hx hlen
  go_enter Try.func18, Try.ntmps18
  go_wp2
  go_quiet (fail)
  go_wp2
  go_ret3
  exact ⟨x, rfl, HM.out.1, HM.out.2, _, rfl⟩
end Go.Proofs.Ytkeeipfglmpgjaa
