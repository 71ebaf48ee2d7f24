/-
  The reference's Sorted; what a queue of all puts tells.
-/
import Derived.Test.YtkeeipfglmpgjaaDrain
import Derived.Test.YtkeeipfglmpgjaaPlays
namespace Go.Proofs.Ytkeeipfglmpgjaa
set_option linter.unusedSimpArgs false
set_option linter.unusedVariables false
open Go.RowKit
attribute [local go_sem ↓] run_load_r4 run_store_r4
attribute [local go_sem] rd_drewN rd_drew aggLoad_ptr aggRes_some pair_len' pair_cells

theorem first_pick {xs : List One} {came : Int} (h : Came xs came) {a : Nat} (hf : IsFirst (xs.map kt) a) : a = pick xs ∧ a < xs.length := by
  obtain ⟨h1, h2⟩ := hf
  have ha : a < xs.length := by simpa using h1
  have hmin : ∀ y ∈ xs, lessB y xs[a] = false := fun y hy => by
    obtain ⟨b, hb, rfl⟩ := List.mem_iff_getElem.1 hy
    have h3 := h2 b (by simpa using hb)
    simp only [List.getElem_map, kt] at h3
    rw [lessB_false]
    rcases Nat.lt_trichotomy a b with h5 | h5 | h5
    · have := h.1 a b ha hb h5; omega
    · subst h5; omega
    · have := h3.2 h5; omega
  obtain ⟨hp, he⟩ := pick_is h (List.getElem_mem ha) hmin
  refine ⟨?_, ha⟩
  rcases Nat.lt_trichotomy a (pick xs) with h5 | h5 | h5
  · have := h.1 _ _ ha hp h5; rw [← he] at this; omega
  · exact h5
  · have := h.1 _ _ hp ha h5; rw [← he] at this; omega
theorem drain_cons {xs : List One} {came : Int} (h : Came xs came) {a : Nat} (hf : IsFirst (xs.map kt) a) (ha : a < xs.length) : drain xs = xs[a] :: drain (xs.eraseIdx a) := by
  obtain ⟨rfl, _⟩ := first_pick h hf
  unfold drain
  obtain ⟨n, hn⟩ : ∃ n, xs.length = n + 1 := ⟨xs.length - 1, by omega⟩
  rw [List.length_eraseIdx, if_pos ha, hn]
  show at_ xs (pick xs) :: _ = _
  rw [at_get ha]
  rfl

theorem Sl.rd_at {α : Type} {w : World} {B size : Nat} {enc : α → List Value} {l : List α} {b k : Nat} {x : α} (h : Sl w B size enc (some ⟨b, 0, none⟩) l) (hx : l[k]? = some x) : rd w ⟨b, k * size, none⟩ size = some (enc x) := by
  obtain ⟨hk, rfl⟩ := List.getElem?_eq_some_iff.1 hx
  have := h.rd_ hk
  rwa [Nat.zero_add] at this

set_option maxHeartbeats 2000000 in
set_option maxRecDepth 100000 in
theorem Sorted04_any (A : Option Addr) (n c B : Nat) (xs : List One) (came : Int) (w : World) (hn : xs.length = n) (h : Sl w B 2 pairC A (xs.map kt)) (hB : B ≤ w.heap.size) (hl : n ≤ 100000) (hC : Came xs came) :
    Calls Try.prog 23 #[.slice A n c] w (GivesSl 60 2 pairC w ((drain xs).map kt)) := by
  have HN := Lib.hid hn
  have HS := Lib.hid h
  have HC0 := Lib.hid hC
  have HLM : Hid ((xs.map kt).length = n) := by show _ = _; rw [List.length_map, hn]
  clear hn h hC
  go_enter Try.func23, Try.ntmps23
  go_wp2_with (at_builtin; refine wpList_append_sl rfl (.tmp 6) (.tmp 7) 56 rfl r4Elem w.heap.size pairC pair_one (.slice (some ⟨w.heap.size, 0, none⟩) 0 0) [] 0 rfl rfl (Own.empty w 60 pair_len (Nat.le_refl _)) B A n c (xs.map kt) rfl HLM.out (HS.out.alloc hB _) (by omega) (by simp) ?_; intro A4 c4 w4 ho4 hg4 _; rw [Nat.zero_add, List.nil_append] at ho4; have HO4 := Lib.hid ho4; have HB4 := Lib.hid (((Below.refl w.heap.size w).alloc (Nat.le_refl _) _).grown hg4 (by simp) (by intro k hk; simp [Value.ownBlock] at hk; omega)); clear ho4 hg4)
  go_loopw [3, 4] (fun v u wr => ∃ m p : Nat, ∃ A1 c1 A2 c2 ys, ∃ pre : List (Int × Int), v = .slice A2 p c2 ∧ u = .slice A1 m c1 ∧ m ≤ n ∧ p + m = n ∧ Hid (List.length ys = m) ∧ Hid (pre.length = p) ∧ Hid (Own wr w.heap.size 60 2 pairC (.slice A1 m c1) (ys.map kt)) ∧ Hid (Own wr w.heap.size 60 2 pairC (.slice A2 p c2) pre) ∧ Hid (∀ k, (Value.slice A1 m c1).ownBlock = some k → (Value.slice A2 p c2).ownBlock ≠ some k) ∧ Hid (Came ys came) ∧ Hid (pre ++ (drain ys).map kt = (drain xs).map kt) ∧ Hid (Below w.heap.size w wr)) (fun _ u _ => match u with | .slice _ m _ => m | _ => 0)
  case atStart => exact ⟨n, 0, A4, c4, none, 0, xs, [], rfl, rfl, Nat.le_refl _, by omega, HN, rfl, HO4, Own.nil _ _ _ pair_len, fun k _ => by simp [Value.ownBlock], HC0, rfl, HB4⟩
  case round =>
    obtain ⟨m, p, A1, c1, A2, c2, ys, pre, rfl, rfl, hm, hpm, HM, HP, HO1, HO2, HNE, HC, HE, HB⟩ := hrel
    have hzz := HB.out.size
    by_cases h0 : m = 0
    · subst h0
      obtain rfl : ys = [] := List.eq_nil_of_length_eq_zero HM.out
      go_wp2
      go_ret
      have e : pre = (drain xs).map kt := by have := HE.out; simpa [drain_nil] using this
      have := HO2.out
      rw [e] at this
      exact GivesSl.of this.cap.2 rfl this HB.out
    · obtain ⟨g, rfl, hg, hgl⟩ := HO1.out.addr0 (by omega)
      have hmpos : 0 < m := by omega
      have hd : decide (0 < m) = true := by simpa using hmpos
      have hd2 : decide (0 < (m : Int)) = true := by simp; omega
      have HYM : Hid ((ys.map kt).length = m) := by show _ = _; rw [List.length_map, HM.out]
      go_wp2_with (first
        | (go_at_call 21; go_must (refine (First_some _ m c1 _ (ys.map kt) _ HYM.out HO1.out.sl' (by omega) hmpos).mono ?_; rintro e w1 ⟨a, rfl, hfi, hw1⟩; have hpk := (first_pick HC.out hfi).2; have ham : a < m := (by rw [← HM.out]; exact hpk); have hdc := drain_cons HC.out hfi hpk; have HFI := Lib.hid hfi; have HDC := Lib.hid hdc; have X1 : Hid (Own w1 w.heap.size 60 2 pairC (.slice (some ⟨g, 0, none⟩) m c1) (ys.map kt) ∧ Own w1 w.heap.size 60 2 pairC (.slice A2 p c2) pre ∧ Below w.heap.size w w1) := (by obtain ⟨q, rfl⟩ := hw1; exact ⟨HO1.out.drewN q, HO2.out.drewN q, below_drewN HB.out q⟩); have hxe : ∃ x, (ys.map kt)[a]? = some x := ⟨_, List.getElem?_eq_getElem (by rw [HYM.out]; exact ham)⟩; obtain ⟨x, hx⟩ := hxe; have rr := X1.out.1.sl'.rd_at hx; have HA := Lib.hid hx; clear hx; have hz1 := X1.out.2.2.size; clear hw1 hfi hdc))
        | (at_builtin; refine wpList_append_sl rfl (.tmp 14) (.tmp 19) 56 rfl r4Elem w.heap.size pairC pair_one (.slice A2 p c2) pre p HP.out rfl (X1.out.2.1.alloc _) (w1.heap.size + 1) (some ⟨w1.heap.size, 0, none⟩) 1 1 [x] rfl rfl (Sl.new w1 pairC 2 pair_len 60 x) (by omega) (le_alloc X1.out.2.2.size _) ?_; intro A3 c3 w3 ho3 hg3 hw3; have HO3 := Lib.hid ho3; have HB3 := Lib.hid ((X1.out.2.1.alloc _).below_grown (X1.out.2.2.alloc X1.out.2.2.size _) hg3 (Nat.le_refl _) (le_alloc X1.out.2.2.size _)); have HL3 := Lib.hid ((X1.out.1.alloc (.cells (pairC x).toArray 60)).grown hg3 (fun e => absurd e.symm (HNE.out g rfl))); have HW3 := Lib.hid hw3; clear ho3 hg3 hw3)
        | (go_at_call 22; refine (Without04_any _ m c1 _ a (ys.map kt) w3 HYM.out HL3.out.sl' (Nat.le_refl _) HL3.out.cap.1 (by omega) ham).mono ?_; rintro e w5 ⟨A5, c5, rfl, ho5, hb5⟩; have HL5 : Hid ((ys.eraseIdx a).length = m - 1) := (by show _ = _; rw [List.length_eraseIdx, if_pos (by rw [HM.out]; exact ham), HM.out]); rw [show ((ys.map kt).eraseIdx a).length = m - 1 from by rw [← erase_map, List.length_map, HL5.out]] at ho5 ⊢; have HO5 := Lib.hid ho5; have HB5 := Lib.hid hb5; clear ho5 hb5)
        | fail)
      go_roundw
      case rel =>
        have hx : x = kt (ys[a]'(by rw [HM.out]; exact ham)) := by
          have := HA.out
          rw [List.getElem?_map, List.getElem?_eq_getElem (by rw [HM.out]; exact ham)] at this
          simpa using this.symm
        have hz3 := HB3.out.size
        refine ⟨m - 1, p + 1, A5, c5, A3, c3, ys.eraseIdx a, pre ++ [x], rfl, rfl, by omega, by omega, HL5, ?_, ?_, Lib.hid (HO3.out.below HB5.out (Nat.le_refl _)), ?_, Lib.hid (HC.out.erase _), ?_, Lib.hid (HB3.out.trans (HB5.out.mono hz3))⟩
        · show List.length _ = _
          rw [List.length_append, HP.out]; rfl
        · show Own _ _ _ _ _ _ _
          rw [erase_map]; exact HO5.out.base_le hz3
        · show ∀ k, _
          intro k hk e
          have h1 := (HO5.out.lt k hk).1
          have h2 := (HO3.out.lt k e).2
          omega
        · show _ ++ _ = _
          have := HE.out
          rw [HDC.out, List.map_cons, ← hx] at this
          rw [← this]; simp
      case measure => simp; omega
end Go.Proofs.Ytkeeipfglmpgjaa
