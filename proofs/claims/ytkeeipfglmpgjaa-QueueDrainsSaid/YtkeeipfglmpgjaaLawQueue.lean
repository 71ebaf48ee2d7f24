/-
  Layer 4's laws: what must be whatever is asked; QueuePlays: the walk.
-/
import Derived.Test.YtkeeipfglmpgjaaRef04
import Derived.Test.YtkeeipfglmpgjaaArgsB
namespace Go.Proofs.Ytkeeipfglmpgjaa
set_option linter.unusedSimpArgs false
set_option linter.unusedVariables false
open Go.RowKit

theorem QH.keep {W W' : World} {base Q : Nat} {xs : List One} {came : Int} (h : QH W base Q xs came) (hk : ∀ (k : Nat) (cs : Array Value) (t : TypeId) (z : Nat × Nat), W.heap[k]? = some (Obj.cells cs t z) → (t = 55 ∨ t = 93) → W'.heap[k]? = W.heap[k]?) (hz : base ≤ W'.heap.size) : QH W' base Q xs came := by
  obtain ⟨l, ⟨A, n, c, hq, ho⟩, hh, hp, hQ, hb⟩ := h
  refine ⟨l, ⟨A, n, c, (hk _ _ _ _ hq (.inl rfl)).trans hq, ho.kept fun k hk2 => ?_⟩, hh, hp, hQ, hz⟩
  rcases ho.2.2 with ⟨hv, _⟩ | ⟨g, cap, cur, hv, _, hh, _⟩
  · rw [hv] at hk2; simp [Value.ownBlock] at hk2
  · rw [hv] at hk2
    have e3 : g = k := by simpa [Value.ownBlock] using hk2
    subst e3
    exact hk _ _ _ _ hh (.inr rfl)
section
variable {W W' : World} {base Q : Nat} {xs : List One} {came : Int}
theorem QH.size (h : QH W base Q xs came) : base ≤ W.heap.size := by obtain ⟨_, _, _, _, _, h⟩ := h; exact h
theorem QH.below (h : QH W base Q xs came) (hb : Below W.heap.size W W') : QH W' base Q xs came := h.keep (fun k cs t z hk _ => hb.block k (lt_of_heap hk)) (Nat.le_trans h.size hb.size)
theorem QH.alloc (h : QH W base Q xs came) (o : Obj) : QH (W.alloc o) base Q xs came := h.below ((Below.refl _ _).alloc (Nat.le_refl _) _)
theorem QH.drewN (h : QH W base Q xs came) (n : Nat) : QH (W.drewN n) base Q xs came := h
theorem QH.setCells (h : QH W base Q xs came) {g : Nat} {t : TypeId} {cs : Array Value} (hg : Blk W g t cs) (h1 : t ≠ 55) (h2 : t ≠ 93) (o : Nat) (vs : List Value) : QH (W.setCells g o vs) base Q xs came :=
  h.keep (fun k cs' t' z hk ht => heap_setCells_other _ _ _ _ _ (fun e => by
    subst e
    rw [show W.heap[k]? = _ from hg] at hk
    injection hk with hk
    injection hk with _ e4
    subst e4
    rcases ht with ht | ht
    · exact h1 ht
    · exact h2 ht)) (by rw [size_setCells]; exact h.size)
theorem QH.grown {α : Type} {b size : Nat} {e : TypeId} {enc : α → List Value} {v : Value} {l : List α} (h : QH W base Q xs came) (ho : Own W b e size enc v l) (h1 : e ≠ 55) (h2 : e ≠ 93) (hg : W.grownBy W' v.ownBlock) : QH W' base Q xs came :=
  h.keep (fun k cs' t' z hk ht => hg.block k (lt_of_heap hk) (fun e2 => by
    rcases ho.2.2 with ⟨hv, _⟩ | ⟨g, cap, cur, hv, _, hh, _⟩
    · rw [hv] at e2; simp [Value.ownBlock] at e2
    · rw [hv] at e2
      have e3 : k = g := by simpa [Value.ownBlock] using e2
      subst e3
      rw [hh] at hk
      injection hk with hk
      injection hk with _ e4
      subst e4
      rcases ht with ht | ht
      · exact h1 ht
      · exact h2 ht)) (Nat.le_trans h.size hg.size)
end

theorem live_x1 {x : One} (hx : x ∈ [⟨2, 0, 10⟩, ⟨1, 1, 11⟩, (⟨2, 2, 12⟩ : One)]) (h : ∀ y ∈ [⟨2, 0, 10⟩, ⟨1, 1, 11⟩, (⟨2, 2, 12⟩ : One)], lessB y x = false) : x = ⟨1, 1, 11⟩ := by
  have := h ⟨1, 1, 11⟩ (by simp)
  simp only [List.mem_cons, List.not_mem_nil, or_false] at hx
  rcases hx with rfl | rfl | rfl
  · exact absurd this (by decide)
  · rfl
  · exact absurd this (by decide)
theorem live_x2 {x : One} (hx : x ∈ [⟨2, 0, 10⟩, (⟨2, 2, 12⟩ : One)]) (h : ∀ y ∈ [⟨2, 0, 10⟩, (⟨2, 2, 12⟩ : One)], lessB y x = false) : x = ⟨2, 0, 10⟩ := by
  have := h ⟨2, 0, 10⟩ (by simp)
  simp only [List.mem_cons, List.not_mem_nil, or_false] at hx
  rcases hx with rfl | rfl
  · rfl
  · exact absurd this (by decide)

set_option maxHeartbeats 1000000 in
theorem live04 (w : World) : Calls Try.prog 20 #[] w fun e w' => e = .returned (.bool true) ∧ Below w.heap.size w w' := by
  have H0 : QH (w.alloc (.cells #[.slice none 0 0, .int .i64 0] 55)) w.heap.size w.heap.size [] 0 := QH.new _ _ _ (Nat.le_refl _) (by simp) (Blk.new w _ _)
  have B0 := Lib.hid (((Below.refl _ w).alloc (Nat.le_refl _) (.cells #[.slice none 0 0, .int .i64 0] 55)))
  go_enter Try.func20, Try.ntmps20
  go_wp2_with fail
  refine (Put_any _ w.heap.size w.heap.size [] 0 2 10 H0 (by simp) (by omega) (by omega)).mono ?_
  rintro e w1 ⟨rfl, h1, b1⟩
  have B1 := Lib.hid (B0.out.trans b1.1)
  clear b1 H0
  go_wp2_with fail
  refine (Put_any _ w.heap.size w.heap.size _ _ 1 11 h1 (by simp) (by omega) (by omega)).mono ?_
  rintro e w2 ⟨rfl, h2, b2⟩
  have B2 := Lib.hid (B1.out.trans b2.1)
  clear b2 h1
  go_wp2_with fail
  refine (Put_any _ w.heap.size w.heap.size _ _ 2 12 h2 (by simp) (by omega) (by omega)).mono ?_
  rintro e w3 ⟨rfl, h3, b3⟩
  have B3 := Lib.hid (B2.out.trans b3.1)
  clear b3 h2
  go_wp2_with fail
  refine (Take_some _ w.heap.size w.heap.size _ _ h3 (by simp) (by simp)).mono ?_
  rintro e w4 ⟨x, rfl, hm, hmin, hq, b4⟩
  obtain rfl := live_x1 hm hmin
  have h4 := hq [⟨2, 0, 10⟩, ⟨2, 2, 12⟩] (List.Perm.swap _ _ _)
  have B4 := Lib.hid (B3.out.trans b4.1)
  clear b4 h3 hq hm hmin
  go_wp2_with fail
  refine (Take_some _ w.heap.size w.heap.size _ _ h4 (by simp) (by simp)).mono ?_
  rintro e w5 ⟨x, rfl, hm, hmin, hq, b5⟩
  obtain rfl := live_x2 hm hmin
  have h5 := hq [⟨2, 2, 12⟩] (List.Perm.refl _)
  have B5 := Lib.hid (B4.out.trans b5.1)
  clear b5 h4 hq hm hmin
  have HL := QLen_any w5 _ _ _ _ h5 1 rfl
  clear h5
  go_wp2_with (go_at_call 19; refine HL.mono ?_; rintro e w6 ⟨rfl, rfl⟩)
  go_ret
  exact ⟨rfl, B5.out⟩
end Go.Proofs.Ytkeeipfglmpgjaa
