/-
  The reference's queue: First, Without over lists of key and thing.
-/
import Derived.Test.YtkeeipfglmpgjaaHeap2
namespace Go.Proofs.Ytkeeipfglmpgjaa
set_option linter.unusedSimpArgs false
set_option linter.unusedVariables false
open Go.RowKit

theorem r4Elem : Elem Try.prog 56 60 2 16 :=
  ⟨Try.underlying56, info_some (z := .agg #[.int .i64 0, .int .i64 0]) (by kernel_rfl) rfl, by omega, by omega⟩
theorem pair_one (x : Int × Int) : ∀ u ∈ pairC x, u.oneCell' = true := by
  intro u hu
  simp only [pairC, List.mem_cons, List.not_mem_nil, or_false] at hu
  rcases hu with rfl | rfl <;> rfl
theorem r4_size : ∀ w, (sizeOf 60).run Try.prog w = .ok 2 w := fun w => by kernel_rfl
theorem run_slice_r4 (w : World) (ρ : Operand → Value) (x : Operand) (lo hi mx : Option Operand) (d : Option Tmp) (ty : TypeId) (pos : String) (af : Array _) (g : Option _) :
    (execOp ρ ⟨d, .slice 56 x lo hi mx, ty, pos, af, g⟩).run Try.prog w = cutRes Try.prog 56 2 w (ρ x) (lo.map ρ) (hi.map ρ) (mx.map ρ) := run_slice_op _ _ 2 Try.underlying56 r4_size w ρ x lo hi mx d ty pos af g
attribute [local go_sem ↓] run_slice_r4
attribute [local go_sem] cutRes_hi cutRes_lo cutA_zero

/-- The place of the least key, the first of these. -/
def IsFirst (l : List (Int × Int)) (a : Nat) : Prop := ∃ h : a < l.length, ∀ j (hj : j < l.length), l[a].1 ≤ l[j].1 ∧ (j < a → l[a].1 < l[j].1)

set_option maxHeartbeats 1000000 in
theorem First04_any (A : Option Addr) (n c B : Nat) (l : List (Int × Int)) (w : World) (hn : l.length = n) (h : Sl w B 2 pairC A l) (hl : n ≤ 1000000) :
    Calls Try.prog 21 #[.slice A n c] w fun e w' => ∃ r : Int, e = .returned (.int .i64 r) ∧ ((n = 0 ∧ r = -1) ∨ ∃ a : Nat, r = a ∧ IsFirst l a) ∧ ∃ k, w' = w.drewN k := by
  have HN := Lib.hid hn
  have HS := Lib.hid h
  clear hn h
  go_enter Try.func21, Try.ntmps21
  go_wp2
  go_loopw [3, 4] (fun v i wr => ∃ k d : Nat, ∃ r : Int, k ≤ n ∧ i = .int .i64 k ∧ v = .int .i64 r ∧ wr = w.drewN d ∧ ((k = 0 ∧ r = -1) ∨ ∃ a : Nat, r = a ∧ a < k ∧ Hid (IsFirst (l.take k) a))) (fun _ i _ => n - (intOf i).toNat)
  case atStart => exact ⟨0, 0, -1, Nat.zero_le _, rfl, rfl, rfl, .inl ⟨rfl, rfl⟩⟩
  case round =>
    obtain ⟨k, d, r, hk, rfl, rfl, rfl, hr⟩ := hrel
    by_cases hlt : k < n
    · have hkl : k < l.length := by rw [HN.out]; exact hlt
      obtain ⟨b, o, rfl, _⟩ := HS.out.addr (by omega) (by omega)
      have r1 : w.cell? ⟨b, o + k * 2, none⟩ = some (.int .i64 (l[k]'hkl).1) := HS.out.cell_ hkl 0 (by omega)
      rcases hr with ⟨rfl, rfl⟩ | ⟨a, rfl, hak, HF⟩
      · have HG : Hid (IsFirst (l.take 1) 0) := by
          refine ⟨by simp; omega, fun j hj => ?_⟩
          have : j = 0 := by simp at hj; omega
          subst this
          exact ⟨Int.le_refl _, fun h => by omega⟩
        obtain ⟨x, hx⟩ : ∃ x, (l[0]'hkl).1 = x := ⟨_, rfl⟩
        rw [hx] at r1
        clear hx hkl
        go_wp2
        go_quiet (fail)
        go_wp2
        go_roundw
        case rel => exact ⟨1, _, 0, by omega, by go_num, rfl, rfl, .inr ⟨0, rfl, by omega, HG⟩⟩
        case measure => simp [intOf]; omega
      · have hal : a < l.length := by omega
        have r2 : w.cell? ⟨b, o + a * 2, none⟩ = some (.int .i64 (l[a]'hal).1) := HS.out.cell_ hal 0 (by omega)
        have hneg : decide ((a : Int) < 0) = false := by simp
        have hstep : (l[k]'hkl).1 < (l[a]'hal).1 → IsFirst (l.take (k + 1)) k := fun h => by
          obtain ⟨q1, q2⟩ := HF.out
          refine ⟨by simp; omega, fun j hj => ?_⟩
          simp only [List.length_take] at hj
          simp only [List.getElem_take]
          by_cases hjk : j = k
          · subst hjk; exact ⟨Int.le_refl _, fun h => by omega⟩
          · have := (q2 j (by simp; omega)).1
            simp only [List.getElem_take] at this
            exact ⟨by omega, fun _ => by omega⟩
        have hkeep : ¬ (l[k]'hkl).1 < (l[a]'hal).1 → IsFirst (l.take (k + 1)) a := fun h => by
          obtain ⟨q1, q2⟩ := HF.out
          refine ⟨by simp; omega, fun j hj => ?_⟩
          simp only [List.length_take] at hj
          simp only [List.getElem_take]
          by_cases hjk : j = k
          · subst hjk; exact ⟨by omega, fun h => by omega⟩
          · have := q2 j (by simp; omega)
            simp only [List.getElem_take] at this
            exact this
        have HST := Lib.hid hstep
        have HKP := Lib.hid hkeep
        obtain ⟨x, hx⟩ : ∃ x, (l[k]'hkl).1 = x := ⟨_, rfl⟩
        obtain ⟨y, hy⟩ : ∃ y, (l[a]'hal).1 = y := ⟨_, rfl⟩
        rw [hx] at r1
        rw [hy] at r2
        by_cases hxy : x < y
        · have hd : decide (x < y) = true := by simpa using hxy
          have HG : Hid (IsFirst (l.take (k + 1)) k) := HST.out (by rw [hx, hy]; exact hxy)
          clear hxy hx hy hstep hkeep HST HKP hkl hal
          go_wp2
          go_quiet (fail)
          go_wp2
          go_roundw
          case rel => exact ⟨k + 1, _, k, by omega, by go_num, rfl, rfl, .inr ⟨k, rfl, by omega, HG⟩⟩
          case measure => simp [intOf]; omega
        · have hd : decide (x < y) = false := by simpa using hxy
          have HG : Hid (IsFirst (l.take (k + 1)) a) := HKP.out (by rw [hx, hy]; exact hxy)
          clear hxy hx hy hstep hkeep HST HKP hkl hal
          go_wp2
          go_quiet (fail)
          go_wp2
          go_roundw
          case rel => exact ⟨k + 1, _, a, by omega, by go_num, rfl, rfl, .inr ⟨a, rfl, by omega, HG⟩⟩
          case measure => simp [intOf]; omega
    · obtain rfl : k = n := by omega
      go_wp2
      go_ret
      refine ⟨r, rfl, ?_, _, rfl⟩
      rcases hr with ⟨h1, h2⟩ | ⟨a, h1, h2, h3⟩
      · exact .inl ⟨h1, h2⟩
      · refine .inr ⟨a, h1, ?_⟩
        have := h3.out
        rwa [List.take_of_length_le (by rw [HN.out]; exact Nat.le_refl _)] at this

set_option maxHeartbeats 1000000 in
theorem Without04_any (A : Option Addr) (n c B a : Nat) (l : List (Int × Int)) (w : World) (hn : l.length = n) (h : Sl w B 2 pairC A l) (hB : B ≤ w.heap.size) (hnc : n ≤ c) (hl : n ≤ 1000000) (ha : a < n) :
    Calls Try.prog 22 #[.slice A n c, .int .i64 a] w (GivesSl 60 2 pairC w (l.eraseIdx a)) := by
  have HN := Lib.hid hn
  have HS := Lib.hid h
  have h1 : Sl w B 2 pairC (cutA A c 0 2) ((l.take a).drop 0) := h.cutA (by omega) (by omega) (by omega)
  rw [cutA_zero, List.drop_zero] at h1
  have h2 : Sl w B 2 pairC (cutA A c (a + 1) 2) ((l.take n).drop (a + 1)) := h.cutA (by omega) (by omega) (by omega)
  rw [List.take_of_length_le (by omega)] at h2
  have H1 := Lib.hid h1
  have H2 := Lib.hid h2
  have hlen1 : (l.take a).length = a := by simp; omega
  have hlen2 : (l.drop (a + 1)).length = n - (a + 1) := by simp; omega
  have L1 := Lib.hid hlen1
  have L2 := Lib.hid hlen2
  have hac : a ≤ c := by omega
  obtain ⟨A2, hA2⟩ : ∃ A2, cutA A c (a + 1) 2 = A2 := ⟨_, rfl⟩
  rw [hA2] at H2
  have e1 : ((a : Int) + 1).toNat = a + 1 := by omega
  clear h hn h1 h2 hlen1 hlen2
  go_enter Try.func22, Try.ntmps22
  go_wp2_with (first
    | (at_builtin; refine wpList_append_sl rfl (.tmp 6) (.tmp 9) 56 rfl r4Elem w.heap.size pairC pair_one (.slice (some ⟨w.heap.size, 0, none⟩) 0 0) [] 0 rfl rfl (Own.empty w 60 pair_len (Nat.le_refl _)) B A a c (l.take a) rfl L1.out (H1.out.alloc hB _) (by omega) (by simp) ?_; intro A4 c4 w4 ho4 hg4 _; rw [Nat.zero_add, List.nil_append] at ho4; have HO4 := Lib.hid ho4; have HB4 := Lib.hid (((Below.refl w.heap.size w).alloc (Nat.le_refl _) _).grown hg4 (by simp) (by intro k hk; simp [Value.ownBlock] at hk; omega)); clear ho4 hg4)
    | (at_builtin; refine wpList_append_sl rfl (.tmp 11) (.tmp 15) 56 rfl r4Elem w.heap.size pairC pair_one (.slice A4 a c4) (l.take a) a L1.out rfl HO4.out B A2 (n - (a + 1)) (c - (a + 1)) (l.drop (a + 1)) rfl L2.out (H2.out.below (HB4.out.mono hB)) (by omega) HB4.out.size ?_; intro A5 c5 w5 ho5 hg5 _; have HO5 := Lib.hid ho5; have HB5 := Lib.hid (HO4.out.below_grown HB4.out hg5 (Nat.le_refl _) HB4.out.size); clear ho5 hg5)
    | fail)
  go_ret
  have ho := HO5.out
  rw [← List.eraseIdx_eq_take_drop_succ] at ho
  exact GivesSl.of ho.cap.2 rfl ho HB5.out

/-! How a queue's things and the reference's list go together. -/
def kt (x : One) : Int × Int := (x.key, x.thing)
/-- In the order in which they came. -/
def Came (xs : List One) (came : Int) : Prop := (∀ i j (hi : i < xs.length) (hj : j < xs.length), i < j → xs[i].came < xs[j].came) ∧ ∀ i (hi : i < xs.length), xs[i].came < came
theorem Came.nil (c : Int) : Came [] c := ⟨fun i j hi => by simp at hi, fun i hi => by simp at hi⟩
theorem Came.snoc {xs : List One} {came : Int} (h : Came xs came) (k t : Int) : Came (xs ++ [⟨k, came, t⟩]) (came + 1) := by
  refine ⟨fun i j hi hj hij => ?_, fun i hi => ?_⟩
  · simp only [List.length_append, List.length_cons, List.length_nil] at hi hj
    by_cases h1 : j < xs.length
    · rw [List.getElem_append_left (by omega), List.getElem_append_left h1]; exact h.1 i j _ h1 hij
    · rw [List.getElem_append_left (by omega), List.getElem_append_right (by omega)]
      simp only [show j - xs.length = 0 from by omega, List.getElem_cons_zero]
      exact h.2 i (by omega)
  · simp only [List.length_append, List.length_cons, List.length_nil] at hi
    by_cases h1 : i < xs.length
    · rw [List.getElem_append_left h1]; have := h.2 i h1; omega
    · rw [List.getElem_append_right (by omega)]
      simp only [show i - xs.length = 0 from by omega, List.getElem_cons_zero]
      omega
theorem Came.erase {xs : List One} {came : Int} (h : Came xs came) (a : Nat) : Came (xs.eraseIdx a) came := by
  have key : ∀ i (hi : i < (xs.eraseIdx a).length), ∃ hi' : (if i < a then i else i + 1) < xs.length, (xs.eraseIdx a)[i] = xs[if i < a then i else i + 1] := by
    intro i hi
    have hlen := List.length_eraseIdx (l := xs) (i := a)
    by_cases ha : a < xs.length
    · rw [if_pos ha] at hlen
      refine ⟨by split <;> omega, ?_⟩
      rw [List.getElem_eraseIdx]
      split <;> rfl
    · have e : xs.eraseIdx a = xs := List.eraseIdx_of_length_le (by omega)
      rw [if_neg ha] at hlen
      refine ⟨by rw [if_pos (by omega)]; omega, ?_⟩
      simp only [e, show i < a from by omega, if_true]
  refine ⟨fun i j hi hj hij => ?_, fun i hi => ?_⟩
  · obtain ⟨h1, e1⟩ := key i hi
    obtain ⟨h2, e2⟩ := key j hj
    rw [e1, e2]
    exact h.1 _ _ h1 h2 (by split <;> split <;> omega)
  · obtain ⟨h1, e1⟩ := key i hi
    rw [e1]; exact h.2 _ h1
/-- The least one is the first of the least key. -/
theorem first_is {xs : List One} {came : Int} (h : Came xs came) {x : One} (hx : x ∈ xs) (hmin : ∀ y ∈ xs, lessB y x = false) {a : Nat} (hf : IsFirst (xs.map kt) a) : ∃ ha : a < xs.length, x = xs[a] := by
  obtain ⟨h1, h2⟩ := hf
  have ha : a < xs.length := by simpa using h1
  obtain ⟨b, hb, rfl⟩ := List.mem_iff_getElem.1 hx
  have h3 := h2 b (by simpa using hb)
  simp only [List.getElem_map, kt] at h3
  have h4 := hmin xs[a] (List.getElem_mem _)
  rw [lessB_false] at h4
  have hab : a = b := by
    rcases Nat.lt_trichotomy a b with h5 | h5 | h5
    · have := h.1 a b ha hb h5; omega
    · exact h5
    · have := h3.2 h5; omega
  subst hab
  exact ⟨ha, rfl⟩
theorem erase_perm {xs : List One} {a : Nat} (ha : a < xs.length) : (xs[a] :: xs.eraseIdx a).Perm xs := by
  rw [List.eraseIdx_eq_take_drop_succ]
  have h1 : xs = xs.take a ++ xs[a] :: xs.drop (a + 1) := by rw [List.getElem_cons_drop, List.take_append_drop]
  conv => rhs; rw [h1]
  exact List.perm_middle.symm
theorem erase_map (xs : List One) (a : Nat) : (xs.eraseIdx a).map kt = (xs.map kt).eraseIdx a := by rw [List.eraseIdx_eq_take_drop_succ, List.eraseIdx_eq_take_drop_succ, List.map_append, List.map_take, List.map_drop]
theorem QH.new (W : World) (base Q : Nat) (hQ : base ≤ Q) (hz : base ≤ W.heap.size) (hb : Blk W Q 55 #[.slice none 0 0, .int .i64 0]) : QH W base Q [] 0 :=
  ⟨[], ⟨none, 0, 0, hb, Own.nil _ _ _ One.cells_length⟩, fun k h0 hk => by simp at hk, List.Perm.refl _, hQ, hz⟩
end Go.Proofs.Ytkeeipfglmpgjaa
