/-
  QueuePlays: the walk.
-/
import Derived.Test.YtkeeipfglmpgjaaLawQueue
namespace Go.Proofs.Ytkeeipfglmpgjaa
set_option linter.unusedSimpArgs false
set_option linter.unusedVariables false
open Go.RowKit
theorem r4_agg : ∀ w, (isAgg 60).run Try.prog w = .ok true w := fun w => by kernel_rfl
theorem run_load_r4 (w : World) (ρ : Operand → Value) (x : Operand) (d : Option Tmp) (ty : TypeId) (pos : String) (af : Array _) (g : Option _) :
    (execOp ρ ⟨d, .load 60 x, ty, pos, af, g⟩).run Try.prog w = aggLoad Try.prog 60 2 w (ρ x) := run_load_agg _ r4_agg 2 r4_size w ρ x d ty pos af g
theorem run_store_r4 (w : World) (ρ : Operand → Value) (p x : Operand) (d : Option Tmp) (ty : TypeId) (pos : String) (af : Array _) (g : Option _) :
    (execOp ρ ⟨d, .store 60 p x, ty, pos, af, g⟩).run Try.prog w = midStore Try.prog 60 2 w (ρ p) (ρ x) := run_store_mid _ 2 (by kernel_rfl) w ρ p x d ty pos af g
theorem pair_len' (p : Int × Int) : (pairC p).length = 2 := by simp [pairC]
theorem pair_cells (x : Int × Int) : (∀ u, u ∈ pairC x → u.oneCell' = true) = True := by simp only [eq_iff_iff, iff_true]; exact pair_one x
theorem pair_get0 (p : Int × Int) : (pairC p)[0]? = some (.int .i64 p.1) := by simp [pairC]
theorem pair_get1 (p : Int × Int) : (pairC p)[1]? = some (.int .i64 p.2) := by simp [pairC]
theorem pair_e0 (p : Int × Int) (h : 0 < (pairC p).length) : (pairC p)[0] = .int .i64 p.1 := by simp [pairC]
theorem pair_e1 (p : Int × Int) (h : 1 < (pairC p).length) : (pairC p)[1] = .int .i64 p.2 := by simp [pairC]
/-- Two stores into a box of the call's own. -/
theorem cell_box2 (w : World) (cs0 : Array Value) (t : TypeId) (g j : Nat) (c1 cs : List Value) (hg : g = w.heap.size) (h1 : c1.length = cs0.size) (h : cs.length = cs0.size) : (((w.alloc (.cells cs0 t)).setCells g 0 c1).setCells g 0 cs).cell? ⟨g, j, none⟩ = cs[j]? := by
  subst hg
  by_cases hj : j < cs.length
  · have := World.cell?_setCells_in w.heap.size cs 0 ((w.alloc (.cells cs0 t)).setCells w.heap.size 0 c1) (fun i hi => by rw [Nat.zero_add, cell_box _ _ _ _ _ _ rfl h1, List.getElem?_eq_getElem (by omega)]; rfl) j hj
    rw [Nat.zero_add] at this
    rw [this, List.getElem?_eq_getElem hj]
  · rw [World.cell?_setCells_out _ _ _ _ _ (fun _ _ => Or.inr (by simp; omega)), cell_box _ _ _ _ _ _ rfl h1, List.getElem?_eq_none (by omega), List.getElem?_eq_none (by omega)]
attribute [local go_sem ↓] run_load_r4 run_store_r4
attribute [local go_sem] rd_drewN rd_drew aggLoad_ptr aggRes_some midStore_at thereB_setCells thereB_drew thereB_drewN thereB_new thereB_alloc pair_len' pair_cells pair_get0 pair_get1 pair_e0 pair_e1 cell_box cell_box2 rd_alloc rd_setCells_far cell_setCells_far

theorem kt_1 (x : One) : (kt x).1 = x.key := by simp [kt]
theorem kt_2 (x : One) : (kt x).2 = x.thing := by simp [kt]
attribute [local go_sem] kt_1 kt_2
section
variable {α : Type} {w : World} {base size : Nat} {e : TypeId} {enc : α → List Value} {v : Value} {l : List α}
theorem Own.box1 (h : Own w base e size enc v l) (o : Obj) (i : Nat) (vs : List Value) : Own ((w.alloc o).setCells w.heap.size i vs) base e size enc v l :=
  (h.alloc o).kept fun k hk => heap_setCells_other _ _ _ _ _ (by have := (h.lt k hk).2; omega)
theorem Own.box2 (h : Own w base e size enc v l) (o : Obj) (i : Nat) (vs : List Value) (i' : Nat) (vs' : List Value) : Own (((w.alloc o).setCells w.heap.size i vs).setCells w.heap.size i' vs') base e size enc v l :=
  (h.box1 o i vs).kept fun k hk => heap_setCells_other _ _ _ _ _ (by have := (h.lt k hk).2; omega)
end
theorem QH.box1 {W : World} {base Q : Nat} {xs : List One} {came : Int} (h : QH W base Q xs came) (cs : Array Value) (i : Nat) (vs : List Value) : QH ((W.alloc (.cells cs 60)).setCells W.heap.size i vs) base Q xs came :=
  (h.alloc _).setCells (Blk.new W _ _) (by decide) (by decide) _ _
theorem QH.box2 {W : World} {base Q : Nat} {xs : List One} {came : Int} (h : QH W base Q xs came) (cs : Array Value) (i : Nat) (vs : List Value) (i' : Nat) (vs' : List Value) : QH (((W.alloc (.cells cs 60)).setCells W.heap.size i vs).setCells W.heap.size i' vs') base Q xs came :=
  h.keep (fun k cs' t' z hk ht => by
    have hlt := lt_of_heap hk
    rw [heap_setCells_other _ _ _ _ _ (by omega), heap_setCells_other _ _ _ _ _ (by omega), Below.heap_alloc W _ k hlt]) (by rw [size_setCells, size_setCells]; simp; have := h.size; omega)
theorem bel_box1 {w W : World} (h : Below w.heap.size w W) (o : Obj) (i : Nat) (vs : List Value) : Below w.heap.size w ((W.alloc o).setCells W.heap.size i vs) := bel_setCells (h.alloc h.size _) h.size _ _
theorem bel_box2 {w W : World} (h : Below w.heap.size w W) (o : Obj) (i : Nat) (vs : List Value) (i' : Nat) (vs' : List Value) : Below w.heap.size w (((W.alloc o).setCells W.heap.size i vs).setCells W.heap.size i' vs') := bel_setCells (bel_box1 h o i vs) h.size _ _

theorem First_empty (A : Option Addr) (c B : Nat) (w : World) (h : Sl w B 2 pairC A []) :
    Calls Try.prog 21 #[.slice A 0 c] w fun e w' => e = .returned (.int .i64 (-1)) ∧ ∃ k, w' = w.drewN k :=
  (First04_any A 0 c B [] w rfl h (by omega)).mono fun e w' ⟨r, he, hr, hw⟩ => ⟨by
    rcases hr with ⟨_, h⟩ | ⟨a, _, h, _⟩
    · rw [he, h]
    · simp at h, hw⟩
theorem First_some (A : Option Addr) (n c B : Nat) (l : List (Int × Int)) (w : World) (hn : l.length = n) (h : Sl w B 2 pairC A l) (hl : n ≤ 1000000) (h0 : 0 < n) :
    Calls Try.prog 21 #[.slice A n c] w fun e w' => ∃ a : Nat, e = .returned (.int .i64 a) ∧ IsFirst l a ∧ ∃ k, w' = w.drewN k :=
  (First04_any A n c B l w hn h hl).mono fun e w' ⟨r, he, hr, hw⟩ => by
    rcases hr with ⟨h1, _⟩ | ⟨a, h1, h2⟩
    · omega
    · exact ⟨a, by rw [he, h1], h2, hw⟩

set_option maxHeartbeats 4000000 in
set_option maxRecDepth 100000 in
theorem Plays_main (A : Option Addr) (n c B : Nat) (ls : List (Int × Int)) (w : World) (hn : ls.length = n) (h : Sl w B 2 pairC A ls) (hB : B ≤ w.heap.size) (hn2 : n ≤ 300) :
    Calls Try.prog 5 #[.slice A n c] w fun e w' => e = .returned (.bool true) ∧ Below w.heap.size w w' := by
  have HN := Lib.hid hn
  have HS := Lib.hid h
  have hd300 : decide (300 < (n : Int)) = false := by simp; omega
  have H0 := Lib.hid (QH.new (w.alloc (.cells #[.slice none 0 0, .int .i64 0] 55)) w.heap.size w.heap.size (Nat.le_refl _) (by simp) (Blk.new w _ _))
  have B0 := Lib.hid (((Below.refl _ w).alloc (Nat.le_refl _) (.cells #[.slice none 0 0, .int .i64 0] 55)))
  clear hn h
  go_enter Try.func5, Try.ntmps5
  go_wp2_with (first
    | (go_at_call 16; refine (Put_nil _ _ _).mono ?_; rintro e w1 ⟨rfl, rfl⟩)
    | (go_at_call 17; refine (Take_nil _).mono ?_; rintro e w1 ⟨rfl, rfl⟩)
    | (go_at_call 18; refine (Peek_nil _).mono ?_; rintro e w1 ⟨rfl, rfl⟩)
    | (go_at_call 19; refine (QLen_nil _).mono ?_; rintro e w1 ⟨rfl, rfl⟩))
  go_loopw [11, 12] (fun v i wr => ∃ k m : Nat, ∃ A' c' xs, ∃ came : Int, k ≤ n ∧ i = .int .i64 k ∧ v = .slice A' m c' ∧ m ≤ k ∧ 0 ≤ came ∧ came ≤ k ∧ Hid (List.length xs = m) ∧ Hid (QH wr w.heap.size w.heap.size xs came) ∧ Hid (Own wr w.heap.size 60 2 pairC (.slice A' m c') (xs.map kt)) ∧ Hid (Came xs came) ∧ Hid (Below w.heap.size w wr)) (fun _ i _ => n - (intOf i).toNat)
  case atStart => exact ⟨0, 0, none, 0, [], 0, Nat.zero_le _, rfl, rfl, Nat.le_refl _, by omega, by omega, rfl, H0, Own.nil _ _ _ pair_len, Came.nil _, B0⟩
  case round =>
    obtain ⟨k, m, A', c', xs, came, hk, rfl, rfl, hmk, hc0, hck, HM, HQ, HO, HC, HB⟩ := hrel
    by_cases hlt : k < n
    · have hkl : k < ls.length := by rw [HN.out]; exact hlt
      obtain ⟨b, o, rfl, hbB⟩ := HS.out.addr (by omega) (by omega)
      have r0 : wr.cell? ⟨b, o + k * 2, none⟩ = some (.int .i64 (ls[k]'hkl).1) := (HS.out.below (HB.out.mono hB)).cell_ hkl 0 (by omega)
      have r1 : wr.cell? ⟨b, o + k * 2 + 1, none⟩ = some (.int .i64 (ls[k]'hkl).2) := (HS.out.below (HB.out.mono hB)).cell_ hkl 1 (by omega)
      obtain ⟨kind, hkind⟩ : ∃ x, (ls[k]'hkl).1 = x := ⟨_, rfl⟩
      obtain ⟨key, hkey⟩ : ∃ x, (ls[k]'hkl).2 = x := ⟨_, rfl⟩
      rw [hkind] at r0
      rw [hkey] at r1
      have hbw : b < w.heap.size := by omega
      have hold : ∀ W' : World, Below w.heap.size w W' → W'.cell? ⟨b, o + k * 2, none⟩ = some (.int .i64 kind) ∧ W'.cell? ⟨b, o + k * 2 + 1, none⟩ = some (.int .i64 key) := fun W' hW => by
        have e0 : W'.cell? ⟨b, o + k * 2, none⟩ = some (.int .i64 (ls[k]'hkl).1) := (HS.out.below (hW.mono hB)).cell_ hkl 0 (by omega)
        have e1 : W'.cell? ⟨b, o + k * 2 + 1, none⟩ = some (.int .i64 (ls[k]'hkl).2) := (HS.out.below (hW.mono hB)).cell_ hkl 1 (by omega)
        rw [hkind] at e0
        rw [hkey] at e1
        exact ⟨e0, e1⟩
      have HOLD := Lib.hid hold
      clear hkind hkey hold hkl
      have HLM : Hid ((xs.map kt).length = m) := by show _ = _; rw [List.length_map, HM.out]
      by_cases hk0 : kind = 0
      · subst hk0
        go_wp2_with (first
          | (go_at_call 16; refine (Put_any wr w.heap.size w.heap.size xs came key ((k : Int) + 1) HQ.out (by rw [HM.out]; omega) hc0 (by omega)).mono ?_; rintro e w1 ⟨rfl, h1, b1⟩; have HQ1 := Lib.hid h1; have HO1 := Lib.hid (b1.own HO.out (by decide) (by decide)); have HB1 := Lib.hid (HB.out.trans b1.1); have q1 := (HOLD.out w1 HB1.out).2; clear h1 b1)
          | (at_builtin; refine wpList_append_sl rfl (.tmp 65) (.tmp 74) 56 rfl r4Elem w.heap.size pairC pair_one (.slice A' m c') (xs.map kt) m HLM.out rfl (HO1.out.alloc _) (w1.heap.size + 1) (some ⟨w1.heap.size, 0, none⟩) 1 1 [(key, (k : Int) + 1)] rfl rfl (Sl.new w1 pairC 2 pair_len 60 (key, (k : Int) + 1)) (by omega) (le_alloc HQ1.out.size _) ?_; intro A2 c2 w2 ho2 hg2 _; have HQ2 := Lib.hid ((HQ1.out.alloc _).grown (HO1.out.alloc _) (by decide) (by decide) hg2); have HB2 := Lib.hid ((HO1.out.alloc _).below_grown (HB1.out.alloc HQ1.out.size _) hg2 (Nat.le_refl _) (le_alloc HQ1.out.size _)); have HO2 := Lib.hid ho2; clear ho2 hg2)
          | (go_at_call 19; refine (QLen_any _ _ _ _ _ HQ2.out (m + 1) (by rw [List.length_append, HM.out]; rfl)).mono ?_; rintro e w3 ⟨rfl, rfl⟩)
          | fail)
        go_roundw
        case rel =>
          refine ⟨k + 1, m + 1, A2, c2, xs ++ [⟨key, came, (k : Int) + 1⟩], came + 1, by omega, by go_num, rfl, by omega, by omega, by omega, ?_, HQ2, ?_, Lib.hid (HC.out.snoc _ _), HB2⟩
          · show List.length _ = _
            rw [List.length_append, HM.out]; rfl
          · have := HO2.out
            show Own _ _ _ _ _ _ _
            rw [List.map_append]
            exact this
        case measure => simp [intOf]; omega
      · have hkb : (kind == 0) = false := by simpa using hk0
        by_cases hm0 : m = 0
        · have hxs : xs = [] := List.eq_nil_of_length_eq_zero (by rw [HM.out, hm0])
          subst hxs
          subst hm0
          by_cases hk1 : kind = 1
          · subst hk1
            go_wp2_with (first
              | (go_at_call 18; refine (Peek_empty _ _ _ _ HQ.out).mono ?_; rintro e w1 ⟨rfl, rfl⟩)
              | (go_at_call 17; refine (Take_empty _ _ _ _ HQ.out).mono ?_; rintro e w1 ⟨rfl, rfl⟩)
              | (go_at_call 21; refine (First_empty A' c' _ _ HO.out.sl').mono ?_; rintro e w1 ⟨rfl, hw1⟩; have X1 : Hid (QH w1 w.heap.size w.heap.size [] came ∧ Own w1 w.heap.size 60 2 pairC (.slice A' 0 c') [] ∧ Below w.heap.size w w1) := (by obtain ⟨q, rfl⟩ := hw1; exact ⟨HQ.out.drewN q, HO.out.drewN q, below_drewN HB.out q⟩); have r1' := HOLD.out w1 X1.out.2.2; have r2' := r1'.1; have hz1 := X1.out.1.size; have hbl1 : b < w1.heap.size := Nat.lt_of_lt_of_le hbw hz1; have hbn1 : b ≠ w1.heap.size := Nat.ne_of_lt hbl1; clear hw1 r1')
              | (go_at_call 19; refine (QLen_any _ _ _ _ _ (X1.out.1.box1 #[.int .i64 0, .int .i64 0] 0 [.int .i64 0, .int .i64 0]) 0 rfl).mono ?_; rintro e w3 ⟨rfl, rfl⟩)
              | fail)
            go_roundw
            case rel => exact ⟨k + 1, 0, A', c', [], came, by omega, by go_num, rfl, by omega, hc0, by omega, HM, Lib.hid (X1.out.1.box1 #[.int .i64 0, .int .i64 0] 0 [.int .i64 0, .int .i64 0]), Lib.hid (X1.out.2.1.box1 _ _ _), HC, Lib.hid (bel_box1 X1.out.2.2 _ _ _)⟩
            case measure => simp [intOf]; omega
          · have hk1b : (kind == 1) = false := by simpa using hk1
            clear hk1 hk0
            go_wp2_with (first
              | (go_at_call 18; refine (Peek_empty _ _ _ _ HQ.out).mono ?_; rintro e w1 ⟨rfl, rfl⟩)
              | (go_at_call 21; refine (First_empty A' c' _ _ HO.out.sl').mono ?_; rintro e w1 ⟨rfl, hw1⟩; have X1 : Hid (QH w1 w.heap.size w.heap.size [] came ∧ Own w1 w.heap.size 60 2 pairC (.slice A' 0 c') [] ∧ Below w.heap.size w w1) := (by obtain ⟨q, rfl⟩ := hw1; exact ⟨HQ.out.drewN q, HO.out.drewN q, below_drewN HB.out q⟩); have r1' := HOLD.out w1 X1.out.2.2; have r2' := r1'.1; have hz1 := X1.out.1.size; have hbl1 : b < w1.heap.size := Nat.lt_of_lt_of_le hbw hz1; have hbn1 : b ≠ w1.heap.size := Nat.ne_of_lt hbl1; clear hw1 r1')
              | (go_at_call 19; refine (QLen_any _ _ _ _ _ (X1.out.1.box1 #[.int .i64 0, .int .i64 0] 0 [.int .i64 0, .int .i64 0]) 0 rfl).mono ?_; rintro e w3 ⟨rfl, rfl⟩)
              | fail)
            go_roundw
            case rel => exact ⟨k + 1, 0, A', c', [], came, by omega, by go_num, rfl, by omega, hc0, by omega, HM, Lib.hid (X1.out.1.box1 #[.int .i64 0, .int .i64 0] 0 [.int .i64 0, .int .i64 0]), Lib.hid (X1.out.2.1.box1 _ _ _), HC, Lib.hid (bel_box1 X1.out.2.2 _ _ _)⟩
            case measure => simp [intOf]; omega
        · obtain ⟨g', rfl, hg', hgl'⟩ := HO.out.addr0 (by omega)
          have hmpos : 0 < m := by omega
          clear hm0
          by_cases hk1 : kind = 1
          · subst hk1
            go_wp2_with (first
              | (go_at_call 18; refine (Peek_some wr _ _ _ _ HQ.out (by rw [HM.out]; omega) (by rw [HM.out]; omega)).mono ?_; rintro e w0 ⟨x0, rfl, hxm, hxn, hw0⟩; have X0 : Hid (QH w0 w.heap.size w.heap.size xs came ∧ Own w0 w.heap.size 60 2 pairC (.slice (some ⟨g', 0, none⟩) m c') (xs.map kt) ∧ Below w.heap.size w w0) := (by obtain ⟨q, rfl⟩ := hw0; exact ⟨HQ.out.drewN q, HO.out.drewN q, below_drewN HB.out q⟩); have p0 := (HOLD.out w0 X0.out.2.2).1; have HX0 := Lib.hid (And.intro hxm hxn); clear hw0 hxm hxn)
              | (go_at_call 17; refine (Take_some w0 _ _ _ _ X0.out.1 (by rw [HM.out]; omega) (by rw [HM.out]; omega)).mono ?_; rintro e w2 ⟨x, rfl, hxm, hxn, hqq, hb2⟩; have X2 : Hid ((∀ xs', (x :: xs').Perm xs → QH w2 w.heap.size w.heap.size xs' came) ∧ Own w2 w.heap.size 60 2 pairC (.slice (some ⟨g', 0, none⟩) m c') (xs.map kt) ∧ Below w.heap.size w w2) := ⟨hqq, hb2.own X0.out.2.1 (by decide) (by decide), X0.out.2.2.trans hb2.1⟩; have HX2 := Lib.hid (And.intro hxm hxn); clear hqq hb2 hxm hxn)
              | (go_at_call 21; refine (First_some _ m c' _ (xs.map kt) _ HLM.out X2.out.2.1.sl' (by omega) (by omega)).mono ?_; rintro e w1 ⟨a, rfl, hfi, hw1⟩; have hxa2 := first_is HC.out HX2.out.1 HX2.out.2 hfi; obtain ⟨ha, hxa⟩ := hxa2; have X1 : Hid ((∀ xs', (x :: xs').Perm xs → QH w1 w.heap.size w.heap.size xs' came) ∧ Own w1 w.heap.size 60 2 pairC (.slice (some ⟨g', 0, none⟩) m c') (xs.map kt) ∧ Below w.heap.size w w1) := (by obtain ⟨q, rfl⟩ := hw1; exact ⟨fun xs' hp => (X2.out.1 xs' hp).drewN q, X2.out.2.1.drewN q, below_drewN X2.out.2.2 q⟩); have p1 := (HOLD.out w1 X1.out.2.2).1; have hz1 := X1.out.2.2.size; have hbl1 : b < w1.heap.size := Nat.lt_of_lt_of_le hbw hz1; have hbn1 : b ≠ w1.heap.size := Nat.ne_of_lt hbl1; have hgl1 : g' < w1.heap.size := (X1.out.2.1.lt g' rfl).2; have hgn1 : g' ≠ w1.heap.size := Nat.ne_of_lt hgl1; have ham : a < m := (by rw [← HM.out]; exact ha); have rr : rd w1 ⟨g', a * 2, none⟩ 2 = some (pairC (kt x)) := (by have h9 := X1.out.2.1.sl'.rd_ (k := a) (by rw [HLM.out]; exact ham); rw [Nat.zero_add, List.getElem_map, ← hxa] at h9; exact h9); have HXA : Hid (∃ h : a < xs.length, x = xs[a]) := ⟨ha, hxa⟩; clear hw1 ha hxa hfi)
              | (go_at_call 22; refine (Without04_any _ m c' _ a (xs.map kt) _ HLM.out (X1.out.2.1.box2 (.cells #[.int .i64 0, .int .i64 0] 60) 0 [.int .i64 0, .int .i64 0] 0 (pairC (kt x))).sl' (Nat.le_refl _) X1.out.2.1.cap.1 (by omega) ham).mono ?_; rintro e w3 ⟨A3, c3, rfl, ho3, hb3⟩; have HQ3 : Hid (QH w3 w.heap.size w.heap.size (xs.eraseIdx a) came) := (by obtain ⟨ha, hxa⟩ := HXA.out; exact ((X1.out.1 _ (by rw [hxa]; exact erase_perm ha)).box2 #[.int .i64 0, .int .i64 0] 0 [.int .i64 0, .int .i64 0] 0 _).below hb3); have HL3 : Hid ((xs.eraseIdx a).length = m - 1) := (by show _ = _; rw [List.length_eraseIdx, if_pos (by rw [HM.out]; exact ham), HM.out]); rw [show ((xs.map kt).eraseIdx a).length = m - 1 from by rw [← erase_map, List.length_map, HL3.out]] at ho3 ⊢; have HO3 := Lib.hid ho3; have HB3 := Lib.hid ((bel_box2 X1.out.2.2 _ _ _ _ _).trans (hb3.mono (by rw [size_setCells, size_setCells]; simp; omega))); clear ho3 hb3)
              | (go_at_call 19; refine (QLen_any _ _ _ _ _ HQ3.out (m - 1) HL3.out).mono ?_; rintro e w4 ⟨rfl, rfl⟩)
              | fail)
            go_roundw
            case rel => exact ⟨k + 1, m - 1, A3, c3, xs.eraseIdx a, came, by omega, by go_num, rfl, by omega, hc0, by omega, HL3, HQ3, by rw [erase_map]; exact HO3.out.base_le (by rw [size_setCells, size_setCells]; simp; omega), Lib.hid (HC.out.erase a), HB3⟩
            case measure => simp [intOf]; omega
          · have hk1b : (kind == 1) = false := by simpa using hk1
            clear hk1 hk0
            go_wp2_with (first
              | (go_at_call 18; refine (Peek_some wr _ _ _ _ HQ.out (by rw [HM.out]; omega) (by rw [HM.out]; omega)).mono ?_; rintro e w0 ⟨x0, rfl, hxm, hxn, hw0⟩; have X0 : Hid (QH w0 w.heap.size w.heap.size xs came ∧ Own w0 w.heap.size 60 2 pairC (.slice (some ⟨g', 0, none⟩) m c') (xs.map kt) ∧ Below w.heap.size w w0) := (by obtain ⟨q, rfl⟩ := hw0; exact ⟨HQ.out.drewN q, HO.out.drewN q, below_drewN HB.out q⟩); have p0 := (HOLD.out w0 X0.out.2.2).1; have HX0 := Lib.hid (And.intro hxm hxn); clear hw0 hxm hxn)
              | (go_at_call 21; refine (First_some _ m c' _ (xs.map kt) _ HLM.out X0.out.2.1.sl' (by omega) (by omega)).mono ?_; rintro e w1 ⟨a, rfl, hfi, hw1⟩; have hxa2 := first_is HC.out HX0.out.1 HX0.out.2 hfi; obtain ⟨ha, hxa⟩ := hxa2; have X1 : Hid (QH w1 w.heap.size w.heap.size xs came ∧ Own w1 w.heap.size 60 2 pairC (.slice (some ⟨g', 0, none⟩) m c') (xs.map kt) ∧ Below w.heap.size w w1) := (by obtain ⟨q, rfl⟩ := hw1; exact ⟨X0.out.1.drewN q, X0.out.2.1.drewN q, below_drewN X0.out.2.2 q⟩); have p1 := (HOLD.out w1 X1.out.2.2).1; have hz1 := X1.out.2.2.size; have hbl1 : b < w1.heap.size := Nat.lt_of_lt_of_le hbw hz1; have hbn1 : b ≠ w1.heap.size := Nat.ne_of_lt hbl1; have hgl1 : g' < w1.heap.size := (X1.out.2.1.lt g' rfl).2; have hgn1 : g' ≠ w1.heap.size := Nat.ne_of_lt hgl1; have ham : a < m := (by rw [← HM.out]; exact ha); have rr : rd w1 ⟨g', a * 2, none⟩ 2 = some (pairC (kt x0)) := (by have h9 := X1.out.2.1.sl'.rd_ (k := a) (by rw [HLM.out]; exact ham); rw [Nat.zero_add, List.getElem_map, ← hxa] at h9; exact h9); have HXA : Hid (∃ h : a < xs.length, x0 = xs[a]) := ⟨ha, hxa⟩; clear hw1 ha hxa hfi)
              | (go_at_call 19; refine (QLen_any _ _ _ _ _ (X1.out.1.box2 #[.int .i64 0, .int .i64 0] 0 [.int .i64 0, .int .i64 0] 0 (pairC (kt x0))) m HM.out).mono ?_; rintro e w4 ⟨rfl, rfl⟩)
              | fail)
            go_roundw
            case rel => exact ⟨k + 1, m, some ⟨g', 0, none⟩, c', xs, came, by omega, by go_num, rfl, by omega, hc0, by omega, HM, Lib.hid (X1.out.1.box2 #[.int .i64 0, .int .i64 0] 0 [.int .i64 0, .int .i64 0] 0 (pairC (kt x0))), Lib.hid (X1.out.2.1.box2 _ _ _ _ _), HC, Lib.hid (bel_box2 X1.out.2.2 _ _ _ _ _)⟩
            case measure => simp [intOf]; omega
    · obtain rfl : k = n := by omega
      go_wp2_with (go_at_call 20; refine (live04 _).mono ?_; rintro e w1 ⟨rfl, hb1⟩)
      go_ret
      exact ⟨rfl, HB.out.trans (hb1.mono HB.out.size)⟩

set_option maxHeartbeats 1000000 in
theorem Plays_long (A : Option Addr) (n c : Nat) (w : World) (hn : 300 < n) (hn2 : n ≤ 9223372036854775807) :
    Calls Try.prog 5 #[.slice A n c] w fun e w' => e = .returned (.bool true) ∧ Below w.heap.size w w' := by
  have hd300 : decide (300 < (n : Int)) = true := by simp; omega
  go_enter Try.func5, Try.ntmps5
  go_wp2_with (first
    | (go_at_call 16; refine (Put_nil _ _ _).mono ?_; rintro e w1 ⟨rfl, rfl⟩)
    | (go_at_call 17; refine (Take_nil _).mono ?_; rintro e w1 ⟨rfl, rfl⟩)
    | (go_at_call 18; refine (Peek_nil _).mono ?_; rintro e w1 ⟨rfl, rfl⟩)
    | (go_at_call 19; refine (QLen_nil _).mono ?_; rintro e w1 ⟨rfl, rfl⟩)
    | (go_at_call 20; refine (live04 _).mono ?_; rintro e w1 ⟨rfl, hb1⟩))
  go_ret
  exact ⟨rfl, hb1⟩
theorem QueuePlays_walk (W : World) (a : Option Addr) (n c : Nat) (l : List (Int × Int)) (hn : l.length = n) (sl : Sl W W.heap.size 2 pairC a l) (_ : n ≤ c) (hm : c ≤ 9223372036854775807) (_ : ∀ x ∈ l, okPair x) :
    Calls Try.prog 5 #[.slice a n c] W fun e w' => e = .returned (.bool true) ∧ Below W.heap.size W w' := by
  by_cases h : n ≤ 300
  · exact Plays_main a n c _ l W hn sl (Nat.le_refl _) h
  · exact Plays_long a n c W (by omega) (by omega)
end Go.Proofs.Ytkeeipfglmpgjaa
