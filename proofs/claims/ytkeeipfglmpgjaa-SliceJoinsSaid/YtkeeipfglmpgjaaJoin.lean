/-
  slice.Join: two slices as one.
-/
import Derived.Test.YtkeeipfglmpgjaaConcat
import Derived.Test.YtkeeipfglmpgjaaOpen
import Derived.Test.YtkeeipfglmpgjaaSame13
namespace Go.Proofs.Ytkeeipfglmpgjaa
set_option linter.unusedSimpArgs false
set_option linter.unusedVariables false
open Go.RowKit

theorem slice_agg : ∀ w, (isAgg 34).run Try.prog w = .ok true w := fun w => by kernel_rfl
theorem slice_size : ∀ w, (sizeOf 34).run Try.prog w = .ok 3 w := fun w => by kernel_rfl
theorem run_store_sl (w : World) (ρ : Operand → Value) (p x : Operand) (d : Option Tmp) (ty : TypeId) (pos : String) (af : Array _) (g : Option _) :
    (execOp ρ ⟨d, .store 34 p x, ty, pos, af, g⟩).run Try.prog w = aggStore Try.prog 34 3 w (ρ p) (ρ x) := run_store_agg _ 3 (by kernel_rfl) w ρ p x d ty pos af g
attribute [local go_sem ↓] run_store_sl
attribute [local go_sem] rd_drewN rd_drew aggStore_row rowSz_new World.setRow_alloc_new one_int one_bool one_slice

theorem cell_far2 (w : World) (n o : Nat) (cs : Array Value) : (w.setRow (n + 1 + 1) cs).cell? ⟨n, o, none⟩ = w.cell? ⟨n, o, none⟩ := cell_setRow_far w _ cs n o (by omega)

def JoinPost (x y : SlT) (L R : Nat) (w : World) (e : Ending) (w' : World) : Prop :=
  ∃ A c, e = .returned (.agg #[.slice A (x.n + y.n) c, .int .i64 L, .int .i64 R]) ∧ Own w' w.heap.size 43 12 Tok.cells (.slice A (x.n + y.n) c) (x.l ++ y.l) ∧ Below w.heap.size w w'

set_option maxHeartbeats 1000000 in
set_option maxRecDepth 100000 in
theorem Join_any (x y : SlT) (B L1 R1 L2 R2 : Nat) (w : World) (hx : x.Ok w B) (hy : y.Ok w B) (hB : B ≤ w.heap.size) (hs : x.n + y.n ≤ 1000000) (b1 : L1 ≤ 1000000) (b2 : L2 ≤ 1000000) (b3 : R1 ≤ 1000000) (b4 : R2 ≤ 1000000) :
    Calls Try.prog 12 #[.agg #[.slice x.A x.n x.c, .int .i64 L1, .int .i64 R1], .agg #[.slice y.A y.n y.c, .int .i64 L2, .int .i64 R2]] w
      (JoinPost x y (joinP (L1, R1) (L2, R2)).1 (joinP (L1, R1) (L2, R2)).2 w) := by
  have hxA := hx.2
  have hyA := hy.2
  rcases Nat.lt_or_ge L2 R1 with hlt | hlt
  · go_enter Try.func12, Try.ntmps12
    go_wp2
    obtain ⟨W3, hW3⟩ : ∃ W3, W3 = (((w.alloc (Obj.cells #[Value.slice x.A x.n x.c, Value.int IntKind.i64 L1, Value.int IntKind.i64 R1] 34)).alloc (Obj.cells #[Value.slice y.A y.n y.c, Value.int IntKind.i64 L2, Value.int IntKind.i64 R2] 34)).alloc (Obj.cells #[Value.slice none 0 0, Value.int IntKind.i64 0, Value.int IntKind.i64 0] 34)) := ⟨_, rfl⟩
    have hBW : Below w.heap.size w W3 := by
      rw [hW3]
      exact (((Below.refl _ _).alloc (Nat.le_refl _) _).alloc (by simp) _).alloc (by simp; omega) _
    have hX : Blk W3 w.heap.size 34 #[Value.slice x.A x.n x.c, Value.int IntKind.i64 L1, Value.int IntKind.i64 R1] := by rw [hW3]; exact ((Blk.new w _ _).alloc _).alloc _
    have hY : Blk W3 (w.heap.size + 1) 34 #[Value.slice y.A y.n y.c, Value.int IntKind.i64 L2, Value.int IntKind.i64 R2] := by
      rw [hW3]
      have := (Blk.new (w.alloc (Obj.cells #[Value.slice x.A x.n x.c, Value.int IntKind.i64 L1, Value.int IntKind.i64 R1] 34)) 34 #[Value.slice y.A y.n y.c, Value.int IntKind.i64 L2, Value.int IntKind.i64 R2]).alloc (Obj.cells #[Value.slice none 0 0, Value.int IntKind.i64 0, Value.int IntKind.i64 0] 34)
      simpa using this
    have hZ : Blk W3 (w.heap.size + 1 + 1) 34 #[Value.slice none 0 0, Value.int IntKind.i64 0, Value.int IntKind.i64 0] := by
      rw [hW3]
      have := Blk.new ((w.alloc (Obj.cells #[Value.slice x.A x.n x.c, Value.int IntKind.i64 L1, Value.int IntKind.i64 R1] 34)).alloc (Obj.cells #[Value.slice y.A y.n y.c, Value.int IntKind.i64 L2, Value.int IntKind.i64 R2] 34)) 34 #[Value.slice none 0 0, Value.int IntKind.i64 0, Value.int IntKind.i64 0]
      simpa using this
    have hsz : W3.heap.size = w.heap.size + 1 + 1 + 1 := by rw [hW3]; simp
    rw [← hW3]
    clear hW3
    have x0 := hX.cell 0
    have x1 := hX.cell 1
    have x2 := hX.cell 2
    have y0 := hY.cell 0
    have y1 := hY.cell 1
    have y2 := hY.cell 2
    simp at x0 x1 x2 y0 y1 y2
    have hxW := (hxA.below (hBW.mono hB)).alloc (Nat.le_trans hB hBW.size) (Obj.cells #[Value.slice x.A x.n x.c, Value.slice y.A y.n y.c] 26)
    have hyW := (hyA.below (hBW.mono hB)).alloc (Nat.le_trans hB hBW.size) (Obj.cells #[Value.slice x.A x.n x.c, Value.slice y.A y.n y.c] 26)
    have HC := Concat_any (some ⟨W3.heap.size, 0, none⟩) 2 2 _ [x, y] (W3.alloc (Obj.cells #[Value.slice x.A x.n x.c, Value.slice y.A y.n y.c] 26)).drew rfl
      (Sl.newl W3 SlT.cells 1 SlT.cells_length 26 [x, y] #[Value.slice x.A x.n x.c, Value.slice y.A y.n y.c] rfl).drew (by show _ ≤ (W3.alloc _).heap.size; simp) (fun z hz => by
        have hz' : z = x ∨ z = y := by simpa using hz
        rcases hz' with rfl | rfl
        · exact ⟨hx.1, (hxW.more (Nat.le_trans hB (Nat.le_trans hBW.size (Nat.le_succ _)))).drew⟩
        · exact ⟨hy.1, (hyW.more (Nat.le_trans hB (Nat.le_trans hBW.size (Nat.le_succ _)))).drew⟩) (by simp [SlT.sum]; omega) (by omega)
    have HCH := Lib.hid HC
    have HX := Lib.hid hX
    have HY := Lib.hid hY
    have HZ := Lib.hid hZ
    have HBW := Lib.hid hBW
    have HSZ := Lib.hid hsz
    have HL := Lib.hid (And.intro hx.1 hy.1)
    clear HC hX hY hZ hBW hsz hxW hyW hx hy hxA hyA
    refine wp_region_held_drew (S := (fun w' => w'.cell? ⟨w.heap.size, 0, none⟩ = some (.slice x.A x.n x.c) ∧ w'.cell? ⟨w.heap.size, 1, none⟩ = some (.int .i64 L1) ∧ w'.cell? ⟨w.heap.size, 2, none⟩ = some (.int .i64 R1) ∧ w'.cell? ⟨w.heap.size + 1, 0, none⟩ = some (.slice y.A y.n y.c) ∧ w'.cell? ⟨w.heap.size + 1, 1, none⟩ = some (.int .i64 L2) ∧ w'.cell? ⟨w.heap.size + 1, 2, none⟩ = some (.int .i64 R2))) (by kernel_rfl) (by exact ⟨x0, x1, x2, y0, y1, y2⟩) (fun hSd => ?_)
    refine wpAnyH_take (i := 0) (oi := _) (v := ?_) rfl (by kernel_rfl) (by kernel_rfl) (by kernel_rfl) (fun _ _ _ h => h) (Or.inl ⟨by rfl, ?_⟩) (by assumption) ?_
    rotate_left
    · intro w' hSw; (try dsimp only at hSw); go_simp; (try with_reducible rfl)
    try simp only [Act.put, List.setIfInBounds_toArray, List.set_cons_zero, List.set_cons_succ]
    refine wpAnyH_take (i := 1) (oi := _) (v := ?_) rfl (by kernel_rfl) (by kernel_rfl) (by kernel_rfl) (fun _ _ _ h => h) (Or.inl ⟨by rfl, ?_⟩) (by assumption) ?_
    rotate_left
    · intro w' hSw; (try dsimp only at hSw); go_simp; (try with_reducible rfl)
    try simp only [Act.put, List.setIfInBounds_toArray, List.set_cons_zero, List.set_cons_succ]
    refine wpAnyH_take (i := 2) (oi := _) (v := ?_) rfl (by kernel_rfl) (by kernel_rfl) (by kernel_rfl) (fun _ _ _ h => h) (Or.inl ⟨by rfl, ?_⟩) (by assumption) ?_
    rotate_left
    · intro w' hSw; (try dsimp only at hSw); go_simp; (try with_reducible rfl)
    try simp only [Act.put, List.setIfInBounds_toArray, List.set_cons_zero, List.set_cons_succ]
    refine wpAnyH_take (i := 3) (oi := _) (v := ?_) rfl (by kernel_rfl) (by kernel_rfl) (by kernel_rfl) (fun _ _ _ h => h) (Or.inl ⟨by rfl, ?_⟩) (by assumption) ?_
    rotate_left
    · intro w' hSw; (try dsimp only at hSw); go_simp; (try with_reducible rfl)
    try simp only [Act.put, List.setIfInBounds_toArray, List.set_cons_zero, List.set_cons_succ]
    refine wpAnyH_take (i := 6) (oi := _) (v := ?_) rfl (by kernel_rfl) (by kernel_rfl) (by kernel_rfl) (fun _ _ _ h => h) (Or.inl ⟨by rfl, ?_⟩) (by assumption) ?_
    rotate_left
    · intro w' hSw; (try dsimp only at hSw); go_simp; (try with_reducible rfl)
    try simp only [Act.put, List.setIfInBounds_toArray, List.set_cons_zero, List.set_cons_succ]
    refine wpAnyH_take (i := 7) (oi := _) (v := ?_) rfl (by kernel_rfl) (by kernel_rfl) (by kernel_rfl) (fun _ _ _ h => h) (Or.inl ⟨by rfl, ?_⟩) (by assumption) ?_
    rotate_left
    · intro w' hSw; (try dsimp only at hSw); go_simp; (try with_reducible rfl)
    try simp only [Act.put, List.setIfInBounds_toArray, List.set_cons_zero, List.set_cons_succ]
    refine wpAnyH_take (i := 8) (oi := _) (v := ?_) rfl (by kernel_rfl) (by kernel_rfl) (by kernel_rfl) (fun _ _ _ h => h) (Or.inl ⟨by rfl, ?_⟩) (by assumption) ?_
    rotate_left
    · intro w' hSw; (try dsimp only at hSw); go_simp; (try with_reducible rfl)
    try simp only [Act.put, List.setIfInBounds_toArray, List.set_cons_zero, List.set_cons_succ]
    refine wpAnyH_take (i := 9) (oi := _) (v := ?_) rfl (by kernel_rfl) (by kernel_rfl) (by kernel_rfl) (fun _ _ _ h => h) (Or.inl ⟨by rfl, ?_⟩) (by assumption) ?_
    rotate_left
    · intro w' hSw; (try dsimp only at hSw); go_simp; (try with_reducible rfl)
    try simp only [Act.put, List.setIfInBounds_toArray, List.set_cons_zero, List.set_cons_succ]
    refine wpAnyH_take (i := 10) (oi := _) (v := ?_) rfl (by kernel_rfl) (by kernel_rfl) (by kernel_rfl) (fun _ _ _ h => h) (Or.inl ⟨by rfl, ?_⟩) (by assumption) ?_
    rotate_left
    · intro w' hSw; (try dsimp only at hSw); go_simp; (try with_reducible rfl)
    try simp only [Act.put, List.setIfInBounds_toArray, List.set_cons_zero, List.set_cons_succ]
    refine wpAnyH_take (i := 11) (oi := _) (v := ?_) rfl (by kernel_rfl) (by kernel_rfl) (by kernel_rfl) (fun _ _ _ h => h) (Or.inl ⟨by rfl, ?_⟩) (by assumption) ?_
    rotate_left
    · intro w' hSw; (try dsimp only at hSw); go_simp; (try with_reducible rfl)
    try simp only [Act.put, List.setIfInBounds_toArray, List.set_cons_zero, List.set_cons_succ]
    refine wpAnyH_take (i := 12) (oi := _) (v := ?_) rfl (by kernel_rfl) (by kernel_rfl) (by kernel_rfl) (fun _ _ _ h => h) (Or.inl ⟨by rfl, ?_⟩) (by assumption) ?_
    rotate_left
    · intro w' hSw; (try dsimp only at hSw); go_simp; (try with_reducible rfl)
    try simp only [Act.put, List.setIfInBounds_toArray, List.set_cons_zero, List.set_cons_succ]
    refine wpAnyH_take (i := 13) (oi := _) (v := ?_) rfl (by kernel_rfl) (by kernel_rfl) (by kernel_rfl) (fun _ _ _ h => h) (Or.inl ⟨by rfl, ?_⟩) (by assumption) ?_
    rotate_left
    · intro w' hSw; (try dsimp only at hSw); go_simp; (try with_reducible rfl)
    try simp only [Act.put, List.setIfInBounds_toArray, List.set_cons_zero, List.set_cons_succ]
    refine wpAnyH_take (i := 14) (oi := _) (v := ?_) rfl (by kernel_rfl) (by kernel_rfl) (by kernel_rfl) (fun _ _ _ h => h) (Or.inl ⟨by rfl, ?_⟩) (by assumption) ?_
    rotate_left
    · intro w' hSw; (try dsimp only at hSw); go_simp; (try with_reducible rfl)
    try simp only [Act.put, List.setIfInBounds_toArray, List.set_cons_zero, List.set_cons_succ]
    refine wpAnyH_take (i := 15) (oi := _) (v := ?_) rfl (by kernel_rfl) (by kernel_rfl) (by kernel_rfl) (fun _ _ _ h => h) (Or.inl ⟨by rfl, ?_⟩) (by assumption) ?_
    rotate_left
    · intro w' hSw; (try dsimp only at hSw); go_simp; (try with_reducible rfl)
    try simp only [Act.put, List.setIfInBounds_toArray, List.set_cons_zero, List.set_cons_succ]
    refine wpAnyH_take (i := 16) (oi := _) (v := ?_) rfl (by kernel_rfl) (by kernel_rfl) (by kernel_rfl) (fun _ _ _ h => h) (Or.inl ⟨by rfl, ?_⟩) (by assumption) ?_
    rotate_left
    · intro w' hSw; (try dsimp only at hSw); go_simp; (try with_reducible rfl)
    try simp only [Act.put, List.setIfInBounds_toArray, List.set_cons_zero, List.set_cons_succ]
    refine wpAnyH_take (i := 17) (oi := _) (v := ?_) rfl (by kernel_rfl) (by kernel_rfl) (by kernel_rfl) (fun _ _ _ h => h) (Or.inl ⟨by rfl, ?_⟩) (by assumption) ?_
    rotate_left
    · intro w' hSw; (try dsimp only at hSw); go_simp; (try with_reducible rfl)
    try simp only [Act.put, List.setIfInBounds_toArray, List.set_cons_zero, List.set_cons_succ]
    refine wpAnyH_take (i := 18) (oi := _) (v := ?_) rfl (by kernel_rfl) (by kernel_rfl) (by kernel_rfl) (fun _ _ _ h => h) (Or.inl ⟨by rfl, ?_⟩) (by assumption) ?_
    rotate_left
    · intro w' hSw; (try dsimp only at hSw); go_simp; (try with_reducible rfl)
    try simp only [Act.put, List.setIfInBounds_toArray, List.set_cons_zero, List.set_cons_succ]
    refine wpAnyH_take (i := 19) (oi := _) (v := ?_) rfl (by kernel_rfl) (by kernel_rfl) (by kernel_rfl) (fun _ _ _ h => h) (Or.inl ⟨by rfl, ?_⟩) (by assumption) ?_
    rotate_left
    · intro w' hSw; (try dsimp only at hSw); go_simp; (try with_reducible rfl)
    try simp only [Act.put, List.setIfInBounds_toArray, List.set_cons_zero, List.set_cons_succ]
    refine wpAnyH_take (i := 20) (oi := _) (v := ?_) rfl (by kernel_rfl) (by kernel_rfl) (by kernel_rfl) (fun _ _ _ h => h) (Or.inl ⟨by rfl, ?_⟩) (by assumption) ?_
    rotate_left
    · intro w' hSw; (try dsimp only at hSw); go_simp; (try with_reducible rfl)
    try simp only [Act.put, List.setIfInBounds_toArray, List.set_cons_zero, List.set_cons_succ]
    refine wpAnyH_take (i := 21) (oi := _) (v := ?_) rfl (by kernel_rfl) (by kernel_rfl) (by kernel_rfl) (fun _ _ _ h => h) (Or.inl ⟨by rfl, ?_⟩) (by assumption) ?_
    rotate_left
    · intro w' hSw; (try dsimp only at hSw); go_simp; (try with_reducible rfl)
    try simp only [Act.put, List.setIfInBounds_toArray, List.set_cons_zero, List.set_cons_succ]
    refine wpAnyH_take (i := 22) (oi := _) (v := ?_) rfl (by kernel_rfl) (by kernel_rfl) (by kernel_rfl) (fun _ _ _ h => h) (Or.inl ⟨by rfl, ?_⟩) (by assumption) ?_
    rotate_left
    · intro w' hSw; (try dsimp only at hSw); go_simp; (try with_reducible rfl)
    try simp only [Act.put, List.setIfInBounds_toArray, List.set_cons_zero, List.set_cons_succ]
    refine wpAnyH_take (i := 23) (oi := _) (v := ?_) rfl (by kernel_rfl) (by kernel_rfl) (by kernel_rfl) (fun _ _ _ h => h) (Or.inl ⟨by rfl, ?_⟩) (by assumption) ?_
    rotate_left
    · intro w' hSw; (try dsimp only at hSw); go_simp; (try with_reducible rfl)
    try simp only [Act.put, List.setIfInBounds_toArray, List.set_cons_zero, List.set_cons_succ]
    refine wpAnyH_ready (rs := [4]) (by kernel_rfl) (by simp) ?_
    refine AllReadyH.cons (o := _) rfl (fun K hK => ?_) AllReadyH.nil
    go_simp
    refine hK.out _ _ ?_ (fun hSd2 => ?_)
    · go_keep
    clear hK K
    try simp only [Act.put, List.setIfInBounds_toArray, List.set_cons_zero, List.set_cons_succ]
    refine wpAnyH_ready (rs := [5]) (by kernel_rfl) (by simp) ?_
    refine AllReadyH.cons (o := _) rfl (fun K hK => ?_) AllReadyH.nil
    go_simp
    refine HCH.out.mono ?_
    rintro e w4 ⟨A4, c4, rfl, ho4, hb4⟩
    have hlt0 : w.heap.size + 0 < (W3.alloc (Obj.cells #[Value.slice x.A x.n x.c, Value.slice y.A y.n y.c] 26)).drew.heap.size := by have := HSZ.out; show _ < (W3.alloc _).heap.size; simp; omega
    have hlt1 : w.heap.size + 1 < (W3.alloc (Obj.cells #[Value.slice x.A x.n x.c, Value.slice y.A y.n y.c] 26)).drew.heap.size := by have := HSZ.out; show _ < (W3.alloc _).heap.size; simp; omega
    have hlt2 : w.heap.size + 2 < (W3.alloc (Obj.cells #[Value.slice x.A x.n x.c, Value.slice y.A y.n y.c] 26)).drew.heap.size := by have := HSZ.out; show _ < (W3.alloc _).heap.size; simp; omega
    have X4 := (HX.out.alloc _).drew.below hb4 hlt0
    have Y4 := (HY.out.alloc _).drew.below hb4 hlt1
    have Z4 := (HZ.out.alloc _).drew.below hb4 hlt2
    have hrow : rowSz w4 (w.heap.size + 1 + 1) = some 3 := rowSz_of Z4
    have HO4 := Lib.hid ho4
    have HB4 := Lib.hid hb4
    clear ho4 hb4 hlt0 hlt1 hlt2
    refine hK.out _ _ ?_ (fun hSd3 => ?_)
    · exact ⟨X4.cell 0, X4.cell 1, X4.cell 2, Y4.cell 0, Y4.cell 1, Y4.cell 2⟩
    clear hK K
    try simp only [Act.put, List.setIfInBounds_toArray, List.set_cons_zero, List.set_cons_succ]
    refine wpAnyH_take (i := 24) (oi := _) (v := ?_) rfl (by kernel_rfl) (by kernel_rfl) (by kernel_rfl) (fun _ _ _ h => h) (Or.inl ⟨by rfl, ?_⟩) (by assumption) ?_
    rotate_left
    · intro w' hSw; (try dsimp only at hSw); go_simp; (try with_reducible rfl)
    try simp only [Act.put, List.setIfInBounds_toArray, List.set_cons_zero, List.set_cons_succ]
    refine wpAnyH_ready (rs := [25]) (by kernel_rfl) (by simp) ?_
    refine AllReadyH.cons (o := ⟨none, .store 34 (.tmp 4) (.tmp 37), 0, _, _, none⟩) rfl (fun K hK => ?_) AllReadyH.nil
    go_simp
    refine hK.out _ _ ?_ (fun hSd4 => ?_)
    · (rw [cell_far2, cell_far2, cell_far2, cell_setRow_far _ _ _ (w.heap.size + 1) 0 (by omega), cell_setRow_far _ _ _ (w.heap.size + 1) 1 (by omega), cell_setRow_far _ _ _ (w.heap.size + 1) 2 (by omega)]; exact hSd3)
    clear hK K
    try simp only [Act.put, List.setIfInBounds_toArray, List.set_cons_zero, List.set_cons_succ]
    refine wpAnyH_done (by kernel_rfl) ?_ _
    obtain ⟨X1, hX1⟩ : ∃ X1 : Int, X1 = (L1 : Int) + L2 - L2 := ⟨_, rfl⟩
    obtain ⟨X2, hX2⟩ : ∃ X2 : Int, X2 = (R2 : Int) + R1 - L2 := ⟨_, rfl⟩
    have hblk := Z4.setRow #[.slice A4 (SlT.all [x, y]).length c4, .int .i64 X1, .int .i64 X2]
    have e1 : IntKind.i64.wrap (IntKind.i64.wrap ((if (L1 : Int) < 0 then 0 else (L1 : Int)) + if (L2 : Int) < 0 then 0 else (L2 : Int)) - (L2 : Int)) = (L1 : Int) + L2 - L2 := by
      rw [if_neg (by omega), if_neg (by omega), wrap_ok ((L1 : Int) + L2) (by omega) (by omega), wrap_ok _ (by omega) (by omega)]
    have e2 : IntKind.i64.wrap (IntKind.i64.wrap ((if (R2 : Int) < 0 then 0 else (R2 : Int)) + if (R1 : Int) < 0 then 0 else (R1 : Int)) - (L2 : Int)) = (R2 : Int) + R1 - L2 := by
      rw [if_neg (by omega), if_neg (by omega), wrap_ok ((R2 : Int) + R1) (by omega) (by omega), wrap_ok _ (by omega) (by omega)]
    rw [e1, e2, ← hX1, ← hX2]
    have HX1 := Lib.hid hX1
    have HX2 := Lib.hid hX2
    clear hX1 hX2 e1 e2 hSd hSd2 hSd3 hSd4 x0 x1 x2 y0 y1 y2
    have HZ4 := Lib.hid Z4
    clear X4 Y4 Z4 hrow
    go_wp2
    refine bodyPost_ret (results_cell1 rfl slice_agg 3 slice_size _ _ ⟨w.heap.size + 1 + 1, 0, none⟩ _ rfl hblk.rd_) rfl ?_
    have hall : SlT.all [x, y] = x.l ++ y.l := by simp [SlT.all]
    have hlen : (SlT.all [x, y]).length = x.n + y.n := HO4.out.cap.2 ▸ (by rw [hall, List.length_append, HL.out.1, HL.out.2])
    have hO := HO4.out
    rw [hlen, hall] at hO
    refine ⟨A4, c4, ?_, ?_, ?_⟩
    · rw [← hlen]
      show Ending.returned (.agg #[_, .int .i64 X1, .int .i64 X2]) = _
      unfold joinP
      rw [HX1.out, HX2.out, show (L1 : Int) + L2 - L2 = ((L1 + L2 - min R1 L2 : Nat) : Int) from by omega, show (R2 : Int) + R1 - L2 = ((R2 + R1 - min R1 L2 : Nat) : Int) from by omega]
    · exact (hO.setRow_far (hO.ne_blk HZ4.out (by decide)) _).base_le (le_alloc HBW.out.size _)
    · exact bel_setRow (HBW.out.trans (((Below.refl _ _).alloc HBW.out.size _).drew.trans (HB4.out.mono (le_alloc HBW.out.size _)))) (by omega) _
  · go_enter Try.func12, Try.ntmps12
    go_wp2
    obtain ⟨W3, hW3⟩ : ∃ W3, W3 = (((w.alloc (Obj.cells #[Value.slice x.A x.n x.c, Value.int IntKind.i64 L1, Value.int IntKind.i64 R1] 34)).alloc (Obj.cells #[Value.slice y.A y.n y.c, Value.int IntKind.i64 L2, Value.int IntKind.i64 R2] 34)).alloc (Obj.cells #[Value.slice none 0 0, Value.int IntKind.i64 0, Value.int IntKind.i64 0] 34)) := ⟨_, rfl⟩
    have hBW : Below w.heap.size w W3 := by
      rw [hW3]
      exact (((Below.refl _ _).alloc (Nat.le_refl _) _).alloc (by simp) _).alloc (by simp; omega) _
    have hX : Blk W3 w.heap.size 34 #[Value.slice x.A x.n x.c, Value.int IntKind.i64 L1, Value.int IntKind.i64 R1] := by rw [hW3]; exact ((Blk.new w _ _).alloc _).alloc _
    have hY : Blk W3 (w.heap.size + 1) 34 #[Value.slice y.A y.n y.c, Value.int IntKind.i64 L2, Value.int IntKind.i64 R2] := by
      rw [hW3]
      have := (Blk.new (w.alloc (Obj.cells #[Value.slice x.A x.n x.c, Value.int IntKind.i64 L1, Value.int IntKind.i64 R1] 34)) 34 #[Value.slice y.A y.n y.c, Value.int IntKind.i64 L2, Value.int IntKind.i64 R2]).alloc (Obj.cells #[Value.slice none 0 0, Value.int IntKind.i64 0, Value.int IntKind.i64 0] 34)
      simpa using this
    have hZ : Blk W3 (w.heap.size + 1 + 1) 34 #[Value.slice none 0 0, Value.int IntKind.i64 0, Value.int IntKind.i64 0] := by
      rw [hW3]
      have := Blk.new ((w.alloc (Obj.cells #[Value.slice x.A x.n x.c, Value.int IntKind.i64 L1, Value.int IntKind.i64 R1] 34)).alloc (Obj.cells #[Value.slice y.A y.n y.c, Value.int IntKind.i64 L2, Value.int IntKind.i64 R2] 34)) 34 #[Value.slice none 0 0, Value.int IntKind.i64 0, Value.int IntKind.i64 0]
      simpa using this
    have hsz : W3.heap.size = w.heap.size + 1 + 1 + 1 := by rw [hW3]; simp
    rw [← hW3]
    clear hW3
    have x0 := hX.cell 0
    have x1 := hX.cell 1
    have x2 := hX.cell 2
    have y0 := hY.cell 0
    have y1 := hY.cell 1
    have y2 := hY.cell 2
    simp at x0 x1 x2 y0 y1 y2
    have hxW := (hxA.below (hBW.mono hB)).alloc (Nat.le_trans hB hBW.size) (Obj.cells #[Value.slice x.A x.n x.c, Value.slice y.A y.n y.c] 26)
    have hyW := (hyA.below (hBW.mono hB)).alloc (Nat.le_trans hB hBW.size) (Obj.cells #[Value.slice x.A x.n x.c, Value.slice y.A y.n y.c] 26)
    have HC := Concat_any (some ⟨W3.heap.size, 0, none⟩) 2 2 _ [x, y] (W3.alloc (Obj.cells #[Value.slice x.A x.n x.c, Value.slice y.A y.n y.c] 26)).drew rfl
      (Sl.newl W3 SlT.cells 1 SlT.cells_length 26 [x, y] #[Value.slice x.A x.n x.c, Value.slice y.A y.n y.c] rfl).drew (by show _ ≤ (W3.alloc _).heap.size; simp) (fun z hz => by
        have hz' : z = x ∨ z = y := by simpa using hz
        rcases hz' with rfl | rfl
        · exact ⟨hx.1, (hxW.more (Nat.le_trans hB (Nat.le_trans hBW.size (Nat.le_succ _)))).drew⟩
        · exact ⟨hy.1, (hyW.more (Nat.le_trans hB (Nat.le_trans hBW.size (Nat.le_succ _)))).drew⟩) (by simp [SlT.sum]; omega) (by omega)
    have HCH := Lib.hid HC
    have HX := Lib.hid hX
    have HY := Lib.hid hY
    have HZ := Lib.hid hZ
    have HBW := Lib.hid hBW
    have HSZ := Lib.hid hsz
    have HL := Lib.hid (And.intro hx.1 hy.1)
    clear HC hX hY hZ hBW hsz hxW hyW hx hy hxA hyA
    refine wp_region_held_drew (S := (fun w' => w'.cell? ⟨w.heap.size, 0, none⟩ = some (.slice x.A x.n x.c) ∧ w'.cell? ⟨w.heap.size, 1, none⟩ = some (.int .i64 L1) ∧ w'.cell? ⟨w.heap.size, 2, none⟩ = some (.int .i64 R1) ∧ w'.cell? ⟨w.heap.size + 1, 0, none⟩ = some (.slice y.A y.n y.c) ∧ w'.cell? ⟨w.heap.size + 1, 1, none⟩ = some (.int .i64 L2) ∧ w'.cell? ⟨w.heap.size + 1, 2, none⟩ = some (.int .i64 R2))) (by kernel_rfl) (by exact ⟨x0, x1, x2, y0, y1, y2⟩) (fun hSd => ?_)
    refine wpAnyH_take (i := 0) (oi := _) (v := ?_) rfl (by kernel_rfl) (by kernel_rfl) (by kernel_rfl) (fun _ _ _ h => h) (Or.inl ⟨by rfl, ?_⟩) (by assumption) ?_
    rotate_left
    · intro w' hSw; (try dsimp only at hSw); go_simp; (try with_reducible rfl)
    try simp only [Act.put, List.setIfInBounds_toArray, List.set_cons_zero, List.set_cons_succ]
    refine wpAnyH_take (i := 1) (oi := _) (v := ?_) rfl (by kernel_rfl) (by kernel_rfl) (by kernel_rfl) (fun _ _ _ h => h) (Or.inl ⟨by rfl, ?_⟩) (by assumption) ?_
    rotate_left
    · intro w' hSw; (try dsimp only at hSw); go_simp; (try with_reducible rfl)
    try simp only [Act.put, List.setIfInBounds_toArray, List.set_cons_zero, List.set_cons_succ]
    refine wpAnyH_take (i := 2) (oi := _) (v := ?_) rfl (by kernel_rfl) (by kernel_rfl) (by kernel_rfl) (fun _ _ _ h => h) (Or.inl ⟨by rfl, ?_⟩) (by assumption) ?_
    rotate_left
    · intro w' hSw; (try dsimp only at hSw); go_simp; (try with_reducible rfl)
    try simp only [Act.put, List.setIfInBounds_toArray, List.set_cons_zero, List.set_cons_succ]
    refine wpAnyH_take (i := 3) (oi := _) (v := ?_) rfl (by kernel_rfl) (by kernel_rfl) (by kernel_rfl) (fun _ _ _ h => h) (Or.inl ⟨by rfl, ?_⟩) (by assumption) ?_
    rotate_left
    · intro w' hSw; (try dsimp only at hSw); go_simp; (try with_reducible rfl)
    try simp only [Act.put, List.setIfInBounds_toArray, List.set_cons_zero, List.set_cons_succ]
    refine wpAnyH_take (i := 6) (oi := _) (v := ?_) rfl (by kernel_rfl) (by kernel_rfl) (by kernel_rfl) (fun _ _ _ h => h) (Or.inl ⟨by rfl, ?_⟩) (by assumption) ?_
    rotate_left
    · intro w' hSw; (try dsimp only at hSw); go_simp; (try with_reducible rfl)
    try simp only [Act.put, List.setIfInBounds_toArray, List.set_cons_zero, List.set_cons_succ]
    refine wpAnyH_take (i := 7) (oi := _) (v := ?_) rfl (by kernel_rfl) (by kernel_rfl) (by kernel_rfl) (fun _ _ _ h => h) (Or.inl ⟨by rfl, ?_⟩) (by assumption) ?_
    rotate_left
    · intro w' hSw; (try dsimp only at hSw); go_simp; (try with_reducible rfl)
    try simp only [Act.put, List.setIfInBounds_toArray, List.set_cons_zero, List.set_cons_succ]
    refine wpAnyH_take (i := 8) (oi := _) (v := ?_) rfl (by kernel_rfl) (by kernel_rfl) (by kernel_rfl) (fun _ _ _ h => h) (Or.inl ⟨by rfl, ?_⟩) (by assumption) ?_
    rotate_left
    · intro w' hSw; (try dsimp only at hSw); go_simp; (try with_reducible rfl)
    try simp only [Act.put, List.setIfInBounds_toArray, List.set_cons_zero, List.set_cons_succ]
    refine wpAnyH_take (i := 9) (oi := _) (v := ?_) rfl (by kernel_rfl) (by kernel_rfl) (by kernel_rfl) (fun _ _ _ h => h) (Or.inl ⟨by rfl, ?_⟩) (by assumption) ?_
    rotate_left
    · intro w' hSw; (try dsimp only at hSw); go_simp; (try with_reducible rfl)
    try simp only [Act.put, List.setIfInBounds_toArray, List.set_cons_zero, List.set_cons_succ]
    refine wpAnyH_take (i := 10) (oi := _) (v := ?_) rfl (by kernel_rfl) (by kernel_rfl) (by kernel_rfl) (fun _ _ _ h => h) (Or.inl ⟨by rfl, ?_⟩) (by assumption) ?_
    rotate_left
    · intro w' hSw; (try dsimp only at hSw); go_simp; (try with_reducible rfl)
    try simp only [Act.put, List.setIfInBounds_toArray, List.set_cons_zero, List.set_cons_succ]
    refine wpAnyH_take (i := 11) (oi := _) (v := ?_) rfl (by kernel_rfl) (by kernel_rfl) (by kernel_rfl) (fun _ _ _ h => h) (Or.inl ⟨by rfl, ?_⟩) (by assumption) ?_
    rotate_left
    · intro w' hSw; (try dsimp only at hSw); go_simp; (try with_reducible rfl)
    try simp only [Act.put, List.setIfInBounds_toArray, List.set_cons_zero, List.set_cons_succ]
    refine wpAnyH_take (i := 12) (oi := _) (v := ?_) rfl (by kernel_rfl) (by kernel_rfl) (by kernel_rfl) (fun _ _ _ h => h) (Or.inl ⟨by rfl, ?_⟩) (by assumption) ?_
    rotate_left
    · intro w' hSw; (try dsimp only at hSw); go_simp; (try with_reducible rfl)
    try simp only [Act.put, List.setIfInBounds_toArray, List.set_cons_zero, List.set_cons_succ]
    refine wpAnyH_take (i := 13) (oi := _) (v := ?_) rfl (by kernel_rfl) (by kernel_rfl) (by kernel_rfl) (fun _ _ _ h => h) (Or.inl ⟨by rfl, ?_⟩) (by assumption) ?_
    rotate_left
    · intro w' hSw; (try dsimp only at hSw); go_simp; (try with_reducible rfl)
    try simp only [Act.put, List.setIfInBounds_toArray, List.set_cons_zero, List.set_cons_succ]
    refine wpAnyH_take (i := 14) (oi := _) (v := ?_) rfl (by kernel_rfl) (by kernel_rfl) (by kernel_rfl) (fun _ _ _ h => h) (Or.inl ⟨by rfl, ?_⟩) (by assumption) ?_
    rotate_left
    · intro w' hSw; (try dsimp only at hSw); go_simp; (try with_reducible rfl)
    try simp only [Act.put, List.setIfInBounds_toArray, List.set_cons_zero, List.set_cons_succ]
    refine wpAnyH_take (i := 15) (oi := _) (v := ?_) rfl (by kernel_rfl) (by kernel_rfl) (by kernel_rfl) (fun _ _ _ h => h) (Or.inl ⟨by rfl, ?_⟩) (by assumption) ?_
    rotate_left
    · intro w' hSw; (try dsimp only at hSw); go_simp; (try with_reducible rfl)
    try simp only [Act.put, List.setIfInBounds_toArray, List.set_cons_zero, List.set_cons_succ]
    refine wpAnyH_take (i := 16) (oi := _) (v := ?_) rfl (by kernel_rfl) (by kernel_rfl) (by kernel_rfl) (fun _ _ _ h => h) (Or.inl ⟨by rfl, ?_⟩) (by assumption) ?_
    rotate_left
    · intro w' hSw; (try dsimp only at hSw); go_simp; (try with_reducible rfl)
    try simp only [Act.put, List.setIfInBounds_toArray, List.set_cons_zero, List.set_cons_succ]
    refine wpAnyH_take (i := 17) (oi := _) (v := ?_) rfl (by kernel_rfl) (by kernel_rfl) (by kernel_rfl) (fun _ _ _ h => h) (Or.inl ⟨by rfl, ?_⟩) (by assumption) ?_
    rotate_left
    · intro w' hSw; (try dsimp only at hSw); go_simp; (try with_reducible rfl)
    try simp only [Act.put, List.setIfInBounds_toArray, List.set_cons_zero, List.set_cons_succ]
    refine wpAnyH_take (i := 18) (oi := _) (v := ?_) rfl (by kernel_rfl) (by kernel_rfl) (by kernel_rfl) (fun _ _ _ h => h) (Or.inl ⟨by rfl, ?_⟩) (by assumption) ?_
    rotate_left
    · intro w' hSw; (try dsimp only at hSw); go_simp; (try with_reducible rfl)
    try simp only [Act.put, List.setIfInBounds_toArray, List.set_cons_zero, List.set_cons_succ]
    refine wpAnyH_take (i := 19) (oi := _) (v := ?_) rfl (by kernel_rfl) (by kernel_rfl) (by kernel_rfl) (fun _ _ _ h => h) (Or.inl ⟨by rfl, ?_⟩) (by assumption) ?_
    rotate_left
    · intro w' hSw; (try dsimp only at hSw); go_simp; (try with_reducible rfl)
    try simp only [Act.put, List.setIfInBounds_toArray, List.set_cons_zero, List.set_cons_succ]
    refine wpAnyH_take (i := 20) (oi := _) (v := ?_) rfl (by kernel_rfl) (by kernel_rfl) (by kernel_rfl) (fun _ _ _ h => h) (Or.inl ⟨by rfl, ?_⟩) (by assumption) ?_
    rotate_left
    · intro w' hSw; (try dsimp only at hSw); go_simp; (try with_reducible rfl)
    try simp only [Act.put, List.setIfInBounds_toArray, List.set_cons_zero, List.set_cons_succ]
    refine wpAnyH_take (i := 21) (oi := _) (v := ?_) rfl (by kernel_rfl) (by kernel_rfl) (by kernel_rfl) (fun _ _ _ h => h) (Or.inl ⟨by rfl, ?_⟩) (by assumption) ?_
    rotate_left
    · intro w' hSw; (try dsimp only at hSw); go_simp; (try with_reducible rfl)
    try simp only [Act.put, List.setIfInBounds_toArray, List.set_cons_zero, List.set_cons_succ]
    refine wpAnyH_take (i := 22) (oi := _) (v := ?_) rfl (by kernel_rfl) (by kernel_rfl) (by kernel_rfl) (fun _ _ _ h => h) (Or.inl ⟨by rfl, ?_⟩) (by assumption) ?_
    rotate_left
    · intro w' hSw; (try dsimp only at hSw); go_simp; (try with_reducible rfl)
    try simp only [Act.put, List.setIfInBounds_toArray, List.set_cons_zero, List.set_cons_succ]
    refine wpAnyH_take (i := 23) (oi := _) (v := ?_) rfl (by kernel_rfl) (by kernel_rfl) (by kernel_rfl) (fun _ _ _ h => h) (Or.inl ⟨by rfl, ?_⟩) (by assumption) ?_
    rotate_left
    · intro w' hSw; (try dsimp only at hSw); go_simp; (try with_reducible rfl)
    try simp only [Act.put, List.setIfInBounds_toArray, List.set_cons_zero, List.set_cons_succ]
    refine wpAnyH_ready (rs := [4]) (by kernel_rfl) (by simp) ?_
    refine AllReadyH.cons (o := _) rfl (fun K hK => ?_) AllReadyH.nil
    go_simp
    refine hK.out _ _ ?_ (fun hSd2 => ?_)
    · go_keep
    clear hK K
    try simp only [Act.put, List.setIfInBounds_toArray, List.set_cons_zero, List.set_cons_succ]
    refine wpAnyH_ready (rs := [5]) (by kernel_rfl) (by simp) ?_
    refine AllReadyH.cons (o := _) rfl (fun K hK => ?_) AllReadyH.nil
    go_simp
    refine HCH.out.mono ?_
    rintro e w4 ⟨A4, c4, rfl, ho4, hb4⟩
    have hlt0 : w.heap.size + 0 < (W3.alloc (Obj.cells #[Value.slice x.A x.n x.c, Value.slice y.A y.n y.c] 26)).drew.heap.size := by have := HSZ.out; show _ < (W3.alloc _).heap.size; simp; omega
    have hlt1 : w.heap.size + 1 < (W3.alloc (Obj.cells #[Value.slice x.A x.n x.c, Value.slice y.A y.n y.c] 26)).drew.heap.size := by have := HSZ.out; show _ < (W3.alloc _).heap.size; simp; omega
    have hlt2 : w.heap.size + 2 < (W3.alloc (Obj.cells #[Value.slice x.A x.n x.c, Value.slice y.A y.n y.c] 26)).drew.heap.size := by have := HSZ.out; show _ < (W3.alloc _).heap.size; simp; omega
    have X4 := (HX.out.alloc _).drew.below hb4 hlt0
    have Y4 := (HY.out.alloc _).drew.below hb4 hlt1
    have Z4 := (HZ.out.alloc _).drew.below hb4 hlt2
    have hrow : rowSz w4 (w.heap.size + 1 + 1) = some 3 := rowSz_of Z4
    have HO4 := Lib.hid ho4
    have HB4 := Lib.hid hb4
    clear ho4 hb4 hlt0 hlt1 hlt2
    refine hK.out _ _ ?_ (fun hSd3 => ?_)
    · exact ⟨X4.cell 0, X4.cell 1, X4.cell 2, Y4.cell 0, Y4.cell 1, Y4.cell 2⟩
    clear hK K
    try simp only [Act.put, List.setIfInBounds_toArray, List.set_cons_zero, List.set_cons_succ]
    refine wpAnyH_take (i := 24) (oi := _) (v := ?_) rfl (by kernel_rfl) (by kernel_rfl) (by kernel_rfl) (fun _ _ _ h => h) (Or.inl ⟨by rfl, ?_⟩) (by assumption) ?_
    rotate_left
    · intro w' hSw; (try dsimp only at hSw); go_simp; (try with_reducible rfl)
    try simp only [Act.put, List.setIfInBounds_toArray, List.set_cons_zero, List.set_cons_succ]
    refine wpAnyH_ready (rs := [25]) (by kernel_rfl) (by simp) ?_
    refine AllReadyH.cons (o := ⟨none, .store 34 (.tmp 4) (.tmp 37), 0, _, _, none⟩) rfl (fun K hK => ?_) AllReadyH.nil
    go_simp
    refine hK.out _ _ ?_ (fun hSd4 => ?_)
    · (rw [cell_far2, cell_far2, cell_far2, cell_setRow_far _ _ _ (w.heap.size + 1) 0 (by omega), cell_setRow_far _ _ _ (w.heap.size + 1) 1 (by omega), cell_setRow_far _ _ _ (w.heap.size + 1) 2 (by omega)]; exact hSd3)
    clear hK K
    try simp only [Act.put, List.setIfInBounds_toArray, List.set_cons_zero, List.set_cons_succ]
    refine wpAnyH_done (by kernel_rfl) ?_ _
    obtain ⟨X1, hX1⟩ : ∃ X1 : Int, X1 = (L1 : Int) + L2 - R1 := ⟨_, rfl⟩
    obtain ⟨X2, hX2⟩ : ∃ X2 : Int, X2 = (R2 : Int) + R1 - R1 := ⟨_, rfl⟩
    have hblk := Z4.setRow #[.slice A4 (SlT.all [x, y]).length c4, .int .i64 X1, .int .i64 X2]
    have e1 : IntKind.i64.wrap (IntKind.i64.wrap ((if (L1 : Int) < 0 then 0 else (L1 : Int)) + if (L2 : Int) < 0 then 0 else (L2 : Int)) - (R1 : Int)) = (L1 : Int) + L2 - R1 := by
      rw [if_neg (by omega), if_neg (by omega), wrap_ok ((L1 : Int) + L2) (by omega) (by omega), wrap_ok _ (by omega) (by omega)]
    have e2 : IntKind.i64.wrap (IntKind.i64.wrap ((if (R2 : Int) < 0 then 0 else (R2 : Int)) + if (R1 : Int) < 0 then 0 else (R1 : Int)) - (R1 : Int)) = (R2 : Int) + R1 - R1 := by
      rw [if_neg (by omega), if_neg (by omega), wrap_ok ((R2 : Int) + R1) (by omega) (by omega), wrap_ok _ (by omega) (by omega)]
    rw [e1, e2, ← hX1, ← hX2]
    have HX1 := Lib.hid hX1
    have HX2 := Lib.hid hX2
    clear hX1 hX2 e1 e2 hSd hSd2 hSd3 hSd4 x0 x1 x2 y0 y1 y2
    have HZ4 := Lib.hid Z4
    clear X4 Y4 Z4 hrow
    go_wp2
    refine bodyPost_ret (results_cell1 rfl slice_agg 3 slice_size _ _ ⟨w.heap.size + 1 + 1, 0, none⟩ _ rfl hblk.rd_) rfl ?_
    have hall : SlT.all [x, y] = x.l ++ y.l := by simp [SlT.all]
    have hlen : (SlT.all [x, y]).length = x.n + y.n := HO4.out.cap.2 ▸ (by rw [hall, List.length_append, HL.out.1, HL.out.2])
    have hO := HO4.out
    rw [hlen, hall] at hO
    refine ⟨A4, c4, ?_, ?_, ?_⟩
    · rw [← hlen]
      show Ending.returned (.agg #[_, .int .i64 X1, .int .i64 X2]) = _
      unfold joinP
      rw [HX1.out, HX2.out, show (L1 : Int) + L2 - R1 = ((L1 + L2 - min R1 L2 : Nat) : Int) from by omega, show (R2 : Int) + R1 - R1 = ((R2 + R1 - min R1 L2 : Nat) : Int) from by omega]
    · exact (hO.setRow_far (hO.ne_blk HZ4.out (by decide)) _).base_le (le_alloc HBW.out.size _)
    · exact bel_setRow (HBW.out.trans (((Below.refl _ _).alloc HBW.out.size _).drew.trans (HB4.out.mono (le_alloc HBW.out.size _)))) (by omega) _
end Go.Proofs.Ytkeeipfglmpgjaa
