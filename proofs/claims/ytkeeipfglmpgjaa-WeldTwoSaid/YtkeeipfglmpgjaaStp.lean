/-
  Steps and sets: their cells, what loads and stores of one do, and how a row of them that comes in reads.
-/
import Derived.Test.YtkeeipfglmpgjaaArgs
import Derived.Test.YtkeeipfglmpgjaaMid
namespace Go.Proofs.Ytkeeipfglmpgjaa
set_option linter.unusedSimpArgs false
set_option linter.unusedVariables false
open Go.ChangeShapes Go.WideShapes Go.ChangeAt Go.RowKit Go.Deep

theorem rd_alloc_new (w : World) (cs : List Value) (t : TypeId) (n : Nat) (h : cs.length = n) : rd (w.alloc (.cells cs.toArray t)) ⟨w.heap.size, 0, none⟩ n = some cs := by
  have := (Blk.new w t cs.toArray).rd_
  subst h
  simpa using this
/-- A set of marks. -/
structure Mks where
  m0 : Int
  m1 : Int
  m2 : Int
  m3 : Int
  m4 : Int
  m5 : Int
  m6 : Int
  m7 : Int
theorem Mks.eq_iff (s t : Mks) : (s.m0 = t.m0 ∧ s.m1 = t.m1 ∧ s.m2 = t.m2 ∧ s.m3 = t.m3 ∧ s.m4 = t.m4 ∧ s.m5 = t.m5 ∧ s.m6 = t.m6 ∧ s.m7 = t.m7) ↔ s = t := by
  cases s; cases t; simp only [Mks.mk.injEq]
instance mksDec : DecidableEq Mks := fun s t => decidable_of_iff _ (Mks.eq_iff s t)
def Mks.cells (t : Mks) : List Value := [.int .u16 t.m0, .int .u16 t.m1, .int .u16 t.m2, .int .u16 t.m3, .int .u16 t.m4, .int .u16 t.m5, .int .u16 t.m6, .int .u16 t.m7]
theorem Mks.cells_length (t : Mks) : t.cells.length = 8 := by simp [Mks.cells]
theorem mks_agg : ∀ w, (isAgg 41).run Try.prog w = .ok true w := fun w => by kernel_rfl
theorem mks_size : ∀ w, (sizeOf 41).run Try.prog w = .ok 8 w := fun w => by kernel_rfl
theorem run_load_mks (w : World) (ρ : Operand → Value) (x : Operand) (d : Option Tmp) (ty : TypeId) (pos : String) (af : Array _) (g : Option _) :
    (execOp ρ ⟨d, .load 41 x, ty, pos, af, g⟩).run Try.prog w = aggLoad Try.prog 41 8 w (ρ x) := run_load_agg _ mks_agg 8 mks_size w ρ x d ty pos af g
theorem run_eqmks (w : World) (s t : Mks) (d : Nat) : (Op.equalIn (d + 2) 41 (.agg s.cells.toArray) (.agg t.cells.toArray)).run Try.prog w = .ok (decide (s = t)) w := by
  obtain ⟨a0, a1, a2, a3, a4, a5, a6, a7⟩ := s
  obtain ⟨b0, b1, b2, b3, b4, b5, b6, b7⟩ := t
  refine (eq_marks w a0 a1 a2 a3 a4 a5 a6 a7 b0 b1 b2 b3 b4 b5 b6 b7 d).trans ?_
  congr 1
  exact decide_eq_decide.2 (Mks.eq_iff ⟨a0, a1, a2, a3, a4, a5, a6, a7⟩ ⟨b0, b1, b2, b3, b4, b5, b6, b7⟩)
theorem run_eql_mks (w : World) (s t : Mks) : (binOp .eql 41 (.agg s.cells.toArray) (.agg t.cells.toArray)).run Try.prog w = .ok (.bool (decide (s = t))) w := by
  simp only [run_eql_struct, run_eqmks w s t 9998, Result.andThen_ok]
theorem run_neq_mks (w : World) (s t : Mks) : (binOp .neq 41 (.agg s.cells.toArray) (.agg t.cells.toArray)).run Try.prog w = .ok (.bool (!decide (s = t))) w := by
  simp only [run_neq_struct, run_eqmks w s t 9998, Result.andThen_ok]
theorem mks_one (t : Mks) : ∀ u ∈ t.cells, u.oneCell' = true := by
  intro u hu
  simp only [Mks.cells, List.mem_cons, List.not_mem_nil, or_false] at hu
  rcases hu with rfl | rfl | rfl | rfl | rfl | rfl | rfl | rfl <;> rfl
theorem mksElem : Elem Try.prog 75 41 8 16 :=
  ⟨Try.underlying75, info_some (z := .agg #[.int .u16 0, .int .u16 0, .int .u16 0, .int .u16 0, .int .u16 0, .int .u16 0, .int .u16 0, .int .u16 0]) (by kernel_rfl) rfl, by omega, by omega⟩

/-- What a step says. -/
structure St where
  k : Int
  f : Int
  t : Int
  gf : Int
  gt : Int
  ins : Int
  mark : Int
  vl : Int
  sl : List Tok
  sets : List Mks
theorem St.eq_iff (x y : St) : (x.k = y.k ∧ x.f = y.f ∧ x.t = y.t ∧ x.gf = y.gf ∧ x.gt = y.gt ∧ x.ins = y.ins ∧ x.mark = y.mark ∧ x.vl = y.vl ∧ x.sl = y.sl ∧ x.sets = y.sets) ↔ x = y := by
  cases x; cases y; simp only [St.mk.injEq]
instance stDec : DecidableEq St := fun s t => decidable_of_iff _ (St.eq_iff s t)
def St.none : St := ⟨0, 0, 0, 0, 0, 0, 0, 0, [], []⟩
/-- A step as memory has it: with where its rows lie. -/
structure Stp where
  v : St
  a1 : Option Addr
  n1 : Nat
  c1 : Nat
  a2 : Option Addr
  n2 : Nat
  c2 : Nat
def Stp.cells (x : Stp) : List Value := [.int .i64 x.v.k, .int .i64 x.v.f, .int .i64 x.v.t, .int .i64 x.v.gf, .int .i64 x.v.gt, .int .i64 x.v.ins, .int .i64 x.v.mark, .int .i64 x.v.vl, .slice x.a1 x.n1 x.c1, .slice x.a2 x.n2 x.c2]
theorem Stp.cells_length (x : Stp) : x.cells.length = 10 := by simp [Stp.cells]
theorem stp_one (x : Stp) : ∀ u ∈ x.cells, u.oneCell' = true := by
  intro u hu
  simp only [Stp.cells, List.mem_cons, List.not_mem_nil, or_false] at hu
  rcases hu with rfl | rfl | rfl | rfl | rfl | rfl | rfl | rfl | rfl | rfl <;> rfl
theorem cells_stp (x : Stp) : (∀ u, u ∈ x.cells → u.oneCell' = true) = True := by simp only [eq_iff_iff, iff_true]; exact stp_one x
theorem stpElem : Elem Try.prog 73 77 10 112 :=
  ⟨Try.underlying73, info_some (z := .agg #[.int .i64 0, .int .i64 0, .int .i64 0, .int .i64 0, .int .i64 0, .int .i64 0, .int .i64 0, .int .i64 0, .slice none 0 0, .slice none 0 0]) (by kernel_rfl) rfl, by omega, by omega⟩
theorem build_stp (x : Stp) : List.foldl (fun (cs : Array Value) (y : Value × Nat) => cs.setIfInBounds y.2 y.1) #[Value.int .i64 0, Value.int .i64 0, Value.int .i64 0, Value.int .i64 0, Value.int .i64 0, Value.int .i64 0, Value.int .i64 0, Value.int .i64 0, Value.slice none 0 0, Value.slice none 0 0] x.cells.zipIdx = x.cells.toArray := by
  simp [Stp.cells]
def Stp.Ok (w : World) (B : Nat) (x : Stp) : Prop := x.v.sl.length = x.n1 ∧ x.v.sets.length = x.n2 ∧ Sl w B 12 Tok.cells x.a1 x.v.sl ∧ Sl w B 8 Mks.cells x.a2 x.v.sets ∧ x.n1 ≤ x.c1 ∧ x.n2 ≤ x.c2
theorem Stp.Ok.keep {w w' : World} {B : Nat} {x : Stp} (h : x.Ok w B) {B' : Nat} (hB : B ≤ B') (hb : Below B' w w') : x.Ok w' B :=
  ⟨h.1, h.2.1, h.2.2.1.below (hb.mono hB), h.2.2.2.1.below (hb.mono hB), h.2.2.2.2⟩
def Stp.none : Stp := ⟨St.none, Option.none, 0, 0, Option.none, 0, 0⟩
theorem Stp.none_ok (w : World) (B : Nat) : Stp.none.Ok w B := ⟨rfl, rfl, ⟨Tok.cells_length, Reads.none_⟩, ⟨Mks.cells_length, Reads.none_⟩, Nat.le_refl _, Nat.le_refl _⟩
def Stp.inOk (w : World) (x : Stp) : Prop := x.Ok w w.heap.size ∧ x.c1 ≤ 9223372036854775807 ∧ x.c2 ≤ 9223372036854775807 ∧ okInt x.v.k ∧ okInt x.v.f ∧ okInt x.v.t ∧ okInt x.v.gf ∧ okInt x.v.gt ∧ okInt x.v.ins ∧ okInt x.v.mark ∧ okInt x.v.vl

section
variable {H : Type} {encH : TypeId × Value → H} {w : World} {base : Nat} {spare : Nat → Bool} {held : Bool}
theorem el_mks (m : Nat) (cs : List Value) (y : DataW H × List MemPlace) (h : DataW.trod encH Try.prog w base spare held m 41 cs = some y) : ∃ t : Mks, cs = t.cells ∧ True := by
  obtain ⟨m0, m1, m2, m3, m4, m5, m6, m7, h4, w4⟩ := el_marks Try.underlying41 Try.underlying39 (by kernel_rfl) (by kernel_rfl) _ _ _ h
  exact ⟨⟨m0, m1, m2, m3, m4, m5, m6, m7⟩, h4, trivial⟩
theorem trod_slice_form {P : Program} {t e : TypeId} (ht : P.underlying t = some (.slice e)) {fuel : Nat} {v : Value} {x : DataW H × List MemPlace} (hf : DataW.trod encH P w base spare held fuel t [v] = some x) : ∃ A n c, v = .slice A n c := by
  rcases open_slice ht hf with ⟨h0, _⟩ | ⟨a, len, cap, m, k, D, Pl, hcs, _⟩
  · injection h0 with h0 _; exact ⟨_, _, _, h0⟩
  · injection hcs with h0 _; exact ⟨_, _, _, h0⟩
set_option maxRecDepth 100000 in
theorem el_stp (m : Nat) (cs : List Value) (y : DataW H × List MemPlace) (h : DataW.trod encH Try.prog w base spare held m 77 cs = some y) : ∃ t : Stp, cs = t.cells ∧ t.inOk w := by
  obtain ⟨xs, k, _, _, hlen, hxl, hx⟩ := DataW.trod_struct Try.underlying77 h
  have hC : Try.prog.cellsOf 77 = 10 := by kernel_rfl
  have hI : Try.prog.cellsOf 3 = 1 := by kernel_rfl
  have hT : Try.prog.cellsOf 26 = 1 := by kernel_rfl
  have hM : Try.prog.cellsOf 75 = 1 := by kernel_rfl
  rw [hC] at hlen
  match cs, hlen, xs, hxl with
  | [c0, c1, c2, c3, c4, c5, c6, c7, c8, c9], _, [x0, x1, x2, x3, x4, x5, x6, x7, x8, x9], _ =>
    have f0 : DataW.trod encH Try.prog w base spare held k 3 (([c0, c1, c2, c3, c4, c5, c6, c7, c8, c9].drop 0).take (Try.prog.cellsOf 3)) = [x0, x1, x2, x3, x4, x5, x6, x7, x8, x9][0]? := hx 0 _ rfl
    have f1 : DataW.trod encH Try.prog w base spare held k 3 (([c0, c1, c2, c3, c4, c5, c6, c7, c8, c9].drop 1).take (Try.prog.cellsOf 3)) = [x0, x1, x2, x3, x4, x5, x6, x7, x8, x9][1]? := hx 1 _ rfl
    have f2 : DataW.trod encH Try.prog w base spare held k 3 (([c0, c1, c2, c3, c4, c5, c6, c7, c8, c9].drop 2).take (Try.prog.cellsOf 3)) = [x0, x1, x2, x3, x4, x5, x6, x7, x8, x9][2]? := hx 2 _ rfl
    have f3 : DataW.trod encH Try.prog w base spare held k 3 (([c0, c1, c2, c3, c4, c5, c6, c7, c8, c9].drop 3).take (Try.prog.cellsOf 3)) = [x0, x1, x2, x3, x4, x5, x6, x7, x8, x9][3]? := hx 3 _ rfl
    have f4 : DataW.trod encH Try.prog w base spare held k 3 (([c0, c1, c2, c3, c4, c5, c6, c7, c8, c9].drop 4).take (Try.prog.cellsOf 3)) = [x0, x1, x2, x3, x4, x5, x6, x7, x8, x9][4]? := hx 4 _ rfl
    have f5 : DataW.trod encH Try.prog w base spare held k 3 (([c0, c1, c2, c3, c4, c5, c6, c7, c8, c9].drop 5).take (Try.prog.cellsOf 3)) = [x0, x1, x2, x3, x4, x5, x6, x7, x8, x9][5]? := hx 5 _ rfl
    have f6 : DataW.trod encH Try.prog w base spare held k 3 (([c0, c1, c2, c3, c4, c5, c6, c7, c8, c9].drop 6).take (Try.prog.cellsOf 3)) = [x0, x1, x2, x3, x4, x5, x6, x7, x8, x9][6]? := hx 6 _ rfl
    have f7 : DataW.trod encH Try.prog w base spare held k 3 (([c0, c1, c2, c3, c4, c5, c6, c7, c8, c9].drop 7).take (Try.prog.cellsOf 3)) = [x0, x1, x2, x3, x4, x5, x6, x7, x8, x9][7]? := hx 7 _ rfl
    have f8 : DataW.trod encH Try.prog w base spare held k 26 (([c0, c1, c2, c3, c4, c5, c6, c7, c8, c9].drop 8).take (Try.prog.cellsOf 26)) = [x0, x1, x2, x3, x4, x5, x6, x7, x8, x9][8]? := hx 8 _ rfl
    have f9 : DataW.trod encH Try.prog w base spare held k 75 (([c0, c1, c2, c3, c4, c5, c6, c7, c8, c9].drop 9).take (Try.prog.cellsOf 75)) = [x0, x1, x2, x3, x4, x5, x6, x7, x8, x9][9]? := hx 9 _ rfl
    rw [hI] at f0 f1 f2 f3 f4 f5 f6 f7
    rw [hT] at f8
    rw [hM] at f9
    obtain ⟨a0, h0, _, w0⟩ := DataW.trod_int Try.underlying3 f0
    obtain ⟨a1, h1, _, w1⟩ := DataW.trod_int Try.underlying3 f1
    obtain ⟨a2, h2, _, w2⟩ := DataW.trod_int Try.underlying3 f2
    obtain ⟨a3, h3, _, w3⟩ := DataW.trod_int Try.underlying3 f3
    obtain ⟨a4, h4, _, w4⟩ := DataW.trod_int Try.underlying3 f4
    obtain ⟨a5, h5, _, w5⟩ := DataW.trod_int Try.underlying3 f5
    obtain ⟨a6, h6, _, w6⟩ := DataW.trod_int Try.underlying3 f6
    obtain ⟨a7, h7, _, w7⟩ := DataW.trod_int Try.underlying3 f7
    simp at h0 h1 h2 h3 h4 h5 h6 h7
    subst h0; subst h1; subst h2; subst h3; subst h4; subst h5; subst h6; subst h7
    simp only [List.drop_succ_cons, List.drop_zero, List.take_succ_cons, List.take_zero] at f8 f9
    obtain ⟨A, n, c, rfl⟩ := trod_slice_form Try.underlying26 f8
    obtain ⟨A', n', c', rfl⟩ := trod_slice_form Try.underlying75 f9
    obtain ⟨l1, e1, s1, o1, m1, _⟩ := open_sl Try.underlying26 12 (by kernel_rfl) (by omega) Tok.cells Tok.cells_length Tok.ok el_tok f8
    obtain ⟨l2, e2, s2, o2, m2, _⟩ := open_sl Try.underlying75 8 (by kernel_rfl) (by omega) Mks.cells Mks.cells_length (fun _ => True) el_mks f9
    exact ⟨⟨⟨a0, a1, a2, a3, a4, a5, a6, a7, l1, l2⟩, A, n, c, A', n', c'⟩, rfl, ⟨e1, e2, s1, s2, o1, o2⟩, m1, m2, w0, w1, w2, w3, w4, w5, w6, w7⟩
end
end Go.Proofs.Ytkeeipfglmpgjaa
