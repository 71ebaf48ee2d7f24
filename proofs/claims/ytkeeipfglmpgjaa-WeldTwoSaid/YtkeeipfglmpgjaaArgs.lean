/-
  How arguments that come in read as lists: tokens.
-/
import Derived.Test.YtkeeipfglmpgjaaTok
import Derived.Test.YtkeeipfglmpgjaaArgsB
namespace Go.Proofs.Ytkeeipfglmpgjaa
set_option linter.unusedSimpArgs false
set_option linter.unusedVariables false
open Go.ChangeShapes Go.WideShapes Go.ChangeAt Go.RowKit Go.Deep

def Tok.ok (t : Tok) : Prop := okInt t.kind ∧ okInt t.typ ∧ okInt t.attr ∧ (Lit.int .i32 t.rune).wf = true ∧ ∀ m ∈ [t.m0, t.m1, t.m2, t.m3, t.m4, t.m5, t.m6, t.m7], (Lit.int .u16 m).wf = true
section
theorem el_marks {H : Type} {encH : TypeId × Value → H} {P : Program} {w : World} {base : Nat} {spare : Nat → Bool} {held : Bool} {e i : TypeId} (he : P.underlying e = some (.array 8 i)) (hi : P.underlying i = some (.int .u16)) (hci : P.cellsOf i = 1) (hce : P.cellsOf e = 8) (m : Nat) (cs : List Value) (y : DataW H × List MemPlace) (h : DataW.trod encH P w base spare held m e cs = some y) :
    ∃ m0 m1 m2 m3 m4 m5 m6 m7 : Int, cs = [.int .u16 m0, .int .u16 m1, .int .u16 m2, .int .u16 m3, .int .u16 m4, .int .u16 m5, .int .u16 m6, .int .u16 m7] ∧ ∀ m ∈ [m0, m1, m2, m3, m4, m5, m6, m7], (Lit.int .u16 m).wf = true := by
  obtain ⟨xs, k, _, _, hlen, hxl, hx⟩ := DataW.trod_array he h
  rw [hce] at hlen
  rw [hci] at hx
  match cs, hlen, xs, hxl with
  | [c0, c1, c2, c3, c4, c5, c6, c7], _, [x0, x1, x2, x3, x4, x5, x6, x7], _ =>
    obtain ⟨a0, h0, _, w0⟩ := DataW.trod_int hi (hx 0 (by omega))
    obtain ⟨a1, h1, _, w1⟩ := DataW.trod_int hi (hx 1 (by omega))
    obtain ⟨a2, h2, _, w2⟩ := DataW.trod_int hi (hx 2 (by omega))
    obtain ⟨a3, h3, _, w3⟩ := DataW.trod_int hi (hx 3 (by omega))
    obtain ⟨a4, h4, _, w4⟩ := DataW.trod_int hi (hx 4 (by omega))
    obtain ⟨a5, h5, _, w5⟩ := DataW.trod_int hi (hx 5 (by omega))
    obtain ⟨a6, h6, _, w6⟩ := DataW.trod_int hi (hx 6 (by omega))
    obtain ⟨a7, h7, _, w7⟩ := DataW.trod_int hi (hx 7 (by omega))
    simp at h0 h1 h2 h3 h4 h5 h6 h7
    subst h0; subst h1; subst h2; subst h3; subst h4; subst h5; subst h6; subst h7
    refine ⟨a0, a1, a2, a3, a4, a5, a6, a7, rfl, fun m hm => ?_⟩
    simp only [List.mem_cons, List.not_mem_nil, or_false] at hm
    rcases hm with rfl | rfl | rfl | rfl | rfl | rfl | rfl | rfl <;> assumption
end
section
variable {H : Type} {encH : TypeId × Value → H} {w : World} {base : Nat} {spare : Nat → Bool} {held : Bool}
set_option maxRecDepth 100000 in
theorem el_tok (m : Nat) (cs : List Value) (y : DataW H × List MemPlace) (h : DataW.trod encH Try.prog w base spare held m 43 cs = some y) : ∃ t : Tok, cs = t.cells ∧ t.ok := by
  obtain ⟨xs, k, _, _, hlen, hxl, hx⟩ := DataW.trod_struct Try.underlying43 h
  have hC : Try.prog.cellsOf 43 = 12 := by kernel_rfl
  have hI : Try.prog.cellsOf 3 = 1 := by kernel_rfl
  have hR : Try.prog.cellsOf 21 = 1 := by kernel_rfl
  have hM : Try.prog.cellsOf 41 = 8 := by kernel_rfl
  rw [hC] at hlen
  match cs, hlen, xs, hxl with
  | [c0, c1, c2, c3, c4, c5, c6, c7, c8, c9, c10, c11], _, [x0, x1, x2, x3, x4], _ =>
    have f0 : DataW.trod encH Try.prog w base spare held k 3 (([c0, c1, c2, c3, c4, c5, c6, c7, c8, c9, c10, c11].drop 0).take (Try.prog.cellsOf 3)) = [x0, x1, x2, x3, x4][0]? := hx 0 _ rfl
    have f1 : DataW.trod encH Try.prog w base spare held k 3 (([c0, c1, c2, c3, c4, c5, c6, c7, c8, c9, c10, c11].drop 1).take (Try.prog.cellsOf 3)) = [x0, x1, x2, x3, x4][1]? := hx 1 _ rfl
    have f2 : DataW.trod encH Try.prog w base spare held k 3 (([c0, c1, c2, c3, c4, c5, c6, c7, c8, c9, c10, c11].drop 2).take (Try.prog.cellsOf 3)) = [x0, x1, x2, x3, x4][2]? := hx 2 _ rfl
    have f3 : DataW.trod encH Try.prog w base spare held k 21 (([c0, c1, c2, c3, c4, c5, c6, c7, c8, c9, c10, c11].drop 3).take (Try.prog.cellsOf 21)) = [x0, x1, x2, x3, x4][3]? := hx 3 _ rfl
    have f4 : DataW.trod encH Try.prog w base spare held k 41 (([c0, c1, c2, c3, c4, c5, c6, c7, c8, c9, c10, c11].drop 4).take (Try.prog.cellsOf 41)) = [x0, x1, x2, x3, x4][4]? := hx 4 _ rfl
    rw [hI] at f0 f1 f2
    rw [hR] at f3
    rw [hM] at f4
    obtain ⟨a0, h0, _, w0⟩ := DataW.trod_int Try.underlying3 f0
    obtain ⟨a1, h1, _, w1⟩ := DataW.trod_int Try.underlying3 f1
    obtain ⟨a2, h2, _, w2⟩ := DataW.trod_int Try.underlying3 f2
    obtain ⟨a3, h3, _, w3⟩ := DataW.trod_int Try.underlying21 f3
    obtain ⟨m0, m1, m2, m3, m4, m5, m6, m7, h4, w4⟩ := el_marks Try.underlying41 Try.underlying39 (by kernel_rfl) (by kernel_rfl) _ _ _ f4
    simp at h0 h1 h2 h3 h4
    obtain ⟨rfl, rfl, rfl, rfl, rfl, rfl, rfl, rfl⟩ := h4
    subst h0; subst h1; subst h2; subst h3
    exact ⟨⟨a0, a1, a2, a3, m0, m1, m2, m3, m4, m5, m6, m7⟩, rfl, w0, w1, w2, w3, w4⟩
end
end Go.Proofs.Ytkeeipfglmpgjaa
