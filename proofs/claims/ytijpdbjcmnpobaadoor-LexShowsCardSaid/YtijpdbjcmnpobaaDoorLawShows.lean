/-
  LexShows: the walk, at what comes in.
-/
import Derived.Test.YtijpdbjcmnpobaaDoorLx12
import Derived.Test.YtijpdbjcmnpobaaDoorArgsB
namespace Go.Proofs.YtijpdbjcmnpobaaDoor
set_option linter.unusedSimpArgs false
set_option linter.unusedVariables false
open Go.RowKit
def Sg.okI (x : Sg) : Prop := I64 x.low ∧ I64 x.high
theorem sgC_length (x : Sg) : (sgC x).length = 5 := by simp [sgC]
theorem wf_i64 {a : Int} (h : (Lit.int .i64 a).wf = true) : I64 a := by
  simp [Lit.wf] at h
  exact h
section
variable {H : Type} {encH : TypeId × Value → H} {w : World} {base : Nat} {spare : Nat → Bool} {held : Bool}
set_option maxRecDepth 100000 in
theorem el_sg (m : Nat) (cs : List Value) (y : DataW H × List MemPlace) (h : DataW.trod encH Tryd.prog w base spare held m 40 cs = some y) : ∃ t : Sg, cs = sgC t ∧ t.okI := by
  obtain ⟨xs, k, _, _, hlen, hxl, hx⟩ := DataW.trod_struct Tryd.underlying40 h
  have hC : Tryd.prog.cellsOf 40 = 5 := by kernel_rfl
  have hI : Tryd.prog.cellsOf 3 = 1 := by kernel_rfl
  have hS : Tryd.prog.cellsOf 9 = 1 := by kernel_rfl
  rw [hC] at hlen
  match cs, hlen, xs, hxl with
  | [c0, c1, c2, c3, c4], _, [x0, x1, x2, x3, x4], _ =>
    have f0 : DataW.trod encH Tryd.prog w base spare held k 3 (([c0, c1, c2, c3, c4].drop 0).take (Tryd.prog.cellsOf 3)) = [x0, x1, x2, x3, x4][0]? := hx 0 _ rfl
    have f1 : DataW.trod encH Tryd.prog w base spare held k 3 (([c0, c1, c2, c3, c4].drop 1).take (Tryd.prog.cellsOf 3)) = [x0, x1, x2, x3, x4][1]? := hx 1 _ rfl
    have f2 : DataW.trod encH Tryd.prog w base spare held k 3 (([c0, c1, c2, c3, c4].drop 2).take (Tryd.prog.cellsOf 3)) = [x0, x1, x2, x3, x4][2]? := hx 2 _ rfl
    have f3 : DataW.trod encH Tryd.prog w base spare held k 3 (([c0, c1, c2, c3, c4].drop 3).take (Tryd.prog.cellsOf 3)) = [x0, x1, x2, x3, x4][3]? := hx 3 _ rfl
    have f4 : DataW.trod encH Tryd.prog w base spare held k 9 (([c0, c1, c2, c3, c4].drop 4).take (Tryd.prog.cellsOf 9)) = [x0, x1, x2, x3, x4][4]? := hx 4 _ rfl
    rw [hI] at f0 f1 f2 f3
    rw [hS] at f4
    obtain ⟨a0, h0, _, w0⟩ := DataW.trod_int Tryd.underlying3 f0
    obtain ⟨a1, h1, _, w1⟩ := DataW.trod_int Tryd.underlying3 f1
    obtain ⟨a2, h2, _, w2⟩ := DataW.trod_int Tryd.underlying3 f2
    obtain ⟨a3, h3, _, w3⟩ := DataW.trod_int Tryd.underlying3 f3
    obtain ⟨b4, h4, _, w4⟩ := DataW.trod_string Tryd.underlying9 f4
    simp at h0 h1 h2 h3 h4
    subst h0; subst h1; subst h2; subst h3; subst h4
    exact ⟨⟨a0, a1, a2, a3, b4.data.toList⟩, rfl, wf_i64 w2, wf_i64 w3⟩
end
theorem sgC_one (x : Sg) : ∀ u ∈ sgC x, u.oneCell' = true := by
  intro u hu
  simp only [sgC, List.mem_cons, List.not_mem_nil, or_false] at hu
  rcases hu with rfl | rfl | rfl | rfl | rfl <;> rfl
theorem rep_sgs {w : World} {B : Nat} {A : Option Addr} {c : Nat} {l : List Sg} (h : Sl w B 5 sgC A l) (hc : l.length ≤ c) (hm : c ≤ maxLen) : Rep w (Env.just (allF w)) (.slice A l.length c) (sgsV l) :=
  rep_sl 5 (by omega) sgC sgC_one sgF default l hc hm h (fun i j _ hj => by
    match j, hj with
    | 0, _ => exact .imm _
    | 1, _ => exact .imm _
    | 2, _ => exact .imm _
    | 3, _ => exact .imm _
    | 4, _ => exact .imm _)
theorem LexShows_walk (W : World) (hL : LibW W) (a : Option Addr) (n c : Nat) (l : List Sg) (hn : l.length = n) (sl : Sl W W.heap.size 5 sgC a l) (hc : n ≤ c) (hm : c ≤ 9223372036854775807) (hok : ∀ x ∈ l, x.okI) :
    Calls Tryd.prog 6 #[.slice a n c] W fun e w' => e = .returned (.bool true) ∧ Below W.heap.size W w' := by
  subst hn
  exact law_walk (lexShows_h l hok) W [.slice a l.length c] ⟨rep_sgs sl hc (by unfold maxLen; omega), trivial⟩ hL
end Go.Proofs.YtijpdbjcmnpobaaDoor
