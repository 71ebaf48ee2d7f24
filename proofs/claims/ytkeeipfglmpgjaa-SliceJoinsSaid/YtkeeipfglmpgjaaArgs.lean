/-
  How arguments that come in read as lists: slices of tokens, of pairs, of bools, of numbers.
-/
import Derived.Test.YtkeeipfglmpgjaaTok
import Derived.ProofKit
import Derived.OpenShut
import Derived.ChangeOld
import Derived.Deep.Slices
namespace Go.Proofs.Ytkeeipfglmpgjaa
set_option linter.unusedSimpArgs false
set_option linter.unusedVariables false
open Go.ChangeShapes Go.WideShapes Go.ChangeAt Go.RowKit Go.Deep

section
variable {H : Type} {encH : TypeId × Value → H} {P : Program} {w : World} {base : Nat} {spare : Nat → Bool} {held : Bool}

/-- A slice that came in, element by element. -/
theorem open_sl {α : Type} {t e : TypeId} {fuel : Nat} {A : Option Addr} {n c : Nat} {x : DataW H × List MemPlace} (ht : P.underlying t = some (.slice e)) (size : Nat) (hC : P.cellsOf e = size) (hpos : 0 < size)
    (enc : α → List Value) (henc : ∀ a, (enc a).length = size) (ok : α → Prop)
    (hel : ∀ (m : Nat) (cs : List Value) (y : DataW H × List MemPlace), DataW.trod encH P w base spare held m e cs = some y → ∃ a : α, cs = enc a ∧ ok a)
    (hf : DataW.trod encH P w base spare held fuel t [.slice A n c] = some x) :
    ∃ l : List α, l.length = n ∧ Sl w w.heap.size size enc A l ∧ n ≤ c ∧ c ≤ 9223372036854775807 ∧ ∀ a ∈ l, ok a := by
  rcases open_slice ht hf with ⟨h0, _⟩ | ⟨a, len, cap, m, k, D, Pl, hcs, hb, hl, hm, hmm, hx, hi⟩
  · injection h0 with h0 _
    injection h0 with h1 h2 h3
    subst h1; subst h2; subst h3
    exact ⟨[], rfl, ⟨henc, Reads.none_⟩, by omega, by omega, by simp⟩
  · injection hcs with h0 _
    injection h0 with h1 h2 h3
    subst h1; subst h2; subst h3
    have hnm : n ≤ m := by rw [hmm]; split <;> omega
    have each : ∀ k, k ≤ n → ∃ l : List α, l.length = k ∧ (∀ i (hi : i < l.length), w.cells? base (a.add (i * size)) size = some (enc l[i])) ∧ ∀ y ∈ l, ok y := by
      intro k
      induction k with
      | zero => intro _; exact ⟨[], rfl, fun i hi => by simp at hi, by simp⟩
      | succ k ih =>
        intro hk
        obtain ⟨l, hl1, hl2, hl3⟩ := ih (by omega)
        obtain ⟨cs', h1, h2⟩ := hi k (by omega)
        rw [hC] at h1
        obtain ⟨a', rfl, hok⟩ := hel _ _ _ h2
        refine ⟨l ++ [a'], by simp [hl1], fun i hi => ?_, fun y hy => ?_⟩
        · by_cases hik : i < l.length
          · rw [List.getElem_append_left hik]; exact hl2 i hik
          · have : i = k := by simp at hi; omega
            subst this
            simp [hl1, h1]
        · rcases List.mem_append.1 hy with hy | hy
          · exact hl3 y hy
          · simp at hy; subst hy; exact hok
    obtain ⟨l, hl1, hl2, hl3⟩ := each n (Nat.le_refl _)
    refine ⟨l, hl1, ⟨henc, ?_, fun hn => ?_⟩, hl, by unfold maxLen at hm; omega, hl3⟩
    · have : ∀ m : List α, (m.flatMap enc).length = m.length * size := by
        intro m
        induction m with
        | nil => simp
        | cons x m ih => simp [List.flatMap_cons, ih, henc, Nat.add_mul, Nat.add_comm]
      exact this l
    · refine ⟨a, rfl, ?_, fun j u hu => ?_⟩
      · have h0 := hl2 0 hn
        have := World.cells?_block h0 hpos
        rwa [block_of_add] at this
      · have hfl : (l.flatMap enc).length = l.length * size := by
          have : ∀ m : List α, (m.flatMap enc).length = m.length * size := by
            intro m
            induction m with
            | nil => simp
            | cons x m ih => simp [List.flatMap_cons, ih, henc, Nat.add_mul, Nat.add_comm]
          exact this l
        have hj : j < l.length * size := by
          rcases Nat.lt_or_ge j (l.flatMap enc).length with hlt | hge
          · rw [hfl] at hlt; exact hlt
          · rw [List.getElem?_eq_none hge] at hu; cases hu
        have hjd : j / size < l.length := (Nat.div_lt_iff_lt_mul hpos).2 hj
        have hjm : j % size < size := Nat.mod_lt _ hpos
        have e1 : j = j / size * size + j % size := by rw [Nat.mul_comm]; exact (Nat.div_add_mod j size).symm
        rw [e1] at hu ⊢
        rw [flatMap_at henc _ _ _ hjd hjm] at hu
        have := (World.cells?_some (hl2 _ hjd)).2.2 (j % size) hjm
        rw [add_of_add] at this
        rw [this, hu]

def okInt (x : Int) : Prop := (Lit.int .i64 x).wf = true
def okPair (p : Int × Int) : Prop := okInt p.1 ∧ okInt p.2

theorem el_bool {e : TypeId} (he : P.underlying e = some .bool) (m : Nat) (cs : List Value) (y : DataW H × List MemPlace) (h : DataW.trod encH P w base spare held m e cs = some y) : ∃ a : Bool, cs = boolC a ∧ True := by
  obtain ⟨b, rfl, _⟩ := DataW.trod_bool he h
  exact ⟨b, rfl, trivial⟩
theorem el_int {e : TypeId} (he : P.underlying e = some (.int .i64)) (m : Nat) (cs : List Value) (y : DataW H × List MemPlace) (h : DataW.trod encH P w base spare held m e cs = some y) : ∃ a : Int, cs = intC a ∧ okInt a := by
  obtain ⟨b, rfl, _, hw⟩ := DataW.trod_int he h
  exact ⟨b, rfl, hw⟩
theorem el_pair {e i : TypeId} (he : P.underlying e = some (.array 2 i)) (hi : P.underlying i = some (.int .i64)) (hci : P.cellsOf i = 1) (hce : P.cellsOf e = 2) (m : Nat) (cs : List Value) (y : DataW H × List MemPlace) (h : DataW.trod encH P w base spare held m e cs = some y) :
    ∃ a : Int × Int, cs = pairC a ∧ okPair a := by
  obtain ⟨xs, k, _, _, hlen, hxl, hx⟩ := DataW.trod_array he h
  rw [hce] at hlen
  rw [hci] at hx
  match cs, hlen, xs, hxl with
  | [c0, c1], _, [x0, x1], _ =>
    obtain ⟨a, h0, _, w0⟩ := DataW.trod_int hi (hx 0 (by omega))
    obtain ⟨b, h1, _, w1⟩ := DataW.trod_int hi (hx 1 (by omega))
    simp at h0 h1
    subst h0; subst h1
    exact ⟨(a, b), rfl, w0, w1⟩
def Tok.ok (t : Tok) : Prop := okInt t.kind ∧ okInt t.typ ∧ okInt t.attr ∧ (Lit.int .i32 t.rune).wf = true ∧ ∀ m ∈ [t.m0, t.m1, t.m2, t.m3, t.m4, t.m5, t.m6, t.m7], (Lit.int .u16 m).wf = true
theorem el_marks {P : Program} {w : World} {base : Nat} {spare : Nat → Bool} {held : Bool} {e i : TypeId} (he : P.underlying e = some (.array 8 i)) (hi : P.underlying i = some (.int .u16)) (hci : P.cellsOf i = 1) (hce : P.cellsOf e = 8) (m : Nat) (cs : List Value) (y : DataW H × List MemPlace) (h : DataW.trod encH P w base spare held m e cs = some y) :
    ∃ m0 m1 m2 m3 m4 m5 m6 m7 : Int, cs = [.int .u16 m0, .int .u16 m1, .int .u16 m2, .int .u16 m3, .int .u16 m4, .int .u16 m5, .int .u16 m6, .int .u16 m7] ∧ ∀ m ∈ [m0, m1, m2, m3, m4, m5, m6, m7], (Lit.int .u16 m).wf = true := by
  obtain ⟨xs, k, _, _, hlen, hxl, hx⟩ := DataW.trod_array he h
  rw [hce] at hlen
  rw [hci] at hx
  match cs, hlen, xs, hxl with
  | [c0, c1, c2, c3, c4, c5, c6, c7], _, [x0, x1, x2, x3, x4, x5, x6, x7], _ =>
    obtain ⟨a0, h0, _, w0⟩ := DataW.trod_int hi (hx 0 (by omega))
    obtain ⟨a1, h1, _, w1⟩ := DataW.trod_int hi (hx 1 (by omega))
    obtain ⟨a2, h2, _, w2⟩ := DataW.trod_int hi (hx 2 (by omega))
    obtain ⟨a3, h3, _, w3⟩ := DataW.trod_int hi (hx 3 (by omega))
    obtain ⟨a4, h4, _, w4⟩ := DataW.trod_int hi (hx 4 (by omega))
    obtain ⟨a5, h5, _, w5⟩ := DataW.trod_int hi (hx 5 (by omega))
    obtain ⟨a6, h6, _, w6⟩ := DataW.trod_int hi (hx 6 (by omega))
    obtain ⟨a7, h7, _, w7⟩ := DataW.trod_int hi (hx 7 (by omega))
    simp at h0 h1 h2 h3 h4 h5 h6 h7
    subst h0; subst h1; subst h2; subst h3; subst h4; subst h5; subst h6; subst h7
    refine ⟨a0, a1, a2, a3, a4, a5, a6, a7, rfl, fun m hm => ?_⟩
    simp only [List.mem_cons, List.not_mem_nil, or_false] at hm
    rcases hm with rfl | rfl | rfl | rfl | rfl | rfl | rfl | rfl <;> assumption
end
section
variable {H : Type} {encH : TypeId × Value → H} {w : World} {base : Nat} {spare : Nat → Bool} {held : Bool}
set_option maxRecDepth 100000 in
theorem el_tok (m : Nat) (cs : List Value) (y : DataW H × List MemPlace) (h : DataW.trod encH Try.prog w base spare held m 43 cs = some y) : ∃ t : Tok, cs = t.cells ∧ t.ok := by
  obtain ⟨xs, k, _, _, hlen, hxl, hx⟩ := DataW.trod_struct Try.underlying43 h
  have hC : Try.prog.cellsOf 43 = 12 := by kernel_rfl
  have hI : Try.prog.cellsOf 3 = 1 := by kernel_rfl
  have hR : Try.prog.cellsOf 21 = 1 := by kernel_rfl
  have hM : Try.prog.cellsOf 41 = 8 := by kernel_rfl
  rw [hC] at hlen
  match cs, hlen, xs, hxl with
  | [c0, c1, c2, c3, c4, c5, c6, c7, c8, c9, c10, c11], _, [x0, x1, x2, x3, x4], _ =>
    have f0 : DataW.trod encH Try.prog w base spare held k 3 (([c0, c1, c2, c3, c4, c5, c6, c7, c8, c9, c10, c11].drop 0).take (Try.prog.cellsOf 3)) = [x0, x1, x2, x3, x4][0]? := hx 0 _ rfl
    have f1 : DataW.trod encH Try.prog w base spare held k 3 (([c0, c1, c2, c3, c4, c5, c6, c7, c8, c9, c10, c11].drop 1).take (Try.prog.cellsOf 3)) = [x0, x1, x2, x3, x4][1]? := hx 1 _ rfl
    have f2 : DataW.trod encH Try.prog w base spare held k 3 (([c0, c1, c2, c3, c4, c5, c6, c7, c8, c9, c10, c11].drop 2).take (Try.prog.cellsOf 3)) = [x0, x1, x2, x3, x4][2]? := hx 2 _ rfl
    have f3 : DataW.trod encH Try.prog w base spare held k 21 (([c0, c1, c2, c3, c4, c5, c6, c7, c8, c9, c10, c11].drop 3).take (Try.prog.cellsOf 21)) = [x0, x1, x2, x3, x4][3]? := hx 3 _ rfl
    have f4 : DataW.trod encH Try.prog w base spare held k 41 (([c0, c1, c2, c3, c4, c5, c6, c7, c8, c9, c10, c11].drop 4).take (Try.prog.cellsOf 41)) = [x0, x1, x2, x3, x4][4]? := hx 4 _ rfl
    rw [hI] at f0 f1 f2
    rw [hR] at f3
    rw [hM] at f4
    obtain ⟨a0, h0, _, w0⟩ := DataW.trod_int Try.underlying3 f0
    obtain ⟨a1, h1, _, w1⟩ := DataW.trod_int Try.underlying3 f1
    obtain ⟨a2, h2, _, w2⟩ := DataW.trod_int Try.underlying3 f2
    obtain ⟨a3, h3, _, w3⟩ := DataW.trod_int Try.underlying21 f3
    obtain ⟨m0, m1, m2, m3, m4, m5, m6, m7, h4, w4⟩ := el_marks Try.underlying41 Try.underlying39 (by kernel_rfl) (by kernel_rfl) _ _ _ f4
    simp at h0 h1 h2 h3 h4
    obtain ⟨rfl, rfl, rfl, rfl, rfl, rfl, rfl, rfl⟩ := h4
    subst h0; subst h1; subst h2; subst h3
    exact ⟨⟨a0, a1, a2, a3, m0, m1, m2, m3, m4, m5, m6, m7⟩, rfl, w0, w1, w2, w3, w4⟩
end
end Go.Proofs.Ytkeeipfglmpgjaa
