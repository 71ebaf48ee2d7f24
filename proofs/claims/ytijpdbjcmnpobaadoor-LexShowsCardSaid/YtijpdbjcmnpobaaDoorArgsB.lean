/-
  How arguments that come in read as lists: slices of pairs, of bools, of numbers.
-/
import Derived.Test.YtijpdbjcmnpobaaDoorBase
import Derived.Test.YtijpdbjcmnpobaaDoorChecked
import Derived.ProofKit
import Derived.OpenShut
import Derived.ChangeOld
import Derived.Deep.Slices
namespace Go.Proofs.YtijpdbjcmnpobaaDoor
set_option linter.unusedSimpArgs false
set_option linter.unusedVariables false
open Go.ChangeShapes Go.WideShapes Go.ChangeAt Go.RowKit Go.Deep

section
variable {H : Type} {encH : TypeId × Value → H} {P : Program} {w : World} {base : Nat} {spare : Nat → Bool} {held : Bool}

/-- A slice that came in, element by element. -/
theorem open_sl {α : Type} {t e : TypeId} {fuel : Nat} {A : Option Addr} {n c : Nat} {x : DataW H × List MemPlace} (ht : P.underlying t = some (.slice e)) (size : Nat) (hC : P.cellsOf e = size) (hpos : 0 < size)
    (enc : α → List Value) (henc : ∀ a, (enc a).length = size) (ok : α → Prop)
    (hel : ∀ (m : Nat) (cs : List Value) (y : DataW H × List MemPlace), DataW.trod encH P w base spare held m e cs = some y → ∃ a : α, cs = enc a ∧ ok a)
    (hf : DataW.trod encH P w base spare held fuel t [.slice A n c] = some x) :
    ∃ l : List α, l.length = n ∧ Sl w w.heap.size size enc A l ∧ n ≤ c ∧ c ≤ 9223372036854775807 ∧ ∀ a ∈ l, ok a := by
  rcases open_slice ht hf with ⟨h0, _⟩ | ⟨a, len, cap, m, k, D, Pl, hcs, hb, hl, hm, hmm, hx, hi⟩
  · injection h0 with h0 _
    injection h0 with h1 h2 h3
    subst h1; subst h2; subst h3
    exact ⟨[], rfl, ⟨henc, Reads.none_⟩, by omega, by omega, by simp⟩
  · injection hcs with h0 _
    injection h0 with h1 h2 h3
    subst h1; subst h2; subst h3
    have hnm : n ≤ m := by rw [hmm]; split <;> omega
    have each : ∀ k, k ≤ n → ∃ l : List α, l.length = k ∧ (∀ i (hi : i < l.length), w.cells? base (a.add (i * size)) size = some (enc l[i])) ∧ ∀ y ∈ l, ok y := by
      intro k
      induction k with
      | zero => intro _; exact ⟨[], rfl, fun i hi => by simp at hi, by simp⟩
      | succ k ih =>
        intro hk
        obtain ⟨l, hl1, hl2, hl3⟩ := ih (by omega)
        obtain ⟨cs', h1, h2⟩ := hi k (by omega)
        rw [hC] at h1
        obtain ⟨a', rfl, hok⟩ := hel _ _ _ h2
        refine ⟨l ++ [a'], by simp [hl1], fun i hi => ?_, fun y hy => ?_⟩
        · by_cases hik : i < l.length
          · rw [List.getElem_append_left hik]; exact hl2 i hik
          · have : i = k := by simp at hi; omega
            subst this
            simp [hl1, h1]
        · rcases List.mem_append.1 hy with hy | hy
          · exact hl3 y hy
          · simp at hy; subst hy; exact hok
    obtain ⟨l, hl1, hl2, hl3⟩ := each n (Nat.le_refl _)
    refine ⟨l, hl1, ⟨henc, ?_, fun hn => ?_⟩, hl, by unfold maxLen at hm; omega, hl3⟩
    · have : ∀ m : List α, (m.flatMap enc).length = m.length * size := by
        intro m
        induction m with
        | nil => simp
        | cons x m ih => simp [List.flatMap_cons, ih, henc, Nat.add_mul, Nat.add_comm]
      exact this l
    · refine ⟨a, rfl, ?_, fun j u hu => ?_⟩
      · have h0 := hl2 0 hn
        have := World.cells?_block h0 hpos
        rwa [block_of_add] at this
      · have hfl : (l.flatMap enc).length = l.length * size := by
          have : ∀ m : List α, (m.flatMap enc).length = m.length * size := by
            intro m
            induction m with
            | nil => simp
            | cons x m ih => simp [List.flatMap_cons, ih, henc, Nat.add_mul, Nat.add_comm]
          exact this l
        have hj : j < l.length * size := by
          rcases Nat.lt_or_ge j (l.flatMap enc).length with hlt | hge
          · rw [hfl] at hlt; exact hlt
          · rw [List.getElem?_eq_none hge] at hu; cases hu
        have hjd : j / size < l.length := (Nat.div_lt_iff_lt_mul hpos).2 hj
        have hjm : j % size < size := Nat.mod_lt _ hpos
        have e1 : j = j / size * size + j % size := by rw [Nat.mul_comm]; exact (Nat.div_add_mod j size).symm
        rw [e1] at hu ⊢
        rw [flatMap_at henc _ _ _ hjd hjm] at hu
        have := (World.cells?_some (hl2 _ hjd)).2.2 (j % size) hjm
        rw [add_of_add] at this
        rw [this, hu]

def okInt (x : Int) : Prop := (Lit.int .i64 x).wf = true
def okPair (p : Int × Int) : Prop := okInt p.1 ∧ okInt p.2

theorem el_bool {e : TypeId} (he : P.underlying e = some .bool) (m : Nat) (cs : List Value) (y : DataW H × List MemPlace) (h : DataW.trod encH P w base spare held m e cs = some y) : ∃ a : Bool, cs = boolC a ∧ True := by
  obtain ⟨b, rfl, _⟩ := DataW.trod_bool he h
  exact ⟨b, rfl, trivial⟩
theorem el_int {e : TypeId} (he : P.underlying e = some (.int .i64)) (m : Nat) (cs : List Value) (y : DataW H × List MemPlace) (h : DataW.trod encH P w base spare held m e cs = some y) : ∃ a : Int, cs = intC a ∧ okInt a := by
  obtain ⟨b, rfl, _, hw⟩ := DataW.trod_int he h
  exact ⟨b, rfl, hw⟩
theorem el_pair {e i : TypeId} (he : P.underlying e = some (.array 2 i)) (hi : P.underlying i = some (.int .i64)) (hci : P.cellsOf i = 1) (hce : P.cellsOf e = 2) (m : Nat) (cs : List Value) (y : DataW H × List MemPlace) (h : DataW.trod encH P w base spare held m e cs = some y) :
    ∃ a : Int × Int, cs = pairC a ∧ okPair a := by
  obtain ⟨xs, k, _, _, hlen, hxl, hx⟩ := DataW.trod_array he h
  rw [hce] at hlen
  rw [hci] at hx
  match cs, hlen, xs, hxl with
  | [c0, c1], _, [x0, x1], _ =>
    obtain ⟨a, h0, _, w0⟩ := DataW.trod_int hi (hx 0 (by omega))
    obtain ⟨b, h1, _, w1⟩ := DataW.trod_int hi (hx 1 (by omega))
    simp at h0 h1
    subst h0; subst h1
    exact ⟨(a, b), rfl, w0, w1⟩
theorem el_struct2 {e i : TypeId} {f0 f1 : _} (he : P.underlying e = some (.struct #[f0, f1])) (h0 : f0.type = i) (h1 : f1.type = i) (o0 : f0.offset = 0) (o1 : f1.offset = 1) (hi : P.underlying i = some (.int .i64)) (hci : P.cellsOf i = 1) (hce : P.cellsOf e = 2) (m : Nat) (cs : List Value) (y : DataW H × List MemPlace) (h : DataW.trod encH P w base spare held m e cs = some y) :
    ∃ a : Int × Int, cs = pairC a ∧ okPair a := by
  obtain ⟨xs, k, _, _, hlen, hxl, hx⟩ := DataW.trod_struct he h
  rw [hce] at hlen
  match cs, hlen, xs, hxl with
  | [c0, c1], _, [x0, x1], _ =>
    have g0 := hx 0 f0 rfl
    have g1 := hx 1 f1 rfl
    rw [h0, o0, hci] at g0
    rw [h1, o1, hci] at g1
    obtain ⟨a, e0, _, w0⟩ := DataW.trod_int hi g0
    obtain ⟨b, e1, _, w1⟩ := DataW.trod_int hi g1
    simp at e0 e1
    subst e0; subst e1
    exact ⟨(a, b), rfl, w0, w1⟩
end
end Go.Proofs.YtijpdbjcmnpobaaDoor
