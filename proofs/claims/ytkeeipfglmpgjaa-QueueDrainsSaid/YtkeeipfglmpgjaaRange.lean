/-
  A range over a function that itself writes memory made before the loop (a queue that is drained), with a body that always goes on: a law of whatever program.
-/
import Derived.RangeFuncNested
import Derived.RangeFuncBound
import Derived.Test.YtkeeipfglmpgjaaBase
namespace Go.Proofs.Ytkeeipfglmpgjaa
set_option linter.unusedSimpArgs false
set_option linter.unusedVariables false
open Go.RowKit

/-- R: what the iterator may do to memory; Kp: what the body keeps for it. -/
theorem range_mut {α : Type} {F : Fence} {n : Nat} {P : Program} {g : Operand} {ps : Array Tmp} {assign body : Code} {Q : Exit → Act → World → Prop} {a : Act} {w : World}
    (hro : F.round = none) (h1 : 1 ≤ n) {gf : Nat} {lb : Array Value} (hg : a.eval g = .func (.func gf) #[] lb) (hFg : F.fn gf) (eg : ∀ args w, (callFunc gf args).run P w = .ok (.enter gf args) w)
    (encs : α → Array Value) (hps : ∀ x, (encs x).size = ps.size)
    (R : World → World → Prop) (hR : ∀ (A B : World) (k : Nat) (o : Obj), R A B → A.heap[k]? = some o → o.isCells = false → B.heap[k]? = some o)
    (Kp : World → World → Prop) (hKt : ∀ A B C, Kp A B → Kp B C → Kp A C) (hKput : ∀ (W : World) (l : Nat) (o o' : Obj), W.heap[l]? = some o → o.isCells = false → Kp W (W.putObj l o'))
    (I : List α → World → Prop) (hIR : ∀ s A B, I s A → R A B → I s B) (hIput : ∀ s (W : World) (l : Nat) (o o' : Obj), I s W → w.heap.size ≤ l → W.heap[l]? = some o → o.isCells = false → I s (W.putObj l o'))
    (h0 : ∀ o o' : Obj, I [] ((w.alloc o).alloc o')) (S Ok : List α → Prop)
    (hseq : ∀ (l : Nat) (J : List α → World → Prop) (o o' : Obj), (∀ s A B, J s A → R A B → J s B) →
      (∀ pre x W1, J pre W1 → Ok (pre ++ [x]) → YieldAt F (n - 1 - 1) P l (encs x) W1 fun e W' => e = .returned (.bool true) ∧ J (pre ++ [x]) W' ∧ Kp W1 W') → J [] ((w.alloc o).alloc o') →
      CallsIn F (n - 1) P gf (#[.func (.yield l) #[] #[]] ++ lb) ((w.alloc o).alloc o') fun e W' => (∃ v, e = .returned v) ∧ ∃ s, S s ∧ J s W')
    (a₁ : α → Act)
    (hassign : ∀ (l : Nat) (x : α) (W : World) (K : Act → World → Prop), K (a₁ x) W →
      assign.wpIn (F.inRound l) (n - 1 - 1) P (Exit.then K (fun _ _ _ => False)) { tmps := (ps.zip (encs x)).foldl (fun t (p, v) => t.setIfInBounds p v) a.tmps, defers := [] } W)
    (hbody : ∀ (l : Nat) (pre : List α) (x : α) (W : World), I pre W → Ok (pre ++ [x]) → w.heap.size ≤ W.heap.size → body.wpIn (F.inRound l) (n - 1 - 1) P (fun e _ W' => e = .normal ∧ KeepsFrom w.heap.size W W' ∧ Kp W W' ∧ I (pre ++ [x]) W') (a₁ x) W)
    (hdone : ∀ (D : Nat) (s : List α) (W : World), w.heap.size ≤ D → S s → I s W → W.heap[D]? = some (.deferred (some [])) → Q .normal { a with defers := { target := .collected D, args := #[] } :: a.defers } W) :
    (Code.rangeFunc g ps assign body).wpIn F n P Q a w := by
  apply wpIn_rangeFunc
  intro fn hfn
  rw [hro]
  obtain ⟨B, hB⟩ : ∃ B, w.heap.size = B := ⟨_, rfl⟩
  rw [hB] at hIput hbody hdone
  let rec0 : LoopState → Loop := fun st => { state := st, pending := none, fn, tmps := a.tmps, params := ps, assign, body, defers := B }
  have hL : ((w.alloc (.deferred (some []))).alloc (.loop (rec0 .ready))).heap[B + 1]? = some (.loop (rec0 .ready)) := by
    have := World.alloc_heap_new (w.alloc (.deferred (some []))) (.loop (rec0 .ready))
    rwa [World.size_alloc, hB] at this
  have hD : ((w.alloc (.deferred (some []))).alloc (.loop (rec0 .ready))).heap[B]? = some (.deferred (some [])) := by
    rw [← hB]; exact (Below.heap_alloc _ _ _ (by simp)).trans (World.alloc_heap_new w _)
  obtain ⟨W1, hW1⟩ : ∃ W1, (w.alloc (.deferred (some []))).alloc (.loop (rec0 .ready)) = W1 := ⟨_, rfl⟩
  have hent : (Instr.enterLoop fn a.tmps ps assign body none).run P w = .ok (B + 1, [{ target := .collected B, args := #[] }]) W1 := by
    have h := run_enterLoop_outer (P := P) (w := w) fn a.tmps ps assign body
    rw [hB] at h
    rw [← hW1]; exact h
  refine ⟨B + 1, [{ target := .collected B, args := #[] }], W1, { target := .fn (.func gf) lb, args := #[.func (.yield (B + 1)) #[] #[]] }, W1, gf, #[.func (.yield (B + 1)) #[] #[]] ++ lb, W1, hent, ?_, ?_, ?_, fun _ => h1, ?_⟩
  · simp only [resolve, hg]
    simp [go_sem]
  · intro f' hf'; simp [Target.leads] at hf'; subst hf'; exact hFg
  · simp [invoke, go_sem, eg]
  rw [← hW1]
  refine (hseq (B + 1) (fun pre W => I pre W ∧ W.heap[B + 1]? = some (.loop (rec0 .ready)) ∧ W.heap[B]? = some (.deferred (some []))) (.deferred (some [])) (.loop (rec0 .ready))
    (fun s X Y hs hr => ⟨hIR s X Y hs.1 hr, hR X Y _ _ hr hs.2.1 rfl, hR X Y _ _ hr hs.2.2 rfl⟩) ?_ ⟨h0 _ _, hL, hD⟩).mono ?_
  · rintro pre x W ⟨hi, hl, hk⟩ hok
    have hlt : B + 1 < W.heap.size := (Array.getElem?_eq_some_iff.1 hl).1
    have hy := run_yield (P := P) (args := encs x) hl (hps x)
    refine ⟨fn, _, assign, body, hy, roundIn_of_wpIn hfn (hassign _ x W _ ⟨_, run_beginRound hl rfl, ?_⟩)⟩
    have hl2 : (W.putObj (B + 1) (.loop (rec0 .busy))).heap[B + 1]? = some (.loop (rec0 .busy)) := World.putObj_heap_same hlt
    have hk2 : (W.putObj (B + 1) (.loop (rec0 .busy))).heap[B]? = some (.deferred (some [])) := (World.putObj_heap_other (by omega)).trans hk
    refine wpIn_mono (hbody _ pre x _ (hIput _ _ _ _ _ hi (by omega) hl rfl) hok (by rw [World.putObj_size]; omega)) ?_
    rintro e a3 W3 ⟨rfl, hk3, hp3, hi3⟩
    have hl3 := hk3.same _ _ (by omega) hl2 rfl
    have hk4 := hk3.same _ _ (Nat.le_refl _) hk2 rfl
    exact ⟨_, _, run_endRound none hl3, rfl, ⟨hIput _ _ _ _ _ hi3 (by omega) hl3 rfl, World.putObj_heap_same (Array.getElem?_eq_some_iff.1 hl3).1, (World.putObj_heap_other (by omega)).trans hk4⟩,
      hKt _ _ _ (hKt _ _ _ (hKput _ _ _ _ hl rfl) hp3) (hKput _ _ _ _ hl3 rfl)⟩
  · rintro e W2 ⟨⟨v, rfl⟩, s, hS, hi, hl, hk⟩
    exact ⟨none, _, run_endLoop hl (by simp [rec0]), hdone _ s _ (Nat.le_refl _) hS (hIput _ _ _ _ _ hi (by omega) hl rfl) ((World.putObj_heap_other (by omega)).trans hk)⟩
end Go.Proofs.Ytkeeipfglmpgjaa
