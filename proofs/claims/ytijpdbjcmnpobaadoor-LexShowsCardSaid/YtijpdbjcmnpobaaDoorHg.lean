/-
  What the library's variables hold, where the program has them; worlds that agree on them.
-/
import Derived.Test.YtijpdbjcmnpobaaDoorMid
import Derived.Test.YtijpdbjcmnpobaaDoorChecked
import Derived.Lib.LaidTab
import Derived.Lib.ItoaNum
namespace Go.Proofs.YtijpdbjcmnpobaaDoor
set_option linter.unusedSimpArgs false
set_option linter.unusedVariables false
open Go.RowKit

def libNames : List String := ["internal/strconv.uint64pow10", "strconv.ErrSyntax", "strconv.ErrRange", "internal/bytealg.MaxLen"]
def isLib (b : Nat) : Prop := ∃ name ∈ libNames, Tryd.prog.globalNamed name = some b
def hasLib (name : String) : Prop := (Tryd.prog.globalNamed name).isSome = true
structure LibW (w : World) : Prop where
  ok : ∀ b, isLib b → b < w.heap.size
  tab : hasLib "internal/strconv.uint64pow10" → Lib.TabIs Tryd.prog w "internal/strconv.uint64pow10" .u64 Lib.pow10Tab
  syn : hasLib "strconv.ErrSyntax" → ∃ tp p, w.var? Tryd.prog "strconv.ErrSyntax" = some #[.iface tp p]
  rng : hasLib "strconv.ErrRange" → ∃ tp p, w.var? Tryd.prog "strconv.ErrRange" = some #[.iface tp p]
  max : ∀ g, Tryd.prog.globalNamed "internal/bytealg.MaxLen" = some g → ∃ m, w.cell? ⟨g, 0, none⟩ = some (.int .i64 m)
theorem var_agree {w w' : World} {name : String} {x : Array Value} (hn : name ∈ libNames) (hk : ∀ b, isLib b → w'.heap[b]? = w.heap[b]?) (h : w.var? Tryd.prog name = some x) : w'.var? Tryd.prog name = some x := by
  unfold World.var? at *
  cases hg : Tryd.prog.globalNamed name with
  | none => rw [hg] at h; cases h
  | some g =>
    rw [hg] at h
    simp only [Option.bind_some] at h ⊢
    rw [hk g ⟨name, hn, hg⟩]
    exact h
theorem LibW.agree {w w' : World} (h : LibW w) (hs : w.heap.size ≤ w'.heap.size) (hk : ∀ b, isLib b → w'.heap[b]? = w.heap[b]?) : LibW w' :=
  ⟨fun b hb => Nat.lt_of_lt_of_le (h.ok b hb) hs, fun hl => var_agree (by simp [libNames]) hk (h.tab hl), fun hl => (h.syn hl).imp fun _ h => h.imp fun _ h => var_agree (by simp [libNames]) hk h,
    fun hl => (h.rng hl).imp fun _ h => h.imp fun _ h => var_agree (by simp [libNames]) hk h,
    fun g hg => (h.max g hg).imp fun _ hc => by rw [World.cell?_of_block (hk g ⟨_, by simp [libNames], hg⟩)]; exact hc⟩
theorem LibW.below {w w' : World} (h : LibW w) (b : Below w.heap.size w w') : LibW w' := h.agree b.size fun k hk => b.block k (h.ok k hk)
end Go.Proofs.YtijpdbjcmnpobaaDoor
