/-
  A program without the library's variables: nothing is asked of the world.
-/
import Derived.Test.YtkeeipfglmpgjaaHg
namespace Go.Proofs.Ytkeeipfglmpgjaa
theorem libW_none (w : World) : LibW w where
  ok b hb := by
    obtain ⟨n, hn, hg⟩ := hb
    have h1 : (libNames.all fun n => (Try.prog.globalNamed n).isNone) = true := by kernel_rfl
    have := List.all_eq_true.1 h1 n hn
    rw [hg] at this; cases this
  tab h := by
    have h1 : (Try.prog.globalNamed "internal/strconv.uint64pow10").isSome = false := by kernel_rfl
    unfold hasLib at h; rw [h1] at h; cases h
  syn h := by
    have h1 : (Try.prog.globalNamed "strconv.ErrSyntax").isSome = false := by kernel_rfl
    unfold hasLib at h; rw [h1] at h; cases h
  rng h := by
    have h1 : (Try.prog.globalNamed "strconv.ErrRange").isSome = false := by kernel_rfl
    unfold hasLib at h; rw [h1] at h; cases h
  max g hg := by
    have h1 : (Try.prog.globalNamed "internal/bytealg.MaxLen").isNone = true := by kernel_rfl
    rw [hg] at h1; cases h1
end Go.Proofs.Ytkeeipfglmpgjaa
