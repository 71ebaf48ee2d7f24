/-
  math/bits: OnesCount64, TrailingZeros64: what they answer.
-/
import Derived.Test.YtkeeipfglmpgjaaDoorBase
import Derived.Test.YtkeeipfglmpgjaaDoorChecked
import Derived.Test.YtkeeipfglmpgjaaDoorBagM
import Derived.Laws.Bits
namespace Go.Proofs.YtkeeipfglmpgjaaDoor
set_option linter.unusedSimpArgs false
set_option linter.unusedVariables false
open Go.RowKit

theorem and64 (a : Int) (x m : Nat) (h : a = (x : Int)) (hx : x < 18446744073709551616) (hm : m < 18446744073709551616) : bits .and .u64 a (m : Int) = ((x &&& m : Nat) : Int) := by
  subst h; exact bits_and_u64_nat x m hx hm
theorem m0_8 : m0 8 = 6148914691236517205 := by decide
theorem m1_8 : m1 8 = 3689348814741910323 := by decide
theorem m2_8 : m2 8 = 1085102592571150095 := by decide
theorem step0 (x : Nat) (hx : x < 18446744073709551616) : IntKind.u64.wrap (bits .and .u64 ((x : Int) / 2) 6148914691236517205 + bits .and .u64 (x : Int) 6148914691236517205) = ((st0 8 x : Nat) : Int) := by
  have h := (onesCount x hx).1
  have e1 : bits .and .u64 ((x : Int) / 2) 6148914691236517205 = ((x / 2 &&& 6148914691236517205 : Nat) : Int) := and64 ((x : Int) / 2) (x / 2) 6148914691236517205 (by omega) (by omega) (by omega)
  have e2 : bits .and .u64 (x : Int) 6148914691236517205 = ((x &&& 6148914691236517205 : Nat) : Int) := and64 (x : Int) x 6148914691236517205 rfl hx (by omega)
  have e3 : st0 8 x = (x / 2 &&& 6148914691236517205) + (x &&& 6148914691236517205) := by rw [st0, m0_8]
  rw [e3] at h ⊢
  rw [e1, e2, IntKind.wrap_u64]
  omega
theorem step1 (y : Nat) (hy : y < 18446744073709551616) (h : st1 8 y < 18446744073709551616) : IntKind.u64.wrap (bits .and .u64 ((y : Int) / 4) 3689348814741910323 + bits .and .u64 (y : Int) 3689348814741910323) = ((st1 8 y : Nat) : Int) := by
  have e1 : bits .and .u64 ((y : Int) / 4) 3689348814741910323 = ((y / 4 &&& 3689348814741910323 : Nat) : Int) := and64 ((y : Int) / 4) (y / 4) 3689348814741910323 (by omega) (by omega) (by omega)
  have e2 : bits .and .u64 (y : Int) 3689348814741910323 = ((y &&& 3689348814741910323 : Nat) : Int) := and64 (y : Int) y 3689348814741910323 rfl hy (by omega)
  have e3 : st1 8 y = (y / 4 &&& 3689348814741910323) + (y &&& 3689348814741910323) := by rw [st1, m1_8]
  rw [e3] at h ⊢
  rw [e1, e2, IntKind.wrap_u64]
  omega
theorem step2 (y : Nat) (hy : y < 9223372036854775808) : bits .and .u64 (IntKind.u64.wrap ((y : Int) / 16 + (y : Int))) 1085102592571150095 = ((st2 8 y : Nat) : Int) := by
  have e0 : IntKind.u64.wrap ((y : Int) / 16 + (y : Int)) = ((y / 16 + y : Nat) : Int) := by rw [IntKind.wrap_u64]; omega
  have e1 := and64 (IntKind.u64.wrap ((y : Int) / 16 + (y : Int))) (y / 16 + y) 1085102592571150095 e0 (by omega) (by omega)
  have e3 : st2 8 y = (y / 16 + y) &&& 1085102592571150095 := by rw [st2, m2_8]
  rw [e3]
  exact e1
theorem wadd (a b : Int) (y z : Nat) (ha : a = (y : Int)) (hb : b = (z : Int)) (h : y + z < 18446744073709551616) : IntKind.u64.wrap (a + b) = ((y + z : Nat) : Int) := by
  subst ha; subst hb; rw [IntKind.wrap_u64]; omega

set_option maxHeartbeats 1000000 in
theorem OnesCount_any (x : Nat) (hx : x < 18446744073709551616) (w : World) :
    Calls Tryd.prog 24 #[.int .u64 x] w fun e w' => e = .returned (.int .i64 (pc 64 x : Nat)) ∧ w' = w := by
  obtain ⟨h1, h2, h3⟩ := onesCount x hx
  obtain ⟨g0, g1, g2, g3, g4⟩ := fold_bytes x
  have HX := Lib.hid hx; clear hx
  go_enter Tryd.func24, Tryd.ntmps24
  go_wp2
  go_ret
  refine ⟨ret_int ?_, rfl⟩
  rw [step0 x HX.out]
  obtain ⟨y0, hy0⟩ : ∃ y, st0 8 x = y := ⟨_, rfl⟩
  rw [hy0] at h1 h2 h3 ⊢
  rw [step1 y0 h1 (by omega)]
  obtain ⟨y1, hy1⟩ : ∃ y, st1 8 y0 = y := ⟨_, rfl⟩
  rw [hy1] at h2 h3 ⊢
  rw [step2 y1 h2, h3]
  obtain ⟨z, hz⟩ : ∃ z, bs 8 x = z := ⟨_, rfl⟩
  rw [hz] at g0 g1 g2 g3 g4 ⊢
  rw [wadd (z : Int) ((z : Int) / 256) z (z / 256) rfl (by omega) (by omega)]
  obtain ⟨u, hu⟩ : ∃ u, z + z / 256 = u := ⟨_, rfl⟩
  rw [hu] at g1 g2 g3 g4 ⊢
  rw [wadd (u : Int) ((u : Int) / 65536) u (u / 65536) rfl (by omega) (by omega)]
  obtain ⟨v, hv⟩ : ∃ v, u + u / 65536 = v := ⟨_, rfl⟩
  rw [hv] at g2 g3 g4 ⊢
  rw [wadd (v : Int) ((v : Int) / 4294967296) v (v / 4294967296) rfl (by omega) (by omega), i64_and127, show wrap64 (((v + v / 4294967296 : Nat)) : Int) = ((v + v / 4294967296 : Nat) : Int) from by (unfold wrap64; omega), ← g4]
  omega

theorem wrap_u32' (n : Int) : IntKind.u32.wrap n = n % 4294967296 := by simp [IntKind.wrap, IntKind.signed, IntKind.bits]
def TabAt (w : World) : Prop := ∀ j, j < 64 → w.cell? ⟨0, j, none⟩ = some (.int .u8 (Lib.deBruijn64tab.getD j 0))
theorem TabAt.below {B : Nat} {w w' : World} (h : TabAt w) (hb : Below B w w') (hB : 0 < B) : TabAt w' := fun j hj => (hb.cell hB).trans (h j hj)

set_option maxHeartbeats 1000000 in
theorem tz64_core (x k idx : Nat) (w : World) (hx0 : ((x : Int) == 0) = false)
    (key : IntKind.u64.wrap (bits BinOp.and IntKind.u64 (x : Int) (IntKind.u64.wrap (-(x : Int))) * 285870213051353865) / 288230376151711744 = (idx : Int))
    (hi : idx < 64) (hk : k < 64) (hcell : w.cell? ⟨0, idx, none⟩ = some (.int .u8 k)) :
    Calls Tryd.prog 23 #[.int .u64 x] w fun e w' => e = .returned (.int .i64 k) ∧ w' = w := by
  go_enter Tryd.func23, Tryd.ntmps23
  go_wp2_with (simp only [key])
  go_ret
  exact ⟨rfl, rfl⟩

theorem tz64_key (x a : Nat) (hx : x < 18446744073709551616) (hx0 : x ≠ 0) (hlow : x &&& (18446744073709551616 - x) = a) :
    IntKind.u64.wrap (bits BinOp.and IntKind.u64 (x : Int) (IntKind.u64.wrap (-(x : Int))) * 285870213051353865) / 288230376151711744 = ((a * 285870213051353865 % 18446744073709551616 / 288230376151711744 : Nat) : Int) := by
  have e1 : IntKind.u64.wrap (-(x : Int)) = ((18446744073709551616 - x : Nat) : Int) := by rw [IntKind.wrap_u64]; omega
  rw [e1, bits_and_u64_nat x _ hx (by omega), hlow, IntKind.wrap_u64]
  omega

/-- TrailingZeros64 of a number that isn't 0. -/
theorem TrailingZeros_any (x : Nat) (hx : x < 18446744073709551616) (hx0 : x ≠ 0) (w : World) (hT : TabAt w) :
    Calls Tryd.prog 23 #[.int .u64 x] w fun e w' => e = .returned (.int .i64 (Lib.ctz 64 x)) ∧ w' = w := by
  obtain ⟨hlow, hk⟩ := Lib.lowest_bit 64 x hx0 hx
  obtain ⟨hi, htab⟩ := Lib.deBruijn64_at _ hk
  have hcell := hT _ hi
  rw [htab] at hcell
  exact tz64_core x _ _ w (by simp; omega) (tz64_key x _ hx hx0 hlow) hi hk hcell
end Go.Proofs.YtkeeipfglmpgjaaDoor
