/-
  The reference's Shape of a step.
-/
import Derived.Test.YtkeeipfglmpgjaaStp
import Derived.Deep.Cut
import Derived.Deep.DeepCutAuto
namespace Go.Proofs.Ytkeeipfglmpgjaa
set_option linter.unusedSimpArgs false
set_option linter.unusedVariables false
open Go.RowKit

def St.bad (x : St) : Bool := decide (x.f < 0) || decide (x.t < x.f) || decide (1073741824 < x.t) || decide (20000 < (x.sl.length : Int)) || decide (20000 < (x.sets.length : Int))
def St.gap (x : St) : Bool := x.gf != 0 || x.gt != 0 || x.ins != 0
def St.mkd (x : St) : Bool := x.mark != 0 || x.vl != 0
def St.inGap (x : St) : Bool := decide (x.f ≤ x.gf) && decide (x.gf ≤ x.gt) && decide (x.gt ≤ x.t) && decide (0 ≤ x.ins) && decide (x.ins ≤ (x.sl.length : Int))
/-- Is a step's shape right? -/
def St.shape (x : St) : Bool := !x.bad && (
  if x.k == 1 then !x.gap && !x.mkd && ((x.sets.length : Int) == 0)
  else if x.k == 2 then x.inGap && !x.mkd && ((x.sets.length : Int) == 0)
  else if x.k == 3 || x.k == 4 then !x.gap && ((x.sl.length : Int) == 0) && ((x.sets.length : Int) == 0)
  else if x.k == 5 then !x.gap && !x.mkd && ((x.sl.length : Int) == 0) && ((x.sets.length : Int) == x.t - x.f)
  else false)

set_option maxRecDepth 100000 in
set_option maxHeartbeats 4000000 in
theorem Shape25_any (x : Stp) (w : World) (h1 : x.v.sl.length = x.n1) (h2 : x.v.sets.length = x.n2) (b1 : x.n1 ≤ 1000000) (b2 : x.n2 ≤ 1000000) :
    Calls Try.prog 49 #[.agg x.cells.toArray] w fun e w' => e = .returned (.bool x.v.shape) ∧ Below w.heap.size w w' := by
  obtain ⟨⟨k, f, t, gf, gt, ins, mark, vl, sl, sets⟩, a1, n1, c1, a2, n2, c2⟩ := x
  simp only at h1 h2 b1 b2
  subst h1; subst h2
  simp only [Stp.cells]
  obtain ⟨n1, hn1⟩ : ∃ n, sl.length = n := ⟨_, rfl⟩
  obtain ⟨n2, hn2⟩ : ∃ n, sets.length = n := ⟨_, rfl⟩
  have HB0 : Hid (∀ d1, Below w.heap.size w (w.alloc (.cells d1 77))) := fun d1 => (Below.refl _ w).alloc (Nat.le_refl _) _
  obtain ⟨X, hX⟩ : ∃ X : St, (⟨k, f, t, gf, gt, ins, mark, vl, sl, sets⟩ : St) = X := ⟨_, rfl⟩
  have HBAD : Hid (X.bad = (decide (f < 0) || decide (t < f) || decide (1073741824 < t) || decide (20000 < (n1 : Int)) || decide (20000 < (n2 : Int)))) := by
    subst hX; show St.bad _ = _; simp only [St.bad, hn1, hn2]
  have HGAP : Hid (X.gap = (gf != 0 || gt != 0 || ins != 0)) := by subst hX; rfl
  have HMK : Hid (X.mkd = (mark != 0 || vl != 0)) := by subst hX; rfl
  have HING : Hid (X.inGap = (decide (f ≤ gf) && decide (gf ≤ gt) && decide (gt ≤ t) && decide (0 ≤ ins) && decide (ins ≤ (n1 : Int)))) := by
    subst hX; show St.inGap _ = _; simp only [St.inGap, hn1]
  have HSH : Hid (X.shape = (!X.bad && (
      if k == 1 then !X.gap && !X.mkd && ((n2 : Int) == 0)
      else if k == 2 then X.inGap && !X.mkd && ((n2 : Int) == 0)
      else if k == 3 || k == 4 then !X.gap && ((n1 : Int) == 0) && ((n2 : Int) == 0)
      else if k == 5 then !X.gap && !X.mkd && ((n1 : Int) == 0) && ((n2 : Int) == t - f)
      else false))) := by subst hX; subst hn1; subst hn2; rfl
  rw [hn1, hn2]
  rw [hn1] at b1
  rw [hn2] at b2
  rw [hX]
  clear hX hn1 hn2
  obtain ⟨bad, hbad⟩ : ∃ b, X.bad = b := ⟨_, rfl⟩
  obtain ⟨gap, hgap⟩ : ∃ b, X.gap = b := ⟨_, rfl⟩
  obtain ⟨mk, hmk⟩ : ∃ b, X.mkd = b := ⟨_, rfl⟩
  obtain ⟨ing, hing⟩ : ∃ b, X.inGap = b := ⟨_, rfl⟩
  obtain ⟨sh, hsh⟩ : ∃ b, X.shape = b := ⟨_, rfl⟩
  rw [hbad] at HBAD HSH
  rw [hgap] at HGAP HSH
  rw [hmk] at HMK HSH
  rw [hing] at HING HSH
  rw [hsh] at HSH ⊢
  clear hbad hgap hmk hing hsh
  go_enter Try.func49, Try.ntmps49
  go_upto_region 1 with fail
  go_cut [32] (fun v wx => v = .bool bad ∧ w.alloc (.cells #[.int .i64 k, .int .i64 f, .int .i64 t, .int .i64 gf, .int .i64 gt, .int .i64 ins, .int .i64 mark, .int .i64 vl, .slice a1 n1 c1, .slice a2 n2 c2] 77) = wx)
  case first =>
    cases e1 : decide (f < 0)
    case true =>
      go_wp2
      go_meet
      case rel => exact ⟨by rw [HBAD.out, e1]; rfl, rfl⟩
    cases e2 : decide (t < f)
    case true =>
      go_wp2
      go_meet
      case rel => exact ⟨by rw [HBAD.out, e1, e2]; rfl, rfl⟩
    cases e3 : decide (1073741824 < t)
    case true =>
      go_wp2
      go_meet
      case rel => exact ⟨by rw [HBAD.out, e1, e2, e3]; rfl, rfl⟩
    cases e4 : decide (20000 < (n1 : Int))
    case true =>
      go_wp2
      go_meet
      case rel => exact ⟨by rw [HBAD.out, e1, e2, e3, e4]; rfl, rfl⟩
    cases e5 : decide (20000 < (n2 : Int))
    case true =>
      go_wp2
      go_meet
      case rel => exact ⟨by rw [HBAD.out, e1, e2, e3, e4, e5]; rfl, rfl⟩
    go_wp2
    go_meet
    case rel => exact ⟨by rw [HBAD.out, e1, e2, e3, e4, e5]; rfl, rfl⟩
  case rest =>
    obtain ⟨rfl, rfl⟩ := hcut
    cases bad
    case true =>
      go_wp2
      go_ret
      exact ⟨ret_bool (by rw [HSH.out]; rfl), HB0.out _⟩
    have hwr : IntKind.i64.wrap (t - f) = t - f := by
      have := HBAD.out
      simp at this
      rw [IntKind.wrap_i64]; omega
    go_upto_region 3 with fail
    go_cut [3] (fun v wx => v = .bool gap ∧ w.alloc (.cells #[.int .i64 k, .int .i64 f, .int .i64 t, .int .i64 gf, .int .i64 gt, .int .i64 ins, .int .i64 mark, .int .i64 vl, .slice a1 n1 c1, .slice a2 n2 c2] 77) = wx)
    case first =>
      cases e1 : (gf != 0)
      case true =>
        go_wp2
        go_meet
        case rel => exact ⟨by rw [HGAP.out, e1]; rfl, rfl⟩
      cases e2 : (gt != 0)
      case true =>
        go_wp2
        go_meet
        case rel => exact ⟨by rw [HGAP.out, e1, e2]; rfl, rfl⟩
      cases e3 : (ins != 0)
      case true =>
        go_wp2
        go_meet
        case rel => exact ⟨by rw [HGAP.out, e1, e2, e3]; rfl, rfl⟩
      go_wp2
      go_meet
      case rel => exact ⟨by rw [HGAP.out, e1, e2, e3]; rfl, rfl⟩
    case rest =>
      obtain ⟨rfl, rfl⟩ := hcut
      go_upto_region 4 with fail
      go_cut [4] (fun v wx => v = .bool mk ∧ w.alloc (.cells #[.int .i64 k, .int .i64 f, .int .i64 t, .int .i64 gf, .int .i64 gt, .int .i64 ins, .int .i64 mark, .int .i64 vl, .slice a1 n1 c1, .slice a2 n2 c2] 77) = wx)
      case first =>
        cases e1 : (mark != 0)
        case true =>
          go_wp2
          go_meet
          case rel => exact ⟨by rw [HMK.out, e1]; rfl, rfl⟩
        cases e2 : (vl != 0)
        case true =>
          go_wp2
          go_meet
          case rel => exact ⟨by rw [HMK.out, e1, e2]; rfl, rfl⟩
        go_wp2
        go_meet
        case rel => exact ⟨by rw [HMK.out, e1, e2]; rfl, rfl⟩
      case rest =>
        obtain ⟨rfl, rfl⟩ := hcut
        cases k1 : (k == 1)
        case true =>
          cases gap
          case true =>
            go_wp2
            go_ret
            exact ⟨ret_bool (by rw [HSH.out, k1]; rfl), HB0.out _⟩
          cases mk
          case true =>
            go_wp2
            go_ret
            exact ⟨ret_bool (by rw [HSH.out, k1]; rfl), HB0.out _⟩
          cases qe1 : ((n2 : Int) == 0)
          case false =>
            go_wp2
            go_ret
            exact ⟨ret_bool (by rw [HSH.out, k1, qe1]; rfl), HB0.out _⟩
          go_wp2
          go_ret
          exact ⟨ret_bool (by rw [HSH.out, k1, qe1]; rfl), HB0.out _⟩
        cases k2 : (k == 2)
        case true =>
          go_upto_region 9 with fail
          go_cut [5] (fun v wx => v = .bool ing ∧ w.alloc (.cells #[.int .i64 k, .int .i64 f, .int .i64 t, .int .i64 gf, .int .i64 gt, .int .i64 ins, .int .i64 mark, .int .i64 vl, .slice a1 n1 c1, .slice a2 n2 c2] 77) = wx)
          case first =>
            cases e1 : decide (f ≤ gf)
            case false =>
              go_wp2
              go_meet
              case rel => exact ⟨by rw [HING.out, e1]; rfl, rfl⟩
            cases e2 : decide (gf ≤ gt)
            case false =>
              go_wp2
              go_meet
              case rel => exact ⟨by rw [HING.out, e1, e2]; rfl, rfl⟩
            cases e3 : decide (gt ≤ t)
            case false =>
              go_wp2
              go_meet
              case rel => exact ⟨by rw [HING.out, e1, e2, e3]; rfl, rfl⟩
            cases e4 : decide (0 ≤ ins)
            case false =>
              go_wp2
              go_meet
              case rel => exact ⟨by rw [HING.out, e1, e2, e3, e4]; rfl, rfl⟩
            cases e5 : decide (ins ≤ (n1 : Int))
            case false =>
              go_wp2
              go_meet
              case rel => exact ⟨by rw [HING.out, e1, e2, e3, e4, e5]; rfl, rfl⟩
            go_wp2
            go_meet
            case rel => exact ⟨by rw [HING.out, e1, e2, e3, e4, e5]; rfl, rfl⟩
          case rest =>
            obtain ⟨rfl, rfl⟩ := hcut
            cases ing
            case false =>
              go_wp2
              go_ret
              exact ⟨ret_bool (by rw [HSH.out, k1, k2]; rfl), HB0.out _⟩
            cases mk
            case true =>
              go_wp2
              go_ret
              exact ⟨ret_bool (by rw [HSH.out, k1, k2]; rfl), HB0.out _⟩
            cases qe1 : ((n2 : Int) == 0)
            case false =>
              go_wp2
              go_ret
              exact ⟨ret_bool (by rw [HSH.out, k1, k2, qe1]; rfl), HB0.out _⟩
            go_wp2
            go_ret
            exact ⟨ret_bool (by rw [HSH.out, k1, k2, qe1]; rfl), HB0.out _⟩
        cases k3 : (k == 3)
        case true =>
          cases gap
          case true =>
            go_wp2
            go_ret
            exact ⟨ret_bool (by rw [HSH.out, k1, k2, k3]; rfl), HB0.out _⟩
          cases qe1 : ((n1 : Int) == 0)
          case false =>
            go_wp2
            go_ret
            exact ⟨ret_bool (by rw [HSH.out, k1, k2, k3, qe1]; rfl), HB0.out _⟩
          cases qe2 : ((n2 : Int) == 0)
          case false =>
            go_wp2
            go_ret
            exact ⟨ret_bool (by rw [HSH.out, k1, k2, k3, qe1, qe2]; rfl), HB0.out _⟩
          go_wp2
          go_ret
          exact ⟨ret_bool (by rw [HSH.out, k1, k2, k3, qe1, qe2]; rfl), HB0.out _⟩
        cases k4 : (k == 4)
        case true =>
          cases gap
          case true =>
            go_wp2
            go_ret
            exact ⟨ret_bool (by rw [HSH.out, k1, k2, k3, k4]; rfl), HB0.out _⟩
          cases qe1 : ((n1 : Int) == 0)
          case false =>
            go_wp2
            go_ret
            exact ⟨ret_bool (by rw [HSH.out, k1, k2, k3, k4, qe1]; rfl), HB0.out _⟩
          cases qe2 : ((n2 : Int) == 0)
          case false =>
            go_wp2
            go_ret
            exact ⟨ret_bool (by rw [HSH.out, k1, k2, k3, k4, qe1, qe2]; rfl), HB0.out _⟩
          go_wp2
          go_ret
          exact ⟨ret_bool (by rw [HSH.out, k1, k2, k3, k4, qe1, qe2]; rfl), HB0.out _⟩
        cases k5 : (k == 5)
        case true =>
          cases gap
          case true =>
            go_wp2
            go_ret
            exact ⟨ret_bool (by rw [HSH.out, k1, k2, k3, k4, k5]; rfl), HB0.out _⟩
          cases mk
          case true =>
            go_wp2
            go_ret
            exact ⟨ret_bool (by rw [HSH.out, k1, k2, k3, k4, k5]; rfl), HB0.out _⟩
          cases qe1 : ((n1 : Int) == 0)
          case false =>
            go_wp2
            go_ret
            exact ⟨ret_bool (by rw [HSH.out, k1, k2, k3, k4, k5, qe1]; rfl), HB0.out _⟩
          cases qe2 : ((n2 : Int) == t - f)
          case false =>
            go_wp2
            go_ret
            exact ⟨ret_bool (by rw [HSH.out, k1, k2, k3, k4, k5, qe1, qe2]; rfl), HB0.out _⟩
          go_wp2
          go_ret
          exact ⟨ret_bool (by rw [HSH.out, k1, k2, k3, k4, k5, qe1, qe2]; rfl), HB0.out _⟩
        go_wp2
        go_ret
        exact ⟨ret_bool (by rw [HSH.out, k1, k2, k3, k4, k5]; rfl), HB0.out _⟩
end Go.Proofs.Ytkeeipfglmpgjaa
