/-
  When two steps are the same: stet/step.Same.
-/
import Derived.Test.YtkeeipfglmpgjaaSets
namespace Go.Proofs.Ytkeeipfglmpgjaa
set_option linter.unusedSimpArgs false
set_option linter.unusedVariables false
open Go.RowKit

set_option maxRecDepth 100000 in
set_option maxHeartbeats 4000000 in
theorem StepSame_any (x y : Stp) (B1 B2 : Nat) (w : World) (hx : x.Ok w B1) (hy : y.Ok w B2) (hB1 : B1 ≤ w.heap.size) (hB2 : B2 ≤ w.heap.size) (b1 : x.n1 ≤ 1000000) (b2 : y.n1 ≤ 1000000) (b3 : x.n2 ≤ 1000000) (b4 : y.n2 ≤ 1000000) :
    Calls Try.prog 90 #[.agg x.cells.toArray, .agg y.cells.toArray] w fun e w' => e = .returned (.bool (decide (x.v = y.v))) ∧ Below w.heap.size w w' := by
  obtain ⟨⟨k, f, t, gf, gt, ins, mark, vl, sl, sets⟩, a1, n1, c1, a2, n2, c2⟩ := x
  obtain ⟨⟨k', f', t', gf', gt', ins', mark', vl', sl', sets'⟩, a1', n1', c1', a2', n2', c2'⟩ := y
  have HX := Lib.hid hx
  have HY := Lib.hid hy
  clear hx hy
  simp only at b1 b2 b3 b4
  simp only [Stp.cells]
  have HB0 : Hid (∀ d1 d2, Below w.heap.size w ((w.alloc (.cells d1 77)).alloc (.cells d2 77))) := fun d1 d2 => ((Below.refl _ w).alloc (Nat.le_refl _) _).alloc (by simp) _
  by_cases h0 : k = k'
  case neg =>
    have hb : (k == k') = false := by simpa using h0
    have hd := st_ne (x := ⟨k, f, t, gf, gt, ins, mark, vl, sl, sets⟩) (y := ⟨k', f', t', gf', gt', ins', mark', vl', sl', sets'⟩) (fun e => h0 e.1)
    clear h0
    go_enter Try.func90, Try.ntmps90
    go_wp2_with fail
    go_ret
    exact ⟨ret_bool hd.symm, HB0.out _ _⟩
  subst h0
  have g0 : (k == k) = true := by simp
  by_cases h1 : f = f'
  case neg =>
    have hb : (f == f') = false := by simpa using h1
    have hd := st_ne (x := ⟨k, f, t, gf, gt, ins, mark, vl, sl, sets⟩) (y := ⟨k, f', t', gf', gt', ins', mark', vl', sl', sets'⟩) (fun e => h1 e.2.1)
    clear h1
    go_enter Try.func90, Try.ntmps90
    go_wp2_with fail
    go_ret
    exact ⟨ret_bool hd.symm, HB0.out _ _⟩
  subst h1
  have g1 : (f == f) = true := by simp
  by_cases h2 : t = t'
  case neg =>
    have hb : (t == t') = false := by simpa using h2
    have hd := st_ne (x := ⟨k, f, t, gf, gt, ins, mark, vl, sl, sets⟩) (y := ⟨k, f, t', gf', gt', ins', mark', vl', sl', sets'⟩) (fun e => h2 e.2.2.1)
    clear h2
    go_enter Try.func90, Try.ntmps90
    go_wp2_with fail
    go_ret
    exact ⟨ret_bool hd.symm, HB0.out _ _⟩
  subst h2
  have g2 : (t == t) = true := by simp
  by_cases h3 : gf = gf'
  case neg =>
    have hb : (gf == gf') = false := by simpa using h3
    have hd := st_ne (x := ⟨k, f, t, gf, gt, ins, mark, vl, sl, sets⟩) (y := ⟨k, f, t, gf', gt', ins', mark', vl', sl', sets'⟩) (fun e => h3 e.2.2.2.1)
    clear h3
    go_enter Try.func90, Try.ntmps90
    go_wp2_with fail
    go_ret
    exact ⟨ret_bool hd.symm, HB0.out _ _⟩
  subst h3
  have g3 : (gf == gf) = true := by simp
  by_cases h4 : gt = gt'
  case neg =>
    have hb : (gt == gt') = false := by simpa using h4
    have hd := st_ne (x := ⟨k, f, t, gf, gt, ins, mark, vl, sl, sets⟩) (y := ⟨k, f, t, gf, gt', ins', mark', vl', sl', sets'⟩) (fun e => h4 e.2.2.2.2.1)
    clear h4
    go_enter Try.func90, Try.ntmps90
    go_wp2_with fail
    go_ret
    exact ⟨ret_bool hd.symm, HB0.out _ _⟩
  subst h4
  have g4 : (gt == gt) = true := by simp
  by_cases h5 : ins = ins'
  case neg =>
    have hb : (ins == ins') = false := by simpa using h5
    have hd := st_ne (x := ⟨k, f, t, gf, gt, ins, mark, vl, sl, sets⟩) (y := ⟨k, f, t, gf, gt, ins', mark', vl', sl', sets'⟩) (fun e => h5 e.2.2.2.2.2.1)
    clear h5
    go_enter Try.func90, Try.ntmps90
    go_wp2_with fail
    go_ret
    exact ⟨ret_bool hd.symm, HB0.out _ _⟩
  subst h5
  have g5 : (ins == ins) = true := by simp
  by_cases h6 : mark = mark'
  case neg =>
    have hb : (mark == mark') = false := by simpa using h6
    have hd := st_ne (x := ⟨k, f, t, gf, gt, ins, mark, vl, sl, sets⟩) (y := ⟨k, f, t, gf, gt, ins, mark', vl', sl', sets'⟩) (fun e => h6 e.2.2.2.2.2.2.1)
    clear h6
    go_enter Try.func90, Try.ntmps90
    go_wp2_with fail
    go_ret
    exact ⟨ret_bool hd.symm, HB0.out _ _⟩
  subst h6
  have g6 : (mark == mark) = true := by simp
  by_cases h7 : vl = vl'
  case neg =>
    have hb : (vl == vl') = false := by simpa using h7
    have hd := st_ne (x := ⟨k, f, t, gf, gt, ins, mark, vl, sl, sets⟩) (y := ⟨k, f, t, gf, gt, ins, mark, vl', sl', sets'⟩) (fun e => h7 e.2.2.2.2.2.2.2.1)
    clear h7
    go_enter Try.func90, Try.ntmps90
    go_wp2_with fail
    go_ret
    exact ⟨ret_bool hd.symm, HB0.out _ _⟩
  subst h7
  have g7 : (vl == vl) = true := by simp
  have HT := Lib.hid (fun w' (hb : Below w.heap.size w w') => TokSame_any a1 a1' n1 n1' c1 c1' B1 B2 sl sl' w' HX.out.1 HY.out.1 (HX.out.2.2.1.below (hb.mono hB1)) (HY.out.2.2.1.below (hb.mono hB2)) (by omega) (by omega))
  have HS := Lib.hid (fun w' (hb : Below w.heap.size w w') => EqMks_any a2 a2' n2 n2' c2 c2' B1 B2 sets sets' w' HX.out.2.1 HY.out.2.1 (HX.out.2.2.2.1.below (hb.mono hB1)) (HY.out.2.2.2.1.below (hb.mono hB2)) (by omega) (by omega))
  by_cases hl : sl = sl'
  case neg =>
    have hd : decide (sl = sl') = false := by simpa using hl
    have hr : decide ((⟨k, f, t, gf, gt, ins, mark, vl, sl, sets⟩ : St) = ⟨k, f, t, gf, gt, ins, mark, vl, sl', sets'⟩) = false := st_ne (fun e => hl e.2.2.2.2.2.2.2.2.1)
    clear hl
    go_enter Try.func90, Try.ntmps90
    go_wp2_with (go_at_call 53; refine (HT.out _ (HB0.out _ _)).mono ?_; rintro e w1 ⟨rfl, q, hq⟩)
    go_ret
    exact ⟨ret_bool hr.symm, by subst hq; exact below_drewN (HB0.out _ _) _⟩
  have hd : decide (sl = sl') = true := by simpa using hl
  have hr : decide ((⟨k, f, t, gf, gt, ins, mark, vl, sl, sets⟩ : St) = ⟨k, f, t, gf, gt, ins, mark, vl, sl', sets'⟩) = decide (sets = sets') := by
    subst hl
    exact decide_eq_decide.2 ⟨fun e => by injection e, fun e => by subst e; rfl⟩
  clear hl
  go_enter Try.func90, Try.ntmps90
  go_wp2_with (first
    | (go_at_call 53; refine (HT.out _ (HB0.out _ _)).mono ?_; rintro e w1 ⟨rfl, q, rfl⟩)
    | (go_at_call 91; refine (HS.out _ (below_drewN (HB0.out _ _) _)).mono ?_; rintro e w2 ⟨rfl, q2, rfl⟩)
    | fail)
  go_ret
  exact ⟨ret_bool hr.symm, by first | exact below_drewN (HB0.out _ _) _ | exact below_drewN (below_drewN (HB0.out _ _) _) _⟩
end Go.Proofs.Ytkeeipfglmpgjaa
