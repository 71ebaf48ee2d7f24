/-
  Drain's closure under a range over it; the order in which things are told.
-/
import Derived.RangeFuncBox
import Derived.RangeFuncBound
import Derived.RangeFuncCalls
import Derived.RangeFuncLeaves
import Derived.Shelf.Abstract
import Derived.Shelf.RegionOpen
import Derived.WalkKit
import Derived.OwnWalkIn
import Derived.TacticsInMore
import Derived.LoopNIn
import Derived.LoopIn
import Derived.Maps.AppendAt
import Derived.Test.YtkeeipfglmpgjaaLawQueue
import Derived.Test.YtkeeipfglmpgjaaRange
namespace Go.Proofs.Ytkeeipfglmpgjaa
set_option linter.unusedSimpArgs false
set_option linter.unusedVariables false
open Go.RowKit Go.Shelf
attribute [local go_sem] Oper.semAt_some

/-- The place of the one that stands ahead of all. -/
def pick (xs : List One) : Nat := xs.findIdx fun x => xs.all fun y => !lessB y x
/-- What is told, one by one. -/
def drains : Nat → List One → List One
  | 0, _ => []
  | n + 1, xs => at_ xs (pick xs) :: drains n (xs.eraseIdx (pick xs))
def drain (xs : List One) : List One := drains xs.length xs
theorem drain_nil : drain [] = [] := rfl
theorem drains_length : ∀ n xs, (drains n xs).length = n
  | 0, _ => rfl
  | n + 1, xs => by simp [drains, drains_length n]
theorem drain_length (xs : List One) : (drain xs).length = xs.length := drains_length _ _
/-- A least one is where 'pick' says. -/
theorem pick_is {xs : List One} {came : Int} (h : Came xs came) {x : One} (hx : x ∈ xs) (hmin : ∀ y ∈ xs, lessB y x = false) : ∃ hp : pick xs < xs.length, x = xs[pick xs] := by
  have hp : pick xs < xs.length := List.findIdx_lt_length_of_exists ⟨x, hx, by rw [List.all_eq_true]; intro y hy; simp [hmin y hy]⟩
  refine ⟨hp, ?_⟩
  have h1 := List.findIdx_getElem (w := hp)
  have hm2 : ∀ y ∈ xs, lessB y xs[pick xs] = false := fun y hy => by
    have := List.all_eq_true.1 h1 y hy
    simp only [Bool.not_eq_true'] at this
    exact this
  obtain ⟨b, hb, rfl⟩ := List.mem_iff_getElem.1 hx
  have e1 := hmin xs[pick xs] (List.getElem_mem _)
  have e2 := hm2 xs[b] (List.getElem_mem _)
  rw [lessB_false] at e1 e2
  have hab : pick xs = b := by
    rcases Nat.lt_trichotomy (pick xs) b with h5 | h5 | h5
    · have := h.1 _ _ hp hb h5; omega
    · exact h5
    · have := h.1 _ _ hb hp h5; omega
  subst hab
  rfl
theorem drain_step {xs : List One} {came : Int} (h : Came xs came) {x : One} (hx : x ∈ xs) (hmin : ∀ y ∈ xs, lessB y x = false) :
    drain xs = x :: drain (xs.eraseIdx (pick xs)) ∧ (x :: xs.eraseIdx (pick xs)).Perm xs := by
  obtain ⟨hp, he⟩ := pick_is h hx hmin
  refine ⟨?_, by rw [he]; exact erase_perm hp⟩
  unfold drain
  obtain ⟨n, hn⟩ : ∃ n, xs.length = n + 1 := ⟨xs.length - 1, by omega⟩
  rw [List.length_eraseIdx, if_pos hp, hn]
  show at_ xs (pick xs) :: _ = _
  rw [at_get hp, ← he]
  rfl

/-- A queue and the box that holds its pointer. -/
def DS (W : World) (base Q bx : Nat) (xs : List One) (came : Int) : Prop := QH W base Q xs came ∧ Blk W bx 47 #[.pointer (some ⟨Q, 0, none⟩)]
/-- What a body keeps for a queue that is drained. -/
def KD (base Q bx : Nat) (W W' : World) : Prop := ∀ xs came, DS W base Q bx xs came → DS W' base Q bx xs came

/-- How long a queue's row is, off its block. -/
def qlen (w : World) (Q : Nat) : Nat := match w.cell? ⟨Q, 0, none⟩ with | some (.slice _ n _) => n | _ => 0
theorem qlen_is {W : World} {base Q : Nat} {xs : List One} {came : Int} (h : QH W base Q xs came) : qlen W Q = xs.length := by
  obtain ⟨A, c, e⟩ := h.cell
  unfold qlen; rw [e]

set_option maxRecDepth 100000 in
set_option maxHeartbeats 2000000 in
theorem Drain1_in (n : Nat) (hn : 1 ≤ n) (l base Q bx : Nat) (J : List (Int × Int) → World → Prop) (hJ : ∀ s A B, J s A → BF base A B → J s B)
    (W : World) (xs : List One) (came : Int) (hlen : xs.length ≤ 100000)
    (hY : ∀ pre (x : Int × Int) W1, J pre W1 → pre ++ [x] <+: (drain xs).map kt → YieldAt Fence.wide (n - 1) Try.prog l #[.int .i64 x.1, .int .i64 x.2] W1 fun e W' => e = .returned (.bool true) ∧ J (pre ++ [x]) W' ∧ KD base Q bx W1 W')
    (hD : DS W base Q bx xs came) (hC : Came xs came) (h0 : J [] W) :
    CallsIn Fence.wide n Try.prog 45 #[.func (.yield l) #[] #[], .pointer (some ⟨bx, 0, none⟩)] W fun e W' => (∃ v, e = .returned v) ∧ ∃ s, s = (drain xs).map kt ∧ J s W' := by
  refine callsIn_of_wp Try.func45 rfl trivial ?_ rfl
  simp only [Try.ntmps45, List.size_toArray, List.length_cons, List.length_nil, Nat.reduceAdd, Nat.reduceSub, Array.replicate_succ, Array.replicate_zero, List.push_toArray, List.append_toArray, List.nil_append, List.cons_append]
  gi_wp2
  gi_loopw [8] (fun v wr => ∃ pre ys, ∃ m : Nat, Hid (J pre wr) ∧ Hid (DS wr base Q bx ys came) ∧ Hid (Came ys came) ∧ Hid (List.length ys = m) ∧ m ≤ 100000 ∧ Hid (pre ++ (drain ys).map kt = (drain xs).map kt)) (fun _ wr => qlen wr Q)
  case atStart => exact ⟨[], xs, xs.length, h0, hD, hC, rfl, hlen, rfl⟩
  case round =>
    obtain ⟨pre, ys, m, HJ, HD, HC, HM, hm, HE⟩ := hrel
    have c1 : wr.cell? ⟨bx, 0, none⟩ = some (.pointer (some ⟨Q, 0, none⟩)) := by simpa using HD.out.2.cell 0
    by_cases h0 : m = 0
    · subst h0
      obtain rfl : ys = [] := List.eq_nil_of_length_eq_zero HM.out
      gi_wp2_with (refine ⟨trivial, ?_⟩; gi_at_call 19; refine (callsIn_wide.2 (QLen_any wr base Q [] came HD.out.1 0 rfl)).mono ?_; rintro e w1 ⟨rfl, rfl⟩)
      go_end0
      exact ⟨⟨_, rfl⟩, pre, by have := HE.out; simpa [drain_nil] using this, HJ.out⟩
    · have hmpos : 0 < m := by omega
      have hd : decide (0 < m) = true := by simpa using hmpos
      have hd2 : decide (0 < (m : Int)) = true := by simp; omega
      gi_wp2_with (refine ⟨trivial, ?_⟩; first
        | (gi_at_call 19; refine (callsIn_wide.2 (QLen_any wr base Q ys came HD.out.1 m HM.out)).mono ?_; rintro e w1 ⟨rfl, rfl⟩)
        | (gi_at_call 17; refine (callsIn_wide.2 (Take_some wr base Q ys came HD.out.1 (by rw [HM.out]; omega) (by rw [HM.out]; omega))).mono ?_; rintro e w2 ⟨x, rfl, hx, hmin, hq, hb⟩; obtain ⟨hs1, hs2⟩ := drain_step HC.out hx hmin; have HQ2 := Lib.hid (hq _ hs2); have HJ2 := Lib.hid (hJ _ _ _ HJ.out hb); have HB2 := Lib.hid (hb.blk HD.out.2 (by decide) (by decide)); have HS1 := Lib.hid hs1; have HS2 := Lib.hid hs2; clear hx hmin hq hb hs1 hs2; obtain ⟨fn, tmps, assign, body, hyv, hR⟩ := hY pre (x.key, x.thing) w2 HJ2.out (by rw [← HE.out, HS1.out, List.map_cons]; exact ⟨(drain (ys.eraseIdx (pick ys))).map kt, by simp [kt]⟩)))
      refine hR.mono ?_
      rintro e W3 ⟨rfl, hJ3, hK3⟩
      have HD3 := Lib.hid (hK3 _ _ ⟨HQ2.out, HB2.out⟩)
      have HJ3 := Lib.hid hJ3
      clear hJ3 hK3
      have hple : pick ys < ys.length := by
        have := HS2.out.length_eq
        simp only [List.length_cons, List.length_eraseIdx] at this
        split at this <;> omega
      have HPL := Lib.hid hple
      clear hple
      gi_wp2
      go_roundw
      case rel =>
        refine ⟨pre ++ [(x.key, x.thing)], ys.eraseIdx (pick ys), m - 1, HJ3, HD3, Lib.hid (HC.out.erase _), ?_, by omega, ?_⟩
        · show List.length _ = _
          rw [List.length_eraseIdx, if_pos HPL.out, HM.out]
        · have := HE.out
          rw [HS1.out, List.map_cons] at this
          show _ ++ _ = _
          rw [← this]
          simp [kt]
      case measure =>
        rw [qlen_is HD3.out.1, qlen_is HD.out.1, List.length_eraseIdx, if_pos HPL.out]
        have := HPL.out
        omega

theorem Drain_any (W : World) (Q : Nat) : Calls Try.prog 26 #[.pointer (some ⟨Q, 0, none⟩)] W fun e W' =>
    e = .returned (.func (.func 45) #[] #[.pointer (some ⟨W.heap.size, 0, none⟩)]) ∧ W' = W.alloc (.cells #[.pointer (some ⟨Q, 0, none⟩)] 47) := by
  go_enter Try.func26, Try.ntmps26
  go_wp2
  go_ret
  exact ⟨rfl, rfl⟩

set_option maxRecDepth 100000 in
set_option maxHeartbeats 2000000 in
/-- Drain's closure, called with a function of one's own, which may stop it. -/
theorem Drain1_fn (gf : FuncId) (lb : Array Value) (hgf : gf = 27) (hlb : lb.size = 4) (base Q bx : Nat) (J Jx : List (Int × Int) → World → Prop) (hJ : ∀ s A B, J s A → BF base A B → J s B)
    (W : World) (xs : List One) (came : Int) (hlen : xs.length ≤ 100000)
    (hY : ∀ pre (x : Int × Int) W1, J pre W1 → pre ++ [x] <+: (drain xs).map kt → Calls Try.prog gf (#[.int .i64 x.1, .int .i64 x.2] ++ lb) W1 fun e W' => (e = .returned (.bool true) ∧ J (pre ++ [x]) W' ∧ KD base Q bx W1 W') ∨ (e = .returned (.bool false) ∧ Jx (pre ++ [x]) W' ∧ KD base Q bx W1 W'))
    (hD : DS W base Q bx xs came) (hC : Came xs came) (h0 : J [] W) :
    Calls Try.prog 45 #[.func (.func gf) #[] lb, .pointer (some ⟨bx, 0, none⟩)] W fun e W' => (∃ v, e = .returned v) ∧ ∃ s ys, s ++ (drain ys).map kt = (drain xs).map kt ∧ DS W' base Q bx ys came ∧ ((ys = [] ∧ J s W') ∨ Jx s W') := by
  obtain ⟨l0, l1, l2, l3, rfl⟩ : ∃ l0 l1 l2 l3, lb = #[l0, l1, l2, l3] := by
    obtain ⟨lb⟩ := lb
    match lb, hlb with
    | [a, b, c, d], _ => exact ⟨a, b, c, d, rfl⟩
  subst hgf
  have HLN := Lib.hid hlen
  go_enter Try.func45, Try.ntmps45
  go_wp2
  go_loopw [8] (fun v wr => ∃ pre ys, ∃ m : Nat, Hid (J pre wr) ∧ Hid (DS wr base Q bx ys came) ∧ Hid (Came ys came) ∧ Hid (List.length ys = m) ∧ m ≤ 100000 ∧ Hid (pre ++ (drain ys).map kt = (drain xs).map kt)) (fun _ wr => qlen wr Q)
  case atStart => exact ⟨[], xs, xs.length, h0, hD, hC, rfl, hlen, rfl⟩
  case round =>
    obtain ⟨pre, ys, m, HJ, HD, HC, HM, hm, HE⟩ := hrel
    have c1 : wr.cell? ⟨bx, 0, none⟩ = some (.pointer (some ⟨Q, 0, none⟩)) := by simpa using HD.out.2.cell 0
    by_cases h0 : m = 0
    · subst h0
      obtain rfl : ys = [] := List.eq_nil_of_length_eq_zero HM.out
      go_wp2_with (go_at_call 19; refine (QLen_any wr base Q [] came HD.out.1 0 rfl).mono ?_; rintro e w1 ⟨rfl, rfl⟩)
      go_end0
      exact ⟨⟨_, rfl⟩, pre, [], HE.out, HD.out, .inl ⟨rfl, HJ.out⟩⟩
    · have hmpos : 0 < m := by omega
      have hd : decide (0 < m) = true := by simpa using hmpos
      have hd2 : decide (0 < (m : Int)) = true := by simp; omega
      go_wp2_with (first
        | (go_at_call 19; refine (QLen_any wr base Q ys came HD.out.1 m HM.out).mono ?_; rintro e w1 ⟨rfl, rfl⟩)
        | (go_at_call 17; refine (Take_some wr base Q ys came HD.out.1 (by rw [HM.out]; omega) (by rw [HM.out]; omega)).mono ?_; rintro e w2 ⟨x, rfl, hx, hmin, hq, hb⟩; obtain ⟨hs1, hs2⟩ := drain_step HC.out hx hmin; have HQ2 := Lib.hid (hq _ hs2); have HJ2 := Lib.hid (hJ _ _ _ HJ.out hb); have HB2 := Lib.hid (hb.blk HD.out.2 (by decide) (by decide)); have HS1 := Lib.hid hs1; have HS2 := Lib.hid hs2; clear hx hmin hq hb hs1 hs2)
        | fail)
      have hpre : pre ++ [(x.key, x.thing)] <+: (drain xs).map kt := by
        rw [← HE.out, HS1.out, List.map_cons]
        exact ⟨(drain (ys.eraseIdx (pick ys))).map kt, by simp [kt]⟩
      have hple : pick ys < ys.length := by
        have := HS2.out.length_eq
        simp only [List.length_cons, List.length_eraseIdx] at this
        split at this <;> omega
      have HPL := Lib.hid hple
      have HEQ : Hid ((pre ++ [(x.key, x.thing)]) ++ (drain (ys.eraseIdx (pick ys))).map kt = (drain xs).map kt) := by
        have := HE.out
        rw [HS1.out, List.map_cons] at this
        show _ ++ _ = _
        rw [← this]
        simp [kt]
      have hR := hY pre (x.key, x.thing) w2 HJ2.out hpre
      clear hple hpre
      refine hR.mono ?_
      rintro e W3 (⟨rfl, hJ3, hK3⟩ | ⟨rfl, hJ3, hK3⟩)
      · have HD3 := Lib.hid (hK3 _ _ ⟨HQ2.out, HB2.out⟩)
        have HJ3 := Lib.hid hJ3
        clear hJ3 hK3 hR
        go_wp2
        go_roundw
        case rel =>
          refine ⟨pre ++ [(x.key, x.thing)], ys.eraseIdx (pick ys), m - 1, HJ3, HD3, Lib.hid (HC.out.erase _), ?_, by omega, HEQ⟩
          show List.length _ = _
          rw [List.length_eraseIdx, if_pos HPL.out, HM.out]
        case measure =>
          rw [qlen_is HD3.out.1, qlen_is HD.out.1, List.length_eraseIdx, if_pos HPL.out]
          have := HPL.out
          omega
      · have HD3 := Lib.hid (hK3 _ _ ⟨HQ2.out, HB2.out⟩)
        have HJ3 := Lib.hid hJ3
        clear hJ3 hK3 hR
        go_wp2
        refine bodyPost_ret (results_none rfl _ _ _) rfl ?_
        exact ⟨⟨_, rfl⟩, _, _, HEQ.out, HD3.out, .inr HJ3.out⟩
end Go.Proofs.Ytkeeipfglmpgjaa
